/- Part 5 of 6 of a proof of this sentence: The Go function loop.example/g00825/laws.FnCommon returns true for every input, and each argument reads afterwards as it read before. No condition. -/
import Derived.Lib.Strings
import Derived.Laws.Bits64b
import Derived.Lib.Bytealg
import Derived.Test.YtmcldkobejhaeaaCFnCommon4
/- Written by this session's program (wip/gen): a plain function with the same answers as the Go function, and the proof that the Go code comes to them. Asked: that the plain function has an answer. -/
namespace Go.Proofs.Ytmcldkobejhaeaa.My
open Go.RowKit Go.Proofs.YtmcldkobejhaeaaW.PrintWords Go.Proofs.YtmcldkobejhaeaaW.PrintLast Go.Proofs.YtmcldkobejhaeaaW.PrintMore
attribute [local go_sem] max2_int min2_int max_two min_two max_three min_three max_four min_four
set_option linter.unusedVariables false
set_option linter.unusedSimpArgs false
mutual
def laws_FnCommon.j0 : Nat → List Int → List ByteArray → List ByteArray → List (List Int) → Bool → Bool → Option (Bool)
 | 0, _, _, _, _, _, _ => none
 | k + 1, x1, x5, x6, x7, x8, x119 => if x119 = true then (some false) else (laws_FnCommon.l0 k x1 x5 x6 x7 x8 x7 (x7.length : Int) 0)
def laws_FnCommon.l0 : Nat → List Int → List ByteArray → List ByteArray → List (List Int) → Bool → List (List Int) → Int → Int → Option (Bool)
 | 0, _, _, _, _, _, _, _, _ => none
 | k + 1, x1, x5, x6, x7, x8, x120, x121, x122 => if x122 < x121 then (if 0 ≤ x122 then (if x122 < (x120.length : Int) then (if ((rd_L5 x120 x122).length : Int) = 2 then (if 0 < ((rd_L5 x120 x122).length : Int) then (if (rd (rd_L5 x120 x122) 0) < 0 then (some false) else (if (rd (rd_L5 x120 x122) 0) ≥ (x5.length : Int) then (some false) else (if 1 < ((rd_L5 x120 x122).length : Int) then (if (rd (rd_L5 x120 x122) 1) < 0 then (some false) else (if (rd (rd_L5 x120 x122) 1) ≥ (x6.length : Int) then (some false) else (if 0 ≤ (rd (rd_L5 x120 x122) 0) then (if (rd (rd_L5 x120 x122) 0) < (x5.length : Int) then (if 0 ≤ (rd (rd_L5 x120 x122) 1) then (if (rd (rd_L5 x120 x122) 1) < (x6.length : Int) then (if (rdOf ByteArray.empty x5 (rd (rd_L5 x120 x122) 0)).toList = (rdOf ByteArray.empty x6 (rd (rd_L5 x120 x122) 1)).toList then (if x122 > 0 then (if 0 ≤ (wrap64 (x122 - 1)) then (if (wrap64 (x122 - 1)) < (x7.length : Int) then (if 0 < ((rd_L5 x7 (wrap64 (x122 - 1))).length : Int) then (if (rd (rd_L5 x7 (wrap64 (x122 - 1))) 0) ≥ (rd (rd_L5 x120 x122) 0) then (some false) else (if 1 < ((rd_L5 x7 (wrap64 (x122 - 1))).length : Int) then (if (rd (rd_L5 x7 (wrap64 (x122 - 1))) 1) ≥ (rd (rd_L5 x120 x122) 1) then (some false) else (laws_FnCommon.l0 k x1 x5 x6 x7 x8 x120 x121 (wrap64 (x122 + 1)))) else (none))) else (none)) else (none)) else (none)) else (laws_FnCommon.l0 k x1 x5 x6 x7 x8 x120 x121 (wrap64 (x122 + 1)))) else (some false)) else (none)) else (none)) else (none)) else (none)))) else (none)))) else (none)) else (some false)) else (none)) else (none)) else (if x8 = true then ((spec_DrawCommonLines.f k x1).bind fun bt519 => ((impl_FarApart.f k x5 x6).bind fun bt525 => ((impl_FarApart.f k x6 bt519.1).bind fun bt527 => ((impl_FarApart.f k x5 bt519.1).bind fun bt529 => (if bt527.2 = true then (if bt529.2 = true then (if bt525.2 = true then (laws_FnCommon.j2 k x1 x5 x6 (decide (bt529.1 > (wrap64 (bt525.1 + bt527.1))))) else (laws_FnCommon.j2 k x1 x5 x6 true)) else (laws_FnCommon.j2 k x1 x5 x6 false)) else (laws_FnCommon.j2 k x1 x5 x6 false)))))) else (laws_FnCommon.j3 k x1))
def laws_FnCommon.j3 : Nat → List Int → Option (Bool)
 | 0, _ => none
 | k + 1, x1 => (spec_DrawAlikeOf.f k x1).bind fun bt534 => ((impl_AlikeOf.f k bt534.1 bt534.2).bind fun bt540 => ((spec_AlikeOf.f k bt534.1 bt534.2).bind fun bt542 => ((impl_FarApart.f k bt534.1 bt534.2).bind fun bt544 => ((spec_FarApart.f k bt534.1 bt534.2).bind fun bt546 => (if (bt540.2 == bt542.2) = true then (if bt540.1 = bt542.1 then (if (bt544.2 == bt546.2) = true then (some (bt544.1 == bt546.1)) else (some false)) else (some false)) else (some false))))))
def laws_FnCommon.j2 : Nat → List Int → List ByteArray → List ByteArray → Bool → Option (Bool)
 | 0, _, _, _, _ => none
 | k + 1, x1, x5, x6, x242 => if x242 = true then (some false) else ((impl_AlikeOf.f k x5 x6).bind fun bt531 => (if bt531.2 = true then (if bt531.1 < 0 then (some false) else (if bt531.1 > 100 then (some false) else ((laws_sameTexts.f k x5 x6).bind fun t533 => (if ((bt531.1 == 100) != t533) = true then (some false) else (laws_FnCommon.j3 k x1))))) else (some false)))
end
def laws_FnCommon.f (k : Nat) (l0 : List Int) (l1 : List Int) : Option (Bool) := (laws_big.f l0 l1).bind fun t482 => (if t482 = true then (some true) else ((spec_DrawCommonLines.f k l0).bind fun bt483 => ((impl_CommonLines.f k bt483.1 bt483.2).bind fun bt489 => ((spec_CommonLines.f k bt483.1 bt483.2).bind fun bt493 => ((impl_Common.f k bt483.1 bt483.2).bind fun bt497 => ((spec_Common.f k bt483.1 bt483.2).bind fun bt499 => ((impl_Common.f k bt483.2 bt483.1).bind fun bt501 => (if (bt489.2 != bt493.2) = true then (laws_FnCommon.j0 k l1 bt483.1 bt483.2 bt489.1 bt489.2 true) else ((laws_sameLists.f k bt489.1 bt493.1).bind fun t503 => (if t503 = true then (if (bt497.2 != bt499.2) = true then (laws_FnCommon.j0 k l1 bt483.1 bt483.2 bt489.1 bt489.2 true) else (if bt497.1 = bt499.1 then (if (bt489.2 != bt497.2) = true then (laws_FnCommon.j0 k l1 bt483.1 bt483.2 bt489.1 bt489.2 true) else (if (bt501.2 != bt497.2) = true then (laws_FnCommon.j0 k l1 bt483.1 bt483.2 bt489.1 bt489.2 true) else (if bt501.1 = bt497.1 then (if bt489.2 = true then (laws_FnCommon.j0 k l1 bt483.1 bt483.2 bt489.1 bt489.2 ((bt489.1.length : Int) != bt497.1)) else (laws_FnCommon.j0 k l1 bt483.1 bt483.2 bt489.1 bt489.2 false)) else (laws_FnCommon.j0 k l1 bt483.1 bt483.2 bt489.1 bt489.2 true)))) else (laws_FnCommon.j0 k l1 bt483.1 bt483.2 bt489.1 bt489.2 true))) else (laws_FnCommon.j0 k l1 bt483.1 bt483.2 bt489.1 bt489.2 true)))))))))))
set_option maxHeartbeats 8000000 in
set_option maxRecDepth 100000 in
theorem laws_FnCommon.calls (k : Nat) (A0 : Option Addr) (c0 : Nat) (l0 : List Int) (A1 : Option Addr) (c1 : Nat) (l1 : List Int) (r : Bool) (w : World) (hr0 : Kd.C (Kd.int .u8) w A0 l0.length l0) (hc0 : l0.length ≤ c0) (hr1 : Kd.C (Kd.int .u8) w A1 l1.length l1) (hc1 : l1.length ≤ c1) (h : laws_FnCommon.f k l0 l1 = some r) (hr_ : r = true) :
  Calls Try.prog 4 #[.slice A0 l0.length c0, .slice A1 l1.length c1] w fun e w' => e = .returned (.bool r) ∧ Below w.heap.size w w' := by
 have HR_ := am hr_
 clear hr_
 have HR0 := am hr0
 have HC0 := am hc0
 clear hr0 hc0
 have HR1 := am hr1
 have HC1 := am hc1
 clear hr1 hc1
 have HB := am (Below.refl w.heap.size w)
 have H : ((laws_big.f l0 l1).bind fun t482 => (if t482 = true then (some true) else ((spec_DrawCommonLines.f k l0).bind fun bt483 => ((impl_CommonLines.f k bt483.1 bt483.2).bind fun bt489 => ((spec_CommonLines.f k bt483.1 bt483.2).bind fun bt493 => ((impl_Common.f k bt483.1 bt483.2).bind fun bt497 => ((spec_Common.f k bt483.1 bt483.2).bind fun bt499 => ((impl_Common.f k bt483.2 bt483.1).bind fun bt501 => (if (bt489.2 != bt493.2) = true then (laws_FnCommon.j0 k l1 bt483.1 bt483.2 bt489.1 bt489.2 true) else ((laws_sameLists.f k bt489.1 bt493.1).bind fun t503 => (if t503 = true then (if (bt497.2 != bt499.2) = true then (laws_FnCommon.j0 k l1 bt483.1 bt483.2 bt489.1 bt489.2 true) else (if bt497.1 = bt499.1 then (if (bt489.2 != bt497.2) = true then (laws_FnCommon.j0 k l1 bt483.1 bt483.2 bt489.1 bt489.2 true) else (if (bt501.2 != bt497.2) = true then (laws_FnCommon.j0 k l1 bt483.1 bt483.2 bt489.1 bt489.2 true) else (if bt501.1 = bt497.1 then (if bt489.2 = true then (laws_FnCommon.j0 k l1 bt483.1 bt483.2 bt489.1 bt489.2 ((bt489.1.length : Int) != bt497.1)) else (laws_FnCommon.j0 k l1 bt483.1 bt483.2 bt489.1 bt489.2 false)) else (laws_FnCommon.j0 k l1 bt483.1 bt483.2 bt489.1 bt489.2 true)))) else (laws_FnCommon.j0 k l1 bt483.1 bt483.2 bt489.1 bt489.2 true))) else (laws_FnCommon.j0 k l1 bt483.1 bt483.2 bt489.1 bt489.2 true)))))))))))) = some r := h
 clear h
 replace H := Option.bind_eq_some_iff.mp H
 obtain ⟨t482, A30, H⟩ := H
 replace H : (if t482 = true then (some true) else ((spec_DrawCommonLines.f k l0).bind fun bt483 => ((impl_CommonLines.f k bt483.1 bt483.2).bind fun bt489 => ((spec_CommonLines.f k bt483.1 bt483.2).bind fun bt493 => ((impl_Common.f k bt483.1 bt483.2).bind fun bt497 => ((spec_Common.f k bt483.1 bt483.2).bind fun bt499 => ((impl_Common.f k bt483.2 bt483.1).bind fun bt501 => (if (bt489.2 != bt493.2) = true then (laws_FnCommon.j0 k l1 bt483.1 bt483.2 bt489.1 bt489.2 true) else ((laws_sameLists.f k bt489.1 bt493.1).bind fun t503 => (if t503 = true then (if (bt497.2 != bt499.2) = true then (laws_FnCommon.j0 k l1 bt483.1 bt483.2 bt489.1 bt489.2 true) else (if bt497.1 = bt499.1 then (if (bt489.2 != bt497.2) = true then (laws_FnCommon.j0 k l1 bt483.1 bt483.2 bt489.1 bt489.2 true) else (if (bt501.2 != bt497.2) = true then (laws_FnCommon.j0 k l1 bt483.1 bt483.2 bt489.1 bt489.2 true) else (if bt501.1 = bt497.1 then (if bt489.2 = true then (laws_FnCommon.j0 k l1 bt483.1 bt483.2 bt489.1 bt489.2 ((bt489.1.length : Int) != bt497.1)) else (laws_FnCommon.j0 k l1 bt483.1 bt483.2 bt489.1 bt489.2 false)) else (laws_FnCommon.j0 k l1 bt483.1 bt483.2 bt489.1 bt489.2 true)))) else (laws_FnCommon.j0 k l1 bt483.1 bt483.2 bt489.1 bt489.2 true))) else (laws_FnCommon.j0 k l1 bt483.1 bt483.2 bt489.1 bt489.2 true))))))))))) = some r := H
 have A3 := am A30
 clear A30
 by_cases c4 : t482 = true
 ·as_aux_lemma =>
    subst c4
    have H1 : (some true) = some r := by rw [if_pos rfl] at H; exact H
    clear H
    have H := H1
    clear H1
    first
    | exact absurd (show false = true from (Option.some.inj H).trans HR_.out) Bool.false_ne_true
    | obtain rfl := Option.some.inj H
      go_enter Try.func4, Try.ntmps4
      go_wp2_with (first | (go_at_call 9; (with_reducible refine (laws_big.calls _ _ l0 _ _ l1 true _ ?side1 ?side2 ?side3 ?side4 A3.out).mono ?_); (case side1 => exact zq HR0.out); (case side2 => exact HC0.out); (case side3 => exact zq HR1.out); (case side4 => exact HC1.out); rintro e w' ⟨rfl, ⟨nd, rfl⟩⟩; (try exact zd)))
      repeat (go_quiet (first | (go_at_call 9; (with_reducible refine (laws_big.calls _ _ l0 _ _ l1 true _ ?side1 ?side2 ?side3 ?side4 A3.out).mono ?_); (case side1 => exact zq HR0.out); (case side2 => exact HC0.out); (case side3 => exact zq HR1.out); (case side4 => exact HC1.out); rintro e w' ⟨rfl, ⟨nd, rfl⟩⟩; (try exact zd))); try go_wp2_with (first | (go_at_call 9; (with_reducible refine (laws_big.calls _ _ l0 _ _ l1 true _ ?side1 ?side2 ?side3 ?side4 A3.out).mono ?_); (case side1 => exact zq HR0.out); (case side2 => exact HC0.out); (case side3 => exact zq HR1.out); (case side4 => exact HC1.out); rintro e w' ⟨rfl, ⟨nd, rfl⟩⟩; (try exact zd))))
      go_ret
      exact ⟨by first | rfl | (simp [errW_none, errW_some] <;> rfl) | (simp [*, errW_none, errW_some] <;> rfl), by repeat (first | (with_reducible first | exact HB.out | apply below_alloc | apply pw_below_drewN | apply below_drew1) | exact HB.out)⟩
 ·as_aux_lemma =>
    replace c4 := Bool.eq_false_iff.mpr c4
    subst c4
    have H1 : ((spec_DrawCommonLines.f k l0).bind fun bt483 => ((impl_CommonLines.f k bt483.1 bt483.2).bind fun bt489 => ((spec_CommonLines.f k bt483.1 bt483.2).bind fun bt493 => ((impl_Common.f k bt483.1 bt483.2).bind fun bt497 => ((spec_Common.f k bt483.1 bt483.2).bind fun bt499 => ((impl_Common.f k bt483.2 bt483.1).bind fun bt501 => (if (bt489.2 != bt493.2) = true then (laws_FnCommon.j0 k l1 bt483.1 bt483.2 bt489.1 bt489.2 true) else ((laws_sameLists.f k bt489.1 bt493.1).bind fun t503 => (if t503 = true then (if (bt497.2 != bt499.2) = true then (laws_FnCommon.j0 k l1 bt483.1 bt483.2 bt489.1 bt489.2 true) else (if bt497.1 = bt499.1 then (if (bt489.2 != bt497.2) = true then (laws_FnCommon.j0 k l1 bt483.1 bt483.2 bt489.1 bt489.2 true) else (if (bt501.2 != bt497.2) = true then (laws_FnCommon.j0 k l1 bt483.1 bt483.2 bt489.1 bt489.2 true) else (if bt501.1 = bt497.1 then (if bt489.2 = true then (laws_FnCommon.j0 k l1 bt483.1 bt483.2 bt489.1 bt489.2 ((bt489.1.length : Int) != bt497.1)) else (laws_FnCommon.j0 k l1 bt483.1 bt483.2 bt489.1 bt489.2 false)) else (laws_FnCommon.j0 k l1 bt483.1 bt483.2 bt489.1 bt489.2 true)))) else (laws_FnCommon.j0 k l1 bt483.1 bt483.2 bt489.1 bt489.2 true))) else (laws_FnCommon.j0 k l1 bt483.1 bt483.2 bt489.1 bt489.2 true)))))))))) = some r := by rw [if_neg (show ¬ (false = true) by decide)] at H; exact H
    clear H
    have H := H1
    clear H1
    replace H := Option.bind_eq_some_iff.mp H
    obtain ⟨⟨t483, t484⟩, A50, H⟩ := H
    replace H : ((impl_CommonLines.f k t483 t484).bind fun bt489 => ((spec_CommonLines.f k t483 t484).bind fun bt493 => ((impl_Common.f k t483 t484).bind fun bt497 => ((spec_Common.f k t483 t484).bind fun bt499 => ((impl_Common.f k t484 t483).bind fun bt501 => (if (bt489.2 != bt493.2) = true then (laws_FnCommon.j0 k l1 t483 t484 bt489.1 bt489.2 true) else ((laws_sameLists.f k bt489.1 bt493.1).bind fun t503 => (if t503 = true then (if (bt497.2 != bt499.2) = true then (laws_FnCommon.j0 k l1 t483 t484 bt489.1 bt489.2 true) else (if bt497.1 = bt499.1 then (if (bt489.2 != bt497.2) = true then (laws_FnCommon.j0 k l1 t483 t484 bt489.1 bt489.2 true) else (if (bt501.2 != bt497.2) = true then (laws_FnCommon.j0 k l1 t483 t484 bt489.1 bt489.2 true) else (if bt501.1 = bt497.1 then (if bt489.2 = true then (laws_FnCommon.j0 k l1 t483 t484 bt489.1 bt489.2 ((bt489.1.length : Int) != bt497.1)) else (laws_FnCommon.j0 k l1 t483 t484 bt489.1 bt489.2 false)) else (laws_FnCommon.j0 k l1 t483 t484 bt489.1 bt489.2 true)))) else (laws_FnCommon.j0 k l1 t483 t484 bt489.1 bt489.2 true))) else (laws_FnCommon.j0 k l1 t483 t484 bt489.1 bt489.2 true))))))))) = some r := H
    have A5 := am A50
    clear A50
    replace H := Option.bind_eq_some_iff.mp H
    obtain ⟨⟨t489, t490⟩, A60, H⟩ := H
    replace H : ((spec_CommonLines.f k t483 t484).bind fun bt493 => ((impl_Common.f k t483 t484).bind fun bt497 => ((spec_Common.f k t483 t484).bind fun bt499 => ((impl_Common.f k t484 t483).bind fun bt501 => (if (t490 != bt493.2) = true then (laws_FnCommon.j0 k l1 t483 t484 t489 t490 true) else ((laws_sameLists.f k t489 bt493.1).bind fun t503 => (if t503 = true then (if (bt497.2 != bt499.2) = true then (laws_FnCommon.j0 k l1 t483 t484 t489 t490 true) else (if bt497.1 = bt499.1 then (if (t490 != bt497.2) = true then (laws_FnCommon.j0 k l1 t483 t484 t489 t490 true) else (if (bt501.2 != bt497.2) = true then (laws_FnCommon.j0 k l1 t483 t484 t489 t490 true) else (if bt501.1 = bt497.1 then (if t490 = true then (laws_FnCommon.j0 k l1 t483 t484 t489 t490 ((t489.length : Int) != bt497.1)) else (laws_FnCommon.j0 k l1 t483 t484 t489 t490 false)) else (laws_FnCommon.j0 k l1 t483 t484 t489 t490 true)))) else (laws_FnCommon.j0 k l1 t483 t484 t489 t490 true))) else (laws_FnCommon.j0 k l1 t483 t484 t489 t490 true)))))))) = some r := H
    have A6 := am A60
    clear A60
    replace H := Option.bind_eq_some_iff.mp H
    obtain ⟨⟨t493, t494⟩, A70, H⟩ := H
    replace H : ((impl_Common.f k t483 t484).bind fun bt497 => ((spec_Common.f k t483 t484).bind fun bt499 => ((impl_Common.f k t484 t483).bind fun bt501 => (if (t490 != t494) = true then (laws_FnCommon.j0 k l1 t483 t484 t489 t490 true) else ((laws_sameLists.f k t489 t493).bind fun t503 => (if t503 = true then (if (bt497.2 != bt499.2) = true then (laws_FnCommon.j0 k l1 t483 t484 t489 t490 true) else (if bt497.1 = bt499.1 then (if (t490 != bt497.2) = true then (laws_FnCommon.j0 k l1 t483 t484 t489 t490 true) else (if (bt501.2 != bt497.2) = true then (laws_FnCommon.j0 k l1 t483 t484 t489 t490 true) else (if bt501.1 = bt497.1 then (if t490 = true then (laws_FnCommon.j0 k l1 t483 t484 t489 t490 ((t489.length : Int) != bt497.1)) else (laws_FnCommon.j0 k l1 t483 t484 t489 t490 false)) else (laws_FnCommon.j0 k l1 t483 t484 t489 t490 true)))) else (laws_FnCommon.j0 k l1 t483 t484 t489 t490 true))) else (laws_FnCommon.j0 k l1 t483 t484 t489 t490 true))))))) = some r := H
    have A7 := am A70
    clear A70
    replace H := Option.bind_eq_some_iff.mp H
    obtain ⟨⟨t497, t498⟩, A80, H⟩ := H
    replace H : ((spec_Common.f k t483 t484).bind fun bt499 => ((impl_Common.f k t484 t483).bind fun bt501 => (if (t490 != t494) = true then (laws_FnCommon.j0 k l1 t483 t484 t489 t490 true) else ((laws_sameLists.f k t489 t493).bind fun t503 => (if t503 = true then (if (t498 != bt499.2) = true then (laws_FnCommon.j0 k l1 t483 t484 t489 t490 true) else (if t497 = bt499.1 then (if (t490 != t498) = true then (laws_FnCommon.j0 k l1 t483 t484 t489 t490 true) else (if (bt501.2 != t498) = true then (laws_FnCommon.j0 k l1 t483 t484 t489 t490 true) else (if bt501.1 = t497 then (if t490 = true then (laws_FnCommon.j0 k l1 t483 t484 t489 t490 ((t489.length : Int) != t497)) else (laws_FnCommon.j0 k l1 t483 t484 t489 t490 false)) else (laws_FnCommon.j0 k l1 t483 t484 t489 t490 true)))) else (laws_FnCommon.j0 k l1 t483 t484 t489 t490 true))) else (laws_FnCommon.j0 k l1 t483 t484 t489 t490 true)))))) = some r := H
    have A8 := am A80
    clear A80
    replace H := Option.bind_eq_some_iff.mp H
    obtain ⟨⟨t499, t500⟩, A90, H⟩ := H
    replace H : ((impl_Common.f k t484 t483).bind fun bt501 => (if (t490 != t494) = true then (laws_FnCommon.j0 k l1 t483 t484 t489 t490 true) else ((laws_sameLists.f k t489 t493).bind fun t503 => (if t503 = true then (if (t498 != t500) = true then (laws_FnCommon.j0 k l1 t483 t484 t489 t490 true) else (if t497 = t499 then (if (t490 != t498) = true then (laws_FnCommon.j0 k l1 t483 t484 t489 t490 true) else (if (bt501.2 != t498) = true then (laws_FnCommon.j0 k l1 t483 t484 t489 t490 true) else (if bt501.1 = t497 then (if t490 = true then (laws_FnCommon.j0 k l1 t483 t484 t489 t490 ((t489.length : Int) != t497)) else (laws_FnCommon.j0 k l1 t483 t484 t489 t490 false)) else (laws_FnCommon.j0 k l1 t483 t484 t489 t490 true)))) else (laws_FnCommon.j0 k l1 t483 t484 t489 t490 true))) else (laws_FnCommon.j0 k l1 t483 t484 t489 t490 true))))) = some r := H
    have A9 := am A90
    clear A90
    replace H := Option.bind_eq_some_iff.mp H
    obtain ⟨⟨t501, t502⟩, A100, H⟩ := H
    replace H : (if (t490 != t494) = true then (laws_FnCommon.j0 k l1 t483 t484 t489 t490 true) else ((laws_sameLists.f k t489 t493).bind fun t503 => (if t503 = true then (if (t498 != t500) = true then (laws_FnCommon.j0 k l1 t483 t484 t489 t490 true) else (if t497 = t499 then (if (t490 != t498) = true then (laws_FnCommon.j0 k l1 t483 t484 t489 t490 true) else (if (t502 != t498) = true then (laws_FnCommon.j0 k l1 t483 t484 t489 t490 true) else (if t501 = t497 then (if t490 = true then (laws_FnCommon.j0 k l1 t483 t484 t489 t490 ((t489.length : Int) != t497)) else (laws_FnCommon.j0 k l1 t483 t484 t489 t490 false)) else (laws_FnCommon.j0 k l1 t483 t484 t489 t490 true)))) else (laws_FnCommon.j0 k l1 t483 t484 t489 t490 true))) else (laws_FnCommon.j0 k l1 t483 t484 t489 t490 true)))) = some r := H
    have A10 := am A100
    clear A100
    have HC11 := am H
    clear H
    go_enter Try.func4, Try.ntmps4
    go_upto_region 9 with (first | (go_at_call 9; (with_reducible refine (laws_big.calls _ _ l0 _ _ l1 false _ ?side1 ?side2 ?side3 ?side4 A3.out).mono ?_); (case side1 => exact zq HR0.out); (case side2 => exact HC0.out); (case side3 => exact zq HR1.out); (case side4 => exact HC1.out); rintro e w' ⟨rfl, ⟨nd, rfl⟩⟩; (try exact zd)) | (go_at_call 17; (with_reducible refine (spec_DrawCommonLines.calls k _ _ l0 t483 t484 _ ?side1 ?side2 A5.out).mono ?_); (case side1 => exact zq HR0.out); (case side2 => exact HC0.out); rintro e w12 ⟨v485, v487, rfl, ho0, ho1, hb⟩; have n0_ := am (Kd.R_lower ho0 (below_size zb)); have n1_ := am (Kd.R_lower ho1 (below_size zb)); have n2_ := am (below_step zb hb); clear HB; have HO486 := n0_; have HO488 := n1_; have HB := n2_; clear n0_ n1_ n2_; (try clear hb); (try clear ho0); (try clear ho1); obtain ⟨Ao13, co13, eo13⟩ := Kd.R_slice HO486.out; subst eo13; obtain ⟨Ao14, co14, eo14⟩ := Kd.R_slice HO488.out; subst eo14) | (go_at_call 18; (with_reducible refine (impl_CommonLines.calls k _ _ t483 _ _ t484 t489 t490 _ ?side1 ?side2 ?side3 ?side4 A6.out).mono ?_); (case side1 => repeat (first | exact (Kd.R_reads' HO486.out).2.2 | (with_reducible refine Kd.C_alloc ?_ _) | (with_reducible refine Kd.C_drewN ?_ _) | (with_reducible refine Kd.C_drew ?_))); (case side2 => exact (Kd.R_reads' HO486.out).2.1); (case side3 => repeat (first | exact (Kd.R_reads' HO488.out).2.2 | (with_reducible refine Kd.C_alloc ?_ _) | (with_reducible refine Kd.C_drewN ?_ _) | (with_reducible refine Kd.C_drew ?_))); (case side4 => exact (Kd.R_reads' HO488.out).2.1); rintro e w15 ⟨v491, rfl, ho0, hb⟩; have n0_ := am (Kd.R_below (zr HO486.out) hb); have n1_ := am (Kd.R_below (zr HO488.out) hb); have n2_ := am (Kd.S_lower ho0 (below_size zb)); have n3_ := am (below_step zb hb); clear HO486; clear HO488; clear HB; have HO486 := n0_; have HO488 := n1_; have HO492 := n2_; have HB := n3_; clear n0_ n1_ n2_ n3_; (try clear hb); (try clear ho0)) | (go_at_call 19; (with_reducible refine (spec_CommonLines.calls k _ _ t483 _ _ t484 t493 t494 _ ?side1 ?side2 ?side3 ?side4 A7.out).mono ?_); (case side1 => repeat (first | exact (Kd.R_reads' HO486.out).2.2 | (with_reducible refine Kd.C_alloc ?_ _) | (with_reducible refine Kd.C_drewN ?_ _) | (with_reducible refine Kd.C_drew ?_))); (case side2 => exact (Kd.R_reads' HO486.out).2.1); (case side3 => repeat (first | exact (Kd.R_reads' HO488.out).2.2 | (with_reducible refine Kd.C_alloc ?_ _) | (with_reducible refine Kd.C_drewN ?_ _) | (with_reducible refine Kd.C_drew ?_))); (case side4 => exact (Kd.R_reads' HO488.out).2.1); rintro e w16 ⟨v495, rfl, ho0, hb⟩; have n0_ := am (Kd.R_below (zr HO486.out) hb); have n1_ := am (Kd.R_below (zr HO488.out) hb); have n2_ := am (Kd.S_elder' (zs HO492.out) (Kd.S_base ho0) hb); have n3_ := am (Kd.S_lower (Kd.S_new' ho0 (Kd.S_lt (zs HO492.out))) (below_size zb)); have n4_ := am (below_step zb hb); clear HO486; clear HO488; clear HO492; clear HB; have HO486 := n0_; have HO488 := n1_; have HO492 := n2_; have HO496 := n3_; have HB := n4_; clear n0_ n1_ n2_ n3_ n4_; (try clear hb); (try clear ho0)) | (go_at_call 20; (with_reducible refine (impl_Common.calls k _ _ t483 _ _ t484 t497 t498 _ ?side1 ?side2 ?side3 ?side4 A8.out).mono ?_); (case side1 => repeat (first | exact (Kd.R_reads' HO486.out).2.2 | (with_reducible refine Kd.C_alloc ?_ _) | (with_reducible refine Kd.C_drewN ?_ _) | (with_reducible refine Kd.C_drew ?_))); (case side2 => exact (Kd.R_reads' HO486.out).2.1); (case side3 => repeat (first | exact (Kd.R_reads' HO488.out).2.2 | (with_reducible refine Kd.C_alloc ?_ _) | (with_reducible refine Kd.C_drewN ?_ _) | (with_reducible refine Kd.C_drew ?_))); (case side4 => exact (Kd.R_reads' HO488.out).2.1); rintro e w17 ⟨rfl, hb⟩; have n0_ := am (Kd.R_below (zr HO486.out) hb); have n1_ := am (Kd.R_below (zr HO488.out) hb); have n2_ := am (Kd.S_below (zs HO492.out) hb); have n3_ := am (Kd.S_below (zs HO496.out) hb); have n4_ := am (below_step zb hb); clear HO486; clear HO488; clear HO492; clear HO496; clear HB; have HO486 := n0_; have HO488 := n1_; have HO492 := n2_; have HO496 := n3_; have HB := n4_; clear n0_ n1_ n2_ n3_ n4_; (try clear hb)) | (go_at_call 21; (with_reducible refine (spec_Common.calls k _ _ t483 _ _ t484 t499 t500 _ ?side1 ?side2 ?side3 ?side4 A9.out).mono ?_); (case side1 => repeat (first | exact (Kd.R_reads' HO486.out).2.2 | (with_reducible refine Kd.C_alloc ?_ _) | (with_reducible refine Kd.C_drewN ?_ _) | (with_reducible refine Kd.C_drew ?_))); (case side2 => exact (Kd.R_reads' HO486.out).2.1); (case side3 => repeat (first | exact (Kd.R_reads' HO488.out).2.2 | (with_reducible refine Kd.C_alloc ?_ _) | (with_reducible refine Kd.C_drewN ?_ _) | (with_reducible refine Kd.C_drew ?_))); (case side4 => exact (Kd.R_reads' HO488.out).2.1); rintro e w18 ⟨rfl, hb⟩; have n0_ := am (Kd.R_below (zr HO486.out) hb); have n1_ := am (Kd.R_below (zr HO488.out) hb); have n2_ := am (Kd.S_below (zs HO492.out) hb); have n3_ := am (Kd.S_below (zs HO496.out) hb); have n4_ := am (below_step zb hb); clear HO486; clear HO488; clear HO492; clear HO496; clear HB; have HO486 := n0_; have HO488 := n1_; have HO492 := n2_; have HO496 := n3_; have HB := n4_; clear n0_ n1_ n2_ n3_ n4_; (try clear hb)) | (go_at_call 20; (with_reducible refine (impl_Common.calls k _ _ t484 _ _ t483 t501 t502 _ ?side1 ?side2 ?side3 ?side4 A10.out).mono ?_); (case side1 => repeat (first | exact (Kd.R_reads' HO488.out).2.2 | (with_reducible refine Kd.C_alloc ?_ _) | (with_reducible refine Kd.C_drewN ?_ _) | (with_reducible refine Kd.C_drew ?_))); (case side2 => exact (Kd.R_reads' HO488.out).2.1); (case side3 => repeat (first | exact (Kd.R_reads' HO486.out).2.2 | (with_reducible refine Kd.C_alloc ?_ _) | (with_reducible refine Kd.C_drewN ?_ _) | (with_reducible refine Kd.C_drew ?_))); (case side4 => exact (Kd.R_reads' HO486.out).2.1); rintro e w19 ⟨rfl, hb⟩; have n0_ := am (Kd.R_below (zr HO486.out) hb); have n1_ := am (Kd.R_below (zr HO488.out) hb); have n2_ := am (Kd.S_below (zs HO492.out) hb); have n3_ := am (Kd.S_below (zs HO496.out) hb); have n4_ := am (below_step zb hb); clear HO486; clear HO488; clear HO492; clear HO496; clear HB; have HO486 := n0_; have HO488 := n1_; have HO492 := n2_; have HO496 := n3_; have HB := n4_; clear n0_ n1_ n2_ n3_ n4_; (try clear hb)))
    repeat (go_quiet (first | (go_at_call 9; (with_reducible refine (laws_big.calls _ _ l0 _ _ l1 false _ ?side1 ?side2 ?side3 ?side4 A3.out).mono ?_); (case side1 => exact zq HR0.out); (case side2 => exact HC0.out); (case side3 => exact zq HR1.out); (case side4 => exact HC1.out); rintro e w' ⟨rfl, ⟨nd, rfl⟩⟩; (try exact zd)) | (go_at_call 17; (with_reducible refine (spec_DrawCommonLines.calls k _ _ l0 t483 t484 _ ?side1 ?side2 A5.out).mono ?_); (case side1 => exact zq HR0.out); (case side2 => exact HC0.out); rintro e w12 ⟨v485, v487, rfl, ho0, ho1, hb⟩; have n0_ := am (Kd.R_lower ho0 (below_size zb)); have n1_ := am (Kd.R_lower ho1 (below_size zb)); have n2_ := am (below_step zb hb); clear HB; have HO486 := n0_; have HO488 := n1_; have HB := n2_; clear n0_ n1_ n2_; (try clear hb); (try clear ho0); (try clear ho1); obtain ⟨Ao13, co13, eo13⟩ := Kd.R_slice HO486.out; subst eo13; obtain ⟨Ao14, co14, eo14⟩ := Kd.R_slice HO488.out; subst eo14) | (go_at_call 18; (with_reducible refine (impl_CommonLines.calls k _ _ t483 _ _ t484 t489 t490 _ ?side1 ?side2 ?side3 ?side4 A6.out).mono ?_); (case side1 => repeat (first | exact (Kd.R_reads' HO486.out).2.2 | (with_reducible refine Kd.C_alloc ?_ _) | (with_reducible refine Kd.C_drewN ?_ _) | (with_reducible refine Kd.C_drew ?_))); (case side2 => exact (Kd.R_reads' HO486.out).2.1); (case side3 => repeat (first | exact (Kd.R_reads' HO488.out).2.2 | (with_reducible refine Kd.C_alloc ?_ _) | (with_reducible refine Kd.C_drewN ?_ _) | (with_reducible refine Kd.C_drew ?_))); (case side4 => exact (Kd.R_reads' HO488.out).2.1); rintro e w15 ⟨v491, rfl, ho0, hb⟩; have n0_ := am (Kd.R_below (zr HO486.out) hb); have n1_ := am (Kd.R_below (zr HO488.out) hb); have n2_ := am (Kd.S_lower ho0 (below_size zb)); have n3_ := am (below_step zb hb); clear HO486; clear HO488; clear HB; have HO486 := n0_; have HO488 := n1_; have HO492 := n2_; have HB := n3_; clear n0_ n1_ n2_ n3_; (try clear hb); (try clear ho0)) | (go_at_call 19; (with_reducible refine (spec_CommonLines.calls k _ _ t483 _ _ t484 t493 t494 _ ?side1 ?side2 ?side3 ?side4 A7.out).mono ?_); (case side1 => repeat (first | exact (Kd.R_reads' HO486.out).2.2 | (with_reducible refine Kd.C_alloc ?_ _) | (with_reducible refine Kd.C_drewN ?_ _) | (with_reducible refine Kd.C_drew ?_))); (case side2 => exact (Kd.R_reads' HO486.out).2.1); (case side3 => repeat (first | exact (Kd.R_reads' HO488.out).2.2 | (with_reducible refine Kd.C_alloc ?_ _) | (with_reducible refine Kd.C_drewN ?_ _) | (with_reducible refine Kd.C_drew ?_))); (case side4 => exact (Kd.R_reads' HO488.out).2.1); rintro e w16 ⟨v495, rfl, ho0, hb⟩; have n0_ := am (Kd.R_below (zr HO486.out) hb); have n1_ := am (Kd.R_below (zr HO488.out) hb); have n2_ := am (Kd.S_elder' (zs HO492.out) (Kd.S_base ho0) hb); have n3_ := am (Kd.S_lower (Kd.S_new' ho0 (Kd.S_lt (zs HO492.out))) (below_size zb)); have n4_ := am (below_step zb hb); clear HO486; clear HO488; clear HO492; clear HB; have HO486 := n0_; have HO488 := n1_; have HO492 := n2_; have HO496 := n3_; have HB := n4_; clear n0_ n1_ n2_ n3_ n4_; (try clear hb); (try clear ho0)) | (go_at_call 20; (with_reducible refine (impl_Common.calls k _ _ t483 _ _ t484 t497 t498 _ ?side1 ?side2 ?side3 ?side4 A8.out).mono ?_); (case side1 => repeat (first | exact (Kd.R_reads' HO486.out).2.2 | (with_reducible refine Kd.C_alloc ?_ _) | (with_reducible refine Kd.C_drewN ?_ _) | (with_reducible refine Kd.C_drew ?_))); (case side2 => exact (Kd.R_reads' HO486.out).2.1); (case side3 => repeat (first | exact (Kd.R_reads' HO488.out).2.2 | (with_reducible refine Kd.C_alloc ?_ _) | (with_reducible refine Kd.C_drewN ?_ _) | (with_reducible refine Kd.C_drew ?_))); (case side4 => exact (Kd.R_reads' HO488.out).2.1); rintro e w17 ⟨rfl, hb⟩; have n0_ := am (Kd.R_below (zr HO486.out) hb); have n1_ := am (Kd.R_below (zr HO488.out) hb); have n2_ := am (Kd.S_below (zs HO492.out) hb); have n3_ := am (Kd.S_below (zs HO496.out) hb); have n4_ := am (below_step zb hb); clear HO486; clear HO488; clear HO492; clear HO496; clear HB; have HO486 := n0_; have HO488 := n1_; have HO492 := n2_; have HO496 := n3_; have HB := n4_; clear n0_ n1_ n2_ n3_ n4_; (try clear hb)) | (go_at_call 21; (with_reducible refine (spec_Common.calls k _ _ t483 _ _ t484 t499 t500 _ ?side1 ?side2 ?side3 ?side4 A9.out).mono ?_); (case side1 => repeat (first | exact (Kd.R_reads' HO486.out).2.2 | (with_reducible refine Kd.C_alloc ?_ _) | (with_reducible refine Kd.C_drewN ?_ _) | (with_reducible refine Kd.C_drew ?_))); (case side2 => exact (Kd.R_reads' HO486.out).2.1); (case side3 => repeat (first | exact (Kd.R_reads' HO488.out).2.2 | (with_reducible refine Kd.C_alloc ?_ _) | (with_reducible refine Kd.C_drewN ?_ _) | (with_reducible refine Kd.C_drew ?_))); (case side4 => exact (Kd.R_reads' HO488.out).2.1); rintro e w18 ⟨rfl, hb⟩; have n0_ := am (Kd.R_below (zr HO486.out) hb); have n1_ := am (Kd.R_below (zr HO488.out) hb); have n2_ := am (Kd.S_below (zs HO492.out) hb); have n3_ := am (Kd.S_below (zs HO496.out) hb); have n4_ := am (below_step zb hb); clear HO486; clear HO488; clear HO492; clear HO496; clear HB; have HO486 := n0_; have HO488 := n1_; have HO492 := n2_; have HO496 := n3_; have HB := n4_; clear n0_ n1_ n2_ n3_ n4_; (try clear hb)) | (go_at_call 20; (with_reducible refine (impl_Common.calls k _ _ t484 _ _ t483 t501 t502 _ ?side1 ?side2 ?side3 ?side4 A10.out).mono ?_); (case side1 => repeat (first | exact (Kd.R_reads' HO488.out).2.2 | (with_reducible refine Kd.C_alloc ?_ _) | (with_reducible refine Kd.C_drewN ?_ _) | (with_reducible refine Kd.C_drew ?_))); (case side2 => exact (Kd.R_reads' HO488.out).2.1); (case side3 => repeat (first | exact (Kd.R_reads' HO486.out).2.2 | (with_reducible refine Kd.C_alloc ?_ _) | (with_reducible refine Kd.C_drewN ?_ _) | (with_reducible refine Kd.C_drew ?_))); (case side4 => exact (Kd.R_reads' HO486.out).2.1); rintro e w19 ⟨rfl, hb⟩; have n0_ := am (Kd.R_below (zr HO486.out) hb); have n1_ := am (Kd.R_below (zr HO488.out) hb); have n2_ := am (Kd.S_below (zs HO492.out) hb); have n3_ := am (Kd.S_below (zs HO496.out) hb); have n4_ := am (below_step zb hb); clear HO486; clear HO488; clear HO492; clear HO496; clear HB; have HO486 := n0_; have HO488 := n1_; have HO492 := n2_; have HO496 := n3_; have HB := n4_; clear n0_ n1_ n2_ n3_ n4_; (try clear hb))); go_upto_region 9 with (first | (go_at_call 9; (with_reducible refine (laws_big.calls _ _ l0 _ _ l1 false _ ?side1 ?side2 ?side3 ?side4 A3.out).mono ?_); (case side1 => exact zq HR0.out); (case side2 => exact HC0.out); (case side3 => exact zq HR1.out); (case side4 => exact HC1.out); rintro e w' ⟨rfl, ⟨nd, rfl⟩⟩; (try exact zd)) | (go_at_call 17; (with_reducible refine (spec_DrawCommonLines.calls k _ _ l0 t483 t484 _ ?side1 ?side2 A5.out).mono ?_); (case side1 => exact zq HR0.out); (case side2 => exact HC0.out); rintro e w12 ⟨v485, v487, rfl, ho0, ho1, hb⟩; have n0_ := am (Kd.R_lower ho0 (below_size zb)); have n1_ := am (Kd.R_lower ho1 (below_size zb)); have n2_ := am (below_step zb hb); clear HB; have HO486 := n0_; have HO488 := n1_; have HB := n2_; clear n0_ n1_ n2_; (try clear hb); (try clear ho0); (try clear ho1); obtain ⟨Ao13, co13, eo13⟩ := Kd.R_slice HO486.out; subst eo13; obtain ⟨Ao14, co14, eo14⟩ := Kd.R_slice HO488.out; subst eo14) | (go_at_call 18; (with_reducible refine (impl_CommonLines.calls k _ _ t483 _ _ t484 t489 t490 _ ?side1 ?side2 ?side3 ?side4 A6.out).mono ?_); (case side1 => repeat (first | exact (Kd.R_reads' HO486.out).2.2 | (with_reducible refine Kd.C_alloc ?_ _) | (with_reducible refine Kd.C_drewN ?_ _) | (with_reducible refine Kd.C_drew ?_))); (case side2 => exact (Kd.R_reads' HO486.out).2.1); (case side3 => repeat (first | exact (Kd.R_reads' HO488.out).2.2 | (with_reducible refine Kd.C_alloc ?_ _) | (with_reducible refine Kd.C_drewN ?_ _) | (with_reducible refine Kd.C_drew ?_))); (case side4 => exact (Kd.R_reads' HO488.out).2.1); rintro e w15 ⟨v491, rfl, ho0, hb⟩; have n0_ := am (Kd.R_below (zr HO486.out) hb); have n1_ := am (Kd.R_below (zr HO488.out) hb); have n2_ := am (Kd.S_lower ho0 (below_size zb)); have n3_ := am (below_step zb hb); clear HO486; clear HO488; clear HB; have HO486 := n0_; have HO488 := n1_; have HO492 := n2_; have HB := n3_; clear n0_ n1_ n2_ n3_; (try clear hb); (try clear ho0)) | (go_at_call 19; (with_reducible refine (spec_CommonLines.calls k _ _ t483 _ _ t484 t493 t494 _ ?side1 ?side2 ?side3 ?side4 A7.out).mono ?_); (case side1 => repeat (first | exact (Kd.R_reads' HO486.out).2.2 | (with_reducible refine Kd.C_alloc ?_ _) | (with_reducible refine Kd.C_drewN ?_ _) | (with_reducible refine Kd.C_drew ?_))); (case side2 => exact (Kd.R_reads' HO486.out).2.1); (case side3 => repeat (first | exact (Kd.R_reads' HO488.out).2.2 | (with_reducible refine Kd.C_alloc ?_ _) | (with_reducible refine Kd.C_drewN ?_ _) | (with_reducible refine Kd.C_drew ?_))); (case side4 => exact (Kd.R_reads' HO488.out).2.1); rintro e w16 ⟨v495, rfl, ho0, hb⟩; have n0_ := am (Kd.R_below (zr HO486.out) hb); have n1_ := am (Kd.R_below (zr HO488.out) hb); have n2_ := am (Kd.S_elder' (zs HO492.out) (Kd.S_base ho0) hb); have n3_ := am (Kd.S_lower (Kd.S_new' ho0 (Kd.S_lt (zs HO492.out))) (below_size zb)); have n4_ := am (below_step zb hb); clear HO486; clear HO488; clear HO492; clear HB; have HO486 := n0_; have HO488 := n1_; have HO492 := n2_; have HO496 := n3_; have HB := n4_; clear n0_ n1_ n2_ n3_ n4_; (try clear hb); (try clear ho0)) | (go_at_call 20; (with_reducible refine (impl_Common.calls k _ _ t483 _ _ t484 t497 t498 _ ?side1 ?side2 ?side3 ?side4 A8.out).mono ?_); (case side1 => repeat (first | exact (Kd.R_reads' HO486.out).2.2 | (with_reducible refine Kd.C_alloc ?_ _) | (with_reducible refine Kd.C_drewN ?_ _) | (with_reducible refine Kd.C_drew ?_))); (case side2 => exact (Kd.R_reads' HO486.out).2.1); (case side3 => repeat (first | exact (Kd.R_reads' HO488.out).2.2 | (with_reducible refine Kd.C_alloc ?_ _) | (with_reducible refine Kd.C_drewN ?_ _) | (with_reducible refine Kd.C_drew ?_))); (case side4 => exact (Kd.R_reads' HO488.out).2.1); rintro e w17 ⟨rfl, hb⟩; have n0_ := am (Kd.R_below (zr HO486.out) hb); have n1_ := am (Kd.R_below (zr HO488.out) hb); have n2_ := am (Kd.S_below (zs HO492.out) hb); have n3_ := am (Kd.S_below (zs HO496.out) hb); have n4_ := am (below_step zb hb); clear HO486; clear HO488; clear HO492; clear HO496; clear HB; have HO486 := n0_; have HO488 := n1_; have HO492 := n2_; have HO496 := n3_; have HB := n4_; clear n0_ n1_ n2_ n3_ n4_; (try clear hb)) | (go_at_call 21; (with_reducible refine (spec_Common.calls k _ _ t483 _ _ t484 t499 t500 _ ?side1 ?side2 ?side3 ?side4 A9.out).mono ?_); (case side1 => repeat (first | exact (Kd.R_reads' HO486.out).2.2 | (with_reducible refine Kd.C_alloc ?_ _) | (with_reducible refine Kd.C_drewN ?_ _) | (with_reducible refine Kd.C_drew ?_))); (case side2 => exact (Kd.R_reads' HO486.out).2.1); (case side3 => repeat (first | exact (Kd.R_reads' HO488.out).2.2 | (with_reducible refine Kd.C_alloc ?_ _) | (with_reducible refine Kd.C_drewN ?_ _) | (with_reducible refine Kd.C_drew ?_))); (case side4 => exact (Kd.R_reads' HO488.out).2.1); rintro e w18 ⟨rfl, hb⟩; have n0_ := am (Kd.R_below (zr HO486.out) hb); have n1_ := am (Kd.R_below (zr HO488.out) hb); have n2_ := am (Kd.S_below (zs HO492.out) hb); have n3_ := am (Kd.S_below (zs HO496.out) hb); have n4_ := am (below_step zb hb); clear HO486; clear HO488; clear HO492; clear HO496; clear HB; have HO486 := n0_; have HO488 := n1_; have HO492 := n2_; have HO496 := n3_; have HB := n4_; clear n0_ n1_ n2_ n3_ n4_; (try clear hb)) | (go_at_call 20; (with_reducible refine (impl_Common.calls k _ _ t484 _ _ t483 t501 t502 _ ?side1 ?side2 ?side3 ?side4 A10.out).mono ?_); (case side1 => repeat (first | exact (Kd.R_reads' HO488.out).2.2 | (with_reducible refine Kd.C_alloc ?_ _) | (with_reducible refine Kd.C_drewN ?_ _) | (with_reducible refine Kd.C_drew ?_))); (case side2 => exact (Kd.R_reads' HO488.out).2.1); (case side3 => repeat (first | exact (Kd.R_reads' HO486.out).2.2 | (with_reducible refine Kd.C_alloc ?_ _) | (with_reducible refine Kd.C_drewN ?_ _) | (with_reducible refine Kd.C_drew ?_))); (case side4 => exact (Kd.R_reads' HO486.out).2.1); rintro e w19 ⟨rfl, hb⟩; have n0_ := am (Kd.R_below (zr HO486.out) hb); have n1_ := am (Kd.R_below (zr HO488.out) hb); have n2_ := am (Kd.S_below (zs HO492.out) hb); have n3_ := am (Kd.S_below (zs HO496.out) hb); have n4_ := am (below_step zb hb); clear HO486; clear HO488; clear HO492; clear HO496; clear HB; have HO486 := n0_; have HO488 := n1_; have HO492 := n2_; have HO496 := n3_; have HB := n4_; clear n0_ n1_ n2_ n3_ n4_; (try clear hb))))
    (try simp only [Act.put, List.setIfInBounds_toArray, List.set_cons_zero, List.set_cons_succ])
    go_cut [119] (fun v119 wc => ∃ (kq : Nat) (x119_10 : Bool), v119 = .bool x119_10 ∧ Aside0 (laws_FnCommon.j0 kq l1 t483 t484 t489 t490 x119_10 = some r) ∧ Aside0 (kq ≤ k) ∧ Aside0 (Kd.R Kd.string 9 wc w.heap.size (fun k_ => some k_ ≠ ((.slice Ao14 t484.length co14) : Value).ownBlock) (.slice Ao13 t483.length co13) t483) ∧ Aside0 (Kd.R Kd.string 9 wc w.heap.size (fun k_ => some k_ ≠ ((.slice Ao13 t483.length co13) : Value).ownBlock) (.slice Ao14 t484.length co14) t484) ∧ Aside0 (Kd.S (Kd.slice 3 (Kd.int .i64)) 41 wc w.heap.size (fun _ => True) v491 t489) ∧ Aside0 (Below w.heap.size w wc))
    case first =>
     have H := HC11.out
     clear HC11
     by_cases c20 : (t490 != t494) = true
     ·as_aux_lemma =>
        rw [if_pos c20] at H
        have c20b0 : (t490 != t494) = true := c20
        (try (have c20b1 : decide (t490 = t494) = false := by simpa using c20))
        (try (have c20b2 : (t490 == t494) = false := by simpa using c20))
        (try (have c20b3 : ¬ (t490 = t494) := by simpa using c20))
        clear c20
        (first | rw [c20b0] | (simp only [i64_w, i32_w]; rw [c20b0]) | skip)
        have H' := am H
        clear H
        go_wp2
        repeat (go_quiet (fail); try go_wp2)
        go_meet
        case rel => exact ⟨_, (true), zf, H', ⟨by first | omega | exact Nat.le_refl _⟩, ⟨by (with_reducible repeat (first | apply Kd.R_alloc | apply Kd.R_drewN | apply Kd.R_drew)); exact HO486.out⟩, ⟨by (with_reducible repeat (first | apply Kd.R_alloc | apply Kd.R_drewN | apply Kd.R_drew)); exact HO488.out⟩, ⟨by (with_reducible repeat (first | apply Kd.S_alloc | apply Kd.S_drewN | apply Kd.S_drew)); exact Kd.S_mono HO492.out (fun _ hk => trivial)⟩, ⟨by repeat (first | (with_reducible first | exact HB.out | apply below_alloc | apply pw_below_drewN | apply below_drew1) | exact HB.out)⟩⟩
     ·as_aux_lemma =>
        rw [if_neg c20] at H
        have c20b0 : (t490 != t494) = false := by simpa using c20
        (try (have c20b1 : decide (t490 = t494) = true := by simpa using c20))
        (try (have c20b2 : (t490 == t494) = true := by simpa using c20))
        clear c20
        (first | rw [c20b0] | (simp only [i64_w, i32_w]; rw [c20b0]) | skip)
        replace H := Option.bind_eq_some_iff.mp H
        obtain ⟨t503, A210, H⟩ := H
        replace H : (if t503 = true then (if (t498 != t500) = true then (laws_FnCommon.j0 k l1 t483 t484 t489 t490 true) else (if t497 = t499 then (if (t490 != t498) = true then (laws_FnCommon.j0 k l1 t483 t484 t489 t490 true) else (if (t502 != t498) = true then (laws_FnCommon.j0 k l1 t483 t484 t489 t490 true) else (if t501 = t497 then (if t490 = true then (laws_FnCommon.j0 k l1 t483 t484 t489 t490 ((t489.length : Int) != t497)) else (laws_FnCommon.j0 k l1 t483 t484 t489 t490 false)) else (laws_FnCommon.j0 k l1 t483 t484 t489 t490 true)))) else (laws_FnCommon.j0 k l1 t483 t484 t489 t490 true))) else (laws_FnCommon.j0 k l1 t483 t484 t489 t490 true)) = some r := H
        have A21 := am A210
        clear A210
        by_cases c22 : t503 = true
        ·as_aux_lemma =>
           subst c22
           have H1 : (if (t498 != t500) = true then (laws_FnCommon.j0 k l1 t483 t484 t489 t490 true) else (if t497 = t499 then (if (t490 != t498) = true then (laws_FnCommon.j0 k l1 t483 t484 t489 t490 true) else (if (t502 != t498) = true then (laws_FnCommon.j0 k l1 t483 t484 t489 t490 true) else (if t501 = t497 then (if t490 = true then (laws_FnCommon.j0 k l1 t483 t484 t489 t490 ((t489.length : Int) != t497)) else (laws_FnCommon.j0 k l1 t483 t484 t489 t490 false)) else (laws_FnCommon.j0 k l1 t483 t484 t489 t490 true)))) else (laws_FnCommon.j0 k l1 t483 t484 t489 t490 true))) = some r := by rw [if_pos rfl] at H; exact H
           clear H
           have H := H1
           clear H1
           by_cases c23 : (t498 != t500) = true
           ·as_aux_lemma =>
              rw [if_pos c23] at H
              have c23b0 : (t498 != t500) = true := c23
              (try (have c23b1 : decide (t498 = t500) = false := by simpa using c23))
              (try (have c23b2 : (t498 == t500) = false := by simpa using c23))
              (try (have c23b3 : ¬ (t498 = t500) := by simpa using c23))
              clear c23
              have H' := am H
              clear H
              obtain ⟨Ao24, co24, eo24⟩ := Kd.S_slice HO492.out
              subst eo24
              obtain ⟨Ao25, co25, eo25⟩ := Kd.S_slice HO496.out
              subst eo25
              go_wp2_with (first | (go_at_call 22; (with_reducible refine (laws_sameLists.calls k _ _ t489 _ _ t493 true _ ?side1 ?side2 ?side3 ?side4 A21.out).mono ?_); (case side1 => repeat (first | exact (Kd.S_reads' HO492.out).2.2 | (with_reducible refine Kd.C_alloc ?_ _) | (with_reducible refine Kd.C_drewN ?_ _) | (with_reducible refine Kd.C_drew ?_))); (case side2 => exact (Kd.S_reads' HO492.out).2.1); (case side3 => repeat (first | exact (Kd.S_reads' HO496.out).2.2 | (with_reducible refine Kd.C_alloc ?_ _) | (with_reducible refine Kd.C_drewN ?_ _) | (with_reducible refine Kd.C_drew ?_))); (case side4 => exact (Kd.S_reads' HO496.out).2.1); rintro e w' ⟨rfl, ⟨nd, rfl⟩⟩; (try exact zd)))
              repeat (go_quiet (first | (go_at_call 22; (with_reducible refine (laws_sameLists.calls k _ _ t489 _ _ t493 true _ ?side1 ?side2 ?side3 ?side4 A21.out).mono ?_); (case side1 => repeat (first | exact (Kd.S_reads' HO492.out).2.2 | (with_reducible refine Kd.C_alloc ?_ _) | (with_reducible refine Kd.C_drewN ?_ _) | (with_reducible refine Kd.C_drew ?_))); (case side2 => exact (Kd.S_reads' HO492.out).2.1); (case side3 => repeat (first | exact (Kd.S_reads' HO496.out).2.2 | (with_reducible refine Kd.C_alloc ?_ _) | (with_reducible refine Kd.C_drewN ?_ _) | (with_reducible refine Kd.C_drew ?_))); (case side4 => exact (Kd.S_reads' HO496.out).2.1); rintro e w' ⟨rfl, ⟨nd, rfl⟩⟩; (try exact zd))); try go_wp2_with (first | (go_at_call 22; (with_reducible refine (laws_sameLists.calls k _ _ t489 _ _ t493 true _ ?side1 ?side2 ?side3 ?side4 A21.out).mono ?_); (case side1 => repeat (first | exact (Kd.S_reads' HO492.out).2.2 | (with_reducible refine Kd.C_alloc ?_ _) | (with_reducible refine Kd.C_drewN ?_ _) | (with_reducible refine Kd.C_drew ?_))); (case side2 => exact (Kd.S_reads' HO492.out).2.1); (case side3 => repeat (first | exact (Kd.S_reads' HO496.out).2.2 | (with_reducible refine Kd.C_alloc ?_ _) | (with_reducible refine Kd.C_drewN ?_ _) | (with_reducible refine Kd.C_drew ?_))); (case side4 => exact (Kd.S_reads' HO496.out).2.1); rintro e w' ⟨rfl, ⟨nd, rfl⟩⟩; (try exact zd))))
              go_meet
              case rel => exact ⟨_, (true), zf, H', ⟨by first | omega | exact Nat.le_refl _⟩, ⟨by (with_reducible repeat (first | apply Kd.R_alloc | apply Kd.R_drewN | apply Kd.R_drew)); exact HO486.out⟩, ⟨by (with_reducible repeat (first | apply Kd.R_alloc | apply Kd.R_drewN | apply Kd.R_drew)); exact HO488.out⟩, ⟨by (with_reducible repeat (first | apply Kd.S_alloc | apply Kd.S_drewN | apply Kd.S_drew)); exact Kd.S_mono HO492.out (fun _ hk => trivial)⟩, ⟨by repeat (first | (with_reducible first | exact HB.out | apply below_alloc | apply pw_below_drewN | apply below_drew1) | exact HB.out)⟩⟩
           ·as_aux_lemma =>
              rw [if_neg c23] at H
              have c23b0 : (t498 != t500) = false := by simpa using c23
              (try (have c23b1 : decide (t498 = t500) = true := by simpa using c23))
              (try (have c23b2 : (t498 == t500) = true := by simpa using c23))
              clear c23
              by_cases c26 : t497 = t499
              ·as_aux_lemma =>
                 rw [if_pos c26] at H
                 have c26b0 : (t497 == t499) = true := beq_iff_eq.mpr c26
                 have c26b1 : (t497 != t499) = false := bne_eq_false_iff_eq.mpr c26
                 clear c26
                 by_cases c27 : (t490 != t498) = true
                 ·as_aux_lemma =>
                    rw [if_pos c27] at H
                    have c27b0 : (t490 != t498) = true := c27
                    (try (have c27b1 : decide (t490 = t498) = false := by simpa using c27))
                    (try (have c27b2 : (t490 == t498) = false := by simpa using c27))
                    (try (have c27b3 : ¬ (t490 = t498) := by simpa using c27))
                    clear c27
                    have H' := am H
                    clear H
                    obtain ⟨Ao28, co28, eo28⟩ := Kd.S_slice HO492.out
                    subst eo28
                    obtain ⟨Ao29, co29, eo29⟩ := Kd.S_slice HO496.out
                    subst eo29
                    go_wp2_with (first | (go_at_call 22; (with_reducible refine (laws_sameLists.calls k _ _ t489 _ _ t493 true _ ?side1 ?side2 ?side3 ?side4 A21.out).mono ?_); (case side1 => repeat (first | exact (Kd.S_reads' HO492.out).2.2 | (with_reducible refine Kd.C_alloc ?_ _) | (with_reducible refine Kd.C_drewN ?_ _) | (with_reducible refine Kd.C_drew ?_))); (case side2 => exact (Kd.S_reads' HO492.out).2.1); (case side3 => repeat (first | exact (Kd.S_reads' HO496.out).2.2 | (with_reducible refine Kd.C_alloc ?_ _) | (with_reducible refine Kd.C_drewN ?_ _) | (with_reducible refine Kd.C_drew ?_))); (case side4 => exact (Kd.S_reads' HO496.out).2.1); rintro e w' ⟨rfl, ⟨nd, rfl⟩⟩; (try exact zd)))
                    repeat (go_quiet (first | (go_at_call 22; (with_reducible refine (laws_sameLists.calls k _ _ t489 _ _ t493 true _ ?side1 ?side2 ?side3 ?side4 A21.out).mono ?_); (case side1 => repeat (first | exact (Kd.S_reads' HO492.out).2.2 | (with_reducible refine Kd.C_alloc ?_ _) | (with_reducible refine Kd.C_drewN ?_ _) | (with_reducible refine Kd.C_drew ?_))); (case side2 => exact (Kd.S_reads' HO492.out).2.1); (case side3 => repeat (first | exact (Kd.S_reads' HO496.out).2.2 | (with_reducible refine Kd.C_alloc ?_ _) | (with_reducible refine Kd.C_drewN ?_ _) | (with_reducible refine Kd.C_drew ?_))); (case side4 => exact (Kd.S_reads' HO496.out).2.1); rintro e w' ⟨rfl, ⟨nd, rfl⟩⟩; (try exact zd))); try go_wp2_with (first | (go_at_call 22; (with_reducible refine (laws_sameLists.calls k _ _ t489 _ _ t493 true _ ?side1 ?side2 ?side3 ?side4 A21.out).mono ?_); (case side1 => repeat (first | exact (Kd.S_reads' HO492.out).2.2 | (with_reducible refine Kd.C_alloc ?_ _) | (with_reducible refine Kd.C_drewN ?_ _) | (with_reducible refine Kd.C_drew ?_))); (case side2 => exact (Kd.S_reads' HO492.out).2.1); (case side3 => repeat (first | exact (Kd.S_reads' HO496.out).2.2 | (with_reducible refine Kd.C_alloc ?_ _) | (with_reducible refine Kd.C_drewN ?_ _) | (with_reducible refine Kd.C_drew ?_))); (case side4 => exact (Kd.S_reads' HO496.out).2.1); rintro e w' ⟨rfl, ⟨nd, rfl⟩⟩; (try exact zd))))
                    go_meet
                    case rel => exact ⟨_, (true), zf, H', ⟨by first | omega | exact Nat.le_refl _⟩, ⟨by (with_reducible repeat (first | apply Kd.R_alloc | apply Kd.R_drewN | apply Kd.R_drew)); exact HO486.out⟩, ⟨by (with_reducible repeat (first | apply Kd.R_alloc | apply Kd.R_drewN | apply Kd.R_drew)); exact HO488.out⟩, ⟨by (with_reducible repeat (first | apply Kd.S_alloc | apply Kd.S_drewN | apply Kd.S_drew)); exact Kd.S_mono HO492.out (fun _ hk => trivial)⟩, ⟨by repeat (first | (with_reducible first | exact HB.out | apply below_alloc | apply pw_below_drewN | apply below_drew1) | exact HB.out)⟩⟩
                 ·as_aux_lemma =>
                    rw [if_neg c27] at H
                    have c27b0 : (t490 != t498) = false := by simpa using c27
                    (try (have c27b1 : decide (t490 = t498) = true := by simpa using c27))
                    (try (have c27b2 : (t490 == t498) = true := by simpa using c27))
                    clear c27
                    by_cases c30 : (t502 != t498) = true
                    ·as_aux_lemma =>
                       rw [if_pos c30] at H
                       have c30b0 : (t502 != t498) = true := c30
                       (try (have c30b1 : decide (t502 = t498) = false := by simpa using c30))
                       (try (have c30b2 : (t502 == t498) = false := by simpa using c30))
                       (try (have c30b3 : ¬ (t502 = t498) := by simpa using c30))
                       clear c30
                       have H' := am H
                       clear H
                       obtain ⟨Ao31, co31, eo31⟩ := Kd.S_slice HO492.out
                       subst eo31
                       obtain ⟨Ao32, co32, eo32⟩ := Kd.S_slice HO496.out
                       subst eo32
                       go_wp2_with (first | (go_at_call 22; (with_reducible refine (laws_sameLists.calls k _ _ t489 _ _ t493 true _ ?side1 ?side2 ?side3 ?side4 A21.out).mono ?_); (case side1 => repeat (first | exact (Kd.S_reads' HO492.out).2.2 | (with_reducible refine Kd.C_alloc ?_ _) | (with_reducible refine Kd.C_drewN ?_ _) | (with_reducible refine Kd.C_drew ?_))); (case side2 => exact (Kd.S_reads' HO492.out).2.1); (case side3 => repeat (first | exact (Kd.S_reads' HO496.out).2.2 | (with_reducible refine Kd.C_alloc ?_ _) | (with_reducible refine Kd.C_drewN ?_ _) | (with_reducible refine Kd.C_drew ?_))); (case side4 => exact (Kd.S_reads' HO496.out).2.1); rintro e w' ⟨rfl, ⟨nd, rfl⟩⟩; (try exact zd)))
                       repeat (go_quiet (first | (go_at_call 22; (with_reducible refine (laws_sameLists.calls k _ _ t489 _ _ t493 true _ ?side1 ?side2 ?side3 ?side4 A21.out).mono ?_); (case side1 => repeat (first | exact (Kd.S_reads' HO492.out).2.2 | (with_reducible refine Kd.C_alloc ?_ _) | (with_reducible refine Kd.C_drewN ?_ _) | (with_reducible refine Kd.C_drew ?_))); (case side2 => exact (Kd.S_reads' HO492.out).2.1); (case side3 => repeat (first | exact (Kd.S_reads' HO496.out).2.2 | (with_reducible refine Kd.C_alloc ?_ _) | (with_reducible refine Kd.C_drewN ?_ _) | (with_reducible refine Kd.C_drew ?_))); (case side4 => exact (Kd.S_reads' HO496.out).2.1); rintro e w' ⟨rfl, ⟨nd, rfl⟩⟩; (try exact zd))); try go_wp2_with (first | (go_at_call 22; (with_reducible refine (laws_sameLists.calls k _ _ t489 _ _ t493 true _ ?side1 ?side2 ?side3 ?side4 A21.out).mono ?_); (case side1 => repeat (first | exact (Kd.S_reads' HO492.out).2.2 | (with_reducible refine Kd.C_alloc ?_ _) | (with_reducible refine Kd.C_drewN ?_ _) | (with_reducible refine Kd.C_drew ?_))); (case side2 => exact (Kd.S_reads' HO492.out).2.1); (case side3 => repeat (first | exact (Kd.S_reads' HO496.out).2.2 | (with_reducible refine Kd.C_alloc ?_ _) | (with_reducible refine Kd.C_drewN ?_ _) | (with_reducible refine Kd.C_drew ?_))); (case side4 => exact (Kd.S_reads' HO496.out).2.1); rintro e w' ⟨rfl, ⟨nd, rfl⟩⟩; (try exact zd))))
                       go_meet
                       case rel => exact ⟨_, (true), zf, H', ⟨by first | omega | exact Nat.le_refl _⟩, ⟨by (with_reducible repeat (first | apply Kd.R_alloc | apply Kd.R_drewN | apply Kd.R_drew)); exact HO486.out⟩, ⟨by (with_reducible repeat (first | apply Kd.R_alloc | apply Kd.R_drewN | apply Kd.R_drew)); exact HO488.out⟩, ⟨by (with_reducible repeat (first | apply Kd.S_alloc | apply Kd.S_drewN | apply Kd.S_drew)); exact Kd.S_mono HO492.out (fun _ hk => trivial)⟩, ⟨by repeat (first | (with_reducible first | exact HB.out | apply below_alloc | apply pw_below_drewN | apply below_drew1) | exact HB.out)⟩⟩
                    ·as_aux_lemma =>
                       rw [if_neg c30] at H
                       have c30b0 : (t502 != t498) = false := by simpa using c30
                       (try (have c30b1 : decide (t502 = t498) = true := by simpa using c30))
                       (try (have c30b2 : (t502 == t498) = true := by simpa using c30))
                       clear c30
                       by_cases c33 : t501 = t497
                       ·as_aux_lemma =>
                          rw [if_pos c33] at H
                          have c33b0 : (t501 == t497) = true := beq_iff_eq.mpr c33
                          have c33b1 : (t501 != t497) = false := bne_eq_false_iff_eq.mpr c33
                          clear c33
                          by_cases c34 : t490 = true
                          ·as_aux_lemma =>
                             subst c34
                             have H1 : (laws_FnCommon.j0 k l1 t483 t484 t489 true ((t489.length : Int) != t497)) = some r := by rw [if_pos rfl] at H; exact H
                             clear H
                             have H := H1
                             clear H1
                             have H' := am H
                             clear H
                             obtain ⟨Ao35, co35, eo35⟩ := Kd.S_slice HO492.out
                             subst eo35
                             obtain ⟨Ao36, co36, eo36⟩ := Kd.S_slice HO496.out
                             subst eo36
                             go_wp2_with (first | (go_at_call 22; (with_reducible refine (laws_sameLists.calls k _ _ t489 _ _ t493 true _ ?side1 ?side2 ?side3 ?side4 A21.out).mono ?_); (case side1 => repeat (first | exact (Kd.S_reads' HO492.out).2.2 | (with_reducible refine Kd.C_alloc ?_ _) | (with_reducible refine Kd.C_drewN ?_ _) | (with_reducible refine Kd.C_drew ?_))); (case side2 => exact (Kd.S_reads' HO492.out).2.1); (case side3 => repeat (first | exact (Kd.S_reads' HO496.out).2.2 | (with_reducible refine Kd.C_alloc ?_ _) | (with_reducible refine Kd.C_drewN ?_ _) | (with_reducible refine Kd.C_drew ?_))); (case side4 => exact (Kd.S_reads' HO496.out).2.1); rintro e w' ⟨rfl, ⟨nd, rfl⟩⟩; (try exact zd)))
                             repeat (go_quiet (first | (go_at_call 22; (with_reducible refine (laws_sameLists.calls k _ _ t489 _ _ t493 true _ ?side1 ?side2 ?side3 ?side4 A21.out).mono ?_); (case side1 => repeat (first | exact (Kd.S_reads' HO492.out).2.2 | (with_reducible refine Kd.C_alloc ?_ _) | (with_reducible refine Kd.C_drewN ?_ _) | (with_reducible refine Kd.C_drew ?_))); (case side2 => exact (Kd.S_reads' HO492.out).2.1); (case side3 => repeat (first | exact (Kd.S_reads' HO496.out).2.2 | (with_reducible refine Kd.C_alloc ?_ _) | (with_reducible refine Kd.C_drewN ?_ _) | (with_reducible refine Kd.C_drew ?_))); (case side4 => exact (Kd.S_reads' HO496.out).2.1); rintro e w' ⟨rfl, ⟨nd, rfl⟩⟩; (try exact zd))); try go_wp2_with (first | (go_at_call 22; (with_reducible refine (laws_sameLists.calls k _ _ t489 _ _ t493 true _ ?side1 ?side2 ?side3 ?side4 A21.out).mono ?_); (case side1 => repeat (first | exact (Kd.S_reads' HO492.out).2.2 | (with_reducible refine Kd.C_alloc ?_ _) | (with_reducible refine Kd.C_drewN ?_ _) | (with_reducible refine Kd.C_drew ?_))); (case side2 => exact (Kd.S_reads' HO492.out).2.1); (case side3 => repeat (first | exact (Kd.S_reads' HO496.out).2.2 | (with_reducible refine Kd.C_alloc ?_ _) | (with_reducible refine Kd.C_drewN ?_ _) | (with_reducible refine Kd.C_drew ?_))); (case side4 => exact (Kd.S_reads' HO496.out).2.1); rintro e w' ⟨rfl, ⟨nd, rfl⟩⟩; (try exact zd))))
                             go_meet
                             case rel => exact ⟨_, (((t489.length : Int) != t497)), zf, H', ⟨by first | omega | exact Nat.le_refl _⟩, ⟨by (with_reducible repeat (first | apply Kd.R_alloc | apply Kd.R_drewN | apply Kd.R_drew)); exact HO486.out⟩, ⟨by (with_reducible repeat (first | apply Kd.R_alloc | apply Kd.R_drewN | apply Kd.R_drew)); exact HO488.out⟩, ⟨by (with_reducible repeat (first | apply Kd.S_alloc | apply Kd.S_drewN | apply Kd.S_drew)); exact Kd.S_mono HO492.out (fun _ hk => trivial)⟩, ⟨by repeat (first | (with_reducible first | exact HB.out | apply below_alloc | apply pw_below_drewN | apply below_drew1) | exact HB.out)⟩⟩
                          ·as_aux_lemma =>
                             replace c34 := Bool.eq_false_iff.mpr c34
                             subst c34
                             have H1 : (laws_FnCommon.j0 k l1 t483 t484 t489 false false) = some r := by rw [if_neg (show ¬ (false = true) by decide)] at H; exact H
                             clear H
                             have H := H1
                             clear H1
                             have H' := am H
                             clear H
                             obtain ⟨Ao37, co37, eo37⟩ := Kd.S_slice HO492.out
                             subst eo37
                             obtain ⟨Ao38, co38, eo38⟩ := Kd.S_slice HO496.out
                             subst eo38
                             go_wp2_with (first | (go_at_call 22; (with_reducible refine (laws_sameLists.calls k _ _ t489 _ _ t493 true _ ?side1 ?side2 ?side3 ?side4 A21.out).mono ?_); (case side1 => repeat (first | exact (Kd.S_reads' HO492.out).2.2 | (with_reducible refine Kd.C_alloc ?_ _) | (with_reducible refine Kd.C_drewN ?_ _) | (with_reducible refine Kd.C_drew ?_))); (case side2 => exact (Kd.S_reads' HO492.out).2.1); (case side3 => repeat (first | exact (Kd.S_reads' HO496.out).2.2 | (with_reducible refine Kd.C_alloc ?_ _) | (with_reducible refine Kd.C_drewN ?_ _) | (with_reducible refine Kd.C_drew ?_))); (case side4 => exact (Kd.S_reads' HO496.out).2.1); rintro e w' ⟨rfl, ⟨nd, rfl⟩⟩; (try exact zd)))
                             repeat (go_quiet (first | (go_at_call 22; (with_reducible refine (laws_sameLists.calls k _ _ t489 _ _ t493 true _ ?side1 ?side2 ?side3 ?side4 A21.out).mono ?_); (case side1 => repeat (first | exact (Kd.S_reads' HO492.out).2.2 | (with_reducible refine Kd.C_alloc ?_ _) | (with_reducible refine Kd.C_drewN ?_ _) | (with_reducible refine Kd.C_drew ?_))); (case side2 => exact (Kd.S_reads' HO492.out).2.1); (case side3 => repeat (first | exact (Kd.S_reads' HO496.out).2.2 | (with_reducible refine Kd.C_alloc ?_ _) | (with_reducible refine Kd.C_drewN ?_ _) | (with_reducible refine Kd.C_drew ?_))); (case side4 => exact (Kd.S_reads' HO496.out).2.1); rintro e w' ⟨rfl, ⟨nd, rfl⟩⟩; (try exact zd))); try go_wp2_with (first | (go_at_call 22; (with_reducible refine (laws_sameLists.calls k _ _ t489 _ _ t493 true _ ?side1 ?side2 ?side3 ?side4 A21.out).mono ?_); (case side1 => repeat (first | exact (Kd.S_reads' HO492.out).2.2 | (with_reducible refine Kd.C_alloc ?_ _) | (with_reducible refine Kd.C_drewN ?_ _) | (with_reducible refine Kd.C_drew ?_))); (case side2 => exact (Kd.S_reads' HO492.out).2.1); (case side3 => repeat (first | exact (Kd.S_reads' HO496.out).2.2 | (with_reducible refine Kd.C_alloc ?_ _) | (with_reducible refine Kd.C_drewN ?_ _) | (with_reducible refine Kd.C_drew ?_))); (case side4 => exact (Kd.S_reads' HO496.out).2.1); rintro e w' ⟨rfl, ⟨nd, rfl⟩⟩; (try exact zd))))
                             go_meet
                             case rel => exact ⟨_, (false), zf, H', ⟨by first | omega | exact Nat.le_refl _⟩, ⟨by (with_reducible repeat (first | apply Kd.R_alloc | apply Kd.R_drewN | apply Kd.R_drew)); exact HO486.out⟩, ⟨by (with_reducible repeat (first | apply Kd.R_alloc | apply Kd.R_drewN | apply Kd.R_drew)); exact HO488.out⟩, ⟨by (with_reducible repeat (first | apply Kd.S_alloc | apply Kd.S_drewN | apply Kd.S_drew)); exact Kd.S_mono HO492.out (fun _ hk => trivial)⟩, ⟨by repeat (first | (with_reducible first | exact HB.out | apply below_alloc | apply pw_below_drewN | apply below_drew1) | exact HB.out)⟩⟩
                       ·as_aux_lemma =>
                          rw [if_neg c33] at H
                          have c33b0 : (t501 == t497) = false := beq_eq_false_iff_ne.mpr c33
                          have c33b1 : (t501 != t497) = true := bne_iff_ne.mpr c33
                          have H' := am H
                          clear H
                          obtain ⟨Ao39, co39, eo39⟩ := Kd.S_slice HO492.out
                          subst eo39
                          obtain ⟨Ao40, co40, eo40⟩ := Kd.S_slice HO496.out
                          subst eo40
                          go_wp2_with (first | (go_at_call 22; (with_reducible refine (laws_sameLists.calls k _ _ t489 _ _ t493 true _ ?side1 ?side2 ?side3 ?side4 A21.out).mono ?_); (case side1 => repeat (first | exact (Kd.S_reads' HO492.out).2.2 | (with_reducible refine Kd.C_alloc ?_ _) | (with_reducible refine Kd.C_drewN ?_ _) | (with_reducible refine Kd.C_drew ?_))); (case side2 => exact (Kd.S_reads' HO492.out).2.1); (case side3 => repeat (first | exact (Kd.S_reads' HO496.out).2.2 | (with_reducible refine Kd.C_alloc ?_ _) | (with_reducible refine Kd.C_drewN ?_ _) | (with_reducible refine Kd.C_drew ?_))); (case side4 => exact (Kd.S_reads' HO496.out).2.1); rintro e w' ⟨rfl, ⟨nd, rfl⟩⟩; (try exact zd)))
                          repeat (go_quiet (first | (go_at_call 22; (with_reducible refine (laws_sameLists.calls k _ _ t489 _ _ t493 true _ ?side1 ?side2 ?side3 ?side4 A21.out).mono ?_); (case side1 => repeat (first | exact (Kd.S_reads' HO492.out).2.2 | (with_reducible refine Kd.C_alloc ?_ _) | (with_reducible refine Kd.C_drewN ?_ _) | (with_reducible refine Kd.C_drew ?_))); (case side2 => exact (Kd.S_reads' HO492.out).2.1); (case side3 => repeat (first | exact (Kd.S_reads' HO496.out).2.2 | (with_reducible refine Kd.C_alloc ?_ _) | (with_reducible refine Kd.C_drewN ?_ _) | (with_reducible refine Kd.C_drew ?_))); (case side4 => exact (Kd.S_reads' HO496.out).2.1); rintro e w' ⟨rfl, ⟨nd, rfl⟩⟩; (try exact zd))); try go_wp2_with (first | (go_at_call 22; (with_reducible refine (laws_sameLists.calls k _ _ t489 _ _ t493 true _ ?side1 ?side2 ?side3 ?side4 A21.out).mono ?_); (case side1 => repeat (first | exact (Kd.S_reads' HO492.out).2.2 | (with_reducible refine Kd.C_alloc ?_ _) | (with_reducible refine Kd.C_drewN ?_ _) | (with_reducible refine Kd.C_drew ?_))); (case side2 => exact (Kd.S_reads' HO492.out).2.1); (case side3 => repeat (first | exact (Kd.S_reads' HO496.out).2.2 | (with_reducible refine Kd.C_alloc ?_ _) | (with_reducible refine Kd.C_drewN ?_ _) | (with_reducible refine Kd.C_drew ?_))); (case side4 => exact (Kd.S_reads' HO496.out).2.1); rintro e w' ⟨rfl, ⟨nd, rfl⟩⟩; (try exact zd))))
                          go_meet
                          case rel => exact ⟨_, (true), zf, H', ⟨by first | omega | exact Nat.le_refl _⟩, ⟨by (with_reducible repeat (first | apply Kd.R_alloc | apply Kd.R_drewN | apply Kd.R_drew)); exact HO486.out⟩, ⟨by (with_reducible repeat (first | apply Kd.R_alloc | apply Kd.R_drewN | apply Kd.R_drew)); exact HO488.out⟩, ⟨by (with_reducible repeat (first | apply Kd.S_alloc | apply Kd.S_drewN | apply Kd.S_drew)); exact Kd.S_mono HO492.out (fun _ hk => trivial)⟩, ⟨by repeat (first | (with_reducible first | exact HB.out | apply below_alloc | apply pw_below_drewN | apply below_drew1) | exact HB.out)⟩⟩
              ·as_aux_lemma =>
                 rw [if_neg c26] at H
                 have c26b0 : (t497 == t499) = false := beq_eq_false_iff_ne.mpr c26
                 have c26b1 : (t497 != t499) = true := bne_iff_ne.mpr c26
                 have H' := am H
                 clear H
                 obtain ⟨Ao41, co41, eo41⟩ := Kd.S_slice HO492.out
                 subst eo41
                 obtain ⟨Ao42, co42, eo42⟩ := Kd.S_slice HO496.out
                 subst eo42
                 go_wp2_with (first | (go_at_call 22; (with_reducible refine (laws_sameLists.calls k _ _ t489 _ _ t493 true _ ?side1 ?side2 ?side3 ?side4 A21.out).mono ?_); (case side1 => repeat (first | exact (Kd.S_reads' HO492.out).2.2 | (with_reducible refine Kd.C_alloc ?_ _) | (with_reducible refine Kd.C_drewN ?_ _) | (with_reducible refine Kd.C_drew ?_))); (case side2 => exact (Kd.S_reads' HO492.out).2.1); (case side3 => repeat (first | exact (Kd.S_reads' HO496.out).2.2 | (with_reducible refine Kd.C_alloc ?_ _) | (with_reducible refine Kd.C_drewN ?_ _) | (with_reducible refine Kd.C_drew ?_))); (case side4 => exact (Kd.S_reads' HO496.out).2.1); rintro e w' ⟨rfl, ⟨nd, rfl⟩⟩; (try exact zd)))
                 repeat (go_quiet (first | (go_at_call 22; (with_reducible refine (laws_sameLists.calls k _ _ t489 _ _ t493 true _ ?side1 ?side2 ?side3 ?side4 A21.out).mono ?_); (case side1 => repeat (first | exact (Kd.S_reads' HO492.out).2.2 | (with_reducible refine Kd.C_alloc ?_ _) | (with_reducible refine Kd.C_drewN ?_ _) | (with_reducible refine Kd.C_drew ?_))); (case side2 => exact (Kd.S_reads' HO492.out).2.1); (case side3 => repeat (first | exact (Kd.S_reads' HO496.out).2.2 | (with_reducible refine Kd.C_alloc ?_ _) | (with_reducible refine Kd.C_drewN ?_ _) | (with_reducible refine Kd.C_drew ?_))); (case side4 => exact (Kd.S_reads' HO496.out).2.1); rintro e w' ⟨rfl, ⟨nd, rfl⟩⟩; (try exact zd))); try go_wp2_with (first | (go_at_call 22; (with_reducible refine (laws_sameLists.calls k _ _ t489 _ _ t493 true _ ?side1 ?side2 ?side3 ?side4 A21.out).mono ?_); (case side1 => repeat (first | exact (Kd.S_reads' HO492.out).2.2 | (with_reducible refine Kd.C_alloc ?_ _) | (with_reducible refine Kd.C_drewN ?_ _) | (with_reducible refine Kd.C_drew ?_))); (case side2 => exact (Kd.S_reads' HO492.out).2.1); (case side3 => repeat (first | exact (Kd.S_reads' HO496.out).2.2 | (with_reducible refine Kd.C_alloc ?_ _) | (with_reducible refine Kd.C_drewN ?_ _) | (with_reducible refine Kd.C_drew ?_))); (case side4 => exact (Kd.S_reads' HO496.out).2.1); rintro e w' ⟨rfl, ⟨nd, rfl⟩⟩; (try exact zd))))
                 go_meet
                 case rel => exact ⟨_, (true), zf, H', ⟨by first | omega | exact Nat.le_refl _⟩, ⟨by (with_reducible repeat (first | apply Kd.R_alloc | apply Kd.R_drewN | apply Kd.R_drew)); exact HO486.out⟩, ⟨by (with_reducible repeat (first | apply Kd.R_alloc | apply Kd.R_drewN | apply Kd.R_drew)); exact HO488.out⟩, ⟨by (with_reducible repeat (first | apply Kd.S_alloc | apply Kd.S_drewN | apply Kd.S_drew)); exact Kd.S_mono HO492.out (fun _ hk => trivial)⟩, ⟨by repeat (first | (with_reducible first | exact HB.out | apply below_alloc | apply pw_below_drewN | apply below_drew1) | exact HB.out)⟩⟩
        ·as_aux_lemma =>
           replace c22 := Bool.eq_false_iff.mpr c22
           subst c22
           have H1 : (laws_FnCommon.j0 k l1 t483 t484 t489 t490 true) = some r := by rw [if_neg (show ¬ (false = true) by decide)] at H; exact H
           clear H
           have H := H1
           clear H1
           have H' := am H
           clear H
           obtain ⟨Ao43, co43, eo43⟩ := Kd.S_slice HO492.out
           subst eo43
           obtain ⟨Ao44, co44, eo44⟩ := Kd.S_slice HO496.out
           subst eo44
           go_wp2_with (first | (go_at_call 22; (with_reducible refine (laws_sameLists.calls k _ _ t489 _ _ t493 false _ ?side1 ?side2 ?side3 ?side4 A21.out).mono ?_); (case side1 => repeat (first | exact (Kd.S_reads' HO492.out).2.2 | (with_reducible refine Kd.C_alloc ?_ _) | (with_reducible refine Kd.C_drewN ?_ _) | (with_reducible refine Kd.C_drew ?_))); (case side2 => exact (Kd.S_reads' HO492.out).2.1); (case side3 => repeat (first | exact (Kd.S_reads' HO496.out).2.2 | (with_reducible refine Kd.C_alloc ?_ _) | (with_reducible refine Kd.C_drewN ?_ _) | (with_reducible refine Kd.C_drew ?_))); (case side4 => exact (Kd.S_reads' HO496.out).2.1); rintro e w' ⟨rfl, ⟨nd, rfl⟩⟩; (try exact zd)))
           repeat (go_quiet (first | (go_at_call 22; (with_reducible refine (laws_sameLists.calls k _ _ t489 _ _ t493 false _ ?side1 ?side2 ?side3 ?side4 A21.out).mono ?_); (case side1 => repeat (first | exact (Kd.S_reads' HO492.out).2.2 | (with_reducible refine Kd.C_alloc ?_ _) | (with_reducible refine Kd.C_drewN ?_ _) | (with_reducible refine Kd.C_drew ?_))); (case side2 => exact (Kd.S_reads' HO492.out).2.1); (case side3 => repeat (first | exact (Kd.S_reads' HO496.out).2.2 | (with_reducible refine Kd.C_alloc ?_ _) | (with_reducible refine Kd.C_drewN ?_ _) | (with_reducible refine Kd.C_drew ?_))); (case side4 => exact (Kd.S_reads' HO496.out).2.1); rintro e w' ⟨rfl, ⟨nd, rfl⟩⟩; (try exact zd))); try go_wp2_with (first | (go_at_call 22; (with_reducible refine (laws_sameLists.calls k _ _ t489 _ _ t493 false _ ?side1 ?side2 ?side3 ?side4 A21.out).mono ?_); (case side1 => repeat (first | exact (Kd.S_reads' HO492.out).2.2 | (with_reducible refine Kd.C_alloc ?_ _) | (with_reducible refine Kd.C_drewN ?_ _) | (with_reducible refine Kd.C_drew ?_))); (case side2 => exact (Kd.S_reads' HO492.out).2.1); (case side3 => repeat (first | exact (Kd.S_reads' HO496.out).2.2 | (with_reducible refine Kd.C_alloc ?_ _) | (with_reducible refine Kd.C_drewN ?_ _) | (with_reducible refine Kd.C_drew ?_))); (case side4 => exact (Kd.S_reads' HO496.out).2.1); rintro e w' ⟨rfl, ⟨nd, rfl⟩⟩; (try exact zd))))
           go_meet
           case rel => exact ⟨_, (true), zf, H', ⟨by first | omega | exact Nat.le_refl _⟩, ⟨by (with_reducible repeat (first | apply Kd.R_alloc | apply Kd.R_drewN | apply Kd.R_drew)); exact HO486.out⟩, ⟨by (with_reducible repeat (first | apply Kd.R_alloc | apply Kd.R_drewN | apply Kd.R_drew)); exact HO488.out⟩, ⟨by (with_reducible repeat (first | apply Kd.S_alloc | apply Kd.S_drewN | apply Kd.S_drew)); exact Kd.S_mono HO492.out (fun _ hk => trivial)⟩, ⟨by repeat (first | (with_reducible first | exact HB.out | apply below_alloc | apply pw_below_drewN | apply below_drew1) | exact HB.out)⟩⟩
    case rest =>
     clear HC11
     try clear c1
     try clear c2
     try clear p2
     try clear c3
     try clear c4
     try clear c20
     try clear c20b0
     try clear c20b1
     try clear c20b2
     try clear c22
     try clear c23
     try clear c23b0
     try clear c23b1
     try clear c23b2
     try clear c26
     try clear c26b0
     try clear c26b1
     try clear c27
     try clear c27b0
     try clear c27b1
     try clear c27b2
     try clear c30
     try clear c30b0
     try clear c30b1
     try clear c30b2
     try clear c33
     try clear c33b0
     try clear c33b1
     try clear c34
     obtain ⟨kq, x119_10, rfl, HA, HJ10, HO_5, HO_6, HO_7, HB⟩ := hcut
     cases kq with
     | zero => exact absurd HA.out (by simp [laws_FnCommon.j0])
     | succ kj10 =>
      have H := HA.out
      clear HA
      simp only [laws_FnCommon.j0] at H
      by_cases c45 : x119_10 = true
      ·as_aux_lemma =>
         subst c45
         have H1 : (some false) = some r := by rw [if_pos rfl] at H; exact H
         clear H
         have H := H1
         clear H1
         exact absurd (show false = true from (Option.some.inj H).trans HR_.out) Bool.false_ne_true
      ·as_aux_lemma =>
         replace c45 := Bool.eq_false_iff.mpr c45
         subst c45
         have H1 : (laws_FnCommon.l0 kj10 l1 t483 t484 t489 t490 t489 (t489.length : Int) 0) = some r := by rw [if_neg (show ¬ (false = true) by decide)] at H; exact H
         clear H
         have H := H1
         clear H1
         have H' := am H
         clear H
         obtain ⟨Ao46, co46, eo46⟩ := Kd.S_slice HO_7.out
         subst eo46
         go_wp2
         repeat (go_quiet (fail); try go_wp2)
         go_loopg [122] kj10 (fun kq v122 w' => ∃ (x122_2 : Int), v122 = .int .i64 x122_2 ∧ Aside0 (laws_FnCommon.l0 kq l1 t483 t484 t489 t490 t489 (t489.length : Int) x122_2 = some r) ∧ Aside0 (kq ≤ kj10) ∧ Aside0 (Kd.R Kd.string 9 w' w.heap.size (fun k_ => some k_ ≠ ((.slice Ao14 t484.length co14) : Value).ownBlock) (.slice Ao13 t483.length co13) t483) ∧ Aside0 (Kd.R Kd.string 9 w' w.heap.size (fun k_ => some k_ ≠ ((.slice Ao13 t483.length co13) : Value).ownBlock) (.slice Ao14 t484.length co14) t484) ∧ Aside0 (Kd.S (Kd.slice 3 (Kd.int .i64)) 41 w' w.heap.size (fun _ => True) (.slice Ao46 t489.length co46) t489) ∧ Aside0 (Kd.S (Kd.slice 3 (Kd.int .i64)) 41 w' w.heap.size (fun _ => True) (.slice Ao46 t489.length co46) t489) ∧ Aside0 (Below w.heap.size w w'))
         case atStart => exact ⟨(0), zf, H', ⟨Nat.le_refl _⟩, ⟨by (with_reducible repeat (first | apply Kd.R_alloc | apply Kd.R_drewN | apply Kd.R_drew)); exact HO_5.out⟩, ⟨by (with_reducible repeat (first | apply Kd.R_alloc | apply Kd.R_drewN | apply Kd.R_drew)); exact HO_6.out⟩, ⟨by (with_reducible repeat (first | apply Kd.S_alloc | apply Kd.S_drewN | apply Kd.S_drew)); exact HO_7.out⟩, ⟨by (with_reducible repeat (first | apply Kd.S_alloc | apply Kd.S_drewN | apply Kd.S_drew)); exact HO_7.out⟩, ⟨by repeat (first | (with_reducible first | exact HB.out | apply below_alloc | apply pw_below_drewN | apply below_drew1) | exact HB.out)⟩⟩
         case round =>
          clear H'
          try clear c1
          try clear c2
          try clear p2
          try clear c3
          try clear c4
          try clear c20
          try clear c20b0
          try clear c20b1
          try clear c20b2
          try clear c22
          try clear c23
          try clear c23b0
          try clear c23b1
          try clear c23b2
          try clear c26
          try clear c26b0
          try clear c26b1
          try clear c27
          try clear c27b0
          try clear c27b1
          try clear c27b2
          try clear c30
          try clear c30b0
          try clear c30b1
          try clear c30b2
          try clear c33
          try clear c33b0
          try clear c33b1
          try clear c34
          try clear c45
          try clear p2
          obtain ⟨x122_2, rfl, HA, HK2, HO_5, HO_6, HO_7, HO_120, HB⟩ := hrel
          cases gk with
          | zero => exact absurd HA.out (by simp [laws_FnCommon.l0])
          | succ k2 =>
           have H := HA.out
           clear HA
           simp only [laws_FnCommon.l0] at H
           by_cases c47 : x122_2 < (t489.length : Int)
           ·as_aux_lemma =>
              rw [if_pos c47] at H
              have c47b0 : decide (x122_2 < (t489.length : Int)) = true := decide_eq_true c47
              clear c47
              by_cases c48 : 0 ≤ x122_2
              ·as_aux_lemma =>
                 rw [if_pos c48] at H
                 have c48b0 : decide (0 ≤ x122_2) = true := decide_eq_true c48
                 clear c48
                 by_cases c49 : x122_2 < (t489.length : Int)
                 ·as_aux_lemma =>
                    rw [if_pos c49] at H
                    have c49b0 : decide (x122_2 < (t489.length : Int)) = true := decide_eq_true c49
                    clear c49
                    by_cases c50 : ((rd_L5 t489 x122_2).length : Int) = 2
                    ·as_aux_lemma =>
                       rw [if_pos c50] at H
                       have c50b0 : (((rd_L5 t489 x122_2).length : Int) == 2) = true := beq_iff_eq.mpr c50
                       have c50b1 : (((rd_L5 t489 x122_2).length : Int) != 2) = false := bne_eq_false_iff_eq.mpr c50
                       clear c50
                       by_cases c51 : 0 < ((rd_L5 t489 x122_2).length : Int)
                       ·as_aux_lemma =>
                          rw [if_pos c51] at H
                          have c51b0 : decide (0 < ((rd_L5 t489 x122_2).length : Int)) = true := decide_eq_true c51
                          have c51b1 : decide (0 < (rd_L5 t489 x122_2).length) = true := decide_eq_true (by omega)
                          clear c51
                          by_cases c52 : (rd (rd_L5 t489 x122_2) 0) < 0
                          ·as_aux_lemma =>
                             rw [if_pos c52] at H
                             have c52b0 : decide ((rd (rd_L5 t489 x122_2) 0) < 0) = true := decide_eq_true c52
                             clear c52
                             exact absurd (show false = true from (Option.some.inj H).trans HR_.out) Bool.false_ne_true
                          ·as_aux_lemma =>
                             rw [if_neg c52] at H
                             have c52b0 : decide ((rd (rd_L5 t489 x122_2) 0) < 0) = false := decide_eq_false c52
                             clear c52
                             by_cases c53 : (rd (rd_L5 t489 x122_2) 0) ≥ (t483.length : Int)
                             ·as_aux_lemma =>
                                rw [if_pos c53] at H
                                have c53b0 : decide ((t483.length : Int) ≤ (rd (rd_L5 t489 x122_2) 0)) = true := decide_eq_true c53
                                clear c53
                                exact absurd (show false = true from (Option.some.inj H).trans HR_.out) Bool.false_ne_true
                             ·as_aux_lemma =>
                                rw [if_neg c53] at H
                                have c53b0 : decide ((t483.length : Int) ≤ (rd (rd_L5 t489 x122_2) 0)) = false := decide_eq_false c53
                                clear c53
                                by_cases c54 : 1 < ((rd_L5 t489 x122_2).length : Int)
                                ·as_aux_lemma =>
                                   rw [if_pos c54] at H
                                   have c54b0 : decide (1 < ((rd_L5 t489 x122_2).length : Int)) = true := decide_eq_true c54
                                   have c54b1 : decide (1 < (rd_L5 t489 x122_2).length) = true := decide_eq_true (by omega)
                                   clear c54
                                   by_cases c55 : (rd (rd_L5 t489 x122_2) 1) < 0
                                   ·as_aux_lemma =>
                                      rw [if_pos c55] at H
                                      have c55b0 : decide ((rd (rd_L5 t489 x122_2) 1) < 0) = true := decide_eq_true c55
                                      clear c55
                                      exact absurd (show false = true from (Option.some.inj H).trans HR_.out) Bool.false_ne_true
                                   ·as_aux_lemma =>
                                      rw [if_neg c55] at H
                                      have c55b0 : decide ((rd (rd_L5 t489 x122_2) 1) < 0) = false := decide_eq_false c55
                                      clear c55
                                      by_cases c56 : (rd (rd_L5 t489 x122_2) 1) ≥ (t484.length : Int)
                                      ·as_aux_lemma =>
                                         rw [if_pos c56] at H
                                         have c56b0 : decide ((t484.length : Int) ≤ (rd (rd_L5 t489 x122_2) 1)) = true := decide_eq_true c56
                                         clear c56
                                         exact absurd (show false = true from (Option.some.inj H).trans HR_.out) Bool.false_ne_true
                                      ·as_aux_lemma =>
                                         rw [if_neg c56] at H
                                         have c56b0 : decide ((t484.length : Int) ≤ (rd (rd_L5 t489 x122_2) 1)) = false := decide_eq_false c56
                                         clear c56
                                         by_cases c57 : 0 ≤ (rd (rd_L5 t489 x122_2) 0)
                                         ·as_aux_lemma =>
                                            rw [if_pos c57] at H
                                            have c57b0 : decide (0 ≤ (rd (rd_L5 t489 x122_2) 0)) = true := decide_eq_true c57
                                            clear c57
                                            by_cases c58 : (rd (rd_L5 t489 x122_2) 0) < (t483.length : Int)
                                            ·as_aux_lemma =>
                                               rw [if_pos c58] at H
                                               have c58b0 : decide ((rd (rd_L5 t489 x122_2) 0) < (t483.length : Int)) = true := decide_eq_true c58
                                               clear c58
                                               by_cases c59 : 0 ≤ (rd (rd_L5 t489 x122_2) 1)
                                               ·as_aux_lemma =>
                                                  rw [if_pos c59] at H
                                                  have c59b0 : decide (0 ≤ (rd (rd_L5 t489 x122_2) 1)) = true := decide_eq_true c59
                                                  clear c59
                                                  by_cases c60 : (rd (rd_L5 t489 x122_2) 1) < (t484.length : Int)
                                                  ·as_aux_lemma =>
                                                     rw [if_pos c60] at H
                                                     have c60b0 : decide ((rd (rd_L5 t489 x122_2) 1) < (t484.length : Int)) = true := decide_eq_true c60
                                                     clear c60
                                                     by_cases c61 : (rdOf ByteArray.empty t483 (rd (rd_L5 t489 x122_2) 0)).toList = (rdOf ByteArray.empty t484 (rd (rd_L5 t489 x122_2) 1)).toList
                                                     ·as_aux_lemma =>
                                                        rw [if_pos c61] at H
                                                        have c61b0 : ((rdOf ByteArray.empty t483 (rd (rd_L5 t489 x122_2) 0)).toList == (rdOf ByteArray.empty t484 (rd (rd_L5 t489 x122_2) 1)).toList) = true := beq_iff_eq.mpr c61
                                                        have c61b1 : ((rdOf ByteArray.empty t483 (rd (rd_L5 t489 x122_2) 0)).toList != (rdOf ByteArray.empty t484 (rd (rd_L5 t489 x122_2) 1)).toList) = false := bne_eq_false_iff_eq.mpr c61
                                                        clear c61
                                                        by_cases c62 : x122_2 > 0
                                                        ·as_aux_lemma =>
                                                           rw [if_pos c62] at H
                                                           have c62b0 : decide (0 < x122_2) = true := decide_eq_true c62
                                                           clear c62
                                                           obtain ⟨ji63, hji63⟩ : ∃ j_ : Int, (wrap64 (x122_2 - 1)) = j_ := ⟨_, rfl⟩
                                                           replace H : (if 0 ≤ (ji63) then (if (ji63) < (t489.length : Int) then (if 0 < ((rd_L5 t489 (ji63)).length : Int) then (if (rd (rd_L5 t489 (ji63)) 0) ≥ (rd (rd_L5 t489 x122_2) 0) then (some false) else (if 1 < ((rd_L5 t489 (ji63)).length : Int) then (if (rd (rd_L5 t489 (ji63)) 1) ≥ (rd (rd_L5 t489 x122_2) 1) then (some false) else (laws_FnCommon.l0 k2 l1 t483 t484 t489 t490 t489 (t489.length : Int) (wrap64 (x122_2 + 1)))) else (none))) else (none)) else (none)) else (none)) = some r := by first | (rw [hji63] at H; exact H) | (simp only [hji63] at H ⊢; exact H)
                                                           have hji63w : (IntKind.i64.wrap (x122_2 - 1)) = ji63 := (i64_w _).trans hji63
                                                           by_cases c64 : 0 ≤ (ji63)
                                                           ·as_aux_lemma =>
                                                              rw [if_pos c64] at H
                                                              have c64b0 : decide (0 ≤ (ji63)) = true := decide_eq_true c64
                                                              clear c64
                                                              by_cases c65 : (ji63) < (t489.length : Int)
                                                              ·as_aux_lemma =>
                                                                 rw [if_pos c65] at H
                                                                 have c65b0 : decide ((ji63) < (t489.length : Int)) = true := decide_eq_true c65
                                                                 clear c65
                                                                 by_cases c66 : 0 < ((rd_L5 t489 (ji63)).length : Int)
                                                                 ·as_aux_lemma =>
                                                                    rw [if_pos c66] at H
                                                                    have c66b0 : decide (0 < ((rd_L5 t489 (ji63)).length : Int)) = true := decide_eq_true c66
                                                                    have c66b1 : decide (0 < (rd_L5 t489 (ji63)).length) = true := decide_eq_true (by omega)
                                                                    clear c66
                                                                    by_cases c67 : (rd (rd_L5 t489 (ji63)) 0) ≥ (rd (rd_L5 t489 x122_2) 0)
                                                                    ·as_aux_lemma =>
                                                                       rw [if_pos c67] at H
                                                                       have c67b0 : decide ((rd (rd_L5 t489 x122_2) 0) ≤ (rd (rd_L5 t489 (ji63)) 0)) = true := decide_eq_true c67
                                                                       clear c67
                                                                       exact absurd (show false = true from (Option.some.inj H).trans HR_.out) Bool.false_ne_true
                                                                    ·as_aux_lemma =>
                                                                       rw [if_neg c67] at H
                                                                       have c67b0 : decide ((rd (rd_L5 t489 x122_2) 0) ≤ (rd (rd_L5 t489 (ji63)) 0)) = false := decide_eq_false c67
                                                                       clear c67
                                                                       by_cases c68 : 1 < ((rd_L5 t489 (ji63)).length : Int)
                                                                       ·as_aux_lemma =>
                                                                          rw [if_pos c68] at H
                                                                          have c68b0 : decide (1 < ((rd_L5 t489 (ji63)).length : Int)) = true := decide_eq_true c68
                                                                          have c68b1 : decide (1 < (rd_L5 t489 (ji63)).length) = true := decide_eq_true (by omega)
                                                                          clear c68
                                                                          by_cases c69 : (rd (rd_L5 t489 (ji63)) 1) ≥ (rd (rd_L5 t489 x122_2) 1)
                                                                          ·as_aux_lemma =>
                                                                             rw [if_pos c69] at H
                                                                             have c69b0 : decide ((rd (rd_L5 t489 x122_2) 1) ≤ (rd (rd_L5 t489 (ji63)) 1)) = true := decide_eq_true c69
                                                                             clear c69
                                                                             exact absurd (show false = true from (Option.some.inj H).trans HR_.out) Bool.false_ne_true
                                                                          ·as_aux_lemma =>
                                                                             rw [if_neg c69] at H
                                                                             have c69b0 : decide ((rd (rd_L5 t489 x122_2) 1) ≤ (rd (rd_L5 t489 (ji63)) 1)) = false := decide_eq_false c69
                                                                             clear c69
                                                                             have H' := am H
                                                                             clear H
                                                                             have p504 : 0 ≤ (x122_2 : Int) := oa
                                                                             have q504 : x122_2 < (t489.length : Int) := oa
                                                                             obtain ⟨ad504, A504_0, c504_0, e504, hx504_0, hl504_0, hi504_0⟩ := at_L5 (Kd.S_reads' HO_120.out).2.2 x122_2 p504 q504
                                                                             cases e504
                                                                             obtain ⟨ce504, hce504, hMe504, hcc504⟩ := Kd.S_get HO_120.out [] x122_2 p504 (by first | exact q504 | exact oa | (have e_ := (Kd.S_reads' HO_120.out).1; omega))
                                                                             obtain ⟨ve504_0, rfl, ge504_0⟩ := hMe504
                                                                             have hv504_0 := hcc504 0 _ rfl
                                                                             rw [Nat.add_zero, show ((Kd.slice 3 (Kd.int .i64))).sz = 1 from rfl, Nat.mul_one] at hv504_0
                                                                             replace hv504_0 := Option.some.inj (hv504_0.symm.trans hx504_0)
                                                                             rw [hv504_0] at ge504_0
                                                                             have HL504_0 := am (show Kd.R (Kd.int .i64) 3 _ _ _ _ (rd_L5 t489 x122_2) from ge504_0)
                                                                             clear hv504_0 ge504_0
                                                                             clear hcc504 hce504
                                                                             have HR504_0 := am hi504_0
                                                                             have HC504_0 := am hl504_0
                                                                             clear hi504_0 hl504_0
                                                                             replace p504 := eq_true p504
                                                                             replace q504 := eq_true q504
                                                                             have p505 : 0 ≤ (0 : Int) := (by omega)
                                                                             have q505 : 0 < ((rd_L5 t489 x122_2).length : Int) := oa
                                                                             obtain ⟨ad505, e505, hx505_0⟩ := Kd.at_int (by repeat (first | (with_reducible exact HR504_0.out) | (with_reducible refine Kd.C_alloc ?_ _) | (with_reducible refine Kd.C_drewN ?_ _) | (with_reducible refine Kd.C_drew ?_) | exact HR504_0.out)) 0 p505 q505
                                                                             cases e505
                                                                             have qi505 : (0 < (rd_L5 t489 x122_2).length) = True := eq_true (by omega)
                                                                             (try rw [show ((0 : Int)).toNat = 0 from rfl] at hx505_0)
                                                                             (try rw [Addr.add_zero'] at hx505_0)
                                                                             replace p505 := eq_true p505
                                                                             replace q505 := eq_true q505
                                                                             have p506 : 0 ≤ (0 : Int) := (by omega)
                                                                             have q506 : 0 < ((rd_L5 t489 x122_2).length : Int) := oa
                                                                             obtain ⟨ad506, e506, hx506_0⟩ := Kd.at_int (by repeat (first | (with_reducible exact HR504_0.out) | (with_reducible refine Kd.C_alloc ?_ _) | (with_reducible refine Kd.C_drewN ?_ _) | (with_reducible refine Kd.C_drew ?_) | exact HR504_0.out)) 0 p506 q506
                                                                             obtain rfl : ad505 = ad506 := (by injection e506)
                                                                             have qi506 : (0 < (rd_L5 t489 x122_2).length) = True := eq_true (by omega)
                                                                             (try rw [show ((0 : Int)).toNat = 0 from rfl] at hx506_0)
                                                                             (try rw [Addr.add_zero'] at hx506_0)
                                                                             replace p506 := eq_true p506
                                                                             replace q506 := eq_true q506
                                                                             have p507 : 0 ≤ (1 : Int) := (by omega)
                                                                             have q507 : 1 < ((rd_L5 t489 x122_2).length : Int) := oa
                                                                             obtain ⟨ad507, e507, hx507_0⟩ := Kd.at_int (by repeat (first | (with_reducible exact HR504_0.out) | (with_reducible refine Kd.C_alloc ?_ _) | (with_reducible refine Kd.C_drewN ?_ _) | (with_reducible refine Kd.C_drew ?_) | exact HR504_0.out)) 1 p507 q507
                                                                             obtain rfl : ad505 = ad507 := (by injection e507)
                                                                             (try simp only [show (1 : Int).toNat = 1 from rfl, Nat.reduceMul, Nat.reduceEqDiff, Go.Addr.add, ↓reduceIte] at hx507_0)
                                                                             have qi507 : (1 < (rd_L5 t489 x122_2).length) = True := eq_true (by omega)
                                                                             (try rw [show ((1 : Int)).toNat = 1 from rfl] at hx507_0)
                                                                             replace p507 := eq_true p507
                                                                             replace q507 := eq_true q507
                                                                             have p508 : 0 ≤ (1 : Int) := (by omega)
                                                                             have q508 : 1 < ((rd_L5 t489 x122_2).length : Int) := oa
                                                                             obtain ⟨ad508, e508, hx508_0⟩ := Kd.at_int (by repeat (first | (with_reducible exact HR504_0.out) | (with_reducible refine Kd.C_alloc ?_ _) | (with_reducible refine Kd.C_drewN ?_ _) | (with_reducible refine Kd.C_drew ?_) | exact HR504_0.out)) 1 p508 q508
                                                                             obtain rfl : ad505 = ad508 := (by injection e508)
                                                                             (try simp only [show (1 : Int).toNat = 1 from rfl, Nat.reduceMul, Nat.reduceEqDiff, Go.Addr.add, ↓reduceIte] at hx508_0)
                                                                             have qi508 : (1 < (rd_L5 t489 x122_2).length) = True := eq_true (by omega)
                                                                             (try rw [show ((1 : Int)).toNat = 1 from rfl] at hx508_0)
                                                                             replace p508 := eq_true p508
                                                                             replace q508 := eq_true q508
                                                                             have p509 : 0 ≤ (0 : Int) := (by omega)
                                                                             have q509 : 0 < ((rd_L5 t489 x122_2).length : Int) := oa
                                                                             obtain ⟨ad509, e509, hx509_0⟩ := Kd.at_int (by repeat (first | (with_reducible exact HR504_0.out) | (with_reducible refine Kd.C_alloc ?_ _) | (with_reducible refine Kd.C_drewN ?_ _) | (with_reducible refine Kd.C_drew ?_) | exact HR504_0.out)) 0 p509 q509
                                                                             obtain rfl : ad505 = ad509 := (by injection e509)
                                                                             have qi509 : (0 < (rd_L5 t489 x122_2).length) = True := eq_true (by omega)
                                                                             (try rw [show ((0 : Int)).toNat = 0 from rfl] at hx509_0)
                                                                             (try rw [Addr.add_zero'] at hx509_0)
                                                                             replace p509 := eq_true p509
                                                                             replace q509 := eq_true q509
                                                                             have p510 : 0 ≤ ((rd (rd_L5 t489 x122_2) 0) : Int) := oa
                                                                             have q510 : (rd (rd_L5 t489 x122_2) 0) < (t483.length : Int) := oa
                                                                             obtain ⟨ad510, e510, hx510_0⟩ := Kd.at_string (Kd.R_reads' HO_5.out).2.2 (rd (rd_L5 t489 x122_2) 0) p510 q510
                                                                             cases e510
                                                                             replace p510 := eq_true p510
                                                                             replace q510 := eq_true q510
                                                                             have p511 : 0 ≤ (1 : Int) := (by omega)
                                                                             have q511 : 1 < ((rd_L5 t489 x122_2).length : Int) := oa
                                                                             obtain ⟨ad511, e511, hx511_0⟩ := Kd.at_int (by repeat (first | (with_reducible exact HR504_0.out) | (with_reducible refine Kd.C_alloc ?_ _) | (with_reducible refine Kd.C_drewN ?_ _) | (with_reducible refine Kd.C_drew ?_) | exact HR504_0.out)) 1 p511 q511
                                                                             obtain rfl : ad505 = ad511 := (by injection e511)
                                                                             (try simp only [show (1 : Int).toNat = 1 from rfl, Nat.reduceMul, Nat.reduceEqDiff, Go.Addr.add, ↓reduceIte] at hx511_0)
                                                                             have qi511 : (1 < (rd_L5 t489 x122_2).length) = True := eq_true (by omega)
                                                                             (try rw [show ((1 : Int)).toNat = 1 from rfl] at hx511_0)
                                                                             replace p511 := eq_true p511
                                                                             replace q511 := eq_true q511
                                                                             have p512 : 0 ≤ ((rd (rd_L5 t489 x122_2) 1) : Int) := oa
                                                                             have q512 : (rd (rd_L5 t489 x122_2) 1) < (t484.length : Int) := oa
                                                                             obtain ⟨ad512, e512, hx512_0⟩ := Kd.at_string (Kd.R_reads' HO_6.out).2.2 (rd (rd_L5 t489 x122_2) 1) p512 q512
                                                                             cases e512
                                                                             replace p512 := eq_true p512
                                                                             replace q512 := eq_true q512
                                                                             have p513 : 0 ≤ ((ji63) : Int) := oa
                                                                             have q513 : (ji63) < (t489.length : Int) := oa
                                                                             obtain ⟨ad513, A513_0, c513_0, e513, hx513_0, hl513_0, hi513_0⟩ := at_L5 (Kd.S_reads' HO_7.out).2.2 (ji63) p513 q513
                                                                             obtain rfl : ad504 = ad513 := (by injection e513)
                                                                             obtain ⟨ce513, hce513, hMe513, hcc513⟩ := Kd.S_get HO_7.out [] (ji63) p513 (by first | exact q513 | exact oa | (have e_ := (Kd.S_reads' HO_7.out).1; omega))
                                                                             obtain ⟨ve513_0, rfl, ge513_0⟩ := hMe513
                                                                             have hv513_0 := hcc513 0 _ rfl
                                                                             rw [Nat.add_zero, show ((Kd.slice 3 (Kd.int .i64))).sz = 1 from rfl, Nat.mul_one] at hv513_0
                                                                             replace hv513_0 := Option.some.inj (hv513_0.symm.trans hx513_0)
                                                                             rw [hv513_0] at ge513_0
                                                                             have HL513_0 := am (show Kd.R (Kd.int .i64) 3 _ _ _ _ (rd_L5 t489 (ji63)) from ge513_0)
                                                                             clear hv513_0 ge513_0
                                                                             clear hcc513 hce513
                                                                             have HR513_0 := am hi513_0
                                                                             have HC513_0 := am hl513_0
                                                                             clear hi513_0 hl513_0
                                                                             replace p513 := eq_true p513
                                                                             replace q513 := eq_true q513
                                                                             have p514 : 0 ≤ (0 : Int) := (by omega)
                                                                             have q514 : 0 < ((rd_L5 t489 (ji63)).length : Int) := oa
                                                                             obtain ⟨ad514, e514, hx514_0⟩ := Kd.at_int (by repeat (first | (with_reducible exact HR513_0.out) | (with_reducible refine Kd.C_alloc ?_ _) | (with_reducible refine Kd.C_drewN ?_ _) | (with_reducible refine Kd.C_drew ?_) | exact HR513_0.out)) 0 p514 q514
                                                                             cases e514
                                                                             have qi514 : (0 < (rd_L5 t489 (ji63)).length) = True := eq_true (by omega)
                                                                             (try rw [show ((0 : Int)).toNat = 0 from rfl] at hx514_0)
                                                                             (try rw [Addr.add_zero'] at hx514_0)
                                                                             replace p514 := eq_true p514
                                                                             replace q514 := eq_true q514
                                                                             have p515 : 0 ≤ (0 : Int) := (by omega)
                                                                             have q515 : 0 < ((rd_L5 t489 x122_2).length : Int) := oa
                                                                             obtain ⟨ad515, e515, hx515_0⟩ := Kd.at_int (by repeat (first | (with_reducible exact HR504_0.out) | (with_reducible refine Kd.C_alloc ?_ _) | (with_reducible refine Kd.C_drewN ?_ _) | (with_reducible refine Kd.C_drew ?_) | exact HR504_0.out)) 0 p515 q515
                                                                             obtain rfl : ad505 = ad515 := (by injection e515)
                                                                             have qi515 : (0 < (rd_L5 t489 x122_2).length) = True := eq_true (by omega)
                                                                             (try rw [show ((0 : Int)).toNat = 0 from rfl] at hx515_0)
                                                                             (try rw [Addr.add_zero'] at hx515_0)
                                                                             replace p515 := eq_true p515
                                                                             replace q515 := eq_true q515
                                                                             have p516 : 0 ≤ ((ji63) : Int) := oa
                                                                             have q516 : (ji63) < (t489.length : Int) := oa
                                                                             obtain ⟨ad516, A516_0, c516_0, e516, hx516_0, hl516_0, hi516_0⟩ := at_L5 (Kd.S_reads' HO_7.out).2.2 (ji63) p516 q516
                                                                             obtain rfl : ad504 = ad516 := (by injection e516)
                                                                             obtain ⟨ce516, hce516, hMe516, hcc516⟩ := Kd.S_get HO_7.out [] (ji63) p516 (by first | exact q516 | exact oa | (have e_ := (Kd.S_reads' HO_7.out).1; omega))
                                                                             obtain ⟨ve516_0, rfl, ge516_0⟩ := hMe516
                                                                             have hv516_0 := hcc516 0 _ rfl
                                                                             rw [Nat.add_zero, show ((Kd.slice 3 (Kd.int .i64))).sz = 1 from rfl, Nat.mul_one] at hv516_0
                                                                             replace hv516_0 := Option.some.inj (hv516_0.symm.trans hx516_0)
                                                                             rw [hv516_0] at ge516_0
                                                                             have HL516_0 := am (show Kd.R (Kd.int .i64) 3 _ _ _ _ (rd_L5 t489 (ji63)) from ge516_0)
                                                                             clear hv516_0 ge516_0
                                                                             clear hcc516 hce516
                                                                             have HR516_0 := am hi516_0
                                                                             have HC516_0 := am hl516_0
                                                                             clear hi516_0 hl516_0
                                                                             replace p516 := eq_true p516
                                                                             replace q516 := eq_true q516
                                                                             have ea_ := Option.some.inj (hx513_0.symm.trans hx516_0)
                                                                             injection ea_ with ea_ en_ ec_
                                                                             subst ea_
                                                                             subst ec_
                                                                             clear en_
                                                                             have p517 : 0 ≤ (1 : Int) := (by omega)
                                                                             have q517 : 1 < ((rd_L5 t489 (ji63)).length : Int) := oa
                                                                             obtain ⟨ad517, e517, hx517_0⟩ := Kd.at_int (by repeat (first | (with_reducible exact HR516_0.out) | (with_reducible refine Kd.C_alloc ?_ _) | (with_reducible refine Kd.C_drewN ?_ _) | (with_reducible refine Kd.C_drew ?_) | exact HR516_0.out)) 1 p517 q517
                                                                             cases e517
                                                                             (try simp only [show (1 : Int).toNat = 1 from rfl, Nat.reduceMul, Nat.reduceEqDiff, Go.Addr.add, ↓reduceIte] at hx517_0)
                                                                             have qi517 : (1 < (rd_L5 t489 (ji63)).length) = True := eq_true (by omega)
                                                                             (try rw [show ((1 : Int)).toNat = 1 from rfl] at hx517_0)
                                                                             replace p517 := eq_true p517
                                                                             replace q517 := eq_true q517
                                                                             have p518 : 0 ≤ (1 : Int) := (by omega)
                                                                             have q518 : 1 < ((rd_L5 t489 x122_2).length : Int) := oa
                                                                             obtain ⟨ad518, e518, hx518_0⟩ := Kd.at_int (by repeat (first | (with_reducible exact HR504_0.out) | (with_reducible refine Kd.C_alloc ?_ _) | (with_reducible refine Kd.C_drewN ?_ _) | (with_reducible refine Kd.C_drew ?_) | exact HR504_0.out)) 1 p518 q518
                                                                             obtain rfl : ad505 = ad518 := (by injection e518)
                                                                             (try simp only [show (1 : Int).toNat = 1 from rfl, Nat.reduceMul, Nat.reduceEqDiff, Go.Addr.add, ↓reduceIte] at hx518_0)
                                                                             have qi518 : (1 < (rd_L5 t489 x122_2).length) = True := eq_true (by omega)
                                                                             (try rw [show ((1 : Int)).toNat = 1 from rfl] at hx518_0)
                                                                             replace p518 := eq_true p518
                                                                             replace q518 := eq_true q518
                                                                             go_wp2
                                                                             repeat (go_quiet (fail); try go_wp2)
                                                                             go_roundg k2
                                                                             case measure => have := HJ10.out; have := HK2.out; omega
                                                                             case rel => exact ⟨(wrap64 (x122_2 + 1)), zf, H', ⟨by have := HJ10.out; have := HK2.out; omega⟩, ⟨by (with_reducible repeat (first | apply Kd.R_alloc | apply Kd.R_drewN | apply Kd.R_drew)); exact HO_5.out⟩, ⟨by (with_reducible repeat (first | apply Kd.R_alloc | apply Kd.R_drewN | apply Kd.R_drew)); exact HO_6.out⟩, ⟨by (with_reducible repeat (first | apply Kd.S_alloc | apply Kd.S_drewN | apply Kd.S_drew)); exact HO_7.out⟩, ⟨by (with_reducible repeat (first | apply Kd.S_alloc | apply Kd.S_drewN | apply Kd.S_drew)); exact HO_120.out⟩, ⟨by repeat (first | (with_reducible first | exact HB.out | apply below_alloc | apply pw_below_drewN | apply below_drew1) | exact HB.out)⟩⟩
                                                                       ·rw [if_neg c68] at H
                                                                        exact absurd H (by simp)
                                                                 ·rw [if_neg c66] at H
                                                                  exact absurd H (by simp)
                                                              ·rw [if_neg c65] at H
                                                               exact absurd H (by simp)
                                                           ·rw [if_neg c64] at H
                                                            exact absurd H (by simp)
                                                        ·as_aux_lemma =>
                                                           rw [if_neg c62] at H
                                                           have c62b0 : decide (0 < x122_2) = false := decide_eq_false c62
                                                           clear c62
                                                           have H' := am H
                                                           clear H
                                                           have p504 : 0 ≤ (x122_2 : Int) := oa
                                                           have q504 : x122_2 < (t489.length : Int) := oa
                                                           obtain ⟨ad504, A504_0, c504_0, e504, hx504_0, hl504_0, hi504_0⟩ := at_L5 (Kd.S_reads' HO_120.out).2.2 x122_2 p504 q504
                                                           cases e504
                                                           obtain ⟨ce504, hce504, hMe504, hcc504⟩ := Kd.S_get HO_120.out [] x122_2 p504 (by first | exact q504 | exact oa | (have e_ := (Kd.S_reads' HO_120.out).1; omega))
                                                           obtain ⟨ve504_0, rfl, ge504_0⟩ := hMe504
                                                           have hv504_0 := hcc504 0 _ rfl
                                                           rw [Nat.add_zero, show ((Kd.slice 3 (Kd.int .i64))).sz = 1 from rfl, Nat.mul_one] at hv504_0
                                                           replace hv504_0 := Option.some.inj (hv504_0.symm.trans hx504_0)
                                                           rw [hv504_0] at ge504_0
                                                           have HL504_0 := am (show Kd.R (Kd.int .i64) 3 _ _ _ _ (rd_L5 t489 x122_2) from ge504_0)
                                                           clear hv504_0 ge504_0
                                                           clear hcc504 hce504
                                                           have HR504_0 := am hi504_0
                                                           have HC504_0 := am hl504_0
                                                           clear hi504_0 hl504_0
                                                           replace p504 := eq_true p504
                                                           replace q504 := eq_true q504
                                                           have p505 : 0 ≤ (0 : Int) := (by omega)
                                                           have q505 : 0 < ((rd_L5 t489 x122_2).length : Int) := oa
                                                           obtain ⟨ad505, e505, hx505_0⟩ := Kd.at_int (by repeat (first | (with_reducible exact HR504_0.out) | (with_reducible refine Kd.C_alloc ?_ _) | (with_reducible refine Kd.C_drewN ?_ _) | (with_reducible refine Kd.C_drew ?_) | exact HR504_0.out)) 0 p505 q505
                                                           cases e505
                                                           have qi505 : (0 < (rd_L5 t489 x122_2).length) = True := eq_true (by omega)
                                                           (try rw [show ((0 : Int)).toNat = 0 from rfl] at hx505_0)
                                                           (try rw [Addr.add_zero'] at hx505_0)
                                                           replace p505 := eq_true p505
                                                           replace q505 := eq_true q505
                                                           have p506 : 0 ≤ (0 : Int) := (by omega)
                                                           have q506 : 0 < ((rd_L5 t489 x122_2).length : Int) := oa
                                                           obtain ⟨ad506, e506, hx506_0⟩ := Kd.at_int (by repeat (first | (with_reducible exact HR504_0.out) | (with_reducible refine Kd.C_alloc ?_ _) | (with_reducible refine Kd.C_drewN ?_ _) | (with_reducible refine Kd.C_drew ?_) | exact HR504_0.out)) 0 p506 q506
                                                           obtain rfl : ad505 = ad506 := (by injection e506)
                                                           have qi506 : (0 < (rd_L5 t489 x122_2).length) = True := eq_true (by omega)
                                                           (try rw [show ((0 : Int)).toNat = 0 from rfl] at hx506_0)
                                                           (try rw [Addr.add_zero'] at hx506_0)
                                                           replace p506 := eq_true p506
                                                           replace q506 := eq_true q506
                                                           have p507 : 0 ≤ (1 : Int) := (by omega)
                                                           have q507 : 1 < ((rd_L5 t489 x122_2).length : Int) := oa
                                                           obtain ⟨ad507, e507, hx507_0⟩ := Kd.at_int (by repeat (first | (with_reducible exact HR504_0.out) | (with_reducible refine Kd.C_alloc ?_ _) | (with_reducible refine Kd.C_drewN ?_ _) | (with_reducible refine Kd.C_drew ?_) | exact HR504_0.out)) 1 p507 q507
                                                           obtain rfl : ad505 = ad507 := (by injection e507)
                                                           (try simp only [show (1 : Int).toNat = 1 from rfl, Nat.reduceMul, Nat.reduceEqDiff, Go.Addr.add, ↓reduceIte] at hx507_0)
                                                           have qi507 : (1 < (rd_L5 t489 x122_2).length) = True := eq_true (by omega)
                                                           (try rw [show ((1 : Int)).toNat = 1 from rfl] at hx507_0)
                                                           replace p507 := eq_true p507
                                                           replace q507 := eq_true q507
                                                           have p508 : 0 ≤ (1 : Int) := (by omega)
                                                           have q508 : 1 < ((rd_L5 t489 x122_2).length : Int) := oa
                                                           obtain ⟨ad508, e508, hx508_0⟩ := Kd.at_int (by repeat (first | (with_reducible exact HR504_0.out) | (with_reducible refine Kd.C_alloc ?_ _) | (with_reducible refine Kd.C_drewN ?_ _) | (with_reducible refine Kd.C_drew ?_) | exact HR504_0.out)) 1 p508 q508
                                                           obtain rfl : ad505 = ad508 := (by injection e508)
                                                           (try simp only [show (1 : Int).toNat = 1 from rfl, Nat.reduceMul, Nat.reduceEqDiff, Go.Addr.add, ↓reduceIte] at hx508_0)
                                                           have qi508 : (1 < (rd_L5 t489 x122_2).length) = True := eq_true (by omega)
                                                           (try rw [show ((1 : Int)).toNat = 1 from rfl] at hx508_0)
                                                           replace p508 := eq_true p508
                                                           replace q508 := eq_true q508
                                                           have p509 : 0 ≤ (0 : Int) := (by omega)
                                                           have q509 : 0 < ((rd_L5 t489 x122_2).length : Int) := oa
                                                           obtain ⟨ad509, e509, hx509_0⟩ := Kd.at_int (by repeat (first | (with_reducible exact HR504_0.out) | (with_reducible refine Kd.C_alloc ?_ _) | (with_reducible refine Kd.C_drewN ?_ _) | (with_reducible refine Kd.C_drew ?_) | exact HR504_0.out)) 0 p509 q509
                                                           obtain rfl : ad505 = ad509 := (by injection e509)
                                                           have qi509 : (0 < (rd_L5 t489 x122_2).length) = True := eq_true (by omega)
                                                           (try rw [show ((0 : Int)).toNat = 0 from rfl] at hx509_0)
                                                           (try rw [Addr.add_zero'] at hx509_0)
                                                           replace p509 := eq_true p509
                                                           replace q509 := eq_true q509
                                                           have p510 : 0 ≤ ((rd (rd_L5 t489 x122_2) 0) : Int) := oa
                                                           have q510 : (rd (rd_L5 t489 x122_2) 0) < (t483.length : Int) := oa
                                                           obtain ⟨ad510, e510, hx510_0⟩ := Kd.at_string (Kd.R_reads' HO_5.out).2.2 (rd (rd_L5 t489 x122_2) 0) p510 q510
                                                           cases e510
                                                           replace p510 := eq_true p510
                                                           replace q510 := eq_true q510
                                                           have p511 : 0 ≤ (1 : Int) := (by omega)
                                                           have q511 : 1 < ((rd_L5 t489 x122_2).length : Int) := oa
                                                           obtain ⟨ad511, e511, hx511_0⟩ := Kd.at_int (by repeat (first | (with_reducible exact HR504_0.out) | (with_reducible refine Kd.C_alloc ?_ _) | (with_reducible refine Kd.C_drewN ?_ _) | (with_reducible refine Kd.C_drew ?_) | exact HR504_0.out)) 1 p511 q511
                                                           obtain rfl : ad505 = ad511 := (by injection e511)
                                                           (try simp only [show (1 : Int).toNat = 1 from rfl, Nat.reduceMul, Nat.reduceEqDiff, Go.Addr.add, ↓reduceIte] at hx511_0)
                                                           have qi511 : (1 < (rd_L5 t489 x122_2).length) = True := eq_true (by omega)
                                                           (try rw [show ((1 : Int)).toNat = 1 from rfl] at hx511_0)
                                                           replace p511 := eq_true p511
                                                           replace q511 := eq_true q511
                                                           have p512 : 0 ≤ ((rd (rd_L5 t489 x122_2) 1) : Int) := oa
                                                           have q512 : (rd (rd_L5 t489 x122_2) 1) < (t484.length : Int) := oa
                                                           obtain ⟨ad512, e512, hx512_0⟩ := Kd.at_string (Kd.R_reads' HO_6.out).2.2 (rd (rd_L5 t489 x122_2) 1) p512 q512
                                                           cases e512
                                                           replace p512 := eq_true p512
                                                           replace q512 := eq_true q512
                                                           go_wp2
                                                           repeat (go_quiet (fail); try go_wp2)
                                                           go_roundg k2
                                                           case measure => have := HJ10.out; have := HK2.out; omega
                                                           case rel => exact ⟨(wrap64 (x122_2 + 1)), zf, H', ⟨by have := HJ10.out; have := HK2.out; omega⟩, ⟨by (with_reducible repeat (first | apply Kd.R_alloc | apply Kd.R_drewN | apply Kd.R_drew)); exact HO_5.out⟩, ⟨by (with_reducible repeat (first | apply Kd.R_alloc | apply Kd.R_drewN | apply Kd.R_drew)); exact HO_6.out⟩, ⟨by (with_reducible repeat (first | apply Kd.S_alloc | apply Kd.S_drewN | apply Kd.S_drew)); exact HO_7.out⟩, ⟨by (with_reducible repeat (first | apply Kd.S_alloc | apply Kd.S_drewN | apply Kd.S_drew)); exact HO_120.out⟩, ⟨by repeat (first | (with_reducible first | exact HB.out | apply below_alloc | apply pw_below_drewN | apply below_drew1) | exact HB.out)⟩⟩
                                                     ·as_aux_lemma =>
                                                        rw [if_neg c61] at H
                                                        have c61b0 : ((rdOf ByteArray.empty t483 (rd (rd_L5 t489 x122_2) 0)).toList == (rdOf ByteArray.empty t484 (rd (rd_L5 t489 x122_2) 1)).toList) = false := beq_eq_false_iff_ne.mpr c61
                                                        have c61b1 : ((rdOf ByteArray.empty t483 (rd (rd_L5 t489 x122_2) 0)).toList != (rdOf ByteArray.empty t484 (rd (rd_L5 t489 x122_2) 1)).toList) = true := bne_iff_ne.mpr c61
                                                        exact absurd (show false = true from (Option.some.inj H).trans HR_.out) Bool.false_ne_true
                                                  ·rw [if_neg c60] at H
                                                   exact absurd H (by simp)
                                               ·rw [if_neg c59] at H
                                                exact absurd H (by simp)
                                            ·rw [if_neg c58] at H
                                             exact absurd H (by simp)
                                         ·rw [if_neg c57] at H
                                          exact absurd H (by simp)
                                ·rw [if_neg c54] at H
                                 exact absurd H (by simp)
                       ·rw [if_neg c51] at H
                        exact absurd H (by simp)
                    ·as_aux_lemma =>
                       rw [if_neg c50] at H
                       have c50b0 : (((rd_L5 t489 x122_2).length : Int) == 2) = false := beq_eq_false_iff_ne.mpr c50
                       have c50b1 : (((rd_L5 t489 x122_2).length : Int) != 2) = true := bne_iff_ne.mpr c50
                       exact absurd (show false = true from (Option.some.inj H).trans HR_.out) Bool.false_ne_true
                 ·rw [if_neg c49] at H
                  exact absurd H (by simp)
              ·rw [if_neg c48] at H
               exact absurd H (by simp)
           ·as_aux_lemma =>
              rw [if_neg c47] at H
              have c47b0 : decide (x122_2 < (t489.length : Int)) = false := decide_eq_false c47
              clear c47
              have HC70 := am H
              clear H
              go_upto_if 204 with (fail)
              repeat (go_quiet (fail); go_upto_if 204 with (fail))
              go_cut [] (fun wc => ∃ (kq : Nat), Aside0 (laws_FnCommon.j3 kq l1 = some r) ∧ Aside0 (kq ≤ k2) ∧ Aside0 (Below w.heap.size w wc))
              case first =>
               have H := HC70.out
               clear HC70
               by_cases c71 : t490 = true
               ·as_aux_lemma =>
                  subst c71
                  have H1 : ((spec_DrawCommonLines.f k2 l1).bind fun bt519 => ((impl_FarApart.f k2 t483 t484).bind fun bt525 => ((impl_FarApart.f k2 t484 bt519.1).bind fun bt527 => ((impl_FarApart.f k2 t483 bt519.1).bind fun bt529 => (if bt527.2 = true then (if bt529.2 = true then (if bt525.2 = true then (laws_FnCommon.j2 k2 l1 t483 t484 (decide (bt529.1 > (wrap64 (bt525.1 + bt527.1))))) else (laws_FnCommon.j2 k2 l1 t483 t484 true)) else (laws_FnCommon.j2 k2 l1 t483 t484 false)) else (laws_FnCommon.j2 k2 l1 t483 t484 false)))))) = some r := by rw [if_pos rfl] at H; exact H
                  clear H
                  have H := H1
                  clear H1
                  replace H := Option.bind_eq_some_iff.mp H
                  obtain ⟨⟨t519, t520⟩, A720, H⟩ := H
                  replace H : ((impl_FarApart.f k2 t483 t484).bind fun bt525 => ((impl_FarApart.f k2 t484 t519).bind fun bt527 => ((impl_FarApart.f k2 t483 t519).bind fun bt529 => (if bt527.2 = true then (if bt529.2 = true then (if bt525.2 = true then (laws_FnCommon.j2 k2 l1 t483 t484 (decide (bt529.1 > (wrap64 (bt525.1 + bt527.1))))) else (laws_FnCommon.j2 k2 l1 t483 t484 true)) else (laws_FnCommon.j2 k2 l1 t483 t484 false)) else (laws_FnCommon.j2 k2 l1 t483 t484 false))))) = some r := H
                  have A72 := am A720
                  clear A720
                  replace H := Option.bind_eq_some_iff.mp H
                  obtain ⟨⟨t525, t526⟩, A730, H⟩ := H
                  replace H : ((impl_FarApart.f k2 t484 t519).bind fun bt527 => ((impl_FarApart.f k2 t483 t519).bind fun bt529 => (if bt527.2 = true then (if bt529.2 = true then (if t526 = true then (laws_FnCommon.j2 k2 l1 t483 t484 (decide (bt529.1 > (wrap64 (t525 + bt527.1))))) else (laws_FnCommon.j2 k2 l1 t483 t484 true)) else (laws_FnCommon.j2 k2 l1 t483 t484 false)) else (laws_FnCommon.j2 k2 l1 t483 t484 false)))) = some r := H
                  have A73 := am A730
                  clear A730
                  replace H := Option.bind_eq_some_iff.mp H
                  obtain ⟨⟨t527, t528⟩, A740, H⟩ := H
                  replace H : ((impl_FarApart.f k2 t483 t519).bind fun bt529 => (if t528 = true then (if bt529.2 = true then (if t526 = true then (laws_FnCommon.j2 k2 l1 t483 t484 (decide (bt529.1 > (wrap64 (t525 + t527))))) else (laws_FnCommon.j2 k2 l1 t483 t484 true)) else (laws_FnCommon.j2 k2 l1 t483 t484 false)) else (laws_FnCommon.j2 k2 l1 t483 t484 false))) = some r := H
                  have A74 := am A740
                  clear A740
                  replace H := Option.bind_eq_some_iff.mp H
                  obtain ⟨⟨t529, t530⟩, A750, H⟩ := H
                  replace H : (if t528 = true then (if t530 = true then (if t526 = true then (laws_FnCommon.j2 k2 l1 t483 t484 (decide (t529 > (wrap64 (t525 + t527))))) else (laws_FnCommon.j2 k2 l1 t483 t484 true)) else (laws_FnCommon.j2 k2 l1 t483 t484 false)) else (laws_FnCommon.j2 k2 l1 t483 t484 false)) = some r := H
                  have A75 := am A750
                  clear A750
                  have HC76 := am H
                  clear H
                  go_upto_region 22 with (first | (go_at_call 17; (with_reducible refine (spec_DrawCommonLines.calls k2 _ _ l1 t519 t520 _ ?side1 ?side2 A72.out).mono ?_); (case side1 => exact zq (Kd.C_below HR1.out HB.out)); (case side2 => exact HC1.out); rintro e w77 ⟨v521, v523, rfl, ho0, ho1, hb⟩; have n0_ := am (Kd.R_mono (Kd.R_told (Kd.R_told (Kd.R_old (zr HO_5.out) hb) (Kd.R_base ho0)) (Kd.R_base ho1)) (fun _ h_ => h_.1)); have n1_ := am (Kd.R_mono (Kd.R_told (Kd.R_told (Kd.R_old (zr HO_6.out) hb) (Kd.R_base ho0)) (Kd.R_base ho1)) (fun _ h_ => h_.1)); have n2_ := am (Kd.S_below (zs HO_7.out) hb); have n3_ := am (Kd.S_below (zs HO_120.out) hb); have n4_ := am (Kd.R_lower (Kd.R_new' (Kd.R_new' ho0 (Kd.R_lt (zr HO_5.out))) (Kd.R_lt (zr HO_6.out))) (below_size zb)); have n5_ := am (Kd.R_lower (Kd.R_new' (Kd.R_new' ho1 (Kd.R_lt (zr HO_5.out))) (Kd.R_lt (zr HO_6.out))) (below_size zb)); have n6_ := am (below_step zb hb); clear HO_5; clear HO_6; clear HO_7; clear HO_120; clear HB; have HO_5 := n0_; have HO_6 := n1_; have HO_7 := n2_; have HO_120 := n3_; have HO522 := n4_; have HO524 := n5_; have HB := n6_; clear n0_ n1_ n2_ n3_ n4_ n5_ n6_; (try clear hb); (try clear ho0); (try clear ho1)) | (go_at_call 23; (with_reducible refine (impl_FarApart.calls k2 _ _ t483 _ _ t484 t525 t526 _ ?side1 ?side2 ?side3 ?side4 A73.out).mono ?_); (case side1 => repeat (first | exact (Kd.R_reads' HO_5.out).2.2 | (with_reducible refine Kd.C_alloc ?_ _) | (with_reducible refine Kd.C_drewN ?_ _) | (with_reducible refine Kd.C_drew ?_))); (case side2 => exact (Kd.R_reads' HO_5.out).2.1); (case side3 => repeat (first | exact (Kd.R_reads' HO_6.out).2.2 | (with_reducible refine Kd.C_alloc ?_ _) | (with_reducible refine Kd.C_drewN ?_ _) | (with_reducible refine Kd.C_drew ?_))); (case side4 => exact (Kd.R_reads' HO_6.out).2.1); rintro e w78 ⟨rfl, hb⟩; have n0_ := am (Kd.R_below (zr HO_5.out) hb); have n1_ := am (Kd.R_below (zr HO_6.out) hb); have n2_ := am (Kd.S_below (zs HO_7.out) hb); have n3_ := am (Kd.S_below (zs HO_120.out) hb); have n4_ := am (Kd.R_below (zr HO522.out) hb); have n5_ := am (Kd.R_below (zr HO524.out) hb); have n6_ := am (below_step zb hb); clear HO_5; clear HO_6; clear HO_7; clear HO_120; clear HO522; clear HO524; clear HB; have HO_5 := n0_; have HO_6 := n1_; have HO_7 := n2_; have HO_120 := n3_; have HO522 := n4_; have HO524 := n5_; have HB := n6_; clear n0_ n1_ n2_ n3_ n4_ n5_ n6_; (try clear hb); obtain ⟨Ao79, co79, eo79⟩ := Kd.R_slice HO522.out; subst eo79) | (go_at_call 23; (with_reducible refine (impl_FarApart.calls k2 _ _ t484 _ _ t519 t527 t528 _ ?side1 ?side2 ?side3 ?side4 A74.out).mono ?_); (case side1 => repeat (first | exact (Kd.R_reads' HO_6.out).2.2 | (with_reducible refine Kd.C_alloc ?_ _) | (with_reducible refine Kd.C_drewN ?_ _) | (with_reducible refine Kd.C_drew ?_))); (case side2 => exact (Kd.R_reads' HO_6.out).2.1); (case side3 => repeat (first | exact (Kd.R_reads' HO522.out).2.2 | (with_reducible refine Kd.C_alloc ?_ _) | (with_reducible refine Kd.C_drewN ?_ _) | (with_reducible refine Kd.C_drew ?_))); (case side4 => exact (Kd.R_reads' HO522.out).2.1); rintro e w80 ⟨rfl, hb⟩; have n0_ := am (Kd.R_below (zr HO_5.out) hb); have n1_ := am (Kd.R_below (zr HO_6.out) hb); have n2_ := am (Kd.S_below (zs HO_7.out) hb); have n3_ := am (Kd.S_below (zs HO_120.out) hb); have n4_ := am (Kd.R_below (zr HO522.out) hb); have n5_ := am (Kd.R_below (zr HO524.out) hb); have n6_ := am (below_step zb hb); clear HO_5; clear HO_6; clear HO_7; clear HO_120; clear HO522; clear HO524; clear HB; have HO_5 := n0_; have HO_6 := n1_; have HO_7 := n2_; have HO_120 := n3_; have HO522 := n4_; have HO524 := n5_; have HB := n6_; clear n0_ n1_ n2_ n3_ n4_ n5_ n6_; (try clear hb)) | (go_at_call 23; (with_reducible refine (impl_FarApart.calls k2 _ _ t483 _ _ t519 t529 t530 _ ?side1 ?side2 ?side3 ?side4 A75.out).mono ?_); (case side1 => repeat (first | exact (Kd.R_reads' HO_5.out).2.2 | (with_reducible refine Kd.C_alloc ?_ _) | (with_reducible refine Kd.C_drewN ?_ _) | (with_reducible refine Kd.C_drew ?_))); (case side2 => exact (Kd.R_reads' HO_5.out).2.1); (case side3 => repeat (first | exact (Kd.R_reads' HO522.out).2.2 | (with_reducible refine Kd.C_alloc ?_ _) | (with_reducible refine Kd.C_drewN ?_ _) | (with_reducible refine Kd.C_drew ?_))); (case side4 => exact (Kd.R_reads' HO522.out).2.1); rintro e w81 ⟨rfl, hb⟩; have n0_ := am (Kd.R_below (zr HO_5.out) hb); have n1_ := am (Kd.R_below (zr HO_6.out) hb); have n2_ := am (Kd.S_below (zs HO_7.out) hb); have n3_ := am (Kd.S_below (zs HO_120.out) hb); have n4_ := am (Kd.R_below (zr HO522.out) hb); have n5_ := am (Kd.R_below (zr HO524.out) hb); have n6_ := am (below_step zb hb); clear HO_5; clear HO_6; clear HO_7; clear HO_120; clear HO522; clear HO524; clear HB; have HO_5 := n0_; have HO_6 := n1_; have HO_7 := n2_; have HO_120 := n3_; have HO522 := n4_; have HO524 := n5_; have HB := n6_; clear n0_ n1_ n2_ n3_ n4_ n5_ n6_; (try clear hb)))
                  repeat (go_quiet (first | (go_at_call 17; (with_reducible refine (spec_DrawCommonLines.calls k2 _ _ l1 t519 t520 _ ?side1 ?side2 A72.out).mono ?_); (case side1 => exact zq (Kd.C_below HR1.out HB.out)); (case side2 => exact HC1.out); rintro e w77 ⟨v521, v523, rfl, ho0, ho1, hb⟩; have n0_ := am (Kd.R_mono (Kd.R_told (Kd.R_told (Kd.R_old (zr HO_5.out) hb) (Kd.R_base ho0)) (Kd.R_base ho1)) (fun _ h_ => h_.1)); have n1_ := am (Kd.R_mono (Kd.R_told (Kd.R_told (Kd.R_old (zr HO_6.out) hb) (Kd.R_base ho0)) (Kd.R_base ho1)) (fun _ h_ => h_.1)); have n2_ := am (Kd.S_below (zs HO_7.out) hb); have n3_ := am (Kd.S_below (zs HO_120.out) hb); have n4_ := am (Kd.R_lower (Kd.R_new' (Kd.R_new' ho0 (Kd.R_lt (zr HO_5.out))) (Kd.R_lt (zr HO_6.out))) (below_size zb)); have n5_ := am (Kd.R_lower (Kd.R_new' (Kd.R_new' ho1 (Kd.R_lt (zr HO_5.out))) (Kd.R_lt (zr HO_6.out))) (below_size zb)); have n6_ := am (below_step zb hb); clear HO_5; clear HO_6; clear HO_7; clear HO_120; clear HB; have HO_5 := n0_; have HO_6 := n1_; have HO_7 := n2_; have HO_120 := n3_; have HO522 := n4_; have HO524 := n5_; have HB := n6_; clear n0_ n1_ n2_ n3_ n4_ n5_ n6_; (try clear hb); (try clear ho0); (try clear ho1)) | (go_at_call 23; (with_reducible refine (impl_FarApart.calls k2 _ _ t483 _ _ t484 t525 t526 _ ?side1 ?side2 ?side3 ?side4 A73.out).mono ?_); (case side1 => repeat (first | exact (Kd.R_reads' HO_5.out).2.2 | (with_reducible refine Kd.C_alloc ?_ _) | (with_reducible refine Kd.C_drewN ?_ _) | (with_reducible refine Kd.C_drew ?_))); (case side2 => exact (Kd.R_reads' HO_5.out).2.1); (case side3 => repeat (first | exact (Kd.R_reads' HO_6.out).2.2 | (with_reducible refine Kd.C_alloc ?_ _) | (with_reducible refine Kd.C_drewN ?_ _) | (with_reducible refine Kd.C_drew ?_))); (case side4 => exact (Kd.R_reads' HO_6.out).2.1); rintro e w78 ⟨rfl, hb⟩; have n0_ := am (Kd.R_below (zr HO_5.out) hb); have n1_ := am (Kd.R_below (zr HO_6.out) hb); have n2_ := am (Kd.S_below (zs HO_7.out) hb); have n3_ := am (Kd.S_below (zs HO_120.out) hb); have n4_ := am (Kd.R_below (zr HO522.out) hb); have n5_ := am (Kd.R_below (zr HO524.out) hb); have n6_ := am (below_step zb hb); clear HO_5; clear HO_6; clear HO_7; clear HO_120; clear HO522; clear HO524; clear HB; have HO_5 := n0_; have HO_6 := n1_; have HO_7 := n2_; have HO_120 := n3_; have HO522 := n4_; have HO524 := n5_; have HB := n6_; clear n0_ n1_ n2_ n3_ n4_ n5_ n6_; (try clear hb); obtain ⟨Ao79, co79, eo79⟩ := Kd.R_slice HO522.out; subst eo79) | (go_at_call 23; (with_reducible refine (impl_FarApart.calls k2 _ _ t484 _ _ t519 t527 t528 _ ?side1 ?side2 ?side3 ?side4 A74.out).mono ?_); (case side1 => repeat (first | exact (Kd.R_reads' HO_6.out).2.2 | (with_reducible refine Kd.C_alloc ?_ _) | (with_reducible refine Kd.C_drewN ?_ _) | (with_reducible refine Kd.C_drew ?_))); (case side2 => exact (Kd.R_reads' HO_6.out).2.1); (case side3 => repeat (first | exact (Kd.R_reads' HO522.out).2.2 | (with_reducible refine Kd.C_alloc ?_ _) | (with_reducible refine Kd.C_drewN ?_ _) | (with_reducible refine Kd.C_drew ?_))); (case side4 => exact (Kd.R_reads' HO522.out).2.1); rintro e w80 ⟨rfl, hb⟩; have n0_ := am (Kd.R_below (zr HO_5.out) hb); have n1_ := am (Kd.R_below (zr HO_6.out) hb); have n2_ := am (Kd.S_below (zs HO_7.out) hb); have n3_ := am (Kd.S_below (zs HO_120.out) hb); have n4_ := am (Kd.R_below (zr HO522.out) hb); have n5_ := am (Kd.R_below (zr HO524.out) hb); have n6_ := am (below_step zb hb); clear HO_5; clear HO_6; clear HO_7; clear HO_120; clear HO522; clear HO524; clear HB; have HO_5 := n0_; have HO_6 := n1_; have HO_7 := n2_; have HO_120 := n3_; have HO522 := n4_; have HO524 := n5_; have HB := n6_; clear n0_ n1_ n2_ n3_ n4_ n5_ n6_; (try clear hb)) | (go_at_call 23; (with_reducible refine (impl_FarApart.calls k2 _ _ t483 _ _ t519 t529 t530 _ ?side1 ?side2 ?side3 ?side4 A75.out).mono ?_); (case side1 => repeat (first | exact (Kd.R_reads' HO_5.out).2.2 | (with_reducible refine Kd.C_alloc ?_ _) | (with_reducible refine Kd.C_drewN ?_ _) | (with_reducible refine Kd.C_drew ?_))); (case side2 => exact (Kd.R_reads' HO_5.out).2.1); (case side3 => repeat (first | exact (Kd.R_reads' HO522.out).2.2 | (with_reducible refine Kd.C_alloc ?_ _) | (with_reducible refine Kd.C_drewN ?_ _) | (with_reducible refine Kd.C_drew ?_))); (case side4 => exact (Kd.R_reads' HO522.out).2.1); rintro e w81 ⟨rfl, hb⟩; have n0_ := am (Kd.R_below (zr HO_5.out) hb); have n1_ := am (Kd.R_below (zr HO_6.out) hb); have n2_ := am (Kd.S_below (zs HO_7.out) hb); have n3_ := am (Kd.S_below (zs HO_120.out) hb); have n4_ := am (Kd.R_below (zr HO522.out) hb); have n5_ := am (Kd.R_below (zr HO524.out) hb); have n6_ := am (below_step zb hb); clear HO_5; clear HO_6; clear HO_7; clear HO_120; clear HO522; clear HO524; clear HB; have HO_5 := n0_; have HO_6 := n1_; have HO_7 := n2_; have HO_120 := n3_; have HO522 := n4_; have HO524 := n5_; have HB := n6_; clear n0_ n1_ n2_ n3_ n4_ n5_ n6_; (try clear hb))); go_upto_region 22 with (first | (go_at_call 17; (with_reducible refine (spec_DrawCommonLines.calls k2 _ _ l1 t519 t520 _ ?side1 ?side2 A72.out).mono ?_); (case side1 => exact zq (Kd.C_below HR1.out HB.out)); (case side2 => exact HC1.out); rintro e w77 ⟨v521, v523, rfl, ho0, ho1, hb⟩; have n0_ := am (Kd.R_mono (Kd.R_told (Kd.R_told (Kd.R_old (zr HO_5.out) hb) (Kd.R_base ho0)) (Kd.R_base ho1)) (fun _ h_ => h_.1)); have n1_ := am (Kd.R_mono (Kd.R_told (Kd.R_told (Kd.R_old (zr HO_6.out) hb) (Kd.R_base ho0)) (Kd.R_base ho1)) (fun _ h_ => h_.1)); have n2_ := am (Kd.S_below (zs HO_7.out) hb); have n3_ := am (Kd.S_below (zs HO_120.out) hb); have n4_ := am (Kd.R_lower (Kd.R_new' (Kd.R_new' ho0 (Kd.R_lt (zr HO_5.out))) (Kd.R_lt (zr HO_6.out))) (below_size zb)); have n5_ := am (Kd.R_lower (Kd.R_new' (Kd.R_new' ho1 (Kd.R_lt (zr HO_5.out))) (Kd.R_lt (zr HO_6.out))) (below_size zb)); have n6_ := am (below_step zb hb); clear HO_5; clear HO_6; clear HO_7; clear HO_120; clear HB; have HO_5 := n0_; have HO_6 := n1_; have HO_7 := n2_; have HO_120 := n3_; have HO522 := n4_; have HO524 := n5_; have HB := n6_; clear n0_ n1_ n2_ n3_ n4_ n5_ n6_; (try clear hb); (try clear ho0); (try clear ho1)) | (go_at_call 23; (with_reducible refine (impl_FarApart.calls k2 _ _ t483 _ _ t484 t525 t526 _ ?side1 ?side2 ?side3 ?side4 A73.out).mono ?_); (case side1 => repeat (first | exact (Kd.R_reads' HO_5.out).2.2 | (with_reducible refine Kd.C_alloc ?_ _) | (with_reducible refine Kd.C_drewN ?_ _) | (with_reducible refine Kd.C_drew ?_))); (case side2 => exact (Kd.R_reads' HO_5.out).2.1); (case side3 => repeat (first | exact (Kd.R_reads' HO_6.out).2.2 | (with_reducible refine Kd.C_alloc ?_ _) | (with_reducible refine Kd.C_drewN ?_ _) | (with_reducible refine Kd.C_drew ?_))); (case side4 => exact (Kd.R_reads' HO_6.out).2.1); rintro e w78 ⟨rfl, hb⟩; have n0_ := am (Kd.R_below (zr HO_5.out) hb); have n1_ := am (Kd.R_below (zr HO_6.out) hb); have n2_ := am (Kd.S_below (zs HO_7.out) hb); have n3_ := am (Kd.S_below (zs HO_120.out) hb); have n4_ := am (Kd.R_below (zr HO522.out) hb); have n5_ := am (Kd.R_below (zr HO524.out) hb); have n6_ := am (below_step zb hb); clear HO_5; clear HO_6; clear HO_7; clear HO_120; clear HO522; clear HO524; clear HB; have HO_5 := n0_; have HO_6 := n1_; have HO_7 := n2_; have HO_120 := n3_; have HO522 := n4_; have HO524 := n5_; have HB := n6_; clear n0_ n1_ n2_ n3_ n4_ n5_ n6_; (try clear hb); obtain ⟨Ao79, co79, eo79⟩ := Kd.R_slice HO522.out; subst eo79) | (go_at_call 23; (with_reducible refine (impl_FarApart.calls k2 _ _ t484 _ _ t519 t527 t528 _ ?side1 ?side2 ?side3 ?side4 A74.out).mono ?_); (case side1 => repeat (first | exact (Kd.R_reads' HO_6.out).2.2 | (with_reducible refine Kd.C_alloc ?_ _) | (with_reducible refine Kd.C_drewN ?_ _) | (with_reducible refine Kd.C_drew ?_))); (case side2 => exact (Kd.R_reads' HO_6.out).2.1); (case side3 => repeat (first | exact (Kd.R_reads' HO522.out).2.2 | (with_reducible refine Kd.C_alloc ?_ _) | (with_reducible refine Kd.C_drewN ?_ _) | (with_reducible refine Kd.C_drew ?_))); (case side4 => exact (Kd.R_reads' HO522.out).2.1); rintro e w80 ⟨rfl, hb⟩; have n0_ := am (Kd.R_below (zr HO_5.out) hb); have n1_ := am (Kd.R_below (zr HO_6.out) hb); have n2_ := am (Kd.S_below (zs HO_7.out) hb); have n3_ := am (Kd.S_below (zs HO_120.out) hb); have n4_ := am (Kd.R_below (zr HO522.out) hb); have n5_ := am (Kd.R_below (zr HO524.out) hb); have n6_ := am (below_step zb hb); clear HO_5; clear HO_6; clear HO_7; clear HO_120; clear HO522; clear HO524; clear HB; have HO_5 := n0_; have HO_6 := n1_; have HO_7 := n2_; have HO_120 := n3_; have HO522 := n4_; have HO524 := n5_; have HB := n6_; clear n0_ n1_ n2_ n3_ n4_ n5_ n6_; (try clear hb)) | (go_at_call 23; (with_reducible refine (impl_FarApart.calls k2 _ _ t483 _ _ t519 t529 t530 _ ?side1 ?side2 ?side3 ?side4 A75.out).mono ?_); (case side1 => repeat (first | exact (Kd.R_reads' HO_5.out).2.2 | (with_reducible refine Kd.C_alloc ?_ _) | (with_reducible refine Kd.C_drewN ?_ _) | (with_reducible refine Kd.C_drew ?_))); (case side2 => exact (Kd.R_reads' HO_5.out).2.1); (case side3 => repeat (first | exact (Kd.R_reads' HO522.out).2.2 | (with_reducible refine Kd.C_alloc ?_ _) | (with_reducible refine Kd.C_drewN ?_ _) | (with_reducible refine Kd.C_drew ?_))); (case side4 => exact (Kd.R_reads' HO522.out).2.1); rintro e w81 ⟨rfl, hb⟩; have n0_ := am (Kd.R_below (zr HO_5.out) hb); have n1_ := am (Kd.R_below (zr HO_6.out) hb); have n2_ := am (Kd.S_below (zs HO_7.out) hb); have n3_ := am (Kd.S_below (zs HO_120.out) hb); have n4_ := am (Kd.R_below (zr HO522.out) hb); have n5_ := am (Kd.R_below (zr HO524.out) hb); have n6_ := am (below_step zb hb); clear HO_5; clear HO_6; clear HO_7; clear HO_120; clear HO522; clear HO524; clear HB; have HO_5 := n0_; have HO_6 := n1_; have HO_7 := n2_; have HO_120 := n3_; have HO522 := n4_; have HO524 := n5_; have HB := n6_; clear n0_ n1_ n2_ n3_ n4_ n5_ n6_; (try clear hb))))
                  (try simp only [Act.put, List.setIfInBounds_toArray, List.set_cons_zero, List.set_cons_succ])
                  go_cut [242] (fun v242 wc => ∃ (kq : Nat) (x242_75 : Bool), v242 = .bool x242_75 ∧ Aside0 (laws_FnCommon.j2 kq l1 t483 t484 x242_75 = some r) ∧ Aside0 (kq ≤ k2) ∧ Aside0 (Kd.R Kd.string 9 wc w.heap.size (fun k_ => some k_ ≠ ((.slice Ao14 t484.length co14) : Value).ownBlock) (.slice Ao13 t483.length co13) t483) ∧ Aside0 (Kd.R Kd.string 9 wc w.heap.size (fun k_ => some k_ ≠ ((.slice Ao13 t483.length co13) : Value).ownBlock) (.slice Ao14 t484.length co14) t484) ∧ Aside0 (Below w.heap.size w wc))
                  case first =>
                   have H := HC76.out
                   clear HC76
                   by_cases c82 : t528 = true
                   ·as_aux_lemma =>
                      subst c82
                      have H1 : (if t530 = true then (if t526 = true then (laws_FnCommon.j2 k2 l1 t483 t484 (decide (t529 > (wrap64 (t525 + t527))))) else (laws_FnCommon.j2 k2 l1 t483 t484 true)) else (laws_FnCommon.j2 k2 l1 t483 t484 false)) = some r := by rw [if_pos rfl] at H; exact H
                      clear H
                      have H := H1
                      clear H1
                      by_cases c83 : t530 = true
                      ·as_aux_lemma =>
                         subst c83
                         have H1 : (if t526 = true then (laws_FnCommon.j2 k2 l1 t483 t484 (decide (t529 > (wrap64 (t525 + t527))))) else (laws_FnCommon.j2 k2 l1 t483 t484 true)) = some r := by rw [if_pos rfl] at H; exact H
                         clear H
                         have H := H1
                         clear H1
                         by_cases c84 : t526 = true
                         ·as_aux_lemma =>
                            subst c84
                            have H1 : (laws_FnCommon.j2 k2 l1 t483 t484 (decide (t529 > (wrap64 (t525 + t527))))) = some r := by rw [if_pos rfl] at H; exact H
                            clear H
                            have H := H1
                            clear H1
                            have H' := am H
                            clear H
                            go_wp2
                            repeat (go_quiet (fail); try go_wp2)
                            go_meet
                            case rel => exact ⟨_, (decide (t529 > (wrap64 (t525 + t527)))), zf, H', ⟨by have := HJ10.out; have := HK2.out; first | omega | exact Nat.le_refl _⟩, ⟨by (with_reducible repeat (first | apply Kd.R_alloc | apply Kd.R_drewN | apply Kd.R_drew)); exact Kd.R_mono HO_5.out (fun _ hk => hk.1.1)⟩, ⟨by (with_reducible repeat (first | apply Kd.R_alloc | apply Kd.R_drewN | apply Kd.R_drew)); exact Kd.R_mono HO_6.out (fun _ hk => hk.1.1)⟩, ⟨by repeat (first | (with_reducible first | exact HB.out | apply below_alloc | apply pw_below_drewN | apply below_drew1) | exact HB.out)⟩⟩
                         ·as_aux_lemma =>
                            replace c84 := Bool.eq_false_iff.mpr c84
                            subst c84
                            have H1 : (laws_FnCommon.j2 k2 l1 t483 t484 true) = some r := by rw [if_neg (show ¬ (false = true) by decide)] at H; exact H
                            clear H
                            have H := H1
                            clear H1
                            have H' := am H
                            clear H
                            go_wp2
                            repeat (go_quiet (fail); try go_wp2)
                            go_meet
                            case rel => exact ⟨_, (true), zf, H', ⟨by have := HJ10.out; have := HK2.out; first | omega | exact Nat.le_refl _⟩, ⟨by (with_reducible repeat (first | apply Kd.R_alloc | apply Kd.R_drewN | apply Kd.R_drew)); exact Kd.R_mono HO_5.out (fun _ hk => hk.1.1)⟩, ⟨by (with_reducible repeat (first | apply Kd.R_alloc | apply Kd.R_drewN | apply Kd.R_drew)); exact Kd.R_mono HO_6.out (fun _ hk => hk.1.1)⟩, ⟨by repeat (first | (with_reducible first | exact HB.out | apply below_alloc | apply pw_below_drewN | apply below_drew1) | exact HB.out)⟩⟩
                      ·as_aux_lemma =>
                         replace c83 := Bool.eq_false_iff.mpr c83
                         subst c83
                         have H1 : (laws_FnCommon.j2 k2 l1 t483 t484 false) = some r := by rw [if_neg (show ¬ (false = true) by decide)] at H; exact H
                         clear H
                         have H := H1
                         clear H1
                         have H' := am H
                         clear H
                         go_wp2
                         repeat (go_quiet (fail); try go_wp2)
                         go_meet
                         case rel => exact ⟨_, (false), zf, H', ⟨by have := HJ10.out; have := HK2.out; first | omega | exact Nat.le_refl _⟩, ⟨by (with_reducible repeat (first | apply Kd.R_alloc | apply Kd.R_drewN | apply Kd.R_drew)); exact Kd.R_mono HO_5.out (fun _ hk => hk.1.1)⟩, ⟨by (with_reducible repeat (first | apply Kd.R_alloc | apply Kd.R_drewN | apply Kd.R_drew)); exact Kd.R_mono HO_6.out (fun _ hk => hk.1.1)⟩, ⟨by repeat (first | (with_reducible first | exact HB.out | apply below_alloc | apply pw_below_drewN | apply below_drew1) | exact HB.out)⟩⟩
                   ·as_aux_lemma =>
                      replace c82 := Bool.eq_false_iff.mpr c82
                      subst c82
                      have H1 : (laws_FnCommon.j2 k2 l1 t483 t484 false) = some r := by rw [if_neg (show ¬ (false = true) by decide)] at H; exact H
                      clear H
                      have H := H1
                      clear H1
                      have H' := am H
                      clear H
                      go_wp2
                      repeat (go_quiet (fail); try go_wp2)
                      go_meet
                      case rel => exact ⟨_, (false), zf, H', ⟨by have := HJ10.out; have := HK2.out; first | omega | exact Nat.le_refl _⟩, ⟨by (with_reducible repeat (first | apply Kd.R_alloc | apply Kd.R_drewN | apply Kd.R_drew)); exact Kd.R_mono HO_5.out (fun _ hk => hk.1.1)⟩, ⟨by (with_reducible repeat (first | apply Kd.R_alloc | apply Kd.R_drewN | apply Kd.R_drew)); exact Kd.R_mono HO_6.out (fun _ hk => hk.1.1)⟩, ⟨by repeat (first | (with_reducible first | exact HB.out | apply below_alloc | apply pw_below_drewN | apply below_drew1) | exact HB.out)⟩⟩
                  case rest =>
                   clear HC76
                   try clear p2
                   try clear c4
                   try clear c5
                   try clear p5
                   try clear q5
                   try clear hx5
                   try clear qi5
                   try clear c6
                   try clear p6
                   try clear c7
                   try clear c8
                   try clear c47
                   try clear c47b0
                   try clear c48
                   try clear c49
                   try clear c50
                   try clear c50b0
                   try clear c50b1
                   try clear p50
                   try clear q50
                   try clear hx50
                   try clear qi50
                   try clear c51
                   try clear p51
                   try clear q51
                   try clear hx51
                   try clear qi51
                   try clear c54
                   try clear c57
                   try clear c58
                   try clear c59
                   try clear c60
                   try clear c61
                   try clear c61b0
                   try clear c61b1
                   try clear c62
                   try clear c62b0
                   try clear c64
                   try clear p64
                   try clear c65
                   try clear c66
                   try clear c68
                   try clear c69
                   try clear c69b0
                   try clear c71
                   try clear c82
                   try clear c83
                   try clear c84
                   try clear hx504_0
                   try clear hx505_0
                   try clear hx506_0
                   try clear hx507_0
                   try clear hx508_0
                   try clear hx509_0
                   try clear hx510_0
                   try clear hx511_0
                   try clear hx512_0
                   try clear hx513_0
                   try clear hx514_0
                   try clear hx515_0
                   try clear hx516_0
                   try clear hx517_0
                   try clear hx518_0
                   try clear p504
                   try clear p505
                   try clear p506
                   try clear p507
                   try clear p508
                   try clear p509
                   try clear p510
                   try clear p511
                   try clear p512
                   try clear p513
                   try clear p514
                   try clear p515
                   try clear p516
                   try clear p517
                   try clear p518
                   try clear q504
                   try clear q505
                   try clear q506
                   try clear q507
                   try clear q508
                   try clear q509
                   try clear q510
                   try clear q511
                   try clear q512
                   try clear q513
                   try clear q514
                   try clear q515
                   try clear q516
                   try clear q517
                   try clear q518
                   obtain ⟨kq, x242_75, rfl, HA, HJ75, HO_5, HO_6, HB⟩ := hcut
                   cases kq with
                   | zero => exact absurd HA.out (by simp [laws_FnCommon.j2])
                   | succ kj75 =>
                    have H := HA.out
                    clear HA
                    simp only [laws_FnCommon.j2] at H
                    by_cases c85 : x242_75 = true
                    ·as_aux_lemma =>
                       subst c85
                       have H1 : (some false) = some r := by rw [if_pos rfl] at H; exact H
                       clear H
                       have H := H1
                       clear H1
                       exact absurd (show false = true from (Option.some.inj H).trans HR_.out) Bool.false_ne_true
                    ·as_aux_lemma =>
                       replace c85 := Bool.eq_false_iff.mpr c85
                       subst c85
                       have H1 : ((impl_AlikeOf.f kj75 t483 t484).bind fun bt531 => (if bt531.2 = true then (if bt531.1 < 0 then (some false) else (if bt531.1 > 100 then (some false) else ((laws_sameTexts.f kj75 t483 t484).bind fun t533 => (if ((bt531.1 == 100) != t533) = true then (some false) else (laws_FnCommon.j3 kj75 l1))))) else (some false))) = some r := by rw [if_neg (show ¬ (false = true) by decide)] at H; exact H
                       clear H
                       have H := H1
                       clear H1
                       replace H := Option.bind_eq_some_iff.mp H
                       obtain ⟨⟨t531, t532⟩, A860, H⟩ := H
                       replace H : (if t532 = true then (if t531 < 0 then (some false) else (if t531 > 100 then (some false) else ((laws_sameTexts.f kj75 t483 t484).bind fun t533 => (if ((t531 == 100) != t533) = true then (some false) else (laws_FnCommon.j3 kj75 l1))))) else (some false)) = some r := H
                       have A86 := am A860
                       clear A860
                       by_cases c87 : t532 = true
                       ·as_aux_lemma =>
                          subst c87
                          have H1 : (if t531 < 0 then (some false) else (if t531 > 100 then (some false) else ((laws_sameTexts.f kj75 t483 t484).bind fun t533 => (if ((t531 == 100) != t533) = true then (some false) else (laws_FnCommon.j3 kj75 l1))))) = some r := by rw [if_pos rfl] at H; exact H
                          clear H
                          have H := H1
                          clear H1
                          by_cases c88 : t531 < 0
                          ·as_aux_lemma =>
                             rw [if_pos c88] at H
                             have c88b0 : decide (t531 < 0) = true := decide_eq_true c88
                             clear c88
                             exact absurd (show false = true from (Option.some.inj H).trans HR_.out) Bool.false_ne_true
                          ·as_aux_lemma =>
                             rw [if_neg c88] at H
                             have c88b0 : decide (t531 < 0) = false := decide_eq_false c88
                             clear c88
                             by_cases c90 : t531 > 100
                             ·as_aux_lemma =>
                                rw [if_pos c90] at H
                                have c90b0 : decide (100 < t531) = true := decide_eq_true c90
                                clear c90
                                exact absurd (show false = true from (Option.some.inj H).trans HR_.out) Bool.false_ne_true
                             ·as_aux_lemma =>
                                rw [if_neg c90] at H
                                have c90b0 : decide (100 < t531) = false := decide_eq_false c90
                                clear c90
                                replace H := Option.bind_eq_some_iff.mp H
                                obtain ⟨t533, A920, H⟩ := H
                                replace H : (if ((t531 == 100) != t533) = true then (some false) else (laws_FnCommon.j3 kj75 l1)) = some r := H
                                have A92 := am A920
                                clear A920
                                by_cases c93 : ((t531 == 100) != t533) = true
                                ·as_aux_lemma =>
                                   rw [if_pos c93] at H
                                   have c93b0 : ((t531 == 100) != t533) = true := c93
                                   (try (have c93b1 : decide ((t531 == 100) = t533) = false := by simpa using c93))
                                   (try (have c93b2 : ((t531 == 100) == t533) = false := by simpa using c93))
                                   (try (have c93b3 : ¬ ((t531 == 100) = t533) := by simpa using c93))
                                   clear c93
                                   exact absurd (show false = true from (Option.some.inj H).trans HR_.out) Bool.false_ne_true
                                ·as_aux_lemma =>
                                   rw [if_neg c93] at H
                                   have c93b0 : ((t531 == 100) != t533) = false := by simpa using c93
                                   (try (have c93b1 : decide ((t531 == 100) = t533) = true := by simpa using c93))
                                   (try (have c93b2 : ((t531 == 100) == t533) = true := by simpa using c93))
                                   clear c93
                                   have H' := am H
                                   clear H
                                   go_wp2_with (first | (go_at_call 24; (with_reducible refine (impl_AlikeOf.calls kj75 _ _ t483 _ _ t484 t531 true _ ?side1 ?side2 ?side3 ?side4 A86.out).mono ?_); (case side1 => repeat (first | exact (Kd.R_reads' HO_5.out).2.2 | (with_reducible refine Kd.C_alloc ?_ _) | (with_reducible refine Kd.C_drewN ?_ _) | (with_reducible refine Kd.C_drew ?_))); (case side2 => exact (Kd.R_reads' HO_5.out).2.1); (case side3 => repeat (first | exact (Kd.R_reads' HO_6.out).2.2 | (with_reducible refine Kd.C_alloc ?_ _) | (with_reducible refine Kd.C_drewN ?_ _) | (with_reducible refine Kd.C_drew ?_))); (case side4 => exact (Kd.R_reads' HO_6.out).2.1); rintro e w95 ⟨rfl, hb⟩; have n0_ := am (Kd.R_below (zr HO_5.out) hb); have n1_ := am (Kd.R_below (zr HO_6.out) hb); have n2_ := am (below_step zb hb); clear HO_5; clear HO_6; clear HB; have HO_5 := n0_; have HO_6 := n1_; have HB := n2_; clear n0_ n1_ n2_; (try clear hb)) | (go_at_call 13; (with_reducible refine (laws_sameTexts.calls kj75 _ _ t483 _ _ t484 t533 _ ?side1 ?side2 ?side3 ?side4 A92.out).mono ?_); (case side1 => repeat (first | exact (Kd.R_reads' HO_5.out).2.2 | (with_reducible refine Kd.C_alloc ?_ _) | (with_reducible refine Kd.C_drewN ?_ _) | (with_reducible refine Kd.C_drew ?_))); (case side2 => exact (Kd.R_reads' HO_5.out).2.1); (case side3 => repeat (first | exact (Kd.R_reads' HO_6.out).2.2 | (with_reducible refine Kd.C_alloc ?_ _) | (with_reducible refine Kd.C_drewN ?_ _) | (with_reducible refine Kd.C_drew ?_))); (case side4 => exact (Kd.R_reads' HO_6.out).2.1); rintro e w' ⟨rfl, ⟨nd, rfl⟩⟩; (try exact zd)))
                                   repeat (go_quiet (first | (go_at_call 24; (with_reducible refine (impl_AlikeOf.calls kj75 _ _ t483 _ _ t484 t531 true _ ?side1 ?side2 ?side3 ?side4 A86.out).mono ?_); (case side1 => repeat (first | exact (Kd.R_reads' HO_5.out).2.2 | (with_reducible refine Kd.C_alloc ?_ _) | (with_reducible refine Kd.C_drewN ?_ _) | (with_reducible refine Kd.C_drew ?_))); (case side2 => exact (Kd.R_reads' HO_5.out).2.1); (case side3 => repeat (first | exact (Kd.R_reads' HO_6.out).2.2 | (with_reducible refine Kd.C_alloc ?_ _) | (with_reducible refine Kd.C_drewN ?_ _) | (with_reducible refine Kd.C_drew ?_))); (case side4 => exact (Kd.R_reads' HO_6.out).2.1); rintro e w95 ⟨rfl, hb⟩; have n0_ := am (Kd.R_below (zr HO_5.out) hb); have n1_ := am (Kd.R_below (zr HO_6.out) hb); have n2_ := am (below_step zb hb); clear HO_5; clear HO_6; clear HB; have HO_5 := n0_; have HO_6 := n1_; have HB := n2_; clear n0_ n1_ n2_; (try clear hb)) | (go_at_call 13; (with_reducible refine (laws_sameTexts.calls kj75 _ _ t483 _ _ t484 t533 _ ?side1 ?side2 ?side3 ?side4 A92.out).mono ?_); (case side1 => repeat (first | exact (Kd.R_reads' HO_5.out).2.2 | (with_reducible refine Kd.C_alloc ?_ _) | (with_reducible refine Kd.C_drewN ?_ _) | (with_reducible refine Kd.C_drew ?_))); (case side2 => exact (Kd.R_reads' HO_5.out).2.1); (case side3 => repeat (first | exact (Kd.R_reads' HO_6.out).2.2 | (with_reducible refine Kd.C_alloc ?_ _) | (with_reducible refine Kd.C_drewN ?_ _) | (with_reducible refine Kd.C_drew ?_))); (case side4 => exact (Kd.R_reads' HO_6.out).2.1); rintro e w' ⟨rfl, ⟨nd, rfl⟩⟩; (try exact zd))); try go_wp2_with (first | (go_at_call 24; (with_reducible refine (impl_AlikeOf.calls kj75 _ _ t483 _ _ t484 t531 true _ ?side1 ?side2 ?side3 ?side4 A86.out).mono ?_); (case side1 => repeat (first | exact (Kd.R_reads' HO_5.out).2.2 | (with_reducible refine Kd.C_alloc ?_ _) | (with_reducible refine Kd.C_drewN ?_ _) | (with_reducible refine Kd.C_drew ?_))); (case side2 => exact (Kd.R_reads' HO_5.out).2.1); (case side3 => repeat (first | exact (Kd.R_reads' HO_6.out).2.2 | (with_reducible refine Kd.C_alloc ?_ _) | (with_reducible refine Kd.C_drewN ?_ _) | (with_reducible refine Kd.C_drew ?_))); (case side4 => exact (Kd.R_reads' HO_6.out).2.1); rintro e w95 ⟨rfl, hb⟩; have n0_ := am (Kd.R_below (zr HO_5.out) hb); have n1_ := am (Kd.R_below (zr HO_6.out) hb); have n2_ := am (below_step zb hb); clear HO_5; clear HO_6; clear HB; have HO_5 := n0_; have HO_6 := n1_; have HB := n2_; clear n0_ n1_ n2_; (try clear hb)) | (go_at_call 13; (with_reducible refine (laws_sameTexts.calls kj75 _ _ t483 _ _ t484 t533 _ ?side1 ?side2 ?side3 ?side4 A92.out).mono ?_); (case side1 => repeat (first | exact (Kd.R_reads' HO_5.out).2.2 | (with_reducible refine Kd.C_alloc ?_ _) | (with_reducible refine Kd.C_drewN ?_ _) | (with_reducible refine Kd.C_drew ?_))); (case side2 => exact (Kd.R_reads' HO_5.out).2.1); (case side3 => repeat (first | exact (Kd.R_reads' HO_6.out).2.2 | (with_reducible refine Kd.C_alloc ?_ _) | (with_reducible refine Kd.C_drewN ?_ _) | (with_reducible refine Kd.C_drew ?_))); (case side4 => exact (Kd.R_reads' HO_6.out).2.1); rintro e w' ⟨rfl, ⟨nd, rfl⟩⟩; (try exact zd))))
                                   go_meet
                                   case rel => exact ⟨_, H', ⟨by have := HJ10.out; have := HK2.out; have := HJ75.out; first | omega | exact Nat.le_refl _⟩, ⟨by repeat (first | (with_reducible first | exact HB.out | apply below_alloc | apply pw_below_drewN | apply below_drew1) | exact HB.out)⟩⟩
                       ·as_aux_lemma =>
                          replace c87 := Bool.eq_false_iff.mpr c87
                          subst c87
                          have H1 : (some false) = some r := by rw [if_neg (show ¬ (false = true) by decide)] at H; exact H
                          clear H
                          have H := H1
                          clear H1
                          exact absurd (show false = true from (Option.some.inj H).trans HR_.out) Bool.false_ne_true
               ·as_aux_lemma =>
                  replace c71 := Bool.eq_false_iff.mpr c71
                  subst c71
                  have H1 : (laws_FnCommon.j3 k2 l1) = some r := by rw [if_neg (show ¬ (false = true) by decide)] at H; exact H
                  clear H
                  have H := H1
                  clear H1
                  have H' := am H
                  clear H
                  go_wp2
                  repeat (go_quiet (fail); try go_wp2)
                  go_meet
                  case rel => exact ⟨_, H', ⟨by have := HJ10.out; have := HK2.out; first | omega | exact Nat.le_refl _⟩, ⟨by repeat (first | (with_reducible first | exact HB.out | apply below_alloc | apply pw_below_drewN | apply below_drew1) | exact HB.out)⟩⟩
              case rest =>
               clear HC70
               try clear p2
               try clear c4
               try clear c5
               try clear p5
               try clear q5
               try clear hx5
               try clear qi5
               try clear c6
               try clear p6
               try clear c7
               try clear c8
               try clear c9
               try clear c47
               try clear c47b0
               try clear c48
               try clear c49
               try clear c50
               try clear c50b0
               try clear c50b1
               try clear p50
               try clear q50
               try clear hx50
               try clear qi50
               try clear c51
               try clear p51
               try clear q51
               try clear hx51
               try clear qi51
               try clear c54
               try clear c57
               try clear c58
               try clear c59
               try clear c60
               try clear c61
               try clear c61b0
               try clear c61b1
               try clear c62
               try clear c62b0
               try clear c64
               try clear p64
               try clear c65
               try clear c66
               try clear c68
               try clear c69
               try clear c69b0
               try clear c71
               try clear c82
               try clear c83
               try clear c84
               try clear c85
               try clear c87
               try clear c88
               try clear c88b0
               try clear c90
               try clear c90b0
               try clear c93
               try clear c93b0
               try clear c93b1
               try clear c93b2
               try clear hx504_0
               try clear hx505_0
               try clear hx506_0
               try clear hx507_0
               try clear hx508_0
               try clear hx509_0
               try clear hx510_0
               try clear hx511_0
               try clear hx512_0
               try clear hx513_0
               try clear hx514_0
               try clear hx515_0
               try clear hx516_0
               try clear hx517_0
               try clear hx518_0
               try clear p2
               try clear p5
               try clear p50
               try clear p504
               try clear p505
               try clear p506
               try clear p507
               try clear p508
               try clear p509
               try clear p51
               try clear p510
               try clear p511
               try clear p512
               try clear p513
               try clear p514
               try clear p515
               try clear p516
               try clear p517
               try clear p518
               try clear p6
               try clear p64
               try clear q5
               try clear q50
               try clear q504
               try clear q505
               try clear q506
               try clear q507
               try clear q508
               try clear q509
               try clear q51
               try clear q510
               try clear q511
               try clear q512
               try clear q513
               try clear q514
               try clear q515
               try clear q516
               try clear q517
               try clear q518
               obtain ⟨kq, HA, HJ69, HB⟩ := hcut
               cases kq with
               | zero => exact absurd HA.out (by simp [laws_FnCommon.j3])
               | succ kj69 =>
                have H := HA.out
                clear HA
                simp only [laws_FnCommon.j3] at H
                replace H := Option.bind_eq_some_iff.mp H
                obtain ⟨⟨t534, t535⟩, A970, H⟩ := H
                replace H : ((impl_AlikeOf.f kj69 t534 t535).bind fun bt540 => ((spec_AlikeOf.f kj69 t534 t535).bind fun bt542 => ((impl_FarApart.f kj69 t534 t535).bind fun bt544 => ((spec_FarApart.f kj69 t534 t535).bind fun bt546 => (if (bt540.2 == bt542.2) = true then (if bt540.1 = bt542.1 then (if (bt544.2 == bt546.2) = true then (some (bt544.1 == bt546.1)) else (some false)) else (some false)) else (some false)))))) = some r := H
                have A97 := am A970
                clear A970
                replace H := Option.bind_eq_some_iff.mp H
                obtain ⟨⟨t540, t541⟩, A980, H⟩ := H
                replace H : ((spec_AlikeOf.f kj69 t534 t535).bind fun bt542 => ((impl_FarApart.f kj69 t534 t535).bind fun bt544 => ((spec_FarApart.f kj69 t534 t535).bind fun bt546 => (if (t541 == bt542.2) = true then (if t540 = bt542.1 then (if (bt544.2 == bt546.2) = true then (some (bt544.1 == bt546.1)) else (some false)) else (some false)) else (some false))))) = some r := H
                have A98 := am A980
                clear A980
                replace H := Option.bind_eq_some_iff.mp H
                obtain ⟨⟨t542, t543⟩, A990, H⟩ := H
                replace H : ((impl_FarApart.f kj69 t534 t535).bind fun bt544 => ((spec_FarApart.f kj69 t534 t535).bind fun bt546 => (if (t541 == t543) = true then (if t540 = t542 then (if (bt544.2 == bt546.2) = true then (some (bt544.1 == bt546.1)) else (some false)) else (some false)) else (some false)))) = some r := H
                have A99 := am A990
                clear A990
                replace H := Option.bind_eq_some_iff.mp H
                obtain ⟨⟨t544, t545⟩, A1000, H⟩ := H
                replace H : ((spec_FarApart.f kj69 t534 t535).bind fun bt546 => (if (t541 == t543) = true then (if t540 = t542 then (if (t545 == bt546.2) = true then (some (t544 == bt546.1)) else (some false)) else (some false)) else (some false))) = some r := H
                have A100 := am A1000
                clear A1000
                replace H := Option.bind_eq_some_iff.mp H
                obtain ⟨⟨t546, t547⟩, A1010, H⟩ := H
                replace H : (if (t541 == t543) = true then (if t540 = t542 then (if (t545 == t547) = true then (some (t544 == t546)) else (some false)) else (some false)) else (some false)) = some r := H
                have A101 := am A1010
                clear A1010
                by_cases c102 : (t541 == t543) = true
                ·as_aux_lemma =>
                   rw [if_pos c102] at H
                   have c102b0 : (t541 == t543) = true := c102
                   (try (have c102b1 : decide (t541 = t543) = true := by simpa using c102))
                   (try (have c102b2 : (t541 == t543) = true := by simpa using c102))
                   clear c102
                   by_cases c103 : t540 = t542
                   ·as_aux_lemma =>
                      rw [if_pos c103] at H
                      have c103b0 : (t540 == t542) = true := beq_iff_eq.mpr c103
                      have c103b1 : (t540 != t542) = false := bne_eq_false_iff_eq.mpr c103
                      clear c103
                      by_cases c104 : (t545 == t547) = true
                      ·as_aux_lemma =>
                         rw [if_pos c104] at H
                         have c104b0 : (t545 == t547) = true := c104
                         (try (have c104b1 : decide (t545 = t547) = true := by simpa using c104))
                         (try (have c104b2 : (t545 == t547) = true := by simpa using c104))
                         clear c104
                         first
                         | exact absurd (show false = true from (Option.some.inj H).trans HR_.out) Bool.false_ne_true
                         | obtain rfl := Option.some.inj H
                           go_wp2_with (first | (go_at_call 25; (with_reducible refine (spec_DrawAlikeOf.calls kj69 _ _ l1 t534 t535 _ ?side1 ?side2 A97.out).mono ?_); (case side1 => exact zq (Kd.C_below HR1.out HB.out)); (case side2 => exact HC1.out); rintro e w105 ⟨v536, v538, rfl, ho0, ho1, hb⟩; have n0_ := am (Kd.R_lower ho0 (below_size zb)); have n1_ := am (Kd.R_lower ho1 (below_size zb)); have n2_ := am (below_step zb hb); clear HB; have HO537 := n0_; have HO539 := n1_; have HB := n2_; clear n0_ n1_ n2_; (try clear hb); (try clear ho0); (try clear ho1); obtain ⟨Ao106, co106, eo106⟩ := Kd.R_slice HO537.out; subst eo106; obtain ⟨Ao107, co107, eo107⟩ := Kd.R_slice HO539.out; subst eo107) | (go_at_call 24; (with_reducible refine (impl_AlikeOf.calls kj69 _ _ t534 _ _ t535 t540 t541 _ ?side1 ?side2 ?side3 ?side4 A98.out).mono ?_); (case side1 => repeat (first | exact (Kd.R_reads' HO537.out).2.2 | (with_reducible refine Kd.C_alloc ?_ _) | (with_reducible refine Kd.C_drewN ?_ _) | (with_reducible refine Kd.C_drew ?_))); (case side2 => exact (Kd.R_reads' HO537.out).2.1); (case side3 => repeat (first | exact (Kd.R_reads' HO539.out).2.2 | (with_reducible refine Kd.C_alloc ?_ _) | (with_reducible refine Kd.C_drewN ?_ _) | (with_reducible refine Kd.C_drew ?_))); (case side4 => exact (Kd.R_reads' HO539.out).2.1); rintro e w108 ⟨rfl, hb⟩; have n0_ := am (Kd.R_below (zr HO537.out) hb); have n1_ := am (Kd.R_below (zr HO539.out) hb); have n2_ := am (below_step zb hb); clear HO537; clear HO539; clear HB; have HO537 := n0_; have HO539 := n1_; have HB := n2_; clear n0_ n1_ n2_; (try clear hb)) | (go_at_call 26; (with_reducible refine (spec_AlikeOf.calls kj69 _ _ t534 _ _ t535 t542 t543 _ ?side1 ?side2 ?side3 ?side4 A99.out).mono ?_); (case side1 => repeat (first | exact (Kd.R_reads' HO537.out).2.2 | (with_reducible refine Kd.C_alloc ?_ _) | (with_reducible refine Kd.C_drewN ?_ _) | (with_reducible refine Kd.C_drew ?_))); (case side2 => exact (Kd.R_reads' HO537.out).2.1); (case side3 => repeat (first | exact (Kd.R_reads' HO539.out).2.2 | (with_reducible refine Kd.C_alloc ?_ _) | (with_reducible refine Kd.C_drewN ?_ _) | (with_reducible refine Kd.C_drew ?_))); (case side4 => exact (Kd.R_reads' HO539.out).2.1); rintro e w109 ⟨rfl, hb⟩; have n0_ := am (Kd.R_below (zr HO537.out) hb); have n1_ := am (Kd.R_below (zr HO539.out) hb); have n2_ := am (below_step zb hb); clear HO537; clear HO539; clear HB; have HO537 := n0_; have HO539 := n1_; have HB := n2_; clear n0_ n1_ n2_; (try clear hb)) | (go_at_call 23; (with_reducible refine (impl_FarApart.calls kj69 _ _ t534 _ _ t535 t544 t545 _ ?side1 ?side2 ?side3 ?side4 A100.out).mono ?_); (case side1 => repeat (first | exact (Kd.R_reads' HO537.out).2.2 | (with_reducible refine Kd.C_alloc ?_ _) | (with_reducible refine Kd.C_drewN ?_ _) | (with_reducible refine Kd.C_drew ?_))); (case side2 => exact (Kd.R_reads' HO537.out).2.1); (case side3 => repeat (first | exact (Kd.R_reads' HO539.out).2.2 | (with_reducible refine Kd.C_alloc ?_ _) | (with_reducible refine Kd.C_drewN ?_ _) | (with_reducible refine Kd.C_drew ?_))); (case side4 => exact (Kd.R_reads' HO539.out).2.1); rintro e w110 ⟨rfl, hb⟩; have n0_ := am (Kd.R_below (zr HO537.out) hb); have n1_ := am (Kd.R_below (zr HO539.out) hb); have n2_ := am (below_step zb hb); clear HO537; clear HO539; clear HB; have HO537 := n0_; have HO539 := n1_; have HB := n2_; clear n0_ n1_ n2_; (try clear hb)) | (go_at_call 27; (with_reducible refine (spec_FarApart.calls kj69 _ _ t534 _ _ t535 t546 t547 _ ?side1 ?side2 ?side3 ?side4 A101.out).mono ?_); (case side1 => repeat (first | exact (Kd.R_reads' HO537.out).2.2 | (with_reducible refine Kd.C_alloc ?_ _) | (with_reducible refine Kd.C_drewN ?_ _) | (with_reducible refine Kd.C_drew ?_))); (case side2 => exact (Kd.R_reads' HO537.out).2.1); (case side3 => repeat (first | exact (Kd.R_reads' HO539.out).2.2 | (with_reducible refine Kd.C_alloc ?_ _) | (with_reducible refine Kd.C_drewN ?_ _) | (with_reducible refine Kd.C_drew ?_))); (case side4 => exact (Kd.R_reads' HO539.out).2.1); rintro e w111 ⟨rfl, hb⟩; have n0_ := am (Kd.R_below (zr HO537.out) hb); have n1_ := am (Kd.R_below (zr HO539.out) hb); have n2_ := am (below_step zb hb); clear HO537; clear HO539; clear HB; have HO537 := n0_; have HO539 := n1_; have HB := n2_; clear n0_ n1_ n2_; (try clear hb)))
                           repeat (go_quiet (first | (go_at_call 25; (with_reducible refine (spec_DrawAlikeOf.calls kj69 _ _ l1 t534 t535 _ ?side1 ?side2 A97.out).mono ?_); (case side1 => exact zq (Kd.C_below HR1.out HB.out)); (case side2 => exact HC1.out); rintro e w105 ⟨v536, v538, rfl, ho0, ho1, hb⟩; have n0_ := am (Kd.R_lower ho0 (below_size zb)); have n1_ := am (Kd.R_lower ho1 (below_size zb)); have n2_ := am (below_step zb hb); clear HB; have HO537 := n0_; have HO539 := n1_; have HB := n2_; clear n0_ n1_ n2_; (try clear hb); (try clear ho0); (try clear ho1); obtain ⟨Ao106, co106, eo106⟩ := Kd.R_slice HO537.out; subst eo106; obtain ⟨Ao107, co107, eo107⟩ := Kd.R_slice HO539.out; subst eo107) | (go_at_call 24; (with_reducible refine (impl_AlikeOf.calls kj69 _ _ t534 _ _ t535 t540 t541 _ ?side1 ?side2 ?side3 ?side4 A98.out).mono ?_); (case side1 => repeat (first | exact (Kd.R_reads' HO537.out).2.2 | (with_reducible refine Kd.C_alloc ?_ _) | (with_reducible refine Kd.C_drewN ?_ _) | (with_reducible refine Kd.C_drew ?_))); (case side2 => exact (Kd.R_reads' HO537.out).2.1); (case side3 => repeat (first | exact (Kd.R_reads' HO539.out).2.2 | (with_reducible refine Kd.C_alloc ?_ _) | (with_reducible refine Kd.C_drewN ?_ _) | (with_reducible refine Kd.C_drew ?_))); (case side4 => exact (Kd.R_reads' HO539.out).2.1); rintro e w108 ⟨rfl, hb⟩; have n0_ := am (Kd.R_below (zr HO537.out) hb); have n1_ := am (Kd.R_below (zr HO539.out) hb); have n2_ := am (below_step zb hb); clear HO537; clear HO539; clear HB; have HO537 := n0_; have HO539 := n1_; have HB := n2_; clear n0_ n1_ n2_; (try clear hb)) | (go_at_call 26; (with_reducible refine (spec_AlikeOf.calls kj69 _ _ t534 _ _ t535 t542 t543 _ ?side1 ?side2 ?side3 ?side4 A99.out).mono ?_); (case side1 => repeat (first | exact (Kd.R_reads' HO537.out).2.2 | (with_reducible refine Kd.C_alloc ?_ _) | (with_reducible refine Kd.C_drewN ?_ _) | (with_reducible refine Kd.C_drew ?_))); (case side2 => exact (Kd.R_reads' HO537.out).2.1); (case side3 => repeat (first | exact (Kd.R_reads' HO539.out).2.2 | (with_reducible refine Kd.C_alloc ?_ _) | (with_reducible refine Kd.C_drewN ?_ _) | (with_reducible refine Kd.C_drew ?_))); (case side4 => exact (Kd.R_reads' HO539.out).2.1); rintro e w109 ⟨rfl, hb⟩; have n0_ := am (Kd.R_below (zr HO537.out) hb); have n1_ := am (Kd.R_below (zr HO539.out) hb); have n2_ := am (below_step zb hb); clear HO537; clear HO539; clear HB; have HO537 := n0_; have HO539 := n1_; have HB := n2_; clear n0_ n1_ n2_; (try clear hb)) | (go_at_call 23; (with_reducible refine (impl_FarApart.calls kj69 _ _ t534 _ _ t535 t544 t545 _ ?side1 ?side2 ?side3 ?side4 A100.out).mono ?_); (case side1 => repeat (first | exact (Kd.R_reads' HO537.out).2.2 | (with_reducible refine Kd.C_alloc ?_ _) | (with_reducible refine Kd.C_drewN ?_ _) | (with_reducible refine Kd.C_drew ?_))); (case side2 => exact (Kd.R_reads' HO537.out).2.1); (case side3 => repeat (first | exact (Kd.R_reads' HO539.out).2.2 | (with_reducible refine Kd.C_alloc ?_ _) | (with_reducible refine Kd.C_drewN ?_ _) | (with_reducible refine Kd.C_drew ?_))); (case side4 => exact (Kd.R_reads' HO539.out).2.1); rintro e w110 ⟨rfl, hb⟩; have n0_ := am (Kd.R_below (zr HO537.out) hb); have n1_ := am (Kd.R_below (zr HO539.out) hb); have n2_ := am (below_step zb hb); clear HO537; clear HO539; clear HB; have HO537 := n0_; have HO539 := n1_; have HB := n2_; clear n0_ n1_ n2_; (try clear hb)) | (go_at_call 27; (with_reducible refine (spec_FarApart.calls kj69 _ _ t534 _ _ t535 t546 t547 _ ?side1 ?side2 ?side3 ?side4 A101.out).mono ?_); (case side1 => repeat (first | exact (Kd.R_reads' HO537.out).2.2 | (with_reducible refine Kd.C_alloc ?_ _) | (with_reducible refine Kd.C_drewN ?_ _) | (with_reducible refine Kd.C_drew ?_))); (case side2 => exact (Kd.R_reads' HO537.out).2.1); (case side3 => repeat (first | exact (Kd.R_reads' HO539.out).2.2 | (with_reducible refine Kd.C_alloc ?_ _) | (with_reducible refine Kd.C_drewN ?_ _) | (with_reducible refine Kd.C_drew ?_))); (case side4 => exact (Kd.R_reads' HO539.out).2.1); rintro e w111 ⟨rfl, hb⟩; have n0_ := am (Kd.R_below (zr HO537.out) hb); have n1_ := am (Kd.R_below (zr HO539.out) hb); have n2_ := am (below_step zb hb); clear HO537; clear HO539; clear HB; have HO537 := n0_; have HO539 := n1_; have HB := n2_; clear n0_ n1_ n2_; (try clear hb))); try go_wp2_with (first | (go_at_call 25; (with_reducible refine (spec_DrawAlikeOf.calls kj69 _ _ l1 t534 t535 _ ?side1 ?side2 A97.out).mono ?_); (case side1 => exact zq (Kd.C_below HR1.out HB.out)); (case side2 => exact HC1.out); rintro e w105 ⟨v536, v538, rfl, ho0, ho1, hb⟩; have n0_ := am (Kd.R_lower ho0 (below_size zb)); have n1_ := am (Kd.R_lower ho1 (below_size zb)); have n2_ := am (below_step zb hb); clear HB; have HO537 := n0_; have HO539 := n1_; have HB := n2_; clear n0_ n1_ n2_; (try clear hb); (try clear ho0); (try clear ho1); obtain ⟨Ao106, co106, eo106⟩ := Kd.R_slice HO537.out; subst eo106; obtain ⟨Ao107, co107, eo107⟩ := Kd.R_slice HO539.out; subst eo107) | (go_at_call 24; (with_reducible refine (impl_AlikeOf.calls kj69 _ _ t534 _ _ t535 t540 t541 _ ?side1 ?side2 ?side3 ?side4 A98.out).mono ?_); (case side1 => repeat (first | exact (Kd.R_reads' HO537.out).2.2 | (with_reducible refine Kd.C_alloc ?_ _) | (with_reducible refine Kd.C_drewN ?_ _) | (with_reducible refine Kd.C_drew ?_))); (case side2 => exact (Kd.R_reads' HO537.out).2.1); (case side3 => repeat (first | exact (Kd.R_reads' HO539.out).2.2 | (with_reducible refine Kd.C_alloc ?_ _) | (with_reducible refine Kd.C_drewN ?_ _) | (with_reducible refine Kd.C_drew ?_))); (case side4 => exact (Kd.R_reads' HO539.out).2.1); rintro e w108 ⟨rfl, hb⟩; have n0_ := am (Kd.R_below (zr HO537.out) hb); have n1_ := am (Kd.R_below (zr HO539.out) hb); have n2_ := am (below_step zb hb); clear HO537; clear HO539; clear HB; have HO537 := n0_; have HO539 := n1_; have HB := n2_; clear n0_ n1_ n2_; (try clear hb)) | (go_at_call 26; (with_reducible refine (spec_AlikeOf.calls kj69 _ _ t534 _ _ t535 t542 t543 _ ?side1 ?side2 ?side3 ?side4 A99.out).mono ?_); (case side1 => repeat (first | exact (Kd.R_reads' HO537.out).2.2 | (with_reducible refine Kd.C_alloc ?_ _) | (with_reducible refine Kd.C_drewN ?_ _) | (with_reducible refine Kd.C_drew ?_))); (case side2 => exact (Kd.R_reads' HO537.out).2.1); (case side3 => repeat (first | exact (Kd.R_reads' HO539.out).2.2 | (with_reducible refine Kd.C_alloc ?_ _) | (with_reducible refine Kd.C_drewN ?_ _) | (with_reducible refine Kd.C_drew ?_))); (case side4 => exact (Kd.R_reads' HO539.out).2.1); rintro e w109 ⟨rfl, hb⟩; have n0_ := am (Kd.R_below (zr HO537.out) hb); have n1_ := am (Kd.R_below (zr HO539.out) hb); have n2_ := am (below_step zb hb); clear HO537; clear HO539; clear HB; have HO537 := n0_; have HO539 := n1_; have HB := n2_; clear n0_ n1_ n2_; (try clear hb)) | (go_at_call 23; (with_reducible refine (impl_FarApart.calls kj69 _ _ t534 _ _ t535 t544 t545 _ ?side1 ?side2 ?side3 ?side4 A100.out).mono ?_); (case side1 => repeat (first | exact (Kd.R_reads' HO537.out).2.2 | (with_reducible refine Kd.C_alloc ?_ _) | (with_reducible refine Kd.C_drewN ?_ _) | (with_reducible refine Kd.C_drew ?_))); (case side2 => exact (Kd.R_reads' HO537.out).2.1); (case side3 => repeat (first | exact (Kd.R_reads' HO539.out).2.2 | (with_reducible refine Kd.C_alloc ?_ _) | (with_reducible refine Kd.C_drewN ?_ _) | (with_reducible refine Kd.C_drew ?_))); (case side4 => exact (Kd.R_reads' HO539.out).2.1); rintro e w110 ⟨rfl, hb⟩; have n0_ := am (Kd.R_below (zr HO537.out) hb); have n1_ := am (Kd.R_below (zr HO539.out) hb); have n2_ := am (below_step zb hb); clear HO537; clear HO539; clear HB; have HO537 := n0_; have HO539 := n1_; have HB := n2_; clear n0_ n1_ n2_; (try clear hb)) | (go_at_call 27; (with_reducible refine (spec_FarApart.calls kj69 _ _ t534 _ _ t535 t546 t547 _ ?side1 ?side2 ?side3 ?side4 A101.out).mono ?_); (case side1 => repeat (first | exact (Kd.R_reads' HO537.out).2.2 | (with_reducible refine Kd.C_alloc ?_ _) | (with_reducible refine Kd.C_drewN ?_ _) | (with_reducible refine Kd.C_drew ?_))); (case side2 => exact (Kd.R_reads' HO537.out).2.1); (case side3 => repeat (first | exact (Kd.R_reads' HO539.out).2.2 | (with_reducible refine Kd.C_alloc ?_ _) | (with_reducible refine Kd.C_drewN ?_ _) | (with_reducible refine Kd.C_drew ?_))); (case side4 => exact (Kd.R_reads' HO539.out).2.1); rintro e w111 ⟨rfl, hb⟩; have n0_ := am (Kd.R_below (zr HO537.out) hb); have n1_ := am (Kd.R_below (zr HO539.out) hb); have n2_ := am (below_step zb hb); clear HO537; clear HO539; clear HB; have HO537 := n0_; have HO539 := n1_; have HB := n2_; clear n0_ n1_ n2_; (try clear hb))))
                           go_ret
                           exact ⟨by first | rfl | (simp [errW_none, errW_some] <;> rfl) | (simp [*, errW_none, errW_some] <;> rfl), by repeat (first | (with_reducible first | exact HB.out | apply below_alloc | apply pw_below_drewN | apply below_drew1) | exact HB.out)⟩
                      ·as_aux_lemma =>
                         rw [if_neg c104] at H
                         have c104b0 : (t545 == t547) = false := by simpa using c104
                         (try (have c104b1 : decide (t545 = t547) = false := by simpa using c104))
                         (try (have c104b2 : (t545 == t547) = false := by simpa using c104))
                         (try (have c104b3 : ¬ (t545 = t547) := by simpa using c104))
                         clear c104
                         exact absurd (show false = true from (Option.some.inj H).trans HR_.out) Bool.false_ne_true
                   ·as_aux_lemma =>
                      rw [if_neg c103] at H
                      have c103b0 : (t540 == t542) = false := beq_eq_false_iff_ne.mpr c103
                      have c103b1 : (t540 != t542) = true := bne_iff_ne.mpr c103
                      exact absurd (show false = true from (Option.some.inj H).trans HR_.out) Bool.false_ne_true
                ·as_aux_lemma =>
                   rw [if_neg c102] at H
                   have c102b0 : (t541 == t543) = false := by simpa using c102
                   (try (have c102b1 : decide (t541 = t543) = false := by simpa using c102))
                   (try (have c102b2 : (t541 == t543) = false := by simpa using c102))
                   (try (have c102b3 : ¬ (t541 = t543) := by simpa using c102))
                   clear c102
                   exact absurd (show false = true from (Option.some.inj H).trans HR_.out) Bool.false_ne_true
end Go.Proofs.Ytmcldkobejhaeaa.My
/- Written by this session's program (wip/gen): the law's pure statement. -/
namespace Go.Proofs.Ytmcldkobejhaeaa.My
open Go.RowKit Go.Proofs.YtmcldkobejhaeaaW.PrintWords Go.Proofs.YtmcldkobejhaeaaW.PrintLast Go.Proofs.YtmcldkobejhaeaaW.PrintMore
attribute [local go_sem] max2_int min2_int max_two min_two max_three min_three max_four min_four
set_option linter.unusedVariables false
set_option linter.unusedSimpArgs false
def laws_FnCommon.Pure : Prop := ∀ (l0 : List Int) (l1 : List Int), (WL Wu8) l0 → (WL Wu8) l1 → ∃ k, laws_FnCommon.f k l0 l1 = some true
end Go.Proofs.Ytmcldkobejhaeaa.My
/- Plain Lean, no program in sight: what holds from some number of rounds on, whole numbers that do not wrap, lists by an index. -/
namespace Go.Proofs.Ytmcldkobejhaeaa.Pl
open Go.RowKit Go.Proofs.YtmcldkobejhaeaaW.PrintWords Go.Proofs.YtmcldkobejhaeaaW.PrintLast
set_option linter.unusedVariables false
set_option linter.unusedSimpArgs false
section
variable {α β : Type}
theorem ev_pos {c : Prop} [Decidable c] {g g' : Nat → Option α} {r : α} (hc : c) (h : Ev g r) : Ev (fun k => if c then g k else g' k) r :=
  Ev.congr (fun _ => if_pos hc) h
theorem ev_neg {c : Prop} [Decidable c] {g g' : Nat → Option α} {r : α} (hc : ¬ c) (h : Ev g' r) : Ev (fun k => if c then g k else g' k) r :=
  Ev.congr (fun _ => if_neg hc) h
theorem ev_ite {c : Prop} [Decidable c] {g g' : Nat → Option α} {r : α} (h : c → Ev g r) (h' : ¬ c → Ev g' r) : Ev (fun k => if c then g k else g' k) r := by
  by_cases hc : c
  · exact ev_pos hc (h hc)
  · exact ev_neg hc (h' hc)
theorem ev_some {r r' : α} (h : r = r') : Ev (fun _ => some r) r' := h ▸ Ev.now r
theorem ev_const {o : Option α} {r : α} (h : o = some r) : Ev (fun _ => o) r := ⟨0, fun _ _ => h⟩
theorem ev_to {g : Nat → Option α} {r r' : α} (h : Ev g r) (e : r = r') : Ev g r' := e ▸ h
theorem ev_bind {g : Nat → Option α} {f : Nat → α → Option β} {a : α} {r : β} (h : Ev g a) (k : Ev (fun n => f n a) r) : Ev (fun n => (g n).bind fun t => f n t) r := Ev.bind h k
end
theorem wrap64_id {x : Int} (h : -9223372036854775808 ≤ x) (h' : x ≤ 9223372036854775807) : wrap64 x = x := by
  unfold wrap64
  omega
theorem wrap_succ (i : Nat) (h : i < 9223372036854775807) : wrap64 ((i : Int) + 1) = ((i + 1 : Nat) : Int) := by
  rw [wrap64_id (by omega) (by omega)]
  omega
theorem wrap_pred (n : Nat) (h0 : 0 < n) (h : n ≤ 9223372036854775807) : wrap64 ((n : Int) - 1) = ((n - 1 : Nat) : Int) := by
  rw [wrap64_id (by omega) (by omega)]
  omega
theorem getD_lt {α : Type} (xs : List α) (d : α) (i : Nat) (h : i < xs.length) : xs.getD i d = xs[i] := by
  simp [List.getD_eq_getElem?_getD, List.getElem?_eq_getElem h]
theorem rdOf_lt {α : Type} (d : α) (xs : List α) (i : Nat) (h : i < xs.length) : rdOf d xs (i : Int) = xs[i] := getD_lt xs d i h
theorem ba_ext {a b : ByteArray} (h : a.toList = b.toList) : a = b := by
  rw [Lib.toList_data, Lib.toList_data] at h
  cases a with | mk a => cases b with | mk b =>
  cases a with | mk a => cases b with | mk b =>
  simp_all
theorem ba_iff {a b : ByteArray} : a.toList = b.toList ↔ a = b := ⟨ba_ext, fun h => by rw [h]⟩
theorem drop_cons {α : Type} (xs : List α) (i : Nat) (h : i < xs.length) : xs.drop i = xs[i] :: xs.drop (i + 1) := List.drop_eq_getElem_cons h
theorem bt_nat (s : ByteArray) (i : Nat) (h : i < s.size) : bt s (i : Int) = ((s.data.toList[i]'(by rw [data_length]; exact h)).toNat : Int) := by
  unfold bt
  rw [dif_pos (by simpa using h)]
  simp [ByteArray.getElem_eq_getElem_data]
theorem u8_eq {b c : UInt8} (h : (b.toNat : Int) = (c.toNat : Int)) : b = c := UInt8.toNat_inj.1 (by omega)
theorem u8_ne {b c : UInt8} (h : ¬ (b.toNat : Int) = (c.toNat : Int)) : ¬ c = b := fun e => h (by rw [e])
end Go.Proofs.Ytmcldkobejhaeaa.Pl
/- Plain Lean: the reader of choices: what it hands out is small. Asked: a reader that stands below 2^61. -/
namespace Go.Proofs.Ytmcldkobejhaeaa.Pl
open Go.RowKit Go.Proofs.YtmcldkobejhaeaaW.PrintWords Go.Proofs.YtmcldkobejhaeaaW.PrintLast Go.Proofs.Ytmcldkobejhaeaa.My
set_option linter.unusedVariables false
set_option linter.unusedSimpArgs false
def Bytes8 (c : List Int) : Prop := (c.length : Int) ≤ 9223372036854775807 ∧ ∀ x ∈ c, 0 ≤ x ∧ x ≤ 255
theorem u64_wrap_nat (x : Int) : ∃ n : Nat, IntKind.u64.wrap x = (n : Int) ∧ n < 18446744073709551616 := by
  have h : IntKind.u64.wrap x = x % 18446744073709551616 := rfl
  exact ⟨(IntKind.u64.wrap x).toNat, by rw [h]; omega, by rw [h]; omega⟩
theorem low_byte (x : Int) : 0 ≤ wrap64 (Go.bits .and .u64 (IntKind.u64.wrap x / 1099511627776) 255) ∧ wrap64 (Go.bits .and .u64 (IntKind.u64.wrap x / 1099511627776) 255) ≤ 255 := by
  obtain ⟨n, e, hn⟩ := u64_wrap_nat x
  have e2 : IntKind.u64.wrap x / 1099511627776 = ((n / 1099511627776 : Nat) : Int) := by rw [e]; omega
  rw [e2, show (255 : Int) = ((255 : Nat) : Int) from rfl, bits_and_u64_nat _ _ (by omega) (by decide)]
  have h3 : n / 1099511627776 &&& 255 = n / 1099511627776 % 256 := Nat.and_two_pow_sub_one_eq_mod (n := 8) _
  rw [h3, wrap64_id (by omega) (by omega)]
  omega
def At (B a : Int) : Prop := 0 ≤ a ∧ a ≤ B
theorem next_some (c : List Int) (hc : Bytes8 c) (a s : Int) (ha : At 2305843009213693952 a) : ∃ b s2, spec_l1Cur_next.f c a s = some (b, a + 1, s2) ∧ 0 ≤ b ∧ b ≤ 255 := by
  obtain ⟨h0, h1⟩ := ha
  unfold spec_l1Cur_next.f
  have e1 : wrap64 (a + 1) = a + 1 := wrap64_id (by omega) (by omega)
  rw [e1]
  by_cases h : a < (c.length : Int)
  · rw [if_pos h, if_pos h0, if_pos (by omega)]
    have hm : rd c a ∈ c := by
      have e2 : rd c a = c[a.toNat]'(by omega) := by
        have := getD_lt c 0 a.toNat (by omega)
        exact this
      rw [e2]
      exact List.getElem_mem _
    have hb := hc.2 _ hm
    rw [wrap64_id (x := rd c a) (by omega) (by omega)]
    exact ⟨_, _, rfl, hb.1, hb.2⟩
  · rw [if_neg h]
    by_cases h2 : a + 1 ≤ (c.length : Int)
    · rw [if_pos h2]
      exact ⟨_, _, rfl, by decide, by decide⟩
    · rw [if_neg h2]
      have := low_byte ((IntKind.u64.wrap ((IntKind.u64.wrap (s * 6364136223846793005)) + 0)) + 1442695040888963407)
      exact ⟨_, _, rfl, this.1, this.2⟩
theorem tmod_range (x n : Int) (hx : 0 ≤ x) (hn : 0 < n) : 0 ≤ Int.tmod x n ∧ Int.tmod x n < n := by
  rw [Int.tmod_eq_emod_of_nonneg hx]
  exact ⟨Int.emod_nonneg _ (by omega), Int.emod_lt_of_pos _ hn⟩
theorem pick_some (c : List Int) (hc : Bytes8 c) (a s n : Int) (ha : At 2305843009213693951 a) : ∃ v a2 s2, spec_l1Cur_pick.f c a s n = some (v, a2, s2) ∧ 0 ≤ v ∧ (v = 0 ∨ v < n) ∧ v ≤ 65535 ∧ a ≤ a2 ∧ a2 ≤ a + 2 := by
  obtain ⟨h0, h1⟩ := ha
  unfold spec_l1Cur_pick.f
  by_cases h : n ≤ 1
  · rw [if_pos h]
    exact ⟨0, a, s, rfl, by omega, .inl rfl, by omega, by omega, by omega⟩
  · rw [if_neg h]
    obtain ⟨b, s2, e, hb0, hb1⟩ := next_some c hc a s ⟨h0, by omega⟩
    rw [e]
    simp only [Option.bind_some]
    by_cases h2 : n > 200
    · obtain ⟨b2, s3, e2, hc0, hc1⟩ := next_some c hc (a + 1) s2 ⟨by omega, by omega⟩
      rw [if_pos h2, e2]
      simp only [Option.bind_some]
      rw [if_neg (by omega), wrap64_id (x := b * 256) (by omega) (by omega), wrap64_id (by omega) (by omega)]
      have ht := tmod_range (b * 256 + b2) n (by omega) (by omega)
      refine ⟨_, _, _, rfl, ht.1, .inr ht.2, ?_, by omega, by omega⟩
      rw [Int.tmod_eq_emod_of_nonneg (by omega)]
      have h5 : (b * 256 + b2) % n ≤ b * 256 + b2 := by
        have h6 := Int.mul_ediv_add_emod (b * 256 + b2) n
        have h7 : 0 ≤ (b * 256 + b2) / n := Int.ediv_nonneg (by omega) (by omega)
        have h8 : 0 ≤ n * ((b * 256 + b2) / n) := Int.mul_nonneg (by omega) h7
        omega
      omega
    · rw [if_neg h2, if_neg (by omega)]
      have ht := tmod_range b n hb0 (by omega)
      exact ⟨_, _, _, rfl, ht.1, .inr ht.2, by omega, by omega, by omega⟩
end Go.Proofs.Ytmcldkobejhaeaa.Pl
/- Plain Lean: the reader of choices: yes or no, and one of a list of texts. Asked: a reader that stands below 2^61. -/
namespace Go.Proofs.Ytmcldkobejhaeaa.Pl
open Go.RowKit Go.Proofs.YtmcldkobejhaeaaW.PrintWords Go.Proofs.YtmcldkobejhaeaaW.PrintLast Go.Proofs.Ytmcldkobejhaeaa.My
set_option linter.unusedVariables false
theorem one_some (c : List Int) (hc : Bytes8 c) (a s n : Int) (ha : At 2305843009213693951 a) : ∃ v a2 s2, spec_l1Cur_one.f c a s n = some (v, a2, s2) ∧ a ≤ a2 ∧ a2 ≤ a + 2 := by
  unfold spec_l1Cur_one.f
  obtain ⟨v, a2, s2, e, h⟩ := pick_some c hc a s n ha
  rw [e]
  exact ⟨_, _, _, rfl, h.2.2.2.1, h.2.2.2.2⟩
theorem of_some (c : List Int) (hc : Bytes8 c) (a s : Int) (ha : At 2305843009213693951 a) (l : List ByteArray) (hl : 0 < l.length) : ∃ v a2 s2, spec_l1Cur_of.f c a s l = some (v, a2, s2) ∧ v ∈ l ∧ a ≤ a2 ∧ a2 ≤ a + 2 := by
  unfold spec_l1Cur_of.f
  obtain ⟨v, a2, s2, e, h⟩ := pick_some c hc a s (l.length : Int) ha
  rw [e]
  simp only [Option.bind_some]
  have hv : v < (l.length : Int) := by rcases h.2.1 with h | h <;> omega
  rw [if_pos h.1, if_pos hv]
  refine ⟨_, _, _, rfl, ?_, h.2.2.2.1, h.2.2.2.2⟩
  have e2 : rdOf ByteArray.empty l v = l[v.toNat]'(by omega) := getD_lt l _ v.toNat (by omega)
  rw [e2]
  exact List.getElem_mem _
end Go.Proofs.Ytmcldkobejhaeaa.Pl
/- Plain Lean: the reader of choices: lines and texts. Asked: a reader that stands below 10^15. -/
namespace Go.Proofs.Ytmcldkobejhaeaa.Pl
open Go.RowKit Go.Proofs.YtmcldkobejhaeaaW.PrintWords Go.Proofs.YtmcldkobejhaeaaW.PrintLast Go.Proofs.Ytmcldkobejhaeaa.My
set_option linter.unusedVariables false
set_option linter.unusedSimpArgs false
theorem at_of {a : Int} (h0 : 0 ≤ a) (h1 : a ≤ 1000000000001000) : At 2305843009213693951 a := ⟨h0, by omega⟩
theorem line_some (c : List Int) (hc : Bytes8 c) (a s : Int) (h0 : 0 ≤ a) (h1 : a ≤ 1000000000001000) : ∃ v a2 s2, spec_l1Cur_line.f c a s = some (v, a2, s2) ∧ v.size ≤ 7 ∧ a ≤ a2 ∧ a2 ≤ a + 2 := by
  unfold spec_l1Cur_line.f
  obtain ⟨v, a2, s2, e, hv, h⟩ := of_some c hc a s (at_of h0 h1) [(⟨#[97]⟩ : ByteArray), (⟨#[98]⟩ : ByteArray), (⟨#[99]⟩ : ByteArray), (⟨#[100]⟩ : ByteArray), (⟨#[]⟩ : ByteArray), (⟨#[46]⟩ : ByteArray), (⟨#[46, 46]⟩ : ByteArray), (⟨#[111, 110, 101, 32, 116, 119, 111]⟩ : ByteArray), (⟨#[43, 120]⟩ : ByteArray), (⟨#[45, 121]⟩ : ByteArray), (⟨#[92, 32, 122]⟩ : ByteArray), (⟨#[64, 64]⟩ : ByteArray)] (by simp)
  rw [e]
  refine ⟨v, a2, s2, rfl, ?_, h⟩
  simp only [List.mem_cons, List.not_mem_nil, or_false] at hv
  rcases hv with rfl | rfl | rfl | rfl | rfl | rfl | rfl | rfl | rfl | rfl | rfl | rfl <;> decide
def Sm1 (l : List ByteArray) : Prop := ∀ s ∈ l, 1 ≤ s.size ∧ s.size ≤ 8
def SmT (l : List ByteArray) : Prop := l.length ≤ 9 ∧ (∀ s ∈ l, s.size ≤ 8) ∧ ∀ x, l.getLast? = some x → 1 ≤ x.size
theorem sm1_snoc {l : List ByteArray} {x : ByteArray} (h : Sm1 l) (h1 : 1 ≤ x.size) (h2 : x.size ≤ 8) : Sm1 (l ++ [x]) := by
  intro s hs
  rcases List.mem_append.1 hs with hs | hs
  · exact h s hs
  · rw [List.mem_singleton.1 hs]; exact ⟨h1, h2⟩
theorem nl_size (v : ByteArray) (h : v.size ≤ 7) : 1 ≤ (v ++ (⟨#[10]⟩ : ByteArray)).size ∧ (v ++ (⟨#[10]⟩ : ByteArray)).size ≤ 8 := by
  rw [ByteArray.size_append, show (⟨#[10]⟩ : ByteArray).size = 1 from rfl]
  omega
theorem text_l0 (c : List Int) (hc : Bytes8 c) : ∀ (n : Nat) (acc : List ByteArray) (a s : Int), 0 ≤ a → a + 2 * n ≤ 1000000000000500 → acc.length + n ≤ 8 → Sm1 acc → ∃ r a2 s2, Ev (fun k => spec_l1Cur_text.l0 k acc (n : Int) c a s) (r, a2, s2) ∧ r.length ≤ 9 ∧ Sm1 r ∧ a ≤ a2 ∧ a2 ≤ a + 2 * n + 4 := by
  intro n
  induction n with
  | zero =>
    intro acc a s h0 h1 hl hs
    obtain ⟨v, a2, s2, e, h2⟩ := one_some c hc a s 5 (at_of h0 (by omega))
    cases v with
    | true =>
      obtain ⟨w, a3, s3, e2, hw, h3⟩ := of_some c hc a2 s2 (at_of (by omega) (by omega)) [(⟨#[97]⟩ : ByteArray), (⟨#[101, 110, 100]⟩ : ByteArray), (⟨#[46]⟩ : ByteArray)] (by simp)
      refine ⟨acc ++ [w], a3, s3, Ev.step (fun k => spec_l1Cur_text.l0.eq_2 ..) (ev_neg (by omega) ?_), by rw [List.length_append, List.length_singleton]; omega, ?_, by omega, by omega⟩
      · refine ev_bind (ev_const e) (ev_pos rfl (ev_bind (ev_const e2) (ev_pos (by omega) (ev_some rfl))))
      · simp only [List.mem_cons, List.not_mem_nil, or_false] at hw
        rcases hw with rfl | rfl | rfl <;> exact sm1_snoc hs (by decide) (by decide)
    | false =>
      refine ⟨acc, a2, s2, Ev.step (fun k => spec_l1Cur_text.l0.eq_2 ..) (ev_neg (by omega) ?_), by omega, hs, by omega, by omega⟩
      exact ev_bind (ev_const e) (ev_neg (by simp) (ev_some rfl))
  | succ n ih =>
    intro acc a s h0 h1 hl hs
    obtain ⟨v, a2, s2, e, h2⟩ := line_some c hc a s h0 (by omega)
    have hz := nl_size v h2.1
    obtain ⟨r, a3, s3, e3, h3⟩ := ih (acc ++ [v ++ (⟨#[10]⟩ : ByteArray)]) a2 s2 (by omega) (by omega) (by rw [List.length_append, List.length_singleton]; omega) (sm1_snoc hs hz.1 hz.2)
    refine ⟨r, a3, s3, Ev.step (fun k => spec_l1Cur_text.l0.eq_2 ..) (ev_pos (by omega) ?_), h3.1, h3.2.1, by omega, by omega⟩
    refine ev_bind (ev_const e) (ev_pos (by dsimp only; omega) (ev_pos (by omega) ?_))
    rw [wrap64_id (x := ((n + 1 : Nat) : Int) - 1) (by omega) (by omega), show ((n + 1 : Nat) : Int) - 1 = (n : Int) from by omega]
    exact e3
theorem text_some (c : List Int) (hc : Bytes8 c) (a s : Int) (h0 : 0 ≤ a) (h1 : a ≤ 1000000000000400) : ∃ r a2 s2, Ev (fun k => spec_l1Cur_text.f k c a s) (r, a2, s2) ∧ r.length ≤ 9 ∧ Sm1 r ∧ a ≤ a2 ∧ a2 ≤ a + 22 := by
  simp only [spec_l1Cur_text.f]
  obtain ⟨v, a2, s2, e, h2⟩ := pick_some c hc a s 9 (at_of h0 (by omega))
  have hv : v = ((v.toNat : Nat) : Int) := by omega
  have hn : v.toNat ≤ 8 := by rcases h2.2.1 with h | h <;> omega
  obtain ⟨r, a3, s3, e3, h3⟩ := text_l0 c hc v.toNat [] a2 s2 (by omega) (by omega) (by simpa using hn) (fun s hs => by cases hs)
  rw [← hv] at e3
  exact ⟨r, a3, s3, ev_bind (ev_const e) e3, h3.1, h3.2.1, by omega, by omega⟩
theorem smT_of {l : List ByteArray} (hl : l.length ≤ 9) (h : Sm1 l) : SmT l :=
  ⟨hl, fun s hs => (h s hs).2, fun x hx => (h x (List.mem_of_getLast? hx)).1⟩
theorem smT_set {l : List ByteArray} (hl : 1 < l.length) (h : SmT l) (v : ByteArray) (hv : v.size ≤ 8) : SmT (l.set 0 v) := by
  refine ⟨by rw [List.length_set]; exact h.1, fun s hs => ?_, fun x hx => h.2.2 x ?_⟩
  · rcases List.mem_or_eq_of_mem_set hs with hs | rfl
    · exact h.2.1 s hs
    · exact hv
  · rw [List.getLast?_eq_getElem?, List.length_set, List.getElem?_set_ne (by omega)] at hx
    rw [List.getLast?_eq_getElem?]
    exact hx
theorem anyText_some (c : List Int) (hc : Bytes8 c) (a s : Int) (h0 : 0 ≤ a) (h1 : a ≤ 1000000000000300) : ∃ r a2 s2, Ev (fun k => spec_l1Cur_anyText.f k c a s) (r, a2, s2) ∧ SmT r ∧ a ≤ a2 ∧ a2 ≤ a + 24 := by
  simp only [spec_l1Cur_anyText.f]
  obtain ⟨l, a2, s2, e, h2⟩ := text_some c hc a s h0 (by omega)
  have hT := smT_of h2.1 h2.2.1
  by_cases hl : (l.length : Int) > 1
  · obtain ⟨v, a3, s3, e3, h3⟩ := pick_some c hc a2 s2 25 (at_of (by omega) (by omega))
    have st : ∀ (w : ByteArray), w.size ≤ 8 → SmT (l.set (0 : Int).toNat w) := fun w hw => smT_set (by omega) hT w hw
    by_cases c0 : v = 0
    · exact ⟨_, a3, s3, ev_bind e (ev_pos hl (ev_bind (ev_const e3) (ev_pos c0 (ev_pos (by dsimp only; omega) (ev_some rfl))))), st _ (by decide), by omega, by omega⟩
    · by_cases c1 : v = 1
      · exact ⟨_, a3, s3, ev_bind e (ev_pos hl (ev_bind (ev_const e3) (ev_neg c0 (ev_pos c1 (ev_pos (by dsimp only; omega) (ev_some rfl)))))), st _ (by decide), by omega, by omega⟩
      · by_cases c2 : v = 2
        · exact ⟨_, a3, s3, ev_bind e (ev_pos hl (ev_bind (ev_const e3) (ev_neg c0 (ev_neg c1 (ev_pos c2 (ev_pos (by dsimp only; omega) (ev_some rfl))))))), st _ (by decide), by omega, by omega⟩
        · exact ⟨_, a3, s3, ev_bind e (ev_pos hl (ev_bind (ev_const e3) (ev_neg c0 (ev_neg c1 (ev_neg c2 (ev_some rfl)))))), hT, by omega, by omega⟩
  · exact ⟨l, a2, s2, ev_bind e (ev_neg hl (ev_some rfl)), hT, by omega, by omega⟩
end Go.Proofs.Ytmcldkobejhaeaa.Pl
/- Plain Lean: whether a number lies between two. No condition. -/
namespace Go.Proofs.Ytmcldkobejhaeaa.Pl
open Go.RowKit Go.Proofs.YtmcldkobejhaeaaW.PrintWords Go.Proofs.YtmcldkobejhaeaaW.PrintLast Go.Proofs.Ytmcldkobejhaeaa.My
set_option linter.unusedVariables false
set_option linter.unusedSimpArgs false
def inB (n lo hi : Int) : Bool := decide (lo ≤ n) && decide (n ≤ hi)
theorem impl_in_eq (a b c : Int) : impl_in.f a b c = some (inB a b c) := by
  unfold impl_in.f inB
  by_cases h : b ≤ a
  · rw [if_pos h]; simp [h]
  · rw [if_neg (by omega)]; simp [h]
theorem spec_l1In_eq (a b c : Int) : spec_l1In.f a b c = some (inB a b c) := by
  unfold spec_l1In.f inB
  by_cases h : b ≤ a
  · rw [if_pos h]; simp [h]
  · rw [if_neg (by omega)]; simp [h]
end Go.Proofs.Ytmcldkobejhaeaa.Pl
/- Plain Lean: texts that fit. No condition. -/
namespace Go.Proofs.Ytmcldkobejhaeaa.Pl
open Go.RowKit Go.Proofs.YtmcldkobejhaeaaW.PrintWords Go.Proofs.YtmcldkobejhaeaaW.PrintLast
set_option linter.unusedVariables false
set_option linter.unusedSimpArgs false
def FitS (l : List ByteArray) : Prop := l.length ≤ 9223372036854775807 ∧ ∀ s ∈ l, s.size ≤ 9223372036854775807
end Go.Proofs.Ytmcldkobejhaeaa.Pl
/- Plain Lean: chapter 1: what a line and good lines are, for the program and the reference. Conditions: lengths and sizes below 2^63. -/
namespace Go.Proofs.Ytmcldkobejhaeaa.Pl
open Go.RowKit Go.Proofs.YtmcldkobejhaeaaW.PrintWords Go.Proofs.YtmcldkobejhaeaaW.PrintLast Go.Proofs.Ytmcldkobejhaeaa.My
set_option linter.unusedVariables false
set_option linter.unusedSimpArgs false
def isLn (s : ByteArray) : Bool := !(s.data.toList.dropLast.contains 10) && inB s.size 1 30
def ends (s : ByteArray) : Bool := s.data.toList.getLast? == some 10
def good (l : List ByteArray) : Bool := decide (l.length ≤ 40) && (l.all isLn && l.dropLast.all ends)
theorem toList_one (c : UInt8) : (⟨#[c]⟩ : ByteArray).toList = [c] := by rw [Lib.toList_data]
theorem size_one (c : UInt8) : (⟨#[c]⟩ : ByteArray).size = 1 := rfl
theorem bt_one (c : UInt8) : bt ⟨#[c]⟩ 0 = (c.toNat : Int) := rfl
theorem index_ev (s : ByteArray) (c : UInt8) : Ev (fun k => strings_Index.f k s ⟨#[c]⟩) (Lib.indexByte s.data.toList c) := by
  have hj : ∀ b : Bool, (b = true → Lib.indexByte s.data.toList c = 0) → Ev (fun k => stringslite_Index.j0 k s ⟨#[c]⟩ 1 b) (Lib.indexByte s.data.toList c) := by
    intro b hb
    refine Ev.step (fun k => stringslite_Index.j0.eq_2 ..) ?_
    refine ev_ite (fun h => ev_some (hb h).symm) (fun _ => ?_)
    refine ev_pos rfl (ev_pos (by rw [size_one]; decide) ?_)
    refine ev_const ?_
    rw [bt_one]
    simp [stringslite_IndexByte.f]
  have h2 : Ev (fun k => stringslite_Index.f k s ⟨#[c]⟩) (Lib.indexByte s.data.toList c) := by
    simp only [stringslite_Index.f]
    refine ev_neg (by rw [size_one]; decide) ?_
    refine hj _ (fun h => ?_)
    have e : s.data.toList = [c] := by
      have := beq_iff_eq.1 h
      rw [toList_one, Lib.toList_data] at this
      exact this.symm
    rw [e]
    simp [Lib.indexByte]
  simp only [strings_Index.f]
  exact ev_bind h2 (ev_some rfl)
theorem indexByte_nonneg (l : List UInt8) (c : UInt8) : decide (Lib.indexByte l c ≥ 0) = l.contains c := by
  induction l with
  | nil => simp [Lib.indexByte]
  | cons b l ih =>
    have hge := Lib.indexByte_ge l c
    unfold Lib.indexByte
    by_cases h : (b == c) = true
    · have : b = c := beq_iff_eq.1 h
      simp [this]
    · have hb : (b == c) = false := by simpa using h
      have hne : ¬ c = b := fun e => h (by simp [e])
      rw [List.contains_cons, ← ih]
      simp only [hb]
      by_cases h2 : Lib.indexByte l c = -1
      · simp [h2, hne]
      · have h3 : (Lib.indexByte l c == -1) = false := by simpa using h2
        simp only [h3]
        have : Lib.indexByte l c ≥ 0 := by omega
        simp [hne, this]
        omega
theorem contains_ev (s : ByteArray) (c : UInt8) : Ev (fun k => strings_Contains.f k s ⟨#[c]⟩) (s.data.toList.contains c) := by
  simp only [strings_Contains.f]
  exact ev_bind (index_ev s c) (ev_some (indexByte_nonneg _ _))
theorem extract_data (s : ByteArray) (a b : Nat) : (s.extract a b).data.toList = (s.data.toList.take b).drop a := by
  rw [ByteArray.data_extract, Array.toList_extract, List.extract_eq_take_drop, ← List.drop_take]
theorem isLine_ev (s : ByteArray) (hs : s.size ≤ 9223372036854775807) : Ev (fun k => impl_isLine.f k s) (isLn s) := by
  simp only [impl_isLine.f, impl_in_eq, Option.bind_some]
  refine ev_ite (fun h => ?_) (fun h => ev_some (by unfold isLn; simp at h; simp [h]))
  have h1 : 1 ≤ s.size ∧ s.size ≤ 30 := by
    simp [inB] at h
    omega
  rw [wrap_pred s.size (by omega) hs]
  refine ev_pos (by omega) (ev_pos (by omega) ?_)
  refine ev_bind (contains_ev _ 10) (ev_some ?_)
  rw [Int.toNat_natCast, extract_data, List.drop_zero, ← data_length, ← List.dropLast_eq_take]
  unfold isLn
  rw [h]
  simp
theorem l1Line_l0 (s : ByteArray) (hs : s.size ≤ 9223372036854775807) : ∀ d i, i + d = s.size - 1 → Ev (fun k => spec_l1Line.l0 k s (i : Int)) (!((s.data.toList.dropLast.drop i).contains 10) && inB s.size 1 30) := by
  intro d
  have hl : s.data.toList.length = s.size := data_length s
  induction d with
  | zero =>
    intro i hi
    refine Ev.step (fun k => spec_l1Line.l0.eq_2 ..) ?_
    refine ev_neg (by rw [wrap64_id (by omega) (by omega)]; omega) ?_
    refine ev_const ?_
    rw [spec_l1In_eq, List.drop_of_length_le (by rw [List.length_dropLast]; omega)]
    rfl
  | succ d ih =>
    intro i hi
    refine Ev.step (fun k => spec_l1Line.l0.eq_2 ..) ?_
    refine ev_pos (by rw [wrap64_id (by omega) (by omega)]; omega) (ev_pos (by omega) (ev_pos (by omega) ?_))
    have hd : s.data.toList.dropLast.drop i = s.data.toList[i] :: s.data.toList.dropLast.drop (i + 1) := by
      rw [List.drop_eq_getElem_cons (by rw [List.length_dropLast]; omega), List.getElem_dropLast]
    rw [hd, List.contains_cons, bt_nat s i (by omega)]
    refine ev_ite (fun h => ev_some ?_) (fun h => ?_)
    · have : s.data.toList[i] = 10 := u8_eq h
      rw [this]
      simp
    · rw [wrap_succ i (by omega)]
      refine ev_to (ih (i + 1) (by omega)) ?_
      have : ((10 : UInt8) == s.data.toList[i]) = false := by
        rw [beq_eq_false_iff_ne]
        exact u8_ne h
      rw [this, Bool.false_or]
theorem l1Line_ev (s : ByteArray) (hs : s.size ≤ 9223372036854775807) : Ev (fun k => spec_l1Line.f k s) (isLn s) := by
  simp only [spec_l1Line.f]
  exact l1Line_l0 s hs (s.size - 1) 0 (by omega)
theorem isLn_size {s : ByteArray} (h : isLn s = true) : 1 ≤ s.size ∧ s.size ≤ 30 := by
  simp [isLn, inB] at h
  omega
theorem ends_last {s : ByteArray} (h : 1 ≤ s.size) : ends s = (bt s ((s.size - 1 : Nat) : Int) == 10) := by
  have hl : s.data.toList.length = s.size := data_length s
  have hq : s.data.toList.getLast? = some (s.data.toList[s.size - 1]'(by omega)) := by
    rw [List.getLast?_eq_getElem?, List.getElem?_eq_getElem (by omega)]
    simp only [hl]
  unfold ends
  rw [bt_nat s _ (by omega), hq]
  rw [Bool.eq_iff_iff]
  simp only [beq_iff_eq, Option.some.injEq]
  constructor
  · intro e; rw [e]; rfl
  · intro e; exact u8_eq e
theorem l1Ends_eq (s : ByteArray) (h : 1 ≤ s.size) (hs : s.size ≤ 9223372036854775807) : spec_l1Ends.f s = some (ends s) := by
  unfold spec_l1Ends.f
  rw [wrap_pred s.size (by omega) hs, if_pos (by omega), if_pos (by omega), ends_last h]
theorem hasSuffix_eq (s : ByteArray) (c : UInt8) (hs : s.size ≤ 9223372036854775807) : strings_HasSuffix.f s ⟨#[c]⟩ = some (s.data.toList.getLast? == some c) := by
  have hl : s.data.toList.length = s.size := data_length s
  unfold strings_HasSuffix.f stringslite_HasSuffix.f
  rw [size_one]
  by_cases h : 1 ≤ s.size
  · rw [if_pos (by omega), show ((1 : Nat) : Int) = 1 from rfl, wrap_pred s.size (by omega) hs, if_pos (by omega), if_pos (by omega), Option.bind_some, toList_one, Lib.toList_data, Int.toNat_natCast, extract_data, ← hl, List.take_length]
    have e : s.data.toList.drop (s.data.toList.length - 1) = [s.data.toList[s.data.toList.length - 1]'(by omega)] := by
      rw [List.drop_eq_getElem_cons (by omega), List.drop_of_length_le (by omega)]
    rw [e, List.getLast?_eq_getElem?, List.getElem?_eq_getElem (by omega)]
    congr 1
    rw [Bool.eq_iff_iff]
    simp
  · rw [if_neg (by omega), Option.bind_some]
    have : s.data.toList = [] := List.eq_nil_of_length_eq_zero (by omega)
    simp [this]
theorem isEnded_eq (s : ByteArray) (hs : s.size ≤ 9223372036854775807) : impl_isEnded.f s = some (ends s) := by
  unfold impl_isEnded.f
  rw [hasSuffix_eq s 10 hs]
  rfl
theorem areLines_l0 (l : List ByteArray) (hf : FitS l) : ∀ d i, i + d = l.length → ∃ j : Int, Ev (fun k => slices_IndexFunc_string_string__impl_areLines_1.l0 k l (l.length : Int) (i : Int)) j ∧ decide (j ≥ 0) = !((l.drop i).all isLn) := by
  intro d
  induction d with
  | zero =>
    intro i hi
    refine ⟨-1, Ev.step (fun k => slices_IndexFunc_string_string__impl_areLines_1.l0.eq_2 ..) (ev_neg (by omega) (ev_some rfl)), ?_⟩
    rw [List.drop_of_length_le (by omega)]
    rfl
  | succ d ih =>
    intro i hi
    have hlt : i < l.length := by omega
    have hev : Ev (fun k => impl_areLines_1.f k (rdOf ByteArray.empty l (i : Int))) (!isLn l[i]) := by
      rw [rdOf_lt _ _ _ hlt]
      simp only [impl_areLines_1.f]
      exact ev_bind (isLine_ev _ (hf.2 _ (List.getElem_mem _))) (ev_some rfl)
    obtain ⟨j, hj, hjj⟩ := ih (i + 1) (by omega)
    rw [drop_cons l i hlt, List.all_cons]
    by_cases h : isLn l[i] = true
    · refine ⟨j, Ev.step (fun k => slices_IndexFunc_string_string__impl_areLines_1.l0.eq_2 ..) (ev_pos (by omega) (ev_pos (by omega) (ev_pos (by omega) (ev_bind hev (ev_neg (by simp [h]) ?_))))), by rw [hjj, h]; simp⟩
      rw [wrap_succ i (by have := hf.1; omega)]
      exact hj
    · refine ⟨(i : Int), Ev.step (fun k => slices_IndexFunc_string_string__impl_areLines_1.l0.eq_2 ..) (ev_pos (by omega) (ev_pos (by omega) (ev_pos (by omega) (ev_bind hev (ev_pos (by simp [h]) (ev_some rfl)))))), ?_⟩
      simp [h]
theorem areLines_ev (l : List ByteArray) (hf : FitS l) : Ev (fun k => impl_areLines.f k l) (decide (l.length ≤ 40) && l.all isLn) := by
  simp only [impl_areLines.f]
  refine ev_ite (fun h => ?_) (fun h => ev_some ?_)
  · obtain ⟨j, hj, hjj⟩ := areLines_l0 l hf l.length 0 (by omega)
    simp only [slices_ContainsFunc_string_string__impl_areLines_1.f, slices_IndexFunc_string_string__impl_areLines_1.f]
    refine ev_bind (ev_bind hj (ev_some rfl)) (ev_some ?_)
    have : l.length ≤ 40 := by omega
    rw [hjj]
    simp [this]
  · have : ¬ l.length ≤ 40 := by omega
    simp [this]
theorem goodLines_l0 (l : List ByteArray) (hf : FitS l) : ∀ d i, i + d = l.length → Ev (fun k => impl_goodLines.l0 k l l (l.length : Int) (i : Int)) ((l.dropLast.drop i).all ends) := by
  intro d
  have hL := hf.1
  induction d with
  | zero =>
    intro i hi
    refine Ev.step (fun k => impl_goodLines.l0.eq_2 ..) (ev_neg (by omega) (ev_some ?_))
    rw [List.drop_of_length_le (by rw [List.length_dropLast]; omega)]
    rfl
  | succ d ih =>
    intro i hi
    have hlt : i < l.length := by omega
    refine Ev.step (fun k => impl_goodLines.l0.eq_2 ..) (ev_pos (by omega) (ev_pos (by omega) (ev_pos (by omega) ?_)))
    rw [wrap_pred l.length (by omega) hL, rdOf_lt _ _ _ hlt, isEnded_eq _ (hf.2 _ (List.getElem_mem _)), wrap_succ i (by omega)]
    simp only [Option.bind_some]
    refine ev_ite (fun h => ?_) (fun h => ?_)
    · have hd : l.dropLast.drop i = l[i] :: l.dropLast.drop (i + 1) := by
        rw [List.drop_eq_getElem_cons (by rw [List.length_dropLast]; omega), List.getElem_dropLast]
      rw [hd, List.all_cons]
      refine ev_ite (fun h => ?_) (fun h => ev_some (by simp [h]))
      rw [h, Bool.true_and]
      exact ih (i + 1) (by omega)
    · have e1 : l.dropLast.drop i = [] := List.drop_of_length_le (by rw [List.length_dropLast]; omega)
      have e2 : l.dropLast.drop (i + 1) = [] := List.drop_of_length_le (by rw [List.length_dropLast]; omega)
      have := ih (i + 1) (by omega)
      rw [e2] at this
      rw [e1]
      exact this
theorem goodLines_ev (l : List ByteArray) (hf : FitS l) : Ev (fun k => impl_goodLines.f k l) (good l) := by
  simp only [impl_goodLines.f]
  refine ev_bind (areLines_ev l hf) (ev_ite (fun h => ?_) (fun h => ev_some ?_))
  · refine ev_to (goodLines_l0 l hf l.length 0 (by omega)) ?_
    rw [List.drop_zero]
    unfold good
    rw [← Bool.and_assoc, h, Bool.true_and]
  · unfold good
    rw [← Bool.and_assoc]
    simp at h
    simp
    intro h1 h2
    exact absurd (h h1) (by simpa using h2)
theorem l1Good_l0 (l : List ByteArray) (hf : FitS l) : ∀ d i, i + d = l.length → Ev (fun k => spec_l1Good.l0 k l l (l.length : Int) (i : Int)) ((l.drop i).all isLn && (l.dropLast.drop i).all ends && decide (l.length ≤ 40)) := by
  intro d
  have hL := hf.1
  induction d with
  | zero =>
    intro i hi
    refine Ev.step (fun k => spec_l1Good.l0.eq_2 ..) (ev_neg (by omega) (ev_some ?_))
    rw [List.drop_of_length_le (by omega), List.drop_of_length_le (by rw [List.length_dropLast]; omega)]
    simp
    omega
  | succ d ih =>
    intro i hi
    have hlt : i < l.length := by omega
    refine Ev.step (fun k => spec_l1Good.l0.eq_2 ..) (ev_pos (by omega) (ev_pos (by omega) (ev_pos (by omega) ?_)))
    simp only [rdOf_lt _ _ _ hlt]
    rw [wrap_pred l.length (by omega) hL, wrap_succ i (by omega), drop_cons l i hlt, List.all_cons]
    refine ev_bind (l1Line_ev _ (hf.2 _ (List.getElem_mem _))) (ev_ite (fun h => ?_) (fun h => ev_some (by simp [h])))
    rw [h, Bool.true_and, l1Ends_eq _ (isLn_size h).1 (hf.2 _ (List.getElem_mem _))]
    simp only [Option.bind_some]
    refine ev_ite (fun h => ?_) (fun h => ?_)
    · have hd : l.dropLast.drop i = l[i] :: l.dropLast.drop (i + 1) := by
        rw [List.drop_eq_getElem_cons (by rw [List.length_dropLast]; omega), List.getElem_dropLast]
      rw [hd, List.all_cons]
      refine ev_ite (fun h => ?_) (fun h => ev_some (by simp [h]))
      rw [h, Bool.true_and]
      exact ih (i + 1) (by omega)
    · have e1 : l.dropLast.drop i = [] := List.drop_of_length_le (by rw [List.length_dropLast]; omega)
      have e2 : l.dropLast.drop (i + 1) = [] := List.drop_of_length_le (by rw [List.length_dropLast]; omega)
      have := ih (i + 1) (by omega)
      rw [e2] at this
      rw [e1]
      exact this
theorem l1Good_ev (l : List ByteArray) (hf : FitS l) : Ev (fun k => spec_l1Good.f k l) (good l) := by
  simp only [spec_l1Good.f]
  refine ev_to (l1Good_l0 l hf l.length 0 (by omega)) ?_
  rw [List.drop_zero, List.drop_zero]
  unfold good
  rw [Bool.and_comm]
end Go.Proofs.Ytmcldkobejhaeaa.Pl
/- Plain Lean: whether a text's last line is ended, told by the reference. Asked: a last line that is not empty. -/
namespace Go.Proofs.Ytmcldkobejhaeaa.Pl
open Go.RowKit Go.Proofs.YtmcldkobejhaeaaW.PrintWords Go.Proofs.YtmcldkobejhaeaaW.PrintLast Go.Proofs.Ytmcldkobejhaeaa.My
set_option linter.unusedVariables false
set_option linter.unusedSimpArgs false
theorem whole_some (l : List ByteArray) (hl : l.length ≤ 100) (hs : ∀ s ∈ l, s.size ≤ 9223372036854775807) (hx : ∀ x, l.getLast? = some x → 1 ≤ x.size) : ∃ b, spec_l1Whole.f l = some b := by
  unfold spec_l1Whole.f
  by_cases h : l.length = 0
  · exact ⟨true, by rw [if_pos (by omega)]⟩
  · have hm := List.getElem_mem (l := l) (n := l.length - 1) (by omega)
    have h1 : 1 ≤ (l[l.length - 1]'(by omega)).size := hx _ (by rw [List.getLast?_eq_getElem?, List.getElem?_eq_getElem (by omega)])
    refine ⟨ends (l[l.length - 1]'(by omega)), ?_⟩
    rw [if_neg (by omega), wrap_pred l.length (by omega) (by omega), if_pos (by omega), if_pos (by omega), rdOf_lt _ _ _ (by omega), l1Ends_eq _ h1 (hs _ hm)]
    rfl
end Go.Proofs.Ytmcldkobejhaeaa.Pl
/- Written by this session's program (wip/gen): a plain function with the same answers as the Go function, and the proof that the Go code comes to them. Asked: that the plain function has an answer. -/
namespace Go.Proofs.Ytmcldkobejhaeaa.My
open Go.RowKit Go.Proofs.YtmcldkobejhaeaaW.PrintWords Go.Proofs.YtmcldkobejhaeaaW.PrintLast Go.Proofs.YtmcldkobejhaeaaW.PrintMore
attribute [local go_sem] max2_int min2_int max_two min_two max_three min_three max_four min_four
set_option linter.unusedVariables false
set_option linter.unusedSimpArgs false
def slices_Clone_string_string.f (l0 : List ByteArray) : Option (List ByteArray) := (some (([] : List ByteArray) : List ByteArray)).bind fun y170 => (if y170.length + l0.length < 8796093022208 then (some (y170 ++ l0)) else (none))
set_option maxHeartbeats 8000000 in
set_option maxRecDepth 100000 in
theorem slices_Clone_string_string.calls (A0 : Option Addr) (c0 : Nat) (l0 : List ByteArray) (r : List ByteArray) (w : World) (hr0 : Kd.C Kd.string w A0 l0.length l0) (hc0 : l0.length ≤ c0) (h : slices_Clone_string_string.f l0 = some r) :
  Calls Try.prog 65 #[.slice A0 l0.length c0] w fun e w' => ∃ v0_ : Value, e = .returned (v0_) ∧ Kd.R Kd.string 9 w' w.heap.size (fun _ => True) v0_ r ∧ Below w.heap.size w w' := by
 rcases A0 with _ | ad0
 ·obtain rfl : l0 = [] := by
   rcases Nat.eq_zero_or_pos l0.length with h0 | h0
   ·exact List.eq_nil_of_length_eq_zero h0
   ·obtain ⟨ad, e, _⟩ := hr0.2.2 h0
    cases e
  obtain rfl : r = [] := by simpa [slices_Clone_string_string.f] using h.symm
  clear hr0 hc0 h
  have hnil := fun (W : World) (n_ c_ : Nat) => run_eql_slice_nil (P := Try.prog) W _ _ none n_ c_ Try.underlying24
  go_enter Try.func65, Try.ntmps65
  go_wp2
  go_ret
  exact ⟨_, rfl, Kd.R_nil _ _ _ _ _, Below.refl _ _⟩
 have hnil := fun (W : World) (n_ c_ : Nat) => run_eql_slice_nil (P := Try.prog) W _ _ (some ad0) n_ c_ Try.underlying24
 have HR0 := am hr0
 have HC0 := am hc0
 clear hr0 hc0
 have HB := am (Below.refl w.heap.size w)
 have H : ((some (([] : List ByteArray) : List ByteArray)).bind fun y170 => (if y170.length + l0.length < 8796093022208 then (some (y170 ++ l0)) else (none))) = some r := h
 clear h
 obtain ⟨y170, hy170⟩ : ∃ y_ : List ByteArray, y_ = (([] : List ByteArray)) := ⟨_, rfl⟩
 replace H : (if y170.length + l0.length < 8796093022208 then (some (y170 ++ l0)) else (none)) = some r := by first | (rw [hy170]; with_reducible exact H) | (have H2_ := (Option.bind_some _ _).symm.trans H; rw [hy170]; with_reducible exact H2_) | (have H2_ := (Option.bind_some _ _).symm.trans H; with_reducible exact H2_) | with_reducible exact H | (rw [hy170]; exact H) | exact H
 have Ny170 := am hy170
 clear hy170
 by_cases c2 : y170.length + l0.length < 8796093022208
 ·rw [if_pos c2] at H
  have LMc2 := am c2
  clear c2
  obtain ⟨y173, hy173⟩ : ∃ y_ : List ByteArray, y_ = (y170 ++ l0) := ⟨_, rfl⟩
  replace H : (some y173) = some r := by first | (rw [hy173]; with_reducible exact H) | (have H2_ := (Option.bind_some _ _).symm.trans H; rw [hy173]; with_reducible exact H2_) | (have H2_ := (Option.bind_some _ _).symm.trans H; with_reducible exact H2_) | with_reducible exact H | (rw [hy173]; exact H) | exact H
  have Ny173 := am hy173
  clear hy173
  obtain rfl := Option.some.inj H
  go_enter Try.func65, Try.ntmps65
  go_wp2_with (first | ((with_reducible refine gate_dst (N := 5) rfl ?_); refine Kd.R_lit Kd.string _ 9 ?hg (N := 5) ?hd (xs := ([] : List ByteArray)) (inner := []) (ok := fun _ => True) (okp := fun _ => True) ?hr ?hp (fun _ hk => hk) trivial (Below.refl _ _) (Nat.le_refl _) (by simp) ?_; (case hd => rfl); (case hg => rfl); (case hr => first | (go_simp; done) | (go_simp; rfl)); (case hp => exact (Reps.none _ _)); intro v171 w3 ho4 hb hg_ hnew_; clear hg_ hnew_; (first | rw [← Ny170.out] at ho4 | (simp only [Int.reduceToNat] at ho4; rw [← Ny170.out] at ho4)); have n0_ := am (Kd.R_lower ho4 (below_size zb)); have n1_ := am (below_step zb hb); clear HB; have HO172 := n0_; have HB := n1_; clear n0_ n1_; clear hb ho4) | ((with_reducible refine gateB (b := .append) (xs := #[.tmp 5, .tmp 6]) rfl ?_); at_builtin; refine Kd.R_append_rows Kd.string (w0 := w) w.heap.size rfl (.tmp 5) (.tmp 6) 24 9 (.string ⟨#[]⟩) 16 rfl Try.underlying24 info9 rfl (by decide) (by omega) v171 y170 l0 _ _ _ (fun _ => True) (fun _ => False) rfl rfl ?aO ?aR (fun _ _ h => h) (fun _ h => h.elim) ?aF ?aB ?aS ?aL ?_; (case aR => exact zq (Kd.C_below HR0.out HB.out)); (case aB => exact zb); (case aF => exact (fun _ _ => trivial)); (case aO => exact (zr HO172.out)); (case aS => exact (below_size zb)); (case aL => have := LMc2.out; omega); intro v174 w5 ho hb hg hat; rw [← Ny173.out] at ho; have n0_ := am (hb); have n1_ := am (ho); clear HB; clear HO172; have HB := n0_; have HO175 := n1_; clear n0_ n1_; clear ho hb hg hat))
  go_ret
  exact ⟨_, by first | rfl | (simp [errW_none, errW_some] <;> rfl) | (simp [*, errW_none, errW_some] <;> rfl), by (with_reducible repeat (first | apply Kd.R_alloc | apply Kd.R_drewN | apply Kd.R_drew)); exact HO175.out, by repeat (first | (with_reducible first | exact HB.out | apply below_alloc | apply pw_below_drewN | apply below_drew1) | exact HB.out)⟩
 ·rw [if_neg c2] at H
  exact absurd H (by simp)
end Go.Proofs.Ytmcldkobejhaeaa.My
/- Plain Lean: copies of lists of strings. Condition: lengths below 2^43. -/
namespace Go.Proofs.Ytmcldkobejhaeaa.Pl
open Go.RowKit Go.Proofs.YtmcldkobejhaeaaW.PrintWords Go.Proofs.YtmcldkobejhaeaaW.PrintLast Go.Proofs.Ytmcldkobejhaeaa.My
set_option linter.unusedVariables false
set_option linter.unusedSimpArgs false
theorem ownT_eq (l : List ByteArray) (h : l.length < 8796093022208) : spec_l1OwnT.f l = some l := by
  unfold spec_l1OwnT.f
  simp [h]
end Go.Proofs.Ytmcldkobejhaeaa.Pl
/- Written by this session's program (wip/gen): a plain function with the same answers as the Go function, and the proof that the Go code comes to them. Asked: that the plain function has an answer. -/
namespace Go.Proofs.Ytmcldkobejhaeaa.My
open Go.RowKit Go.Proofs.YtmcldkobejhaeaaW.PrintWords Go.Proofs.YtmcldkobejhaeaaW.PrintLast Go.Proofs.YtmcldkobejhaeaaW.PrintMore
attribute [local go_sem] max2_int min2_int max_two min_two max_three min_three max_four min_four
set_option linter.unusedVariables false
set_option linter.unusedSimpArgs false
def stringslite_TrimSuffix.f (a0 : ByteArray) (a1 : ByteArray) : Option (ByteArray) := (stringslite_HasSuffix.f a0 a1).bind fun t201 => (if t201 = true then (if 0 ≤ (wrap64 ((a0.size : Int) - (a1.size : Int))) then (if (wrap64 ((a0.size : Int) - (a1.size : Int))) ≤ (a0.size : Int) then (some (a0.extract 0 ((wrap64 ((a0.size : Int) - (a1.size : Int))) : Int).toNat)) else (none)) else (none)) else (some a0))
set_option maxHeartbeats 8000000 in
set_option maxRecDepth 100000 in
theorem stringslite_TrimSuffix.calls (a0 : ByteArray) (a1 : ByteArray) (r : ByteArray) (w : World) (h : stringslite_TrimSuffix.f a0 a1 = some r) :
  Calls Try.prog 151 #[.string a0, .string a1] w fun e w' => e = .returned (.string r) ∧ Drawn0 w w' := by
 have H : ((stringslite_HasSuffix.f a0 a1).bind fun t201 => (if t201 = true then (if 0 ≤ (wrap64 ((a0.size : Int) - (a1.size : Int))) then (if (wrap64 ((a0.size : Int) - (a1.size : Int))) ≤ (a0.size : Int) then (some (a0.extract 0 ((wrap64 ((a0.size : Int) - (a1.size : Int))) : Int).toNat)) else (none)) else (none)) else (some a0))) = some r := h
 clear h
 replace H := Option.bind_eq_some_iff.mp H
 obtain ⟨t201, A30, H⟩ := H
 replace H : (if t201 = true then (if 0 ≤ (wrap64 ((a0.size : Int) - (a1.size : Int))) then (if (wrap64 ((a0.size : Int) - (a1.size : Int))) ≤ (a0.size : Int) then (some (a0.extract 0 ((wrap64 ((a0.size : Int) - (a1.size : Int))) : Int).toNat)) else (none)) else (none)) else (some a0)) = some r := H
 have A3 := am A30
 clear A30
 by_cases c4 : t201 = true
 ·subst c4
  have H1 : (if 0 ≤ (wrap64 ((a0.size : Int) - (a1.size : Int))) then (if (wrap64 ((a0.size : Int) - (a1.size : Int))) ≤ (a0.size : Int) then (some (a0.extract 0 ((wrap64 ((a0.size : Int) - (a1.size : Int))) : Int).toNat)) else (none)) else (none)) = some r := by rw [if_pos rfl] at H; exact H
  clear H
  have H := H1
  clear H1
  obtain ⟨ji5, hji5⟩ : ∃ j_ : Int, (wrap64 ((a0.size : Int) - (a1.size : Int))) = j_ := ⟨_, rfl⟩
  replace H : (if 0 ≤ (ji5) then (if (ji5) ≤ (a0.size : Int) then (some (a0.extract 0 ((ji5) : Int).toNat)) else (none)) else (none)) = some r := by first | (rw [hji5] at H; exact H) | (simp only [hji5] at H ⊢; exact H)
  (try rw [hji5] at A3)
  have hji5w : (IntKind.i64.wrap ((a0.size : Int) - (a1.size : Int))) = ji5 := (i64_w _).trans hji5
  by_cases c6 : 0 ≤ (ji5)
  ·rw [if_pos c6] at H
   have c6b0 := eq_true c6
   have c6b1 : decide (0 ≤ (ji5)) = true := decide_eq_true c6
   clear c6
   by_cases c7 : (ji5) ≤ (a0.size : Int)
   ·rw [if_pos c7] at H
    have c7b0 := eq_true c7
    have c7b1 : decide ((ji5) ≤ (a0.size : Int)) = true := decide_eq_true c7
    clear c7
    obtain rfl := Option.some.inj H
    go_enter Try.func151, Try.ntmps151
    go_wp2_with (first | ((with_reducible refine gateC (f := 158) rfl ?_); refine goesL_ (some 7) rfl rfl Try.func158 (by kernel_rfl) rfl #[.string a0, .string a1] rfl zm ?_; (with_reducible refine (stringslite_HasSuffix.calls a0 a1 true _ A3.out).mono ?_); rintro e w' ⟨rfl, ⟨nd, rfl⟩⟩; refine ⟨_, rfl, ?_⟩))
    go_ret
    exact ⟨by first | rfl | (simp; done) | (simp only [← hji5] <;> (first | rfl | simp)) | (simp [*]; done), by repeat (first | exact Drawn0.refl _ | apply Drawn0.step)⟩
   ·rw [if_neg c7] at H
    exact absurd H (by simp)
  ·rw [if_neg c6] at H
   exact absurd H (by simp)
 ·replace c4 := Bool.eq_false_iff.mpr c4
  subst c4
  have H1 : (some a0) = some r := by rw [if_neg (show ¬ (false = true) by decide)] at H; exact H
  clear H
  have H := H1
  clear H1
  obtain rfl := Option.some.inj H
  go_enter Try.func151, Try.ntmps151
  go_wp2_with (first | ((with_reducible refine gateC (f := 158) rfl ?_); refine goesL_ (some 7) rfl rfl Try.func158 (by kernel_rfl) rfl #[.string a0, .string a1] rfl zm ?_; (with_reducible refine (stringslite_HasSuffix.calls a0 a1 false _ A3.out).mono ?_); rintro e w' ⟨rfl, ⟨nd, rfl⟩⟩; refine ⟨_, rfl, ?_⟩))
  go_ret
  exact ⟨by first | rfl | (simp; done) | (simp [*]; done), by repeat (first | exact Drawn0.refl _ | apply Drawn0.step)⟩
end Go.Proofs.Ytmcldkobejhaeaa.My
/- Written by this session's program (wip/gen): a plain function with the same answers as the Go function, and the proof that the Go code comes to them. Asked: that the plain function has an answer. -/
namespace Go.Proofs.Ytmcldkobejhaeaa.My
open Go.RowKit Go.Proofs.YtmcldkobejhaeaaW.PrintWords Go.Proofs.YtmcldkobejhaeaaW.PrintLast Go.Proofs.YtmcldkobejhaeaaW.PrintMore
attribute [local go_sem] max2_int min2_int max_two min_two max_three min_three max_four min_four
set_option linter.unusedVariables false
set_option linter.unusedSimpArgs false
def strings_TrimSuffix.f (a0 : ByteArray) (a1 : ByteArray) : Option (ByteArray) := (stringslite_TrimSuffix.f a0 a1).bind fun t202 => (some t202)
set_option maxHeartbeats 8000000 in
set_option maxRecDepth 100000 in
theorem strings_TrimSuffix.calls (a0 : ByteArray) (a1 : ByteArray) (r : ByteArray) (w : World) (h : strings_TrimSuffix.f a0 a1 = some r) :
  Calls Try.prog 129 #[.string a0, .string a1] w fun e w' => e = .returned (.string r) ∧ Drawn0 w w' := by
 have H : ((stringslite_TrimSuffix.f a0 a1).bind fun t202 => (some t202)) = some r := h
 clear h
 replace H := Option.bind_eq_some_iff.mp H
 obtain ⟨t202, A30, H⟩ := H
 replace H : (some t202) = some r := H
 have A3 := am A30
 clear A30
 obtain rfl := Option.some.inj H
 go_enter Try.func129, Try.ntmps129
 go_wp2_with (first | ((with_reducible refine gateC (f := 151) rfl ?_); refine goesL_ (some 7) rfl rfl Try.func151 (by kernel_rfl) rfl #[.string a0, .string a1] rfl zm ?_; (with_reducible refine (stringslite_TrimSuffix.calls a0 a1 t202 _ A3.out).mono ?_); rintro e w' ⟨rfl, ⟨nd, rfl⟩⟩; refine ⟨_, rfl, ?_⟩))
 go_ret
 exact ⟨by first | rfl | (simp; done) | (simp [*]; done), by repeat (first | exact Drawn0.refl _ | apply Drawn0.step)⟩
end Go.Proofs.Ytmcldkobejhaeaa.My
/- Written by this session's program (wip/gen): a plain function with the same answers as the Go function, and the proof that the Go code comes to them. Asked: that the plain function has an answer. -/
namespace Go.Proofs.Ytmcldkobejhaeaa.My
open Go.RowKit Go.Proofs.YtmcldkobejhaeaaW.PrintWords Go.Proofs.YtmcldkobejhaeaaW.PrintLast Go.Proofs.YtmcldkobejhaeaaW.PrintMore
attribute [local go_sem] max2_int min2_int max_two min_two max_three min_three max_four min_four
set_option linter.unusedVariables false
set_option linter.unusedSimpArgs false
def impl_plain.f (a0 : ByteArray) : Option (ByteArray) := (strings_TrimSuffix.f a0 (⟨#[10]⟩ : ByteArray)).bind fun t203 => (some t203)
set_option maxHeartbeats 8000000 in
set_option maxRecDepth 100000 in
theorem impl_plain.calls (a0 : ByteArray) (r : ByteArray) (w : World) (h : impl_plain.f a0 = some r) :
  Calls Try.prog 70 #[.string a0] w fun e w' => e = .returned (.string r) ∧ Drawn0 w w' := by
 have H : ((strings_TrimSuffix.f a0 (⟨#[10]⟩ : ByteArray)).bind fun t203 => (some t203)) = some r := h
 clear h
 replace H := Option.bind_eq_some_iff.mp H
 obtain ⟨t203, A20, H⟩ := H
 replace H : (some t203) = some r := H
 have A2 := am A20
 clear A20
 obtain rfl := Option.some.inj H
 go_enter Try.func70, Try.ntmps70
 go_wp2_with (first | ((with_reducible refine gateC (f := 129) rfl ?_); refine goesL_ (some 4) rfl rfl Try.func129 (by kernel_rfl) rfl #[.string a0, .string (⟨#[10]⟩ : ByteArray)] rfl zm ?_; (with_reducible refine (strings_TrimSuffix.calls a0 (⟨#[10]⟩ : ByteArray) t203 _ A2.out).mono ?_); rintro e w' ⟨rfl, ⟨nd, rfl⟩⟩; refine ⟨_, rfl, ?_⟩))
 go_ret
 exact ⟨by first | rfl | (simp; done) | (simp [*]; done), by repeat (first | exact Drawn0.refl _ | apply Drawn0.step)⟩
end Go.Proofs.Ytmcldkobejhaeaa.My
/- Plain Lean: chapter 1: a line without its end, for the program and the reference. Conditions: sizes below 2^63. -/
namespace Go.Proofs.Ytmcldkobejhaeaa.Pl
open Go.RowKit Go.Proofs.YtmcldkobejhaeaaW.PrintWords Go.Proofs.YtmcldkobejhaeaaW.PrintLast Go.Proofs.Ytmcldkobejhaeaa.My
set_option linter.unusedVariables false
set_option linter.unusedSimpArgs false
def plainB (s : ByteArray) : ByteArray := if ends s = true then s.extract 0 (s.size - 1) else s
theorem l1Plain_eq (s : ByteArray) (h : 1 ≤ s.size) (hs : s.size ≤ 9223372036854775807) : spec_l1Plain.f s = some (plainB s) := by
  unfold spec_l1Plain.f plainB
  rw [l1Ends_eq s h hs, Option.bind_some]
  by_cases h1 : ends s = true
  · rw [if_pos h1, if_pos h1, wrap_pred s.size (by omega) hs, if_pos (by omega), if_pos (by omega)]
    rfl
  · rw [if_neg h1, if_neg h1]
end Go.Proofs.Ytmcldkobejhaeaa.Pl
/- Plain Lean: a drawn text that is like another one. Asked: few lines, short, none empty. -/
namespace Go.Proofs.Ytmcldkobejhaeaa.Pl
open Go.RowKit Go.Proofs.YtmcldkobejhaeaaW.PrintWords Go.Proofs.YtmcldkobejhaeaaW.PrintLast Go.Proofs.Ytmcldkobejhaeaa.My
set_option linter.unusedVariables false
set_option linter.unusedSimpArgs false
def SmL (m : Nat) (l : List ByteArray) : Prop := ∀ s ∈ l, 1 ≤ s.size ∧ s.size ≤ m
theorem smL_app {m : Nat} {l r : List ByteArray} (hl : SmL m l) (hr : SmL m r) : SmL m (l ++ r) := fun s hs => by
  rcases List.mem_append.1 hs with hs | hs
  · exact hl s hs
  · exact hr s hs
theorem smL_set {m : Nat} {l : List ByteArray} (hl : SmL m l) (i : Nat) {x : ByteArray} (hx : 1 ≤ x.size ∧ x.size ≤ m) : SmL m (l.set i x) := fun s hs => by
  rcases List.mem_or_eq_of_mem_set hs with hs | rfl
  · exact hl s hs
  · exact hx
theorem smL_take {m : Nat} {l : List ByteArray} (hl : SmL m l) (i : Nat) : SmL m (l.take i) := fun s hs => hl s (List.mem_of_mem_take hs)
theorem smL_drop {m : Nat} {l : List ByteArray} (hl : SmL m l) (i : Nat) : SmL m (l.drop i) := fun s hs => hl s (List.mem_of_mem_drop hs)
theorem smL_one {m : Nat} {x : ByteArray} (hx : 1 ≤ x.size ∧ x.size ≤ m) : SmL m [x] := fun s hs => by rw [List.mem_singleton.1 hs]; exact hx
theorem smL_more {m n : Nat} {l : List ByteArray} (hl : SmL m l) (h : m ≤ n) : SmL n l := fun s hs => ⟨(hl s hs).1, Nat.le_trans (hl s hs).2 h⟩
theorem plainB_size (s : ByteArray) : (plainB s).size ≤ s.size := by
  unfold plainB
  split
  · rw [ByteArray.size_extract]; omega
  · exact Nat.le_refl _
theorem size_pos_of_ne {s : ByteArray} (h : ¬ s.toList = ([] : List UInt8)) : 1 ≤ s.size := by
  rcases Nat.eq_zero_or_pos s.size with e | e
  · refine absurd ?_ h
    rw [Lib.toList_data]
    exact List.eq_nil_of_length_eq_zero (by rw [data_length]; exact e)
  · exact e
section
variable (c : List Int) (hc : Bytes8 c)
include hc
omit hc in
theorem other_j2 (l : List ByteArray) (hl : l.length ≤ 40) (hs : SmL 8 l) (b : Bool) (hb : b = true → 0 < l.length) (a s : Int) : ∃ r, Ev (fun k => spec_l1Cur_other.j2 k l b c a s) (r, a, s) ∧ r.length ≤ l.length ∧ SmL 9 r := by
  cases b with
  | false => exact ⟨l, Ev.step (fun k => spec_l1Cur_other.j2.eq_2 ..) (ev_neg (by simp) (ev_some rfl)), Nat.le_refl _, smL_more hs (by omega)⟩
  | true =>
    have h0 := hb rfl
    have hm := List.getElem_mem (l := l) (n := l.length - 1) (by omega)
    have h1 := hs _ hm
    have e1 : rdOf ByteArray.empty l ((l.length - 1 : Nat) : Int) = l[l.length - 1]'(by omega) := rdOf_lt _ _ _ (by omega)
    have ep := l1Plain_eq _ h1.1 (by omega)
    have ee := l1Ends_eq _ h1.1 (by omega)
    have hz := plainB_size (l[l.length - 1]'(by omega))
    have top : ∀ (r : List ByteArray), Ev (fun k => (spec_l1Plain.f (l[l.length - 1]'(by omega))).bind fun t317 => ((spec_l1Ends.f (l[l.length - 1]'(by omega))).bind fun t319 => (if t319 = true then (if t317.toList = ([] : List UInt8) then (some (l, a, s)) else (some ((l.set (((l.length - 1 : Nat) : Int)).toNat t317), a, s))) else (if t317.size + 1 ≤ 9223372036854775807 then (some ((l.set (((l.length - 1 : Nat) : Int)).toNat (t317 ++ (⟨#[10]⟩ : ByteArray))), a, s)) else (none))))) (r, a, s) → Ev (fun k => spec_l1Cur_other.j2 k l true c a s) (r, a, s) := by
      intro r h
      refine Ev.step (fun k => spec_l1Cur_other.j2.eq_2 ..) (ev_pos rfl ?_)
      rw [wrap_pred l.length h0 (by omega), e1]
      exact ev_pos (by omega) (ev_pos (by omega) h)
    by_cases he : ends (l[l.length - 1]'(by omega)) = true
    · by_cases hp : (plainB (l[l.length - 1]'(by omega))).toList = ([] : List UInt8)
      · exact ⟨l, top l (ev_bind (ev_const ep) (ev_bind (ev_const ee) (ev_pos he (ev_pos hp (ev_some rfl))))), Nat.le_refl _, smL_more hs (by omega)⟩
      · exact ⟨_, top _ (ev_bind (ev_const ep) (ev_bind (ev_const ee) (ev_pos he (ev_neg hp (ev_some rfl))))), by rw [List.length_set]; exact Nat.le_refl _, smL_set (smL_more hs (by omega)) _ ⟨size_pos_of_ne hp, by omega⟩⟩
    · refine ⟨_, top _ (ev_bind (ev_const ep) (ev_bind (ev_const ee) (ev_neg he (ev_pos (by omega) (ev_some rfl))))), by rw [List.length_set]; exact Nat.le_refl _, smL_set (smL_more hs (by omega)) _ ?_⟩
      rw [ByteArray.size_append, show (⟨#[10]⟩ : ByteArray).size = 1 from rfl]
      omega
theorem other_l0 : ∀ (n : Nat) (l : List ByteArray) (a s : Int), l.length + n ≤ 40 → SmL 8 l → 0 ≤ a → a + 8 * n ≤ 1000000000000100 →
    ∃ r a2 s2, Ev (fun k => spec_l1Cur_other.l0 k l (n : Int) c a s) (r, a2, s2) ∧ r.length ≤ l.length + n ∧ SmL 9 r ∧ a ≤ a2 ∧ a2 ≤ a + 8 * n + 2 := by
  intro n
  induction n with
  | zero =>
    intro l a s hl hs h0 h1
    by_cases hp : (l.length : Int) > 0
    · obtain ⟨b, a2, s2, e, h2⟩ := one_some c hc a s 6 (at_of h0 (by omega))
      obtain ⟨r, er, hr, hrs⟩ := other_j2 c l (by omega) hs b (fun _ => by omega) a2 s2
      exact ⟨r, a2, s2, Ev.step (fun k => spec_l1Cur_other.l0.eq_2 ..) (ev_neg (by omega) (ev_pos hp (ev_bind (ev_const e) er))), by omega, hrs, by omega, by omega⟩
    · obtain ⟨r, er, hr, hrs⟩ := other_j2 c l (by omega) hs false (fun h => by cases h) a s
      exact ⟨r, a, s, Ev.step (fun k => spec_l1Cur_other.l0.eq_2 ..) (ev_neg (by omega) (ev_neg hp er)), by omega, hrs, by omega, by omega⟩
  | succ n ih =>
    intro l a s hl hs h0 h1
    obtain ⟨v, a2, s2, e2, v0, v1, v2, h2⟩ := pick_some c hc a s (wrap64 ((l.length : Int) + 1)) (at_of h0 (by omega))
    rw [wrap64_id (by omega) (by omega)] at v1
    obtain ⟨u, a3, s3, e3, h3⟩ := pick_some c hc a2 s2 3 (at_of (by omega) (by omega))
    have hv : v ≤ (l.length : Int) := by omega
    have ew : wrap64 (((n + 1 : Nat) : Int) - 1) = (n : Int) := by rw [wrap64_id (by omega) (by omega)]; omega
    have e2' : spec_l1Cur_pick.f c a s (wrap64 ((l.length : Int) + 1)) = some (v, a2, s2) := e2
    -- what goes on
    have goOn : ∀ (l2 : List ByteArray) (b t : Int), l2.length ≤ l.length + 1 → SmL 8 l2 → a ≤ b → b ≤ a + 6 → ∃ r a2 s2, Ev (fun k => spec_l1Cur_other.l0 k l2 (wrap64 (((n + 1 : Nat) : Int) - 1)) c b t) (r, a2, s2) ∧ r.length ≤ l.length + (n + 1) ∧ SmL 9 r ∧ a ≤ a2 ∧ a2 ≤ a + 8 * (n + 1 : Nat) + 2 := by
      intro l2 b t q1 q2 q3 q4
      obtain ⟨r, a4, s4, er, hr⟩ := ih l2 b t (by omega) q2 (by omega) (by omega)
      rw [ew]
      exact ⟨r, a4, s4, er, by omega, hr.2.1, by omega, by omega⟩
    have j1 : ∀ b, ∃ r a4 s4, Ev (fun k => spec_l1Cur_other.j1 k l ((n + 1 : Nat) : Int) v b c a3 s3) (r, a4, s4) ∧ r.length ≤ l.length + (n + 1) ∧ SmL 9 r ∧ a ≤ a4 ∧ a4 ≤ a + 8 * (n + 1 : Nat) + 2 := by
      intro b
      cases b with
      | false =>
        obtain ⟨r, a4, s4, er, hr⟩ := goOn l a3 s3 (by omega) hs (by omega) (by omega)
        exact ⟨r, a4, s4, Ev.step (fun k => spec_l1Cur_other.j1.eq_2 ..) (ev_neg (by simp) er), hr⟩
      | true =>
        obtain ⟨x, a5, s5, ex, hx⟩ := line_some c hc a3 s3 (by omega) (by omega)
        have hz := nl_size x hx.1
        obtain ⟨r, a4, s4, er, hr⟩ := goOn ((l.take v.toNat ++ [x ++ (⟨#[10]⟩ : ByteArray)]) ++ l.drop v.toNat) a5 s5 (by simp only [List.length_append, List.length_take, List.length_drop, List.length_singleton]; omega) (smL_app (smL_app (smL_take hs _) (smL_one hz)) (smL_drop hs _)) (by omega) (by omega)
        exact ⟨r, a4, s4, Ev.step (fun k => spec_l1Cur_other.j1.eq_2 ..) (ev_pos rfl (ev_pos v0 (ev_pos hv (ev_bind (ev_const (ownT_eq _ (by rw [List.length_take]; omega))) (ev_bind (ev_const ex) (ev_pos (by dsimp only; omega) (ev_pos (by rw [List.length_take]; omega) (ev_bind (ev_some rfl) (ev_bind (ev_some rfl) (ev_pos (by simp only [List.length_append, List.length_take, List.length_drop, List.length_singleton]; omega) er)))))))))), hr⟩
    have top : ∀ R, Ev (fun k => if u = 0 then (if v < (l.length : Int) then (if 0 ≤ v then (if v ≤ (l.length : Int) then ((spec_l1OwnT.f (l.take (v : Int).toNat)).bind fun t276 => (if 0 ≤ (wrap64 (v + 1)) then (if (wrap64 (v + 1)) ≤ (l.length : Int) then ((some (l.drop ((wrap64 (v + 1)) : Int).toNat : List ByteArray)).bind fun y279 => (if t276.length + y279.length < 8796093022208 then (spec_l1Cur_other.l0 k (t276 ++ y279) (wrap64 (((n + 1 : Nat) : Int) - 1)) c a3 s3) else (none))) else (none)) else (none))) else (none)) else (none)) else (spec_l1Cur_other.l0 k l (wrap64 (((n + 1 : Nat) : Int) - 1)) c a3 s3)) else (if u = 1 then (if v < (l.length : Int) then (if 0 ≤ v then ((spec_l1Ends.f (rdOf ByteArray.empty l v)).bind fun t287 => (if t287 = true then ((spec_l1Cur_line.f c a3 s3).bind fun bt288 => (if bt288.1.size + 1 ≤ 9223372036854775807 then (spec_l1Cur_other.l0 k (l.set (v : Int).toNat (bt288.1 ++ (⟨#[10]⟩ : ByteArray))) (wrap64 (((n + 1 : Nat) : Int) - 1)) c bt288.2.1 bt288.2.2) else (none))) else (spec_l1Cur_other.l0 k l (wrap64 (((n + 1 : Nat) : Int) - 1)) c a3 s3))) else (none)) else (spec_l1Cur_other.l0 k l (wrap64 (((n + 1 : Nat) : Int) - 1)) c a3 s3)) else (if v < (l.length : Int) then (spec_l1Cur_other.j1 k l ((n + 1 : Nat) : Int) v true c a3 s3) else ((spec_l1Whole.f l).bind fun t292 => (spec_l1Cur_other.j1 k l ((n + 1 : Nat) : Int) v t292 c a3 s3))))) R → Ev (fun k => spec_l1Cur_other.l0 k l ((n + 1 : Nat) : Int) c a s) R := fun R h =>
      Ev.step (fun k => spec_l1Cur_other.l0.eq_2 ..) (ev_pos (by omega) (ev_bind (ev_const e2') (ev_bind (ev_const e3) h)))
    by_cases u0 : u = 0
    · by_cases c1 : v < (l.length : Int)
      · have ev1 : wrap64 (v + 1) = v + 1 := wrap64_id (by omega) (by omega)
        obtain ⟨r, a4, s4, er, hr⟩ := goOn (l.take v.toNat ++ l.drop (v + 1).toNat) a3 s3 (by simp only [List.length_append, List.length_take, List.length_drop]; omega) (smL_app (smL_take hs _) (smL_drop hs _)) (by omega) (by omega)
        refine ⟨r, a4, s4, top _ ?_, hr⟩
        rw [ev1]
        exact ev_pos u0 (ev_pos c1 (ev_pos v0 (ev_pos hv (ev_bind (ev_const (ownT_eq _ (by rw [List.length_take]; omega))) (ev_pos (by omega) (ev_pos (by omega) (ev_bind (ev_some rfl) (ev_pos (by simp only [List.length_take, List.length_drop]; omega) er))))))))
      · obtain ⟨r, a4, s4, er, hr⟩ := goOn l a3 s3 (by omega) hs (by omega) (by omega)
        exact ⟨r, a4, s4, top _ (ev_pos u0 (ev_neg c1 er)), hr⟩
    · by_cases u1 : u = 1
      · by_cases c1 : v < (l.length : Int)
        · have e1 : rdOf ByteArray.empty l v = l[v.toNat]'(by omega) := getD_lt l _ _ (by omega)
          have hm := hs _ (List.getElem_mem (l := l) (n := v.toNat) (by omega))
          have ee := l1Ends_eq _ hm.1 (by omega)
          by_cases he : ends (l[v.toNat]'(by omega)) = true
          · obtain ⟨x, a5, s5, ex, hx⟩ := line_some c hc a3 s3 (by omega) (by omega)
            have hz := nl_size x hx.1
            obtain ⟨r, a4, s4, er, hr⟩ := goOn (l.set v.toNat (x ++ (⟨#[10]⟩ : ByteArray))) a5 s5 (by rw [List.length_set]; omega) (smL_set hs _ hz) (by omega) (by omega)
            refine ⟨r, a4, s4, top _ ?_, hr⟩
            rw [e1]
            exact ev_neg u0 (ev_pos u1 (ev_pos c1 (ev_pos v0 (ev_bind (ev_const ee) (ev_pos he (ev_bind (ev_const ex) (ev_pos (by dsimp only; omega) er)))))))
          · obtain ⟨r, a4, s4, er, hr⟩ := goOn l a3 s3 (by omega) hs (by omega) (by omega)
            refine ⟨r, a4, s4, top _ ?_, hr⟩
            rw [e1]
            exact ev_neg u0 (ev_pos u1 (ev_pos c1 (ev_pos v0 (ev_bind (ev_const ee) (ev_neg he er)))))
        · obtain ⟨r, a4, s4, er, hr⟩ := goOn l a3 s3 (by omega) hs (by omega) (by omega)
          exact ⟨r, a4, s4, top _ (ev_neg u0 (ev_pos u1 (ev_neg c1 er))), hr⟩
      · by_cases c1 : v < (l.length : Int)
        · obtain ⟨r, a4, s4, er, hr⟩ := j1 true
          exact ⟨r, a4, s4, top _ (ev_neg u0 (ev_neg u1 (ev_pos c1 er))), hr⟩
        · obtain ⟨b, eb⟩ := whole_some l (by omega) (fun s hs' => by have := hs s hs'; omega) (fun x hx => (hs x (List.mem_of_getLast? hx)).1)
          obtain ⟨r, a4, s4, er, hr⟩ := j1 b
          exact ⟨r, a4, s4, top _ (ev_neg u0 (ev_neg u1 (ev_neg c1 (ev_bind (ev_const eb) er)))), hr⟩
theorem other_some (l : List ByteArray) (hl : l.length ≤ 30) (hs : SmL 8 l) (a s : Int) (h0 : 0 ≤ a) (h1 : a ≤ 1000000000000000) :
    ∃ r a2 s2, Ev (fun k => spec_l1Cur_other.f k c a s l) (r, a2, s2) ∧ r.length ≤ l.length + 3 ∧ SmL 9 r ∧ a ≤ a2 ∧ a2 ≤ a + 30 := by
  simp only [spec_l1Cur_other.f]
  obtain ⟨v, a2, s2, e, v0, v1, v2, h2⟩ := pick_some c hc a s 4 (at_of h0 (by omega))
  have hv : v = ((v.toNat : Nat) : Int) := by omega
  obtain ⟨r, a3, s3, er, hr⟩ := other_l0 c hc v.toNat l a2 s2 (by omega) hs (by omega) (by omega)
  rw [← hv] at er
  exact ⟨r, a3, s3, ev_bind (ev_const (ownT_eq l (by omega))) (ev_bind (ev_const e) er), by omega, hr.2.1, by omega, by omega⟩
end
end Go.Proofs.Ytmcldkobejhaeaa.Pl
/- Plain Lean: two drawn texts. No condition. -/
namespace Go.Proofs.Ytmcldkobejhaeaa.Pl
open Go.RowKit Go.Proofs.YtmcldkobejhaeaaW.PrintWords Go.Proofs.YtmcldkobejhaeaaW.PrintLast Go.Proofs.Ytmcldkobejhaeaa.My
set_option linter.unusedVariables false
set_option linter.unusedSimpArgs false
def Sm9 (l : List ByteArray) : Prop := l.length ≤ 12 ∧ ∀ s ∈ l, s.size ≤ 9
theorem fitS_sm9 {l : List ByteArray} (h : Sm9 l) : FitS l := ⟨by have := h.1; omega, fun s hs => by have := h.2 s hs; omega⟩
theorem drawSame_some (c : List Int) (hc : Bytes8 c) : ∃ a b, Ev (fun k => spec_DrawSameAhead.f k c) (a, b) ∧ Sm9 a ∧ Sm9 b := by
  simp only [spec_DrawSameAhead.f, spec_DrawSameAhead.g]
  obtain ⟨l, a2, s2, e, hl, h2⟩ := anyText_some c hc 0 0 (by omega) (by omega)
  have hl9 : Sm9 l := ⟨by have := hl.1; omega, fun s hs => by have := hl.2.1 s hs; omega⟩
  obtain ⟨v, a3, s3, e3, h3⟩ := one_some c hc a2 s2 2 (at_of (by omega) (by omega))
  have no : ∃ b : List ByteArray × Int × Int, Ev (fun k => spec_DrawSameAhead.j0 k l false c a3 s3) (l, b.1, b.2.1, b.2.2) ∧ Sm9 b.1 := by
    obtain ⟨b, a4, s4, e4, h4⟩ := text_some c hc a3 s3 (by omega) (by omega)
    exact ⟨(b, a4, s4), Ev.step (fun k => spec_DrawSameAhead.j0.eq_2 ..) (ev_neg (by simp) (ev_bind e4 (ev_some rfl))), by dsimp only; omega, fun s hs => by have := h4.2.1 s hs; omega⟩
  cases v with
  | false =>
    obtain ⟨b, eb, hb⟩ := no
    exact ⟨l, b.1, ev_bind (ev_bind e (ev_bind (ev_const e3) (ev_neg (by simp) eb))) (ev_some rfl), hl9, hb⟩
  | true =>
    have eg := l1Good_ev l ⟨by have := hl.1; omega, fun s hs => by have := hl.2.1 s hs; omega⟩
    by_cases g : good l = true
    · obtain ⟨b, a4, s4, e4, h4⟩ := other_some c hc l (by have := hl.1; omega) (fun s hs => by
        have := hl.2.1 s hs
        unfold good at g
        simp only [Bool.and_eq_true, List.all_eq_true] at g
        exact ⟨(isLn_size (g.2.1 s hs)).1, this⟩) a3 s3 (by omega) (by omega)
      rw [g] at eg
      have := hl.1
      exact ⟨l, b, ev_bind (ev_bind e (ev_bind (ev_const e3) (ev_pos rfl (ev_bind eg (Ev.step (fun k => spec_DrawSameAhead.j0.eq_2 ..) (ev_pos rfl (ev_bind e4 (ev_some rfl)))))))) (ev_some rfl), hl9, by omega, fun s hs => (h4.2.1 s hs).2⟩
    · rw [Bool.eq_false_iff.2 g] at eg
      obtain ⟨b, eb, hb⟩ := no
      exact ⟨l, b.1, ev_bind (ev_bind e (ev_bind (ev_const e3) (ev_pos rfl (ev_bind eg eb)))) (ev_some rfl), hl9, hb⟩
end Go.Proofs.Ytmcldkobejhaeaa.Pl
/- Plain Lean: the length of a longest list that two lists share. No condition. -/
namespace Go.Proofs.Ytmcldkobejhaeaa.Pl
open Go.RowKit Go.Proofs.YtmcldkobejhaeaaW.PrintWords Go.Proofs.YtmcldkobejhaeaaW.PrintLast
set_option linter.unusedVariables false
set_option linter.unusedSimpArgs false
def lcs : List ByteArray → List ByteArray → Nat
  | [], _ => 0
  | _ :: _, [] => 0
  | a :: s, b :: t => if a = b then lcs s t + 1 else max (lcs s (b :: t)) (lcs (a :: s) t)
termination_by s t => s.length + t.length
theorem lcs_nil_l (t : List ByteArray) : lcs [] t = 0 := by rw [lcs]
theorem lcs_nil_r (s : List ByteArray) : lcs s [] = 0 := by cases s <;> rw [lcs]
theorem lcs_cons (a b : ByteArray) (s t : List ByteArray) : lcs (a :: s) (b :: t) = if a = b then lcs s t + 1 else max (lcs s (b :: t)) (lcs (a :: s) t) := by rw [lcs]
theorem lcs_comm (s t : List ByteArray) : lcs s t = lcs t s := by
  generalize hn : s.length + t.length = n
  induction n using Nat.strongRecOn generalizing s t with
  | _ n ih =>
    cases s with
    | nil => rw [lcs_nil_l, lcs_nil_r]
    | cons a s =>
      cases t with
      | nil => rw [lcs_nil_l, lcs_nil_r]
      | cons b t =>
        simp only [List.length_cons] at hn
        rw [lcs_cons, lcs_cons, ih (s.length + t.length) (by omega) s t rfl, ih (s.length + (t.length + 1)) (by omega) s (b :: t) (by simp only [List.length_cons]), ih (s.length + 1 + t.length) (by omega) (a :: s) t (by simp only [List.length_cons])]
        by_cases h : a = b
        · rw [if_pos h, if_pos h.symm]
        · rw [if_neg h, if_neg (fun e => h e.symm), Nat.max_comm]
theorem lcs_steps (a : ByteArray) (s t : List ByteArray) : lcs s t ≤ lcs (a :: s) t ∧ lcs (a :: s) t ≤ lcs s t + 1 := by
  generalize hn : s.length + t.length = n
  induction n using Nat.strongRecOn generalizing a s t with
  | _ n ih =>
    cases t with
    | nil => rw [lcs_nil_r, lcs_nil_r]; omega
    | cons b t =>
      simp only [List.length_cons] at hn
      have h1 := ih (s.length + t.length) (by omega) a s t rfl
      have h2 : lcs s t ≤ lcs s (b :: t) ∧ lcs s (b :: t) ≤ lcs s t + 1 := by
        rw [lcs_comm s t, lcs_comm s (b :: t)]
        exact ih (t.length + s.length) (by omega) b t s rfl
      rw [lcs_cons]
      split <;> omega
theorem lcs_steps_r (b : ByteArray) (s t : List ByteArray) : lcs s t ≤ lcs s (b :: t) ∧ lcs s (b :: t) ≤ lcs s t + 1 := by
  rw [lcs_comm s t, lcs_comm s (b :: t)]
  exact lcs_steps b t s
theorem lcs_spec (a b : ByteArray) (s t : List ByteArray) : lcs (a :: s) (b :: t) = if a = b then max (max (lcs s (b :: t)) (lcs (a :: s) t)) (lcs s t + 1) else max (lcs s (b :: t)) (lcs (a :: s) t) := by
  have h1 := lcs_steps a s t
  have h2 := lcs_steps_r b s t
  rw [lcs_cons]
  split <;> omega
theorem lcs_le (s t : List ByteArray) : lcs s t ≤ s.length ∧ lcs s t ≤ t.length := by
  constructor
  · induction s with
    | nil => rw [lcs_nil_l]; exact Nat.zero_le _
    | cons a s ih =>
      have := lcs_steps a s t
      simp only [List.length_cons]
      omega
  · induction t with
    | nil => rw [lcs_nil_r]; exact Nat.zero_le _
    | cons b t ih =>
      have := lcs_steps_r b s t
      simp only [List.length_cons]
      omega
def tblRow (a b : List ByteArray) (i : Nat) : List Int := (List.range (b.length + 1)).map fun j => ((lcs (a.drop i) (b.drop j) : Nat) : Int)
def tbl (a b : List ByteArray) : List (List Int) := (List.range (a.length + 1)).map (tblRow a b)
theorem tblRow_length (a b : List ByteArray) (i : Nat) : (tblRow a b i).length = b.length + 1 := by simp [tblRow]
theorem tbl_length (a b : List ByteArray) : (tbl a b).length = a.length + 1 := by simp [tbl]
theorem tblRow_get (a b : List ByteArray) (i j : Nat) (h : j ≤ b.length) : (tblRow a b i)[j]'(by rw [tblRow_length]; omega) = ((lcs (a.drop i) (b.drop j) : Nat) : Int) := by simp [tblRow]
theorem tbl_get (a b : List ByteArray) (i : Nat) (h : i ≤ a.length) : (tbl a b)[i]'(by rw [tbl_length]; omega) = tblRow a b i := by simp [tbl]
theorem lcs_drop (a b : List ByteArray) (i j : Nat) (h1 : i < a.length) (h2 : j < b.length) : lcs (a.drop i) (b.drop j) = if a[i] = b[j] then lcs (a.drop (i + 1)) (b.drop (j + 1)) + 1 else max (lcs (a.drop (i + 1)) (b.drop j)) (lcs (a.drop i) (b.drop (j + 1))) := by
  rw [drop_cons a i h1, drop_cons b j h2, lcs_cons, ← drop_cons a i h1, ← drop_cons b j h2]
theorem lcs_drop_spec (a b : List ByteArray) (i j : Nat) (h1 : i < a.length) (h2 : j < b.length) : lcs (a.drop i) (b.drop j) = if a[i] = b[j] then max (max (lcs (a.drop (i + 1)) (b.drop j)) (lcs (a.drop i) (b.drop (j + 1)))) (lcs (a.drop (i + 1)) (b.drop (j + 1)) + 1) else max (lcs (a.drop (i + 1)) (b.drop j)) (lcs (a.drop i) (b.drop (j + 1))) := by
  rw [drop_cons a i h1, drop_cons b j h2, lcs_spec, ← drop_cons a i h1, ← drop_cons b j h2]
theorem lcs_drop_end (a b : List ByteArray) (i j : Nat) (h : a.length ≤ i ∨ b.length ≤ j) : lcs (a.drop i) (b.drop j) = 0 := by
  have := lcs_le (a.drop i) (b.drop j)
  simp only [List.length_drop] at this
  omega
end Go.Proofs.Ytmcldkobejhaeaa.Pl
/- Plain Lean: the tables of the program and of the reference are one: at each two places the length of a longest shared list. Conditions: at most 2^20 lines. -/
namespace Go.Proofs.Ytmcldkobejhaeaa.Pl
open Go.RowKit Go.Proofs.YtmcldkobejhaeaaW.PrintWords Go.Proofs.YtmcldkobejhaeaaW.PrintLast Go.Proofs.YtmcldkobejhaeaaW.PrintMore Go.Proofs.Ytmcldkobejhaeaa.My
set_option linter.unusedVariables false
set_option linter.unusedSimpArgs false
theorem get_of_drop {α : Type} {t u : List α} {i : Nat} (h : t.drop i = u.drop i) (r : Nat) (hi : i ≤ r) (h1 : r < t.length) (h2 : r < u.length) : t[r] = u[r] := by
  have e : (t.drop i)[r - i]? = (u.drop i)[r - i]? := by rw [h]
  rw [List.getElem?_drop, List.getElem?_drop, show i + (r - i) = r from by omega, List.getElem?_eq_getElem h1, List.getElem?_eq_getElem h2] at e
  exact Option.some.inj e
theorem drop_set_one {α : Type} {t u : List α} {i : Nat} (v : α) (h : t.drop (i + 1) = u.drop (i + 1)) (h1 : i < t.length) (h2 : i < u.length) (e : v = u[i]) : (t.set i v).drop i = u.drop i := by
  rw [List.drop_eq_getElem_cons (by rw [List.length_set]; exact h1), List.drop_eq_getElem_cons h2, List.getElem_set_self, List.drop_set_of_lt (by omega), h, e]
theorem mx_nat (a b : Nat) : mx (a : Int) (b : Int) = ((max a b : Nat) : Int) := by
  unfold mx
  split <;> omega
theorem l1Most_eq (a b : Int) : spec_l1Most.f a b = some (max a b) := by
  unfold spec_l1Most.f
  split <;> simp <;> omega
theorem l1Most_nat (a b : Nat) : spec_l1Most.f (a : Int) (b : Int) = some ((max a b : Nat) : Int) := by
  rw [l1Most_eq]
  congr 1
  omega
theorem wrap_m1 (n : Nat) (h : n ≤ 4611686018427387904) : wrap64 ((n : Int) - 1) = (n : Int) - 1 := wrap64_id (by omega) (by omega)
theorem rdLL (t : List (List Int)) (i : Nat) (h : i < t.length) : rd_L5 t (i : Int) = t[i] := getD_lt t _ i h
theorem rd_lt (xs : List Int) (i : Nat) (h : i < xs.length) : rd xs (i : Int) = xs[i] := getD_lt xs 0 i h
def zeros (m : Nat) : List Int := List.replicate (m + 1) 0
theorem drop_last {α : Type} {xs : List α} {n : Nat} (h : xs.length = n + 1) : xs.drop n = [xs[n]] := by
  rw [List.drop_eq_getElem_cons (by omega), List.drop_of_length_le (by omega)]
theorem zeros_length (m : Nat) : (zeros m).length = m + 1 := by simp [zeros]
theorem zeros_drop (a b : List ByteArray) (i : Nat) : (zeros b.length).drop b.length = (tblRow a b i).drop b.length := by
  rw [drop_last (zeros_length b.length), drop_last (tblRow_length a b i), tblRow_get a b i b.length (Nat.le_refl _), lcs_drop_end a b i b.length (.inr (Nat.le_refl _))]
  simp [zeros]
theorem tblRow_end (a b : List ByteArray) : tblRow a b a.length = zeros b.length := by
  refine List.ext_getElem (by simp [tblRow, zeros]) (fun j h1 h2 => ?_)
  rw [tblRow_length] at h1
  rw [tblRow_get a b a.length j (by omega), lcs_drop_end a b a.length j (.inl (Nat.le_refl _))]
  simp [zeros]
theorem tbl_drop_end (a b : List ByteArray) : (tbl a b).drop a.length = [zeros b.length] := by
  rw [drop_last (tbl_length a b), tbl_get a b a.length (Nat.le_refl _), tblRow_end]
theorem drop_step {t : List (List Int)} {a b : List ByteArray} {i : Nat} (ht : t.length = a.length + 1) (hi : i < a.length) (hd : t.drop (i + 1) = (tbl a b).drop (i + 1)) (hr : ∀ h : i < t.length, t[i] = tblRow a b i) : t.drop i = (tbl a b).drop i := by
  have h1 : i < t.length := by omega
  have h2 : i < (tbl a b).length := by rw [tbl_length]; omega
  rw [List.drop_eq_getElem_cons h1, List.drop_eq_getElem_cons h2, hd, tbl_get a b i (by omega), hr h1]
theorem common_l1 (a b : List ByteArray) (ha : a.length ≤ 1048576) (hb : b.length ≤ 1048576) (i : Nat) (hi : i < a.length)
    (hnext : ∀ t : List (List Int), t.length = a.length + 1 → t.drop i = (tbl a b).drop i → Ev (fun k => impl_common.l0 k a b t ((i : Int) - 1)) (tbl a b)) :
    ∀ (j : Nat) (t : List (List Int)), j ≤ b.length → t.length = a.length + 1 → t.drop (i + 1) = (tbl a b).drop (i + 1) → (∀ h : i < t.length, t[i].length = b.length + 1 ∧ t[i].drop j = (tblRow a b i).drop j) →
      Ev (fun k => impl_common.l1 k a b t (i : Int) ((j : Int) - 1)) (tbl a b) := by
  intro j
  induction j with
  | zero =>
    intro t hj ht hd hr
    have hit : i < t.length := by omega
    refine Ev.step (fun k => impl_common.l1.eq_2 ..) (ev_neg (by omega) ?_)
    rw [wrap_m1 i (by omega)]
    exact hnext t ht (drop_step ht hi hd (fun h => (hr h).2))
  | succ j ih =>
    intro t hj ht hd hr
    have hit : i < t.length := by omega
    have hit1 : i + 1 < t.length := by omega
    obtain ⟨hrl, hrd⟩ := hr hit
    have hn1 : t[i + 1] = tblRow a b (i + 1) := by
      rw [get_of_drop hd (i + 1) (Nat.le_refl _) hit1 (by rw [tbl_length]; omega), tbl_get a b (i + 1) (by omega)]
    refine Ev.step (fun k => impl_common.l1.eq_2 ..) ?_
    rw [show (((j + 1 : Nat) : Int) - 1) = (j : Int) from by omega, wrap_succ i (by omega), wrap_succ j (by omega), wrap_m1 j (by omega), rdOf_lt _ _ _ hi, rdOf_lt _ _ _ (by omega : j < b.length), rdLL t i hit, rdLL t (i + 1) hit1, hn1]
    refine ev_pos (by omega) (ev_pos (by omega) (ev_pos (by omega) (ev_pos (by omega) (ev_pos (by omega) ?_))))
    have key : ∀ v : Int, v = ((lcs (a.drop i) (b.drop j) : Nat) : Int) → Ev (fun k => impl_common.l1 k a b (t.set i (t[i].set j v)) (i : Int) ((j : Int) - 1)) (tbl a b) := by
      intro v hv
      refine ih _ (by omega) (by rw [List.length_set]; exact ht) (by rw [List.drop_set_of_lt (by omega)]; exact hd) (fun h => ?_)
      rw [List.getElem_set_self]
      refine ⟨by rw [List.length_set]; exact hrl, ?_⟩
      exact drop_set_one v hrd (by omega) (by rw [tblRow_length]; omega) (by rw [hv, tblRow_get a b i j (by omega)])
    have hld := lcs_drop a b i j hi (by omega)
    have hle := lcs_le (a.drop (i + 1)) (b.drop (j + 1))
    simp only [List.length_drop] at hle
    refine ev_ite (fun h => ?_) (fun h => ?_)
    · refine ev_pos (by omega) (ev_pos (by omega) (ev_pos (by omega) (ev_pos (by omega) (ev_pos (by rw [tblRow_length]; omega) (ev_pos (by omega) ?_)))))
      refine key _ ?_
      rw [rd_lt _ _ (by rw [tblRow_length]; omega), tblRow_get a b (i + 1) (j + 1) (by omega), wrap_succ _ (by omega), hld, if_pos (ba_ext h)]
    · refine ev_pos (by omega) (ev_pos (by omega) (ev_pos (by omega) (ev_pos (by rw [tblRow_length]; omega) (ev_pos (by omega) (ev_pos (by omega) (ev_pos (by omega) ?_))))))
      refine key _ ?_
      have hc : t[i][j + 1]'(by omega) = ((lcs (a.drop i) (b.drop (j + 1)) : Nat) : Int) := by
        rw [get_of_drop hrd (j + 1) (Nat.le_refl _) (by omega) (by rw [tblRow_length]; omega), tblRow_get a b i (j + 1) (by omega)]
      rw [rd_lt _ _ (by rw [tblRow_length]; omega), tblRow_get a b (i + 1) j (by omega), rd_lt _ _ (by omega : j + 1 < t[i].length), hc, mx_nat, hld, if_neg (fun e => h (by rw [e]))]
theorem common_l0 (a b : List ByteArray) (ha : a.length ≤ 1048576) (hb : b.length ≤ 1048576) : ∀ (i : Nat) (t : List (List Int)), i ≤ a.length → t.length = a.length + 1 → t.drop i = (tbl a b).drop i →
    Ev (fun k => impl_common.l0 k a b t ((i : Int) - 1)) (tbl a b) := by
  intro i
  induction i with
  | zero =>
    intro t hi ht hd
    rw [List.drop_zero, List.drop_zero] at hd
    exact Ev.step (fun k => impl_common.l0.eq_2 ..) (ev_neg (by omega) (ev_some hd))
  | succ i ih =>
    intro t hi ht hd
    refine Ev.step (fun k => impl_common.l0.eq_2 ..) ?_
    rw [show (((i + 1 : Nat) : Int) - 1) = (i : Int) from by omega, wrap_succ b.length (by omega), wrap_m1 b.length (by omega), Int.toNat_natCast]
    refine ev_pos (by omega) (ev_pos (by omega) (ev_pos (by omega) (ev_pos (by omega) (ev_pos (by omega) ?_))))
    simp only [Int.toNat_natCast]
    refine common_l1 a b ha hb i (by omega) (fun t' h1 h2 => ih t' (by omega) h1 h2) b.length _ (Nat.le_refl _) (by rw [List.length_set]; exact ht) ?_ (fun h => ?_)
    · rw [List.drop_set_of_lt (by omega)]
      exact hd
    · rw [List.getElem_set_self]
      exact ⟨by simp, zeros_drop a b i⟩
theorem common_ev (a b : List ByteArray) (ha : a.length ≤ 1048576) (hb : b.length ≤ 1048576) : Ev (fun k => impl_common.f k a b) (tbl a b) := by
  simp only [impl_common.f]
  rw [wrap_succ a.length (by omega), wrap_succ b.length (by omega), Int.toNat_natCast, Int.toNat_natCast, Int.toNat_natCast, wrap_m1 a.length (by omega)]
  simp only [Option.bind_some]
  refine ev_pos (by omega) (ev_pos (by omega) (ev_pos (by omega) (ev_pos (by omega) (ev_pos (by omega) (ev_pos (by rw [List.length_replicate]; omega) ?_)))))
  refine common_l0 a b ha hb a.length _ (Nat.le_refl _) (by simp) ?_
  rw [tbl_drop_end, List.drop_eq_getElem_cons (by simp), List.getElem_set_self, List.drop_of_length_le (by simp)]
  rfl
theorem l3_l2 (a b : List ByteArray) (ha : a.length ≤ 1048576) (hb : b.length ≤ 1048576) (i : Nat) (hi : i < a.length)
    (hnext : ∀ t : List (List Int), t.length = a.length + 1 → t.drop i = (tbl a b).drop i → (∀ r (h : r < t.length), r < i → t[r] = zeros b.length) → Ev (fun k => spec_l3Table.l1 k a b t ((i : Int) - 1)) (tbl a b)) :
    ∀ (j : Nat) (t : List (List Int)), j ≤ b.length → t.length = a.length + 1 → t.drop (i + 1) = (tbl a b).drop (i + 1) → (∀ r (h : r < t.length), r < i → t[r] = zeros b.length) → (∀ h : i < t.length, t[i].length = b.length + 1 ∧ t[i].drop j = (tblRow a b i).drop j) →
      Ev (fun k => spec_l3Table.l2 k a b t (i : Int) ((j : Int) - 1)) (tbl a b) := by
  intro j
  induction j with
  | zero =>
    intro t hj ht hd hz hr
    have hit : i < t.length := by omega
    refine Ev.step (fun k => spec_l3Table.l2.eq_2 ..) (ev_neg (by omega) ?_)
    rw [wrap_m1 i (by omega)]
    exact hnext t ht (drop_step ht hi hd (fun h => (hr h).2)) hz
  | succ j ih =>
    intro t hj ht hd hz hr
    have hit : i < t.length := by omega
    have hit1 : i + 1 < t.length := by omega
    obtain ⟨hrl, hrd⟩ := hr hit
    have hn1 : t[i + 1] = tblRow a b (i + 1) := by
      rw [get_of_drop hd (i + 1) (Nat.le_refl _) hit1 (by rw [tbl_length]; omega), tbl_get a b (i + 1) (by omega)]
    have hc : t[i][j + 1]'(by omega) = ((lcs (a.drop i) (b.drop (j + 1)) : Nat) : Int) := by
      rw [get_of_drop hrd (j + 1) (Nat.le_refl _) (by omega) (by rw [tblRow_length]; omega), tblRow_get a b i (j + 1) (by omega)]
    have hld := lcs_drop_spec a b i j hi (by omega)
    have hle := lcs_le (a.drop (i + 1)) (b.drop (j + 1))
    simp only [List.length_drop] at hle
    have key : ∀ v : Int, v = ((lcs (a.drop i) (b.drop j) : Nat) : Int) → ∀ u : Int, Ev (fun k => spec_l3Table.l2 k a b ((t.set i (t[i].set j u)).set i ((t[i].set j u).set j v)) (i : Int) ((j : Int) - 1)) (tbl a b) := by
      intro v hv u
      rw [List.set_set, List.set_set]
      refine ih _ (by omega) (by rw [List.length_set]; exact ht) (by rw [List.drop_set_of_lt (by omega)]; exact hd) (fun r h hri => ?_) (fun h => ?_)
      · rw [List.getElem_set_ne (by omega)]
        exact hz r (by rw [List.length_set] at h; exact h) hri
      · rw [List.getElem_set_self]
        refine ⟨by rw [List.length_set]; exact hrl, ?_⟩
        exact drop_set_one v hrd (by omega) (by rw [tblRow_length]; omega) (by rw [hv, tblRow_get a b i j (by omega)])
    have key1 : ∀ v : Int, v = ((lcs (a.drop i) (b.drop j) : Nat) : Int) → Ev (fun k => spec_l3Table.l2 k a b (t.set i (t[i].set j v)) (i : Int) ((j : Int) - 1)) (tbl a b) := by
      intro v hv
      have := key v hv v
      rw [List.set_set, List.set_set] at this
      exact this
    refine Ev.step (fun k => spec_l3Table.l2.eq_2 ..) ?_
    rw [show (((j + 1 : Nat) : Int) - 1) = (j : Int) from by omega, wrap_succ i (by omega), wrap_succ j (by omega), wrap_m1 j (by omega), rdOf_lt _ _ _ hi, rdOf_lt _ _ _ (by omega : j < b.length), rdLL t i hit, rdLL t (i + 1) hit1, hn1]
    rw [rd_lt _ _ (by rw [tblRow_length]; omega : j < (tblRow a b (i + 1)).length), tblRow_get a b (i + 1) j (by omega), rd_lt _ _ (by omega : j + 1 < t[i].length), hc, l1Most_nat, Int.toNat_natCast, Int.toNat_natCast]
    simp only [Option.bind_some]
    refine ev_pos (by omega) (ev_pos (by omega) (ev_pos (by omega) (ev_pos (by omega) (ev_pos (by omega) (ev_pos (by omega) (ev_pos (by rw [tblRow_length]; omega) (ev_pos (by omega) (ev_pos (by omega) (ev_pos (by omega) (ev_pos (by omega) (ev_pos (by omega) ?_)))))))))))
    generalize hu : ((max (lcs (a.drop (i + 1)) (b.drop j)) (lcs (a.drop i) (b.drop (j + 1))) : Nat) : Int) = u at *
    refine ev_ite (fun h => ?_) (fun h => ?_)
    · have e1 : rd_L5 (t.set i (t[i].set j u)) (i : Int) = t[i].set j u := by rw [rdLL _ _ (by rw [List.length_set]; exact hit), List.getElem_set_self]
      have e2 : rd_L5 (t.set i (t[i].set j u)) ((i + 1 : Nat) : Int) = tblRow a b (i + 1) := by rw [rdLL _ _ (by rw [List.length_set]; exact hit1), List.getElem_set_ne (by omega), hn1]
      rw [e1, e2]
      refine ev_pos (by rw [List.length_set]; omega) (ev_pos (by rw [tblRow_length]; omega) ?_)
      rw [rd_lt _ _ (by rw [List.length_set]; omega), List.getElem_set_self, rd_lt _ _ (by rw [tblRow_length]; omega), tblRow_get a b (i + 1) (j + 1) (by omega), wrap_succ _ (by omega), ← hu, l1Most_nat, hu]
      simp only [Option.bind_some]
      refine key _ ?_ u
      rw [hld, if_pos (ba_ext h)]
    · refine key1 _ ?_
      rw [hld, if_neg (fun e => h (by rw [e])), hu]
theorem l3_l1 (a b : List ByteArray) (ha : a.length ≤ 1048576) (hb : b.length ≤ 1048576) : ∀ (i : Nat) (t : List (List Int)), i ≤ a.length → t.length = a.length + 1 → t.drop i = (tbl a b).drop i → (∀ r (h : r < t.length), r < i → t[r] = zeros b.length) →
    Ev (fun k => spec_l3Table.l1 k a b t ((i : Int) - 1)) (tbl a b) := by
  intro i
  induction i with
  | zero =>
    intro t hi ht hd hz
    rw [List.drop_zero, List.drop_zero] at hd
    exact Ev.step (fun k => spec_l3Table.l1.eq_2 ..) (ev_neg (by omega) (ev_some hd))
  | succ i ih =>
    intro t hi ht hd hz
    refine Ev.step (fun k => spec_l3Table.l1.eq_2 ..) ?_
    rw [show (((i + 1 : Nat) : Int) - 1) = (i : Int) from by omega, wrap_m1 b.length (by omega)]
    refine ev_pos (by omega) ?_
    refine l3_l2 a b ha hb i (by omega) (fun t' h1 h2 h3 => ih t' (by omega) h1 h2 h3) b.length t (Nat.le_refl _) ht hd (fun r h hr => hz r h (by omega)) (fun h => ?_)
    rw [hz i h (by omega)]
    exact ⟨by simp [zeros], zeros_drop a b i⟩
theorem l3_l0 (a b : List ByteArray) (ha : a.length ≤ 1048576) (hb : b.length ≤ 1048576) : ∀ d (i : Nat) (t : List (List Int)), i + d = a.length + 1 → t.length = a.length + 1 → (∀ r (h : r < t.length), r < i → t[r] = zeros b.length) →
    Ev (fun k => spec_l3Table.l0 k a b t ((a.length + 1 : Nat) : Int) (i : Int)) (tbl a b) := by
  intro d
  induction d with
  | zero =>
    intro i t hi ht hz
    refine Ev.step (fun k => spec_l3Table.l0.eq_2 ..) (ev_neg (by omega) ?_)
    rw [wrap_m1 a.length (by omega)]
    refine l3_l1 a b ha hb a.length t (Nat.le_refl _) ht ?_ (fun r h hr => hz r h (by omega))
    rw [tbl_drop_end, List.drop_eq_getElem_cons (by omega), hz a.length (by omega) (by omega), List.drop_of_length_le (by omega)]
  | succ d ih =>
    intro i t hi ht hz
    refine Ev.step (fun k => spec_l3Table.l0.eq_2 ..) ?_
    rw [wrap_succ b.length (by omega), wrap_succ i (by omega), Int.toNat_natCast, Int.toNat_natCast]
    refine ev_pos (by omega) (ev_pos (by omega) (ev_pos (by omega) (ev_pos (by omega) (ev_pos (by omega) ?_))))
    refine ih (i + 1) _ (by omega) (by rw [List.length_set]; exact ht) (fun r h hr => ?_)
    by_cases e : r = i
    · subst e
      rw [List.getElem_set_self]
      rfl
    · rw [List.getElem_set_ne (by omega)]
      exact hz r (by rw [List.length_set] at h; exact h) (by omega)
theorem l3Table_ev (a b : List ByteArray) (ha : a.length ≤ 1048576) (hb : b.length ≤ 1048576) : Ev (fun k => spec_l3Table.f k a b) (tbl a b) := by
  simp only [spec_l3Table.f]
  rw [wrap_succ a.length (by omega), Int.toNat_natCast]
  simp only [Option.bind_some, List.length_replicate]
  refine ev_pos (by omega) (ev_pos (by omega) ?_)
  exact l3_l0 a b ha hb (a.length + 1) 0 _ (by omega) (by simp) (fun r h hr => absurd hr (by omega))
theorem tbl_len0 (a b : List ByteArray) : (0 : Int) < ((tbl a b).length : Int) := by rw [tbl_length]; omega
theorem tbl_row0 (a b : List ByteArray) : rd_L5 (tbl a b) 0 = tblRow a b 0 := by
  have := rdLL (tbl a b) 0 (by rw [tbl_length]; omega)
  rw [tbl_get a b 0 (by omega)] at this
  exact this
theorem tbl_00 (a b : List ByteArray) : rd (rd_L5 (tbl a b) 0) 0 = ((lcs a b : Nat) : Int) := by
  rw [tbl_row0]
  have := rd_lt (tblRow a b 0) 0 (by rw [tblRow_length]; omega)
  rw [tblRow_get a b 0 0 (by omega), List.drop_zero, List.drop_zero] at this
  exact this
theorem tbl_row0_len (a b : List ByteArray) : (0 : Int) < ((rd_L5 (tbl a b) 0).length : Int) := by rw [tbl_row0, tblRow_length]; omega
end Go.Proofs.Ytmcldkobejhaeaa.Pl
/- Plain Lean: answers where both are good lines. No condition. -/
namespace Go.Proofs.Ytmcldkobejhaeaa.Pl
open Go.RowKit Go.Proofs.YtmcldkobejhaeaaW.PrintWords Go.Proofs.YtmcldkobejhaeaaW.PrintLast Go.Proofs.Ytmcldkobejhaeaa.My
set_option linter.unusedVariables false
set_option linter.unusedSimpArgs false
def both {α : Type} (a b : List ByteArray) (z v : α) : α × Bool := if good a = true then (if good b = true then (v, true) else (z, false)) else (z, false)
theorem good_len {l : List ByteArray} (h : good l = true) : l.length ≤ 40 := by
  unfold good at h
  rw [Bool.and_eq_true] at h
  exact of_decide_eq_true h.1
theorem both_ev {α : Type} {G : Nat → List ByteArray → Option Bool} {F : Nat → Option α} {a b : List ByteArray} {z v : α} (hg : ∀ l, FitS l → Ev (fun k => G k l) (good l)) (fa : FitS a) (fb : FitS b) (hF : good a = true → good b = true → Ev F v) :
    Ev (fun k => (G k a).bind fun t => (if t = true then ((G k b).bind fun t' => (if t' = true then ((F k).bind fun x => (some (x, true))) else (some (z, false)))) else (some (z, false)))) (both a b z v) := by
  unfold both
  refine ev_bind (hg a fa) (ev_ite (fun h => ?_) (fun h => ev_some (by rw [if_neg h])))
  rw [if_pos h]
  refine ev_bind (hg b fb) (ev_ite (fun h' => ?_) (fun h' => ev_some (by rw [if_neg h'])))
  rw [if_pos h']
  exact ev_bind (hF h h') (ev_some rfl)
end Go.Proofs.Ytmcldkobejhaeaa.Pl