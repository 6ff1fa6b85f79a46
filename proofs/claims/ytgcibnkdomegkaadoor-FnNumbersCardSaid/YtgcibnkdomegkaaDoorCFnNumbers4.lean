/- Part 4 of 4 of a proof of this sentence: The Go function loop.example/g00825/laws.FnNumbers returns true for every input, and each argument reads afterwards as it read before. No condition. -/
import Derived.Lib.Strings
import Derived.Lib.ItoaLen
import Derived.Lib.ItoaMem
import Derived.Lib.AtoiTie
import Derived.Laws.Bits64b
import Derived.Test.YtgcibnkdomegkaaDoorRows
import Derived.Test.YtgcibnkdomegkaaDoorCards
import Derived.Test.YtgcibnkdomegkaaDoorTie
import Derived.LaidMore
import Derived.LaidLaws
import Derived.Stop.LaidErr
import Derived.Stop.Joined
import Derived.SevenTiedAt
import Derived.Lib.LaidTab
import Derived.WalkKit
import Derived.ProofKit
import Derived.OpenShut
import Derived.ShutString
import Derived.ChangeOld
import Derived.Below
import Derived.SizedLaws
import Derived.Lib.SmallJoins
import Derived.Test.YtgcibnkdomegkaaDoorCFnNumbers3
/- Written by this session's program (wip/gen): a plain function with the same answers as the Go function, and the proof that the Go code comes to them. Asked: that the plain function has an answer. -/
namespace Go.Proofs.YtgcibnkdomegkaaDoor.My
open Go.RowKit Go.Proofs.YtgcibnkdomegkaaDoorW.PrintWords Go.Proofs.YtgcibnkdomegkaaDoorW.PrintLast Go.Proofs.YtgcibnkdomegkaaDoorW.PrintMore
attribute [local go_sem] max2_int min2_int max_two min_two max_three min_three max_four min_four
set_option linter.unusedVariables false
set_option linter.unusedSimpArgs false

/-! ### laws_FnNumbers: function 3 -/
mutual
def laws_FnNumbers.j0 : Nat → List Int → Int → Int → ByteArray → Bool → ByteArray → Bool → Option (Bool)
 | 0, _, _, _, _, _, _, _ => none
 | k + 1, x1, x5, x6, x7, x8, x11, x132 => if x132 = true then (some false) else (if x8 = true then ((impl_ReadCount.f k x7).bind fun bt327 => (if bt327.2.2 = true then (if bt327.1 = x5 then (laws_FnNumbers.j1 k x1 x5 x6 x11 (bt327.2.1 != x6)) else (laws_FnNumbers.j1 k x1 x5 x6 x11 true)) else (laws_FnNumbers.j1 k x1 x5 x6 x11 true))) else (laws_FnNumbers.j2 k x1))
def laws_FnNumbers.j2 : Nat → List Int → Option (Bool)
 | 0, _ => none
 | k + 1, x1 => (spec_DrawReadCount.f x1).bind fun t333 => ((impl_ReadCount.f k t333).bind fun bt334 => ((spec_ReadCount.f k t333).bind fun bt337 => ((spec_DrawReadPair.f x1).bind fun t340 => ((impl_ReadPair.f k t340).bind fun bt341 => ((spec_ReadPair.f k t340).bind fun bt344 => ((spec_DrawReadEnd.f x1).bind fun t347 => ((impl_ReadEnd.f k t347).bind fun bt348 => ((spec_ReadEnd.f k t347).bind fun bt351 => ((spec_DrawReadNumber.f x1).bind fun t354 => ((impl_ReadNumber.f t354).bind fun bt355 => ((spec_ReadNumber.f k t354).bind fun bt357 => (if (bt334.2.2 == bt337.2.2) = true then (if bt334.1 = bt337.1 then (if bt334.2.1 = bt337.2.1 then (if (bt341.2.2 == bt344.2.2) = true then (if bt341.1 = bt344.1 then (if bt341.2.1 = bt344.2.1 then (if (bt348.2.2 == bt351.2.2) = true then (if bt348.1 = bt351.1 then (if bt348.2.1 = bt351.2.1 then (if bt341.2.2 = true then (if bt341.1 ≤ bt341.2.1 then (if (bt355.2 == bt357.2) = true then (some (bt355.1 == bt357.1)) else (some false)) else (some false)) else (if (bt355.2 == bt357.2) = true then (some (bt355.1 == bt357.1)) else (some false))) else (some false)) else (some false)) else (some false)) else (some false)) else (some false)) else (some false)) else (some false)) else (some false)) else (some false)))))))))))))
def laws_FnNumbers.j1 : Nat → List Int → Int → Int → ByteArray → Bool → Option (Bool)
 | 0, _, _, _, _, _ => none
 | k + 1, x1, x5, x6, x11, x151 => if x151 = true then (some false) else ((impl_ReadPair.f k x11).bind fun bt330 => (if (wrap64 (x5 + x6)) ≤ 1000 then (if x6 > 0 then (if bt330.2.2 = true then (if bt330.1 = (wrap64 (x5 + 1)) then (if bt330.2.1 = (wrap64 (x5 + x6)) then (laws_FnNumbers.j2 k x1) else (some false)) else (some false)) else (some false)) else (laws_FnNumbers.j2 k x1)) else (laws_FnNumbers.j2 k x1)))
end
def laws_FnNumbers.f (k : Nat) (l0 : List Int) (l1 : List Int) : Option (Bool) := (laws_big.f l0 l1).bind fun t312 => (if t312 = true then (some true) else ((spec_DrawCountText.f l0).bind fun bt313 => ((impl_CountText.f bt313.1 bt313.2).bind fun bt315 => ((spec_CountText.f k bt313.1 bt313.2).bind fun bt317 => ((impl_PairText.f bt313.1 bt313.2).bind fun bt319 => ((spec_PairText.f k bt313.1 bt313.2).bind fun bt321 => ((impl_EndText.f bt313.1 bt313.2).bind fun bt323 => ((spec_EndText.f k bt313.1 bt313.2).bind fun bt325 => (if (bt315.2 != bt317.2) = true then (laws_FnNumbers.j0 k l1 bt313.1 bt313.2 bt315.1 bt315.2 bt319.1 true) else (if bt315.1.toList = bt317.1.toList then (if (bt319.2 != bt321.2) = true then (laws_FnNumbers.j0 k l1 bt313.1 bt313.2 bt315.1 bt315.2 bt319.1 true) else (if bt319.1.toList = bt321.1.toList then (if (bt323.2 != bt325.2) = true then (laws_FnNumbers.j0 k l1 bt313.1 bt313.2 bt315.1 bt315.2 bt319.1 true) else (if bt323.1.toList = bt325.1.toList then (if (bt315.2 != bt319.2) = true then (laws_FnNumbers.j0 k l1 bt313.1 bt313.2 bt315.1 bt315.2 bt319.1 true) else (laws_FnNumbers.j0 k l1 bt313.1 bt313.2 bt315.1 bt315.2 bt319.1 (bt323.1.toList != bt319.1.toList))) else (laws_FnNumbers.j0 k l1 bt313.1 bt313.2 bt315.1 bt315.2 bt319.1 true))) else (laws_FnNumbers.j0 k l1 bt313.1 bt313.2 bt315.1 bt315.2 bt319.1 true))) else (laws_FnNumbers.j0 k l1 bt313.1 bt313.2 bt315.1 bt315.2 bt319.1 true)))))))))))
set_option maxHeartbeats 8000000 in
set_option maxRecDepth 100000 in
theorem laws_FnNumbers.calls (k : Nat) (A0 : Option Addr) (c0 : Nat) (l0 : List Int) (A1 : Option Addr) (c1 : Nat) (l1 : List Int) (r : Bool) (w : World) (ht : Door true w) (hr0 : Kd.C (Kd.int .u8) w A0 l0.length l0) (hc0 : l0.length ≤ c0) (hr1 : Kd.C (Kd.int .u8) w A1 l1.length l1) (hc1 : l1.length ≤ c1) (h : laws_FnNumbers.f k l0 l1 = some r) (hr_ : r = true) :
  Calls Tryd.prog 3 #[.slice A0 l0.length c0, .slice A1 l1.length c1] w fun e w' => e = .returned (.bool r) ∧ Below w.heap.size w w' := by
 have HR_ := Aside0.mk hr_
 clear hr_
 have HT := Aside0.mk ht
 clear ht
 have HR0 := Aside0.mk hr0
 have HC0 := Aside0.mk hc0
 clear hr0 hc0
 have HR1 := Aside0.mk hr1
 have HC1 := Aside0.mk hc1
 clear hr1 hc1
 have HB := Aside0.mk (Below.refl w.heap.size w)
 have H : ((laws_big.f l0 l1).bind fun t312 => (if t312 = true then (some true) else ((spec_DrawCountText.f l0).bind fun bt313 => ((impl_CountText.f bt313.1 bt313.2).bind fun bt315 => ((spec_CountText.f k bt313.1 bt313.2).bind fun bt317 => ((impl_PairText.f bt313.1 bt313.2).bind fun bt319 => ((spec_PairText.f k bt313.1 bt313.2).bind fun bt321 => ((impl_EndText.f bt313.1 bt313.2).bind fun bt323 => ((spec_EndText.f k bt313.1 bt313.2).bind fun bt325 => (if (bt315.2 != bt317.2) = true then (laws_FnNumbers.j0 k l1 bt313.1 bt313.2 bt315.1 bt315.2 bt319.1 true) else (if bt315.1.toList = bt317.1.toList then (if (bt319.2 != bt321.2) = true then (laws_FnNumbers.j0 k l1 bt313.1 bt313.2 bt315.1 bt315.2 bt319.1 true) else (if bt319.1.toList = bt321.1.toList then (if (bt323.2 != bt325.2) = true then (laws_FnNumbers.j0 k l1 bt313.1 bt313.2 bt315.1 bt315.2 bt319.1 true) else (if bt323.1.toList = bt325.1.toList then (if (bt315.2 != bt319.2) = true then (laws_FnNumbers.j0 k l1 bt313.1 bt313.2 bt315.1 bt315.2 bt319.1 true) else (laws_FnNumbers.j0 k l1 bt313.1 bt313.2 bt315.1 bt315.2 bt319.1 (bt323.1.toList != bt319.1.toList))) else (laws_FnNumbers.j0 k l1 bt313.1 bt313.2 bt315.1 bt315.2 bt319.1 true))) else (laws_FnNumbers.j0 k l1 bt313.1 bt313.2 bt315.1 bt315.2 bt319.1 true))) else (laws_FnNumbers.j0 k l1 bt313.1 bt313.2 bt315.1 bt315.2 bt319.1 true)))))))))))) = some r := h
 clear h
 replace H := Option.bind_eq_some_iff.mp H
 obtain ⟨t312, A30, H⟩ := H
 replace H : (if t312 = true then (some true) else ((spec_DrawCountText.f l0).bind fun bt313 => ((impl_CountText.f bt313.1 bt313.2).bind fun bt315 => ((spec_CountText.f k bt313.1 bt313.2).bind fun bt317 => ((impl_PairText.f bt313.1 bt313.2).bind fun bt319 => ((spec_PairText.f k bt313.1 bt313.2).bind fun bt321 => ((impl_EndText.f bt313.1 bt313.2).bind fun bt323 => ((spec_EndText.f k bt313.1 bt313.2).bind fun bt325 => (if (bt315.2 != bt317.2) = true then (laws_FnNumbers.j0 k l1 bt313.1 bt313.2 bt315.1 bt315.2 bt319.1 true) else (if bt315.1.toList = bt317.1.toList then (if (bt319.2 != bt321.2) = true then (laws_FnNumbers.j0 k l1 bt313.1 bt313.2 bt315.1 bt315.2 bt319.1 true) else (if bt319.1.toList = bt321.1.toList then (if (bt323.2 != bt325.2) = true then (laws_FnNumbers.j0 k l1 bt313.1 bt313.2 bt315.1 bt315.2 bt319.1 true) else (if bt323.1.toList = bt325.1.toList then (if (bt315.2 != bt319.2) = true then (laws_FnNumbers.j0 k l1 bt313.1 bt313.2 bt315.1 bt315.2 bt319.1 true) else (laws_FnNumbers.j0 k l1 bt313.1 bt313.2 bt315.1 bt315.2 bt319.1 (bt323.1.toList != bt319.1.toList))) else (laws_FnNumbers.j0 k l1 bt313.1 bt313.2 bt315.1 bt315.2 bt319.1 true))) else (laws_FnNumbers.j0 k l1 bt313.1 bt313.2 bt315.1 bt315.2 bt319.1 true))) else (laws_FnNumbers.j0 k l1 bt313.1 bt313.2 bt315.1 bt315.2 bt319.1 true))))))))))) = some r := H
 have A3 := Aside0.mk A30
 clear A30
 by_cases c4 : t312 = true
 ·as_aux_lemma =>
    subst c4
    have H1 : (some true) = some r := by rw [if_pos rfl] at H; exact H
    clear H
    have H := H1
    clear H1
    first
    | exact absurd (show false = true from (Option.some.inj H).trans HR_.out) Bool.false_ne_true
    | obtain rfl := Option.some.inj H
      go_enter Tryd.func3, Tryd.ntmps3
      go_wp2_with (first | ((with_reducible refine gateC (f := 5) rfl ?_); refine goesL_ (some 53) rfl rfl Tryd.func5 (by kernel_rfl) rfl #[.slice A0 l0.length c0, .slice A1 l1.length c1] rfl zm ?_; (with_reducible refine (laws_big.calls _ _ l0 _ _ l1 true _ ?side1 ?side2 ?side3 ?side4 A3.out).mono ?_); (case side1 => exact zq HR0.out); (case side2 => exact HC0.out); (case side3 => exact zq HR1.out); (case side4 => exact HC1.out); rintro e w' ⟨rfl, ⟨nd, rfl⟩⟩; refine ⟨_, rfl, ?_⟩))
      go_ret
      exact ⟨by first | rfl | (simp [errW_none, errW_some] <;> rfl) | (simp [*, errW_none, errW_some] <;> rfl), by repeat (first | (with_reducible first | exact HB.out | apply below_alloc | apply pw_below_drewN | apply below_drew1) | exact HB.out)⟩
 ·as_aux_lemma =>
    replace c4 := Bool.eq_false_iff.mpr c4
    subst c4
    have H1 : ((spec_DrawCountText.f l0).bind fun bt313 => ((impl_CountText.f bt313.1 bt313.2).bind fun bt315 => ((spec_CountText.f k bt313.1 bt313.2).bind fun bt317 => ((impl_PairText.f bt313.1 bt313.2).bind fun bt319 => ((spec_PairText.f k bt313.1 bt313.2).bind fun bt321 => ((impl_EndText.f bt313.1 bt313.2).bind fun bt323 => ((spec_EndText.f k bt313.1 bt313.2).bind fun bt325 => (if (bt315.2 != bt317.2) = true then (laws_FnNumbers.j0 k l1 bt313.1 bt313.2 bt315.1 bt315.2 bt319.1 true) else (if bt315.1.toList = bt317.1.toList then (if (bt319.2 != bt321.2) = true then (laws_FnNumbers.j0 k l1 bt313.1 bt313.2 bt315.1 bt315.2 bt319.1 true) else (if bt319.1.toList = bt321.1.toList then (if (bt323.2 != bt325.2) = true then (laws_FnNumbers.j0 k l1 bt313.1 bt313.2 bt315.1 bt315.2 bt319.1 true) else (if bt323.1.toList = bt325.1.toList then (if (bt315.2 != bt319.2) = true then (laws_FnNumbers.j0 k l1 bt313.1 bt313.2 bt315.1 bt315.2 bt319.1 true) else (laws_FnNumbers.j0 k l1 bt313.1 bt313.2 bt315.1 bt315.2 bt319.1 (bt323.1.toList != bt319.1.toList))) else (laws_FnNumbers.j0 k l1 bt313.1 bt313.2 bt315.1 bt315.2 bt319.1 true))) else (laws_FnNumbers.j0 k l1 bt313.1 bt313.2 bt315.1 bt315.2 bt319.1 true))) else (laws_FnNumbers.j0 k l1 bt313.1 bt313.2 bt315.1 bt315.2 bt319.1 true)))))))))) = some r := by rw [if_neg (show ¬ (false = true) by decide)] at H; exact H
    clear H
    have H := H1
    clear H1
    replace H := Option.bind_eq_some_iff.mp H
    obtain ⟨⟨t313, t314⟩, A50, H⟩ := H
    replace H : ((impl_CountText.f t313 t314).bind fun bt315 => ((spec_CountText.f k t313 t314).bind fun bt317 => ((impl_PairText.f t313 t314).bind fun bt319 => ((spec_PairText.f k t313 t314).bind fun bt321 => ((impl_EndText.f t313 t314).bind fun bt323 => ((spec_EndText.f k t313 t314).bind fun bt325 => (if (bt315.2 != bt317.2) = true then (laws_FnNumbers.j0 k l1 t313 t314 bt315.1 bt315.2 bt319.1 true) else (if bt315.1.toList = bt317.1.toList then (if (bt319.2 != bt321.2) = true then (laws_FnNumbers.j0 k l1 t313 t314 bt315.1 bt315.2 bt319.1 true) else (if bt319.1.toList = bt321.1.toList then (if (bt323.2 != bt325.2) = true then (laws_FnNumbers.j0 k l1 t313 t314 bt315.1 bt315.2 bt319.1 true) else (if bt323.1.toList = bt325.1.toList then (if (bt315.2 != bt319.2) = true then (laws_FnNumbers.j0 k l1 t313 t314 bt315.1 bt315.2 bt319.1 true) else (laws_FnNumbers.j0 k l1 t313 t314 bt315.1 bt315.2 bt319.1 (bt323.1.toList != bt319.1.toList))) else (laws_FnNumbers.j0 k l1 t313 t314 bt315.1 bt315.2 bt319.1 true))) else (laws_FnNumbers.j0 k l1 t313 t314 bt315.1 bt315.2 bt319.1 true))) else (laws_FnNumbers.j0 k l1 t313 t314 bt315.1 bt315.2 bt319.1 true))))))))) = some r := H
    have A5 := Aside0.mk A50
    clear A50
    replace H := Option.bind_eq_some_iff.mp H
    obtain ⟨⟨t315, t316⟩, A60, H⟩ := H
    replace H : ((spec_CountText.f k t313 t314).bind fun bt317 => ((impl_PairText.f t313 t314).bind fun bt319 => ((spec_PairText.f k t313 t314).bind fun bt321 => ((impl_EndText.f t313 t314).bind fun bt323 => ((spec_EndText.f k t313 t314).bind fun bt325 => (if (t316 != bt317.2) = true then (laws_FnNumbers.j0 k l1 t313 t314 t315 t316 bt319.1 true) else (if t315.toList = bt317.1.toList then (if (bt319.2 != bt321.2) = true then (laws_FnNumbers.j0 k l1 t313 t314 t315 t316 bt319.1 true) else (if bt319.1.toList = bt321.1.toList then (if (bt323.2 != bt325.2) = true then (laws_FnNumbers.j0 k l1 t313 t314 t315 t316 bt319.1 true) else (if bt323.1.toList = bt325.1.toList then (if (t316 != bt319.2) = true then (laws_FnNumbers.j0 k l1 t313 t314 t315 t316 bt319.1 true) else (laws_FnNumbers.j0 k l1 t313 t314 t315 t316 bt319.1 (bt323.1.toList != bt319.1.toList))) else (laws_FnNumbers.j0 k l1 t313 t314 t315 t316 bt319.1 true))) else (laws_FnNumbers.j0 k l1 t313 t314 t315 t316 bt319.1 true))) else (laws_FnNumbers.j0 k l1 t313 t314 t315 t316 bt319.1 true)))))))) = some r := H
    have A6 := Aside0.mk A60
    clear A60
    replace H := Option.bind_eq_some_iff.mp H
    obtain ⟨⟨t317, t318⟩, A70, H⟩ := H
    replace H : ((impl_PairText.f t313 t314).bind fun bt319 => ((spec_PairText.f k t313 t314).bind fun bt321 => ((impl_EndText.f t313 t314).bind fun bt323 => ((spec_EndText.f k t313 t314).bind fun bt325 => (if (t316 != t318) = true then (laws_FnNumbers.j0 k l1 t313 t314 t315 t316 bt319.1 true) else (if t315.toList = t317.toList then (if (bt319.2 != bt321.2) = true then (laws_FnNumbers.j0 k l1 t313 t314 t315 t316 bt319.1 true) else (if bt319.1.toList = bt321.1.toList then (if (bt323.2 != bt325.2) = true then (laws_FnNumbers.j0 k l1 t313 t314 t315 t316 bt319.1 true) else (if bt323.1.toList = bt325.1.toList then (if (t316 != bt319.2) = true then (laws_FnNumbers.j0 k l1 t313 t314 t315 t316 bt319.1 true) else (laws_FnNumbers.j0 k l1 t313 t314 t315 t316 bt319.1 (bt323.1.toList != bt319.1.toList))) else (laws_FnNumbers.j0 k l1 t313 t314 t315 t316 bt319.1 true))) else (laws_FnNumbers.j0 k l1 t313 t314 t315 t316 bt319.1 true))) else (laws_FnNumbers.j0 k l1 t313 t314 t315 t316 bt319.1 true))))))) = some r := H
    have A7 := Aside0.mk A70
    clear A70
    replace H := Option.bind_eq_some_iff.mp H
    obtain ⟨⟨t319, t320⟩, A80, H⟩ := H
    replace H : ((spec_PairText.f k t313 t314).bind fun bt321 => ((impl_EndText.f t313 t314).bind fun bt323 => ((spec_EndText.f k t313 t314).bind fun bt325 => (if (t316 != t318) = true then (laws_FnNumbers.j0 k l1 t313 t314 t315 t316 t319 true) else (if t315.toList = t317.toList then (if (t320 != bt321.2) = true then (laws_FnNumbers.j0 k l1 t313 t314 t315 t316 t319 true) else (if t319.toList = bt321.1.toList then (if (bt323.2 != bt325.2) = true then (laws_FnNumbers.j0 k l1 t313 t314 t315 t316 t319 true) else (if bt323.1.toList = bt325.1.toList then (if (t316 != t320) = true then (laws_FnNumbers.j0 k l1 t313 t314 t315 t316 t319 true) else (laws_FnNumbers.j0 k l1 t313 t314 t315 t316 t319 (bt323.1.toList != t319.toList))) else (laws_FnNumbers.j0 k l1 t313 t314 t315 t316 t319 true))) else (laws_FnNumbers.j0 k l1 t313 t314 t315 t316 t319 true))) else (laws_FnNumbers.j0 k l1 t313 t314 t315 t316 t319 true)))))) = some r := H
    have A8 := Aside0.mk A80
    clear A80
    replace H := Option.bind_eq_some_iff.mp H
    obtain ⟨⟨t321, t322⟩, A90, H⟩ := H
    replace H : ((impl_EndText.f t313 t314).bind fun bt323 => ((spec_EndText.f k t313 t314).bind fun bt325 => (if (t316 != t318) = true then (laws_FnNumbers.j0 k l1 t313 t314 t315 t316 t319 true) else (if t315.toList = t317.toList then (if (t320 != t322) = true then (laws_FnNumbers.j0 k l1 t313 t314 t315 t316 t319 true) else (if t319.toList = t321.toList then (if (bt323.2 != bt325.2) = true then (laws_FnNumbers.j0 k l1 t313 t314 t315 t316 t319 true) else (if bt323.1.toList = bt325.1.toList then (if (t316 != t320) = true then (laws_FnNumbers.j0 k l1 t313 t314 t315 t316 t319 true) else (laws_FnNumbers.j0 k l1 t313 t314 t315 t316 t319 (bt323.1.toList != t319.toList))) else (laws_FnNumbers.j0 k l1 t313 t314 t315 t316 t319 true))) else (laws_FnNumbers.j0 k l1 t313 t314 t315 t316 t319 true))) else (laws_FnNumbers.j0 k l1 t313 t314 t315 t316 t319 true))))) = some r := H
    have A9 := Aside0.mk A90
    clear A90
    replace H := Option.bind_eq_some_iff.mp H
    obtain ⟨⟨t323, t324⟩, A100, H⟩ := H
    replace H : ((spec_EndText.f k t313 t314).bind fun bt325 => (if (t316 != t318) = true then (laws_FnNumbers.j0 k l1 t313 t314 t315 t316 t319 true) else (if t315.toList = t317.toList then (if (t320 != t322) = true then (laws_FnNumbers.j0 k l1 t313 t314 t315 t316 t319 true) else (if t319.toList = t321.toList then (if (t324 != bt325.2) = true then (laws_FnNumbers.j0 k l1 t313 t314 t315 t316 t319 true) else (if t323.toList = bt325.1.toList then (if (t316 != t320) = true then (laws_FnNumbers.j0 k l1 t313 t314 t315 t316 t319 true) else (laws_FnNumbers.j0 k l1 t313 t314 t315 t316 t319 (t323.toList != t319.toList))) else (laws_FnNumbers.j0 k l1 t313 t314 t315 t316 t319 true))) else (laws_FnNumbers.j0 k l1 t313 t314 t315 t316 t319 true))) else (laws_FnNumbers.j0 k l1 t313 t314 t315 t316 t319 true)))) = some r := H
    have A10 := Aside0.mk A100
    clear A100
    replace H := Option.bind_eq_some_iff.mp H
    obtain ⟨⟨t325, t326⟩, A110, H⟩ := H
    replace H : (if (t316 != t318) = true then (laws_FnNumbers.j0 k l1 t313 t314 t315 t316 t319 true) else (if t315.toList = t317.toList then (if (t320 != t322) = true then (laws_FnNumbers.j0 k l1 t313 t314 t315 t316 t319 true) else (if t319.toList = t321.toList then (if (t324 != t326) = true then (laws_FnNumbers.j0 k l1 t313 t314 t315 t316 t319 true) else (if t323.toList = t325.toList then (if (t316 != t320) = true then (laws_FnNumbers.j0 k l1 t313 t314 t315 t316 t319 true) else (laws_FnNumbers.j0 k l1 t313 t314 t315 t316 t319 (t323.toList != t319.toList))) else (laws_FnNumbers.j0 k l1 t313 t314 t315 t316 t319 true))) else (laws_FnNumbers.j0 k l1 t313 t314 t315 t316 t319 true))) else (laws_FnNumbers.j0 k l1 t313 t314 t315 t316 t319 true))) = some r := H
    have A11 := Aside0.mk A110
    clear A110
    have HC12 := Aside0.mk H
    clear H
    go_enter Tryd.func3, Tryd.ntmps3
    go_upto_region 10 with (first | ((with_reducible refine gateC (f := 5) rfl ?_); refine goesL_ (some 53) rfl rfl Tryd.func5 (by kernel_rfl) rfl #[.slice A0 l0.length c0, .slice A1 l1.length c1] rfl zm ?_; (with_reducible refine (laws_big.calls _ _ l0 _ _ l1 false _ ?side1 ?side2 ?side3 ?side4 A3.out).mono ?_); (case side1 => exact zq HR0.out); (case side2 => exact HC0.out); (case side3 => exact zq HR1.out); (case side4 => exact HC1.out); rintro e w' ⟨rfl, ⟨nd, rfl⟩⟩; refine ⟨_, rfl, ?_⟩) | ((with_reducible refine gateC (f := 6) rfl ?_); refine goesL_ (some 56) rfl rfl Tryd.func6 (by kernel_rfl) rfl #[.slice A0 l0.length c0] rfl zm ?_; (with_reducible refine (spec_DrawCountText.calls _ _ l0 t313 t314 _ ?side1 ?side2 A5.out).mono ?_); (case side1 => exact zq HR0.out); (case side2 => exact HC0.out); rintro e w13 ⟨rfl, hb⟩; refine ⟨_, rfl, ?_⟩; have n0_ := Aside0.mk (below_step zb hb); clear HB; have HB := n0_; clear n0_; (try clear hb); (try clear hb2); (try clear hk); (try clear hi)) | ((with_reducible refine gateC (f := 7) rfl ?_); refine goesL_ (some 62) rfl rfl Tryd.func7 (by kernel_rfl) rfl #[.int .i64 t313, .int .i64 t314] rfl zm ?_; (with_reducible refine (impl_CountText.calls true t313 t314 t315 t316 _ ?sideT A6.out).mono ?_); (case sideT => exact Door.below HT.out zb); rintro e w14 ⟨rfl, hb⟩; refine ⟨_, rfl, ?_⟩; have n0_ := Aside0.mk (below_step zb hb); clear HB; have HB := n0_; clear n0_; (try clear hb); (try clear hb2); (try clear hk); (try clear hi)) | ((with_reducible refine gateC (f := 8) rfl ?_); refine goesL_ (some 68) rfl rfl Tryd.func8 (by kernel_rfl) rfl #[.int .i64 t313, .int .i64 t314] rfl zm ?_; (with_reducible refine (spec_CountText.calls k t313 t314 t317 t318 _ A7.out).mono ?_); rintro e w15 ⟨rfl, hb⟩; refine ⟨_, rfl, ?_⟩; have n0_ := Aside0.mk (below_step zb hb); clear HB; have HB := n0_; clear n0_; (try clear hb); (try clear hb2); (try clear hk); (try clear hi)) | ((with_reducible refine gateC (f := 9) rfl ?_); refine goesL_ (some 74) rfl rfl Tryd.func9 (by kernel_rfl) rfl #[.int .i64 t313, .int .i64 t314] rfl zm ?_; (with_reducible refine (impl_PairText.calls true t313 t314 t319 t320 _ ?sideT A8.out).mono ?_); (case sideT => exact Door.below HT.out zb); rintro e w16 ⟨rfl, hb⟩; refine ⟨_, rfl, ?_⟩; have n0_ := Aside0.mk (below_step zb hb); clear HB; have HB := n0_; clear n0_; (try clear hb); (try clear hb2); (try clear hk); (try clear hi)) | ((with_reducible refine gateC (f := 10) rfl ?_); refine goesL_ (some 80) rfl rfl Tryd.func10 (by kernel_rfl) rfl #[.int .i64 t313, .int .i64 t314] rfl zm ?_; (with_reducible refine (spec_PairText.calls k t313 t314 t321 t322 _ A9.out).mono ?_); rintro e w17 ⟨rfl, hb⟩; refine ⟨_, rfl, ?_⟩; have n0_ := Aside0.mk (below_step zb hb); clear HB; have HB := n0_; clear n0_; (try clear hb); (try clear hb2); (try clear hk); (try clear hi)) | ((with_reducible refine gateC (f := 11) rfl ?_); refine goesL_ (some 86) rfl rfl Tryd.func11 (by kernel_rfl) rfl #[.int .i64 t313, .int .i64 t314] rfl zm ?_; (with_reducible refine (impl_EndText.calls true t313 t314 t323 t324 _ ?sideT A10.out).mono ?_); (case sideT => exact Door.below HT.out zb); rintro e w18 ⟨rfl, hb⟩; refine ⟨_, rfl, ?_⟩; have n0_ := Aside0.mk (below_step zb hb); clear HB; have HB := n0_; clear n0_; (try clear hb); (try clear hb2); (try clear hk); (try clear hi)) | ((with_reducible refine gateC (f := 12) rfl ?_); refine goesL_ (some 92) rfl rfl Tryd.func12 (by kernel_rfl) rfl #[.int .i64 t313, .int .i64 t314] rfl zm ?_; (with_reducible refine (spec_EndText.calls k t313 t314 t325 t326 _ A11.out).mono ?_); rintro e w19 ⟨rfl, hb⟩; refine ⟨_, rfl, ?_⟩; have n0_ := Aside0.mk (below_step zb hb); clear HB; have HB := n0_; clear n0_; (try clear hb); (try clear hb2); (try clear hk); (try clear hi)))
    (try simp only [Act.put, List.setIfInBounds_toArray, List.set_cons_zero, List.set_cons_succ])
    go_cut [132] (fun v132 wc => ∃ (kq : Nat) (x132_11 : Bool), v132 = .bool x132_11 ∧ Aside0 (laws_FnNumbers.j0 kq l1 t313 t314 t315 t316 t319 x132_11 = some r) ∧ Aside0 (kq ≤ k) ∧ Aside0 (Below w.heap.size w wc))
    case first =>
     have H := HC12.out
     clear HC12
     by_cases c20 : (t316 != t318) = true
     ·as_aux_lemma =>
        rw [if_pos c20] at H
        have c20b0 : (t316 != t318) = true := c20
        (try (have c20b1 : decide (t316 = t318) = false := by simpa using c20))
        (try (have c20b2 : (t316 == t318) = false := by simpa using c20))
        (try (have c20b3 : ¬ (t316 = t318) := by simpa using c20))
        clear c20
        (first | rw [c20b0] | (simp only [i64_w, i32_w]; rw [c20b0]) | skip)
        have H' := Aside0.mk H
        clear H
        go_wp2
        go_meet
        case rel => exact ⟨_, (true), zf, H', ⟨by first | omega | exact Nat.le_refl _⟩, ⟨by repeat (first | (with_reducible first | exact HB.out | apply below_alloc | apply pw_below_drewN | apply below_drew1) | exact HB.out)⟩⟩
     ·as_aux_lemma =>
        rw [if_neg c20] at H
        have c20b0 : (t316 != t318) = false := by simpa using c20
        (try (have c20b1 : decide (t316 = t318) = true := by simpa using c20))
        (try (have c20b2 : (t316 == t318) = true := by simpa using c20))
        clear c20
        (first | rw [c20b0] | (simp only [i64_w, i32_w]; rw [c20b0]) | skip)
        by_cases c21 : t315.toList = t317.toList
        ·as_aux_lemma =>
           rw [if_pos c21] at H
           have c21b0 : (t315.toList == t317.toList) = true := beq_iff_eq.mpr c21
           have c21b1 : (t315.toList != t317.toList) = false := bne_eq_false_iff_eq.mpr c21
           clear c21
           by_cases c22 : (t320 != t322) = true
           ·as_aux_lemma =>
              rw [if_pos c22] at H
              have c22b0 : (t320 != t322) = true := c22
              (try (have c22b1 : decide (t320 = t322) = false := by simpa using c22))
              (try (have c22b2 : (t320 == t322) = false := by simpa using c22))
              (try (have c22b3 : ¬ (t320 = t322) := by simpa using c22))
              clear c22
              have H' := Aside0.mk H
              clear H
              go_wp2
              go_meet
              case rel => exact ⟨_, (true), zf, H', ⟨by first | omega | exact Nat.le_refl _⟩, ⟨by repeat (first | (with_reducible first | exact HB.out | apply below_alloc | apply pw_below_drewN | apply below_drew1) | exact HB.out)⟩⟩
           ·as_aux_lemma =>
              rw [if_neg c22] at H
              have c22b0 : (t320 != t322) = false := by simpa using c22
              (try (have c22b1 : decide (t320 = t322) = true := by simpa using c22))
              (try (have c22b2 : (t320 == t322) = true := by simpa using c22))
              clear c22
              by_cases c23 : t319.toList = t321.toList
              ·as_aux_lemma =>
                 rw [if_pos c23] at H
                 have c23b0 : (t319.toList == t321.toList) = true := beq_iff_eq.mpr c23
                 have c23b1 : (t319.toList != t321.toList) = false := bne_eq_false_iff_eq.mpr c23
                 clear c23
                 by_cases c24 : (t324 != t326) = true
                 ·as_aux_lemma =>
                    rw [if_pos c24] at H
                    have c24b0 : (t324 != t326) = true := c24
                    (try (have c24b1 : decide (t324 = t326) = false := by simpa using c24))
                    (try (have c24b2 : (t324 == t326) = false := by simpa using c24))
                    (try (have c24b3 : ¬ (t324 = t326) := by simpa using c24))
                    clear c24
                    have H' := Aside0.mk H
                    clear H
                    go_wp2
                    go_meet
                    case rel => exact ⟨_, (true), zf, H', ⟨by first | omega | exact Nat.le_refl _⟩, ⟨by repeat (first | (with_reducible first | exact HB.out | apply below_alloc | apply pw_below_drewN | apply below_drew1) | exact HB.out)⟩⟩
                 ·as_aux_lemma =>
                    rw [if_neg c24] at H
                    have c24b0 : (t324 != t326) = false := by simpa using c24
                    (try (have c24b1 : decide (t324 = t326) = true := by simpa using c24))
                    (try (have c24b2 : (t324 == t326) = true := by simpa using c24))
                    clear c24
                    by_cases c25 : t323.toList = t325.toList
                    ·as_aux_lemma =>
                       rw [if_pos c25] at H
                       have c25b0 : (t323.toList == t325.toList) = true := beq_iff_eq.mpr c25
                       have c25b1 : (t323.toList != t325.toList) = false := bne_eq_false_iff_eq.mpr c25
                       clear c25
                       by_cases c26 : (t316 != t320) = true
                       ·as_aux_lemma =>
                          rw [if_pos c26] at H
                          have c26b0 : (t316 != t320) = true := c26
                          (try (have c26b1 : decide (t316 = t320) = false := by simpa using c26))
                          (try (have c26b2 : (t316 == t320) = false := by simpa using c26))
                          (try (have c26b3 : ¬ (t316 = t320) := by simpa using c26))
                          clear c26
                          have H' := Aside0.mk H
                          clear H
                          go_wp2
                          go_meet
                          case rel => exact ⟨_, (true), zf, H', ⟨by first | omega | exact Nat.le_refl _⟩, ⟨by repeat (first | (with_reducible first | exact HB.out | apply below_alloc | apply pw_below_drewN | apply below_drew1) | exact HB.out)⟩⟩
                       ·as_aux_lemma =>
                          rw [if_neg c26] at H
                          have c26b0 : (t316 != t320) = false := by simpa using c26
                          (try (have c26b1 : decide (t316 = t320) = true := by simpa using c26))
                          (try (have c26b2 : (t316 == t320) = true := by simpa using c26))
                          clear c26
                          have H' := Aside0.mk H
                          clear H
                          go_wp2
                          go_meet
                          case rel => exact ⟨_, ((t323.toList != t319.toList)), zf, H', ⟨by first | omega | exact Nat.le_refl _⟩, ⟨by repeat (first | (with_reducible first | exact HB.out | apply below_alloc | apply pw_below_drewN | apply below_drew1) | exact HB.out)⟩⟩
                    ·as_aux_lemma =>
                       rw [if_neg c25] at H
                       have c25b0 : (t323.toList == t325.toList) = false := beq_eq_false_iff_ne.mpr c25
                       have c25b1 : (t323.toList != t325.toList) = true := bne_iff_ne.mpr c25
                       have H' := Aside0.mk H
                       clear H
                       go_wp2
                       go_meet
                       case rel => exact ⟨_, (true), zf, H', ⟨by first | omega | exact Nat.le_refl _⟩, ⟨by repeat (first | (with_reducible first | exact HB.out | apply below_alloc | apply pw_below_drewN | apply below_drew1) | exact HB.out)⟩⟩
              ·as_aux_lemma =>
                 rw [if_neg c23] at H
                 have c23b0 : (t319.toList == t321.toList) = false := beq_eq_false_iff_ne.mpr c23
                 have c23b1 : (t319.toList != t321.toList) = true := bne_iff_ne.mpr c23
                 have H' := Aside0.mk H
                 clear H
                 go_wp2
                 go_meet
                 case rel => exact ⟨_, (true), zf, H', ⟨by first | omega | exact Nat.le_refl _⟩, ⟨by repeat (first | (with_reducible first | exact HB.out | apply below_alloc | apply pw_below_drewN | apply below_drew1) | exact HB.out)⟩⟩
        ·as_aux_lemma =>
           rw [if_neg c21] at H
           have c21b0 : (t315.toList == t317.toList) = false := beq_eq_false_iff_ne.mpr c21
           have c21b1 : (t315.toList != t317.toList) = true := bne_iff_ne.mpr c21
           have H' := Aside0.mk H
           clear H
           go_wp2
           go_meet
           case rel => exact ⟨_, (true), zf, H', ⟨by first | omega | exact Nat.le_refl _⟩, ⟨by repeat (first | (with_reducible first | exact HB.out | apply below_alloc | apply pw_below_drewN | apply below_drew1) | exact HB.out)⟩⟩
    case rest =>
     clear HC12
     try clear c1
     try clear c2
     try clear p2
     try clear c3
     try clear c4
     try clear c5
     try clear c6
     try clear c7
     try clear c8
     try clear c9
     try clear c10
     try clear c11
     try clear c12
     try clear c20
     try clear c20b0
     try clear c20b1
     try clear c20b2
     try clear c21
     try clear c21b0
     try clear c21b1
     try clear c22
     try clear c22b0
     try clear c22b1
     try clear c22b2
     try clear c23
     try clear c23b0
     try clear c23b1
     try clear c24
     try clear c24b0
     try clear c24b1
     try clear c24b2
     try clear c25
     try clear c25b0
     try clear c25b1
     try clear c26
     try clear c26b0
     try clear c26b1
     try clear c26b2
     obtain ⟨kq, x132_11, rfl, HA, HJ11, HB⟩ := hcut
     cases kq with
     | zero => exact absurd HA.out (by simp [laws_FnNumbers.j0])
     | succ kj11 =>
      have H := HA.out
      clear HA
      simp only [laws_FnNumbers.j0] at H
      by_cases c27 : x132_11 = true
      ·as_aux_lemma =>
         subst c27
         have H1 : (some false) = some r := by rw [if_pos rfl] at H; exact H
         clear H
         have H := H1
         clear H1
         first
         | exact absurd (show false = true from (Option.some.inj H).trans HR_.out) Bool.false_ne_true
         | obtain rfl := Option.some.inj H
           go_wp2
           go_ret
           exact ⟨by first | rfl | (simp [errW_none, errW_some] <;> rfl) | (simp [*, errW_none, errW_some] <;> rfl), by repeat (first | (with_reducible first | exact HB.out | apply below_alloc | apply pw_below_drewN | apply below_drew1) | exact HB.out)⟩
      ·as_aux_lemma =>
         replace c27 := Bool.eq_false_iff.mpr c27
         subst c27
         have H1 : (if t316 = true then ((impl_ReadCount.f kj11 t315).bind fun bt327 => (if bt327.2.2 = true then (if bt327.1 = t313 then (laws_FnNumbers.j1 kj11 l1 t313 t314 t319 (bt327.2.1 != t314)) else (laws_FnNumbers.j1 kj11 l1 t313 t314 t319 true)) else (laws_FnNumbers.j1 kj11 l1 t313 t314 t319 true))) else (laws_FnNumbers.j2 kj11 l1)) = some r := by rw [if_neg (show ¬ (false = true) by decide)] at H; exact H
         clear H
         have H := H1
         clear H1
         have HC28 := Aside0.mk H
         clear H
         go_upto_if 133 with (fail)
         go_cut [] (fun wc => ∃ (kq : Nat), Aside0 (laws_FnNumbers.j2 kq l1 = some r) ∧ Aside0 (kq ≤ kj11) ∧ Aside0 (Below w.heap.size w wc))
         case first =>
          have H := HC28.out
          clear HC28
          by_cases c29 : t316 = true
          ·as_aux_lemma =>
             subst c29
             have H1 : ((impl_ReadCount.f kj11 t315).bind fun bt327 => (if bt327.2.2 = true then (if bt327.1 = t313 then (laws_FnNumbers.j1 kj11 l1 t313 t314 t319 (bt327.2.1 != t314)) else (laws_FnNumbers.j1 kj11 l1 t313 t314 t319 true)) else (laws_FnNumbers.j1 kj11 l1 t313 t314 t319 true))) = some r := by rw [if_pos rfl] at H; exact H
             clear H
             have H := H1
             clear H1
             replace H := Option.bind_eq_some_iff.mp H
             obtain ⟨⟨t327, t328, t329⟩, A300, H⟩ := H
             replace H : (if t329 = true then (if t327 = t313 then (laws_FnNumbers.j1 kj11 l1 t313 t314 t319 (t328 != t314)) else (laws_FnNumbers.j1 kj11 l1 t313 t314 t319 true)) else (laws_FnNumbers.j1 kj11 l1 t313 t314 t319 true)) = some r := H
             have A30 := Aside0.mk A300
             clear A300
             have HC31 := Aside0.mk H
             clear H
             go_upto_region 14 with (first | ((with_reducible refine gateC (f := 13) rfl ?_); refine goesL_ (some 136) rfl rfl Tryd.func13 (by kernel_rfl) rfl #[.string t315] rfl zm ?_; (with_reducible refine (impl_ReadCount.calls kj11 t315 t327 t328 t329 _ ?sideT A30.out).mono ?_); (case sideT => exact Door.below HT.out zb); rintro e w32 ⟨rfl, hb⟩; refine ⟨_, rfl, ?_⟩; have n0_ := Aside0.mk (below_step zb hb); clear HB; have HB := n0_; clear n0_; (try clear hb); (try clear hb2); (try clear hk); (try clear hi)))
             (try simp only [Act.put, List.setIfInBounds_toArray, List.set_cons_zero, List.set_cons_succ])
             go_cut [151] (fun v151 wc => ∃ (kq : Nat) (x151_30 : Bool), v151 = .bool x151_30 ∧ Aside0 (laws_FnNumbers.j1 kq l1 t313 t314 t319 x151_30 = some r) ∧ Aside0 (kq ≤ kj11) ∧ Aside0 (Below w.heap.size w wc))
             case first =>
              have H := HC31.out
              clear HC31
              by_cases c33 : t329 = true
              ·as_aux_lemma =>
                 subst c33
                 have H1 : (if t327 = t313 then (laws_FnNumbers.j1 kj11 l1 t313 t314 t319 (t328 != t314)) else (laws_FnNumbers.j1 kj11 l1 t313 t314 t319 true)) = some r := by rw [if_pos rfl] at H; exact H
                 clear H
                 have H := H1
                 clear H1
                 by_cases c34 : t327 = t313
                 ·as_aux_lemma =>
                    rw [if_pos c34] at H
                    have c34b0 : (t327 == t313) = true := beq_iff_eq.mpr c34
                    have c34b1 : (t327 != t313) = false := bne_eq_false_iff_eq.mpr c34
                    clear c34
                    (first | rw [c34b0] | (simp only [i64_w, i32_w]; rw [c34b0]) | skip)
                    have H' := Aside0.mk H
                    clear H
                    go_wp2
                    go_meet
                    case rel => exact ⟨_, ((t328 != t314)), zf, H', ⟨by have := HJ11.out; first | omega | exact Nat.le_refl _⟩, ⟨by repeat (first | (with_reducible first | exact HB.out | apply below_alloc | apply pw_below_drewN | apply below_drew1) | exact HB.out)⟩⟩
                 ·as_aux_lemma =>
                    rw [if_neg c34] at H
                    have c34b0 : (t327 == t313) = false := beq_eq_false_iff_ne.mpr c34
                    have c34b1 : (t327 != t313) = true := bne_iff_ne.mpr c34
                    (first | rw [c34b0] | (simp only [i64_w, i32_w]; rw [c34b0]) | skip)
                    have H' := Aside0.mk H
                    clear H
                    go_wp2
                    go_meet
                    case rel => exact ⟨_, (true), zf, H', ⟨by have := HJ11.out; first | omega | exact Nat.le_refl _⟩, ⟨by repeat (first | (with_reducible first | exact HB.out | apply below_alloc | apply pw_below_drewN | apply below_drew1) | exact HB.out)⟩⟩
              ·as_aux_lemma =>
                 replace c33 := Bool.eq_false_iff.mpr c33
                 subst c33
                 have H1 : (laws_FnNumbers.j1 kj11 l1 t313 t314 t319 true) = some r := by rw [if_neg (show ¬ (false = true) by decide)] at H; exact H
                 clear H
                 have H := H1
                 clear H1
                 have H' := Aside0.mk H
                 clear H
                 go_wp2
                 go_meet
                 case rel => exact ⟨_, (true), zf, H', ⟨by have := HJ11.out; first | omega | exact Nat.le_refl _⟩, ⟨by repeat (first | (with_reducible first | exact HB.out | apply below_alloc | apply pw_below_drewN | apply below_drew1) | exact HB.out)⟩⟩
             case rest =>
              clear HC31
              try clear c1
              try clear c2
              try clear p2
              try clear c3
              try clear c4
              try clear c5
              try clear c6
              try clear c7
              try clear c8
              try clear c9
              try clear c10
              try clear c11
              try clear c12
              try clear c13
              try clear c20
              try clear c20b0
              try clear c20b1
              try clear c20b2
              try clear c21
              try clear c21b0
              try clear c21b1
              try clear c22
              try clear c22b0
              try clear c22b1
              try clear c22b2
              try clear c23
              try clear c23b0
              try clear c23b1
              try clear c24
              try clear c24b0
              try clear c24b1
              try clear c24b2
              try clear c25
              try clear c25b0
              try clear c25b1
              try clear c26
              try clear c26b0
              try clear c26b1
              try clear c26b2
              try clear c27
              try clear c29
              try clear c33
              try clear c34
              try clear c34b0
              try clear c34b1
              try clear p2
              obtain ⟨kq, x151_30, rfl, HA, HJ30, HB⟩ := hcut
              cases kq with
              | zero => exact absurd HA.out (by simp [laws_FnNumbers.j1])
              | succ kj30 =>
               have H := HA.out
               clear HA
               simp only [laws_FnNumbers.j1] at H
               by_cases c35 : x151_30 = true
               ·as_aux_lemma =>
                  subst c35
                  have H1 : (some false) = some r := by rw [if_pos rfl] at H; exact H
                  clear H
                  have H := H1
                  clear H1
                  first
                  | exact absurd (show false = true from (Option.some.inj H).trans HR_.out) Bool.false_ne_true
                  | obtain rfl := Option.some.inj H
                    go_wp2
                    go_ret
                    exact ⟨by first | rfl | (simp [errW_none, errW_some] <;> rfl) | (simp [*, errW_none, errW_some] <;> rfl), by repeat (first | (with_reducible first | exact HB.out | apply below_alloc | apply pw_below_drewN | apply below_drew1) | exact HB.out)⟩
               ·as_aux_lemma =>
                  replace c35 := Bool.eq_false_iff.mpr c35
                  subst c35
                  have H1 : ((impl_ReadPair.f kj30 t319).bind fun bt330 => (if (wrap64 (t313 + t314)) ≤ 1000 then (if t314 > 0 then (if bt330.2.2 = true then (if bt330.1 = (wrap64 (t313 + 1)) then (if bt330.2.1 = (wrap64 (t313 + t314)) then (laws_FnNumbers.j2 kj30 l1) else (some false)) else (some false)) else (some false)) else (laws_FnNumbers.j2 kj30 l1)) else (laws_FnNumbers.j2 kj30 l1))) = some r := by rw [if_neg (show ¬ (false = true) by decide)] at H; exact H
                  clear H
                  have H := H1
                  clear H1
                  replace H := Option.bind_eq_some_iff.mp H
                  obtain ⟨⟨t330, t331, t332⟩, A360, H⟩ := H
                  replace H : (if (wrap64 (t313 + t314)) ≤ 1000 then (if t314 > 0 then (if t332 = true then (if t330 = (wrap64 (t313 + 1)) then (if t331 = (wrap64 (t313 + t314)) then (laws_FnNumbers.j2 kj30 l1) else (some false)) else (some false)) else (some false)) else (laws_FnNumbers.j2 kj30 l1)) else (laws_FnNumbers.j2 kj30 l1)) = some r := H
                  have A36 := Aside0.mk A360
                  clear A360
                  by_cases c37 : (wrap64 (t313 + t314)) ≤ 1000
                  ·as_aux_lemma =>
                     rw [if_pos c37] at H
                     have c37b0 : decide ((wrap64 (t313 + t314)) ≤ 1000) = true := decide_eq_true c37
                     clear c37
                     by_cases c38 : t314 > 0
                     ·as_aux_lemma =>
                        rw [if_pos c38] at H
                        have c38b0 : decide (0 < t314) = true := decide_eq_true c38
                        clear c38
                        by_cases c39 : t332 = true
                        ·as_aux_lemma =>
                           subst c39
                           have H1 : (if t330 = (wrap64 (t313 + 1)) then (if t331 = (wrap64 (t313 + t314)) then (laws_FnNumbers.j2 kj30 l1) else (some false)) else (some false)) = some r := by rw [if_pos rfl] at H; exact H
                           clear H
                           have H := H1
                           clear H1
                           by_cases c40 : t330 = (wrap64 (t313 + 1))
                           ·as_aux_lemma =>
                              rw [if_pos c40] at H
                              have c40b0 : (t330 == (wrap64 (t313 + 1))) = true := beq_iff_eq.mpr c40
                              have c40b1 : (t330 != (wrap64 (t313 + 1))) = false := bne_eq_false_iff_eq.mpr c40
                              clear c40
                              by_cases c41 : t331 = (wrap64 (t313 + t314))
                              ·as_aux_lemma =>
                                 rw [if_pos c41] at H
                                 have c41b0 : (t331 == (wrap64 (t313 + t314))) = true := beq_iff_eq.mpr c41
                                 have c41b1 : (t331 != (wrap64 (t313 + t314))) = false := bne_eq_false_iff_eq.mpr c41
                                 clear c41
                                 have H' := Aside0.mk H
                                 clear H
                                 go_wp2_with (first | ((with_reducible refine gateC (f := 14) rfl ?_); refine goesL_ (some 154) rfl rfl Tryd.func14 (by kernel_rfl) rfl #[.string t319] rfl zm ?_; (with_reducible refine (impl_ReadPair.calls kj30 t319 t330 t331 true _ ?sideT A36.out).mono ?_); (case sideT => exact Door.below HT.out zb); rintro e w42 ⟨rfl, hb⟩; refine ⟨_, rfl, ?_⟩; have n0_ := Aside0.mk (below_step zb hb); clear HB; have HB := n0_; clear n0_; (try clear hb); (try clear hb2); (try clear hk); (try clear hi)))
                                 go_meet
                                 case rel => exact ⟨_, H', ⟨by have := HJ11.out; have := HJ30.out; first | omega | exact Nat.le_refl _⟩, ⟨by repeat (first | (with_reducible first | exact HB.out | apply below_alloc | apply pw_below_drewN | apply below_drew1) | exact HB.out)⟩⟩
                              ·as_aux_lemma =>
                                 rw [if_neg c41] at H
                                 have c41b0 : (t331 == (wrap64 (t313 + t314))) = false := beq_eq_false_iff_ne.mpr c41
                                 have c41b1 : (t331 != (wrap64 (t313 + t314))) = true := bne_iff_ne.mpr c41
                                 first
                                 | exact absurd (show false = true from (Option.some.inj H).trans HR_.out) Bool.false_ne_true
                                 | obtain rfl := Option.some.inj H
                                   go_wp2_with (first | ((with_reducible refine gateC (f := 14) rfl ?_); refine goesL_ (some 154) rfl rfl Tryd.func14 (by kernel_rfl) rfl #[.string t319] rfl zm ?_; (with_reducible refine (impl_ReadPair.calls kj30 t319 t330 t331 true _ ?sideT A36.out).mono ?_); (case sideT => exact Door.below HT.out zb); rintro e w43 ⟨rfl, hb⟩; refine ⟨_, rfl, ?_⟩; have n0_ := Aside0.mk (below_step zb hb); clear HB; have HB := n0_; clear n0_; (try clear hb); (try clear hb2); (try clear hk); (try clear hi)))
                                   go_ret
                                   exact ⟨by first | rfl | (simp [errW_none, errW_some] <;> rfl) | (simp [*, errW_none, errW_some] <;> rfl), by repeat (first | (with_reducible first | exact HB.out | apply below_alloc | apply pw_below_drewN | apply below_drew1) | exact HB.out)⟩
                           ·as_aux_lemma =>
                              rw [if_neg c40] at H
                              have c40b0 : (t330 == (wrap64 (t313 + 1))) = false := beq_eq_false_iff_ne.mpr c40
                              have c40b1 : (t330 != (wrap64 (t313 + 1))) = true := bne_iff_ne.mpr c40
                              first
                              | exact absurd (show false = true from (Option.some.inj H).trans HR_.out) Bool.false_ne_true
                              | obtain rfl := Option.some.inj H
                                go_wp2_with (first | ((with_reducible refine gateC (f := 14) rfl ?_); refine goesL_ (some 154) rfl rfl Tryd.func14 (by kernel_rfl) rfl #[.string t319] rfl zm ?_; (with_reducible refine (impl_ReadPair.calls kj30 t319 t330 t331 true _ ?sideT A36.out).mono ?_); (case sideT => exact Door.below HT.out zb); rintro e w44 ⟨rfl, hb⟩; refine ⟨_, rfl, ?_⟩; have n0_ := Aside0.mk (below_step zb hb); clear HB; have HB := n0_; clear n0_; (try clear hb); (try clear hb2); (try clear hk); (try clear hi)))
                                go_ret
                                exact ⟨by first | rfl | (simp [errW_none, errW_some] <;> rfl) | (simp [*, errW_none, errW_some] <;> rfl), by repeat (first | (with_reducible first | exact HB.out | apply below_alloc | apply pw_below_drewN | apply below_drew1) | exact HB.out)⟩
                        ·as_aux_lemma =>
                           replace c39 := Bool.eq_false_iff.mpr c39
                           subst c39
                           have H1 : (some false) = some r := by rw [if_neg (show ¬ (false = true) by decide)] at H; exact H
                           clear H
                           have H := H1
                           clear H1
                           first
                           | exact absurd (show false = true from (Option.some.inj H).trans HR_.out) Bool.false_ne_true
                           | obtain rfl := Option.some.inj H
                             go_wp2_with (first | ((with_reducible refine gateC (f := 14) rfl ?_); refine goesL_ (some 154) rfl rfl Tryd.func14 (by kernel_rfl) rfl #[.string t319] rfl zm ?_; (with_reducible refine (impl_ReadPair.calls kj30 t319 t330 t331 false _ ?sideT A36.out).mono ?_); (case sideT => exact Door.below HT.out zb); rintro e w45 ⟨rfl, hb⟩; refine ⟨_, rfl, ?_⟩; have n0_ := Aside0.mk (below_step zb hb); clear HB; have HB := n0_; clear n0_; (try clear hb); (try clear hb2); (try clear hk); (try clear hi)))
                             go_ret
                             exact ⟨by first | rfl | (simp [errW_none, errW_some] <;> rfl) | (simp [*, errW_none, errW_some] <;> rfl), by repeat (first | (with_reducible first | exact HB.out | apply below_alloc | apply pw_below_drewN | apply below_drew1) | exact HB.out)⟩
                     ·as_aux_lemma =>
                        rw [if_neg c38] at H
                        have c38b0 : decide (0 < t314) = false := decide_eq_false c38
                        clear c38
                        have H' := Aside0.mk H
                        clear H
                        go_wp2_with (first | ((with_reducible refine gateC (f := 14) rfl ?_); refine goesL_ (some 154) rfl rfl Tryd.func14 (by kernel_rfl) rfl #[.string t319] rfl zm ?_; (with_reducible refine (impl_ReadPair.calls kj30 t319 t330 t331 t332 _ ?sideT A36.out).mono ?_); (case sideT => exact Door.below HT.out zb); rintro e w46 ⟨rfl, hb⟩; refine ⟨_, rfl, ?_⟩; have n0_ := Aside0.mk (below_step zb hb); clear HB; have HB := n0_; clear n0_; (try clear hb); (try clear hb2); (try clear hk); (try clear hi)))
                        go_meet
                        case rel => exact ⟨_, H', ⟨by have := HJ11.out; have := HJ30.out; first | omega | exact Nat.le_refl _⟩, ⟨by repeat (first | (with_reducible first | exact HB.out | apply below_alloc | apply pw_below_drewN | apply below_drew1) | exact HB.out)⟩⟩
                  ·as_aux_lemma =>
                     rw [if_neg c37] at H
                     have c37b0 : decide ((wrap64 (t313 + t314)) ≤ 1000) = false := decide_eq_false c37
                     clear c37
                     have H' := Aside0.mk H
                     clear H
                     go_wp2_with (first | ((with_reducible refine gateC (f := 14) rfl ?_); refine goesL_ (some 154) rfl rfl Tryd.func14 (by kernel_rfl) rfl #[.string t319] rfl zm ?_; (with_reducible refine (impl_ReadPair.calls kj30 t319 t330 t331 t332 _ ?sideT A36.out).mono ?_); (case sideT => exact Door.below HT.out zb); rintro e w47 ⟨rfl, hb⟩; refine ⟨_, rfl, ?_⟩; have n0_ := Aside0.mk (below_step zb hb); clear HB; have HB := n0_; clear n0_; (try clear hb); (try clear hb2); (try clear hk); (try clear hi)))
                     go_meet
                     case rel => exact ⟨_, H', ⟨by have := HJ11.out; have := HJ30.out; first | omega | exact Nat.le_refl _⟩, ⟨by repeat (first | (with_reducible first | exact HB.out | apply below_alloc | apply pw_below_drewN | apply below_drew1) | exact HB.out)⟩⟩
          ·as_aux_lemma =>
             replace c29 := Bool.eq_false_iff.mpr c29
             subst c29
             have H1 : (laws_FnNumbers.j2 kj11 l1) = some r := by rw [if_neg (show ¬ (false = true) by decide)] at H; exact H
             clear H
             have H := H1
             clear H1
             have H' := Aside0.mk H
             clear H
             go_wp2
             go_meet
             case rel => exact ⟨_, H', ⟨by have := HJ11.out; first | omega | exact Nat.le_refl _⟩, ⟨by repeat (first | (with_reducible first | exact HB.out | apply below_alloc | apply pw_below_drewN | apply below_drew1) | exact HB.out)⟩⟩
         case rest =>
          clear HC28
          try clear c1
          try clear c2
          try clear p2
          try clear c3
          try clear c4
          try clear c5
          try clear c6
          try clear p6
          try clear c7
          try clear c8
          try clear c9
          try clear c10
          try clear c11
          try clear c12
          try clear c13
          try clear c14
          try clear c20
          try clear c20b0
          try clear c20b1
          try clear c20b2
          try clear c21
          try clear c21b0
          try clear c21b1
          try clear c22
          try clear c22b0
          try clear c22b1
          try clear c22b2
          try clear c23
          try clear c23b0
          try clear c23b1
          try clear c24
          try clear c24b0
          try clear c24b1
          try clear c24b2
          try clear c25
          try clear c25b0
          try clear c25b1
          try clear c26
          try clear c26b0
          try clear c26b1
          try clear c26b2
          try clear c27
          try clear c29
          try clear c33
          try clear c34
          try clear c34b0
          try clear c34b1
          try clear c35
          try clear c37
          try clear c37b0
          try clear c38
          try clear c38b0
          try clear c39
          try clear c40
          try clear c40b0
          try clear c40b1
          try clear c41
          try clear c41b0
          try clear c41b1
          try clear p2
          obtain ⟨kq, HA, HJ27, HB⟩ := hcut
          cases kq with
          | zero => exact absurd HA.out (by simp [laws_FnNumbers.j2])
          | succ kj27 =>
           have H := HA.out
           clear HA
           simp only [laws_FnNumbers.j2] at H
           replace H := Option.bind_eq_some_iff.mp H
           obtain ⟨t333, A480, H⟩ := H
           replace H : ((impl_ReadCount.f kj27 t333).bind fun bt334 => ((spec_ReadCount.f kj27 t333).bind fun bt337 => ((spec_DrawReadPair.f l1).bind fun t340 => ((impl_ReadPair.f kj27 t340).bind fun bt341 => ((spec_ReadPair.f kj27 t340).bind fun bt344 => ((spec_DrawReadEnd.f l1).bind fun t347 => ((impl_ReadEnd.f kj27 t347).bind fun bt348 => ((spec_ReadEnd.f kj27 t347).bind fun bt351 => ((spec_DrawReadNumber.f l1).bind fun t354 => ((impl_ReadNumber.f t354).bind fun bt355 => ((spec_ReadNumber.f kj27 t354).bind fun bt357 => (if (bt334.2.2 == bt337.2.2) = true then (if bt334.1 = bt337.1 then (if bt334.2.1 = bt337.2.1 then (if (bt341.2.2 == bt344.2.2) = true then (if bt341.1 = bt344.1 then (if bt341.2.1 = bt344.2.1 then (if (bt348.2.2 == bt351.2.2) = true then (if bt348.1 = bt351.1 then (if bt348.2.1 = bt351.2.1 then (if bt341.2.2 = true then (if bt341.1 ≤ bt341.2.1 then (if (bt355.2 == bt357.2) = true then (some (bt355.1 == bt357.1)) else (some false)) else (some false)) else (if (bt355.2 == bt357.2) = true then (some (bt355.1 == bt357.1)) else (some false))) else (some false)) else (some false)) else (some false)) else (some false)) else (some false)) else (some false)) else (some false)) else (some false)) else (some false))))))))))))) = some r := H
           have A48 := Aside0.mk A480
           clear A480
           replace H := Option.bind_eq_some_iff.mp H
           obtain ⟨⟨t334, t335, t336⟩, A490, H⟩ := H
           replace H : ((spec_ReadCount.f kj27 t333).bind fun bt337 => ((spec_DrawReadPair.f l1).bind fun t340 => ((impl_ReadPair.f kj27 t340).bind fun bt341 => ((spec_ReadPair.f kj27 t340).bind fun bt344 => ((spec_DrawReadEnd.f l1).bind fun t347 => ((impl_ReadEnd.f kj27 t347).bind fun bt348 => ((spec_ReadEnd.f kj27 t347).bind fun bt351 => ((spec_DrawReadNumber.f l1).bind fun t354 => ((impl_ReadNumber.f t354).bind fun bt355 => ((spec_ReadNumber.f kj27 t354).bind fun bt357 => (if (t336 == bt337.2.2) = true then (if t334 = bt337.1 then (if t335 = bt337.2.1 then (if (bt341.2.2 == bt344.2.2) = true then (if bt341.1 = bt344.1 then (if bt341.2.1 = bt344.2.1 then (if (bt348.2.2 == bt351.2.2) = true then (if bt348.1 = bt351.1 then (if bt348.2.1 = bt351.2.1 then (if bt341.2.2 = true then (if bt341.1 ≤ bt341.2.1 then (if (bt355.2 == bt357.2) = true then (some (bt355.1 == bt357.1)) else (some false)) else (some false)) else (if (bt355.2 == bt357.2) = true then (some (bt355.1 == bt357.1)) else (some false))) else (some false)) else (some false)) else (some false)) else (some false)) else (some false)) else (some false)) else (some false)) else (some false)) else (some false)))))))))))) = some r := H
           have A49 := Aside0.mk A490
           clear A490
           replace H := Option.bind_eq_some_iff.mp H
           obtain ⟨⟨t337, t338, t339⟩, A500, H⟩ := H
           replace H : ((spec_DrawReadPair.f l1).bind fun t340 => ((impl_ReadPair.f kj27 t340).bind fun bt341 => ((spec_ReadPair.f kj27 t340).bind fun bt344 => ((spec_DrawReadEnd.f l1).bind fun t347 => ((impl_ReadEnd.f kj27 t347).bind fun bt348 => ((spec_ReadEnd.f kj27 t347).bind fun bt351 => ((spec_DrawReadNumber.f l1).bind fun t354 => ((impl_ReadNumber.f t354).bind fun bt355 => ((spec_ReadNumber.f kj27 t354).bind fun bt357 => (if (t336 == t339) = true then (if t334 = t337 then (if t335 = t338 then (if (bt341.2.2 == bt344.2.2) = true then (if bt341.1 = bt344.1 then (if bt341.2.1 = bt344.2.1 then (if (bt348.2.2 == bt351.2.2) = true then (if bt348.1 = bt351.1 then (if bt348.2.1 = bt351.2.1 then (if bt341.2.2 = true then (if bt341.1 ≤ bt341.2.1 then (if (bt355.2 == bt357.2) = true then (some (bt355.1 == bt357.1)) else (some false)) else (some false)) else (if (bt355.2 == bt357.2) = true then (some (bt355.1 == bt357.1)) else (some false))) else (some false)) else (some false)) else (some false)) else (some false)) else (some false)) else (some false)) else (some false)) else (some false)) else (some false))))))))))) = some r := H
           have A50 := Aside0.mk A500
           clear A500
           replace H := Option.bind_eq_some_iff.mp H
           obtain ⟨t340, A510, H⟩ := H
           replace H : ((impl_ReadPair.f kj27 t340).bind fun bt341 => ((spec_ReadPair.f kj27 t340).bind fun bt344 => ((spec_DrawReadEnd.f l1).bind fun t347 => ((impl_ReadEnd.f kj27 t347).bind fun bt348 => ((spec_ReadEnd.f kj27 t347).bind fun bt351 => ((spec_DrawReadNumber.f l1).bind fun t354 => ((impl_ReadNumber.f t354).bind fun bt355 => ((spec_ReadNumber.f kj27 t354).bind fun bt357 => (if (t336 == t339) = true then (if t334 = t337 then (if t335 = t338 then (if (bt341.2.2 == bt344.2.2) = true then (if bt341.1 = bt344.1 then (if bt341.2.1 = bt344.2.1 then (if (bt348.2.2 == bt351.2.2) = true then (if bt348.1 = bt351.1 then (if bt348.2.1 = bt351.2.1 then (if bt341.2.2 = true then (if bt341.1 ≤ bt341.2.1 then (if (bt355.2 == bt357.2) = true then (some (bt355.1 == bt357.1)) else (some false)) else (some false)) else (if (bt355.2 == bt357.2) = true then (some (bt355.1 == bt357.1)) else (some false))) else (some false)) else (some false)) else (some false)) else (some false)) else (some false)) else (some false)) else (some false)) else (some false)) else (some false)))))))))) = some r := H
           have A51 := Aside0.mk A510
           clear A510
           replace H := Option.bind_eq_some_iff.mp H
           obtain ⟨⟨t341, t342, t343⟩, A520, H⟩ := H
           replace H : ((spec_ReadPair.f kj27 t340).bind fun bt344 => ((spec_DrawReadEnd.f l1).bind fun t347 => ((impl_ReadEnd.f kj27 t347).bind fun bt348 => ((spec_ReadEnd.f kj27 t347).bind fun bt351 => ((spec_DrawReadNumber.f l1).bind fun t354 => ((impl_ReadNumber.f t354).bind fun bt355 => ((spec_ReadNumber.f kj27 t354).bind fun bt357 => (if (t336 == t339) = true then (if t334 = t337 then (if t335 = t338 then (if (t343 == bt344.2.2) = true then (if t341 = bt344.1 then (if t342 = bt344.2.1 then (if (bt348.2.2 == bt351.2.2) = true then (if bt348.1 = bt351.1 then (if bt348.2.1 = bt351.2.1 then (if t343 = true then (if t341 ≤ t342 then (if (bt355.2 == bt357.2) = true then (some (bt355.1 == bt357.1)) else (some false)) else (some false)) else (if (bt355.2 == bt357.2) = true then (some (bt355.1 == bt357.1)) else (some false))) else (some false)) else (some false)) else (some false)) else (some false)) else (some false)) else (some false)) else (some false)) else (some false)) else (some false))))))))) = some r := H
           have A52 := Aside0.mk A520
           clear A520
           replace H := Option.bind_eq_some_iff.mp H
           obtain ⟨⟨t344, t345, t346⟩, A530, H⟩ := H
           replace H : ((spec_DrawReadEnd.f l1).bind fun t347 => ((impl_ReadEnd.f kj27 t347).bind fun bt348 => ((spec_ReadEnd.f kj27 t347).bind fun bt351 => ((spec_DrawReadNumber.f l1).bind fun t354 => ((impl_ReadNumber.f t354).bind fun bt355 => ((spec_ReadNumber.f kj27 t354).bind fun bt357 => (if (t336 == t339) = true then (if t334 = t337 then (if t335 = t338 then (if (t343 == t346) = true then (if t341 = t344 then (if t342 = t345 then (if (bt348.2.2 == bt351.2.2) = true then (if bt348.1 = bt351.1 then (if bt348.2.1 = bt351.2.1 then (if t343 = true then (if t341 ≤ t342 then (if (bt355.2 == bt357.2) = true then (some (bt355.1 == bt357.1)) else (some false)) else (some false)) else (if (bt355.2 == bt357.2) = true then (some (bt355.1 == bt357.1)) else (some false))) else (some false)) else (some false)) else (some false)) else (some false)) else (some false)) else (some false)) else (some false)) else (some false)) else (some false)))))))) = some r := H
           have A53 := Aside0.mk A530
           clear A530
           replace H := Option.bind_eq_some_iff.mp H
           obtain ⟨t347, A540, H⟩ := H
           replace H : ((impl_ReadEnd.f kj27 t347).bind fun bt348 => ((spec_ReadEnd.f kj27 t347).bind fun bt351 => ((spec_DrawReadNumber.f l1).bind fun t354 => ((impl_ReadNumber.f t354).bind fun bt355 => ((spec_ReadNumber.f kj27 t354).bind fun bt357 => (if (t336 == t339) = true then (if t334 = t337 then (if t335 = t338 then (if (t343 == t346) = true then (if t341 = t344 then (if t342 = t345 then (if (bt348.2.2 == bt351.2.2) = true then (if bt348.1 = bt351.1 then (if bt348.2.1 = bt351.2.1 then (if t343 = true then (if t341 ≤ t342 then (if (bt355.2 == bt357.2) = true then (some (bt355.1 == bt357.1)) else (some false)) else (some false)) else (if (bt355.2 == bt357.2) = true then (some (bt355.1 == bt357.1)) else (some false))) else (some false)) else (some false)) else (some false)) else (some false)) else (some false)) else (some false)) else (some false)) else (some false)) else (some false))))))) = some r := H
           have A54 := Aside0.mk A540
           clear A540
           replace H := Option.bind_eq_some_iff.mp H
           obtain ⟨⟨t348, t349, t350⟩, A550, H⟩ := H
           replace H : ((spec_ReadEnd.f kj27 t347).bind fun bt351 => ((spec_DrawReadNumber.f l1).bind fun t354 => ((impl_ReadNumber.f t354).bind fun bt355 => ((spec_ReadNumber.f kj27 t354).bind fun bt357 => (if (t336 == t339) = true then (if t334 = t337 then (if t335 = t338 then (if (t343 == t346) = true then (if t341 = t344 then (if t342 = t345 then (if (t350 == bt351.2.2) = true then (if t348 = bt351.1 then (if t349 = bt351.2.1 then (if t343 = true then (if t341 ≤ t342 then (if (bt355.2 == bt357.2) = true then (some (bt355.1 == bt357.1)) else (some false)) else (some false)) else (if (bt355.2 == bt357.2) = true then (some (bt355.1 == bt357.1)) else (some false))) else (some false)) else (some false)) else (some false)) else (some false)) else (some false)) else (some false)) else (some false)) else (some false)) else (some false)))))) = some r := H
           have A55 := Aside0.mk A550
           clear A550
           replace H := Option.bind_eq_some_iff.mp H
           obtain ⟨⟨t351, t352, t353⟩, A560, H⟩ := H
           replace H : ((spec_DrawReadNumber.f l1).bind fun t354 => ((impl_ReadNumber.f t354).bind fun bt355 => ((spec_ReadNumber.f kj27 t354).bind fun bt357 => (if (t336 == t339) = true then (if t334 = t337 then (if t335 = t338 then (if (t343 == t346) = true then (if t341 = t344 then (if t342 = t345 then (if (t350 == t353) = true then (if t348 = t351 then (if t349 = t352 then (if t343 = true then (if t341 ≤ t342 then (if (bt355.2 == bt357.2) = true then (some (bt355.1 == bt357.1)) else (some false)) else (some false)) else (if (bt355.2 == bt357.2) = true then (some (bt355.1 == bt357.1)) else (some false))) else (some false)) else (some false)) else (some false)) else (some false)) else (some false)) else (some false)) else (some false)) else (some false)) else (some false))))) = some r := H
           have A56 := Aside0.mk A560
           clear A560
           replace H := Option.bind_eq_some_iff.mp H
           obtain ⟨t354, A570, H⟩ := H
           replace H : ((impl_ReadNumber.f t354).bind fun bt355 => ((spec_ReadNumber.f kj27 t354).bind fun bt357 => (if (t336 == t339) = true then (if t334 = t337 then (if t335 = t338 then (if (t343 == t346) = true then (if t341 = t344 then (if t342 = t345 then (if (t350 == t353) = true then (if t348 = t351 then (if t349 = t352 then (if t343 = true then (if t341 ≤ t342 then (if (bt355.2 == bt357.2) = true then (some (bt355.1 == bt357.1)) else (some false)) else (some false)) else (if (bt355.2 == bt357.2) = true then (some (bt355.1 == bt357.1)) else (some false))) else (some false)) else (some false)) else (some false)) else (some false)) else (some false)) else (some false)) else (some false)) else (some false)) else (some false)))) = some r := H
           have A57 := Aside0.mk A570
           clear A570
           replace H := Option.bind_eq_some_iff.mp H
           obtain ⟨⟨t355, t356⟩, A580, H⟩ := H
           replace H : ((spec_ReadNumber.f kj27 t354).bind fun bt357 => (if (t336 == t339) = true then (if t334 = t337 then (if t335 = t338 then (if (t343 == t346) = true then (if t341 = t344 then (if t342 = t345 then (if (t350 == t353) = true then (if t348 = t351 then (if t349 = t352 then (if t343 = true then (if t341 ≤ t342 then (if (t356 == bt357.2) = true then (some (t355 == bt357.1)) else (some false)) else (some false)) else (if (t356 == bt357.2) = true then (some (t355 == bt357.1)) else (some false))) else (some false)) else (some false)) else (some false)) else (some false)) else (some false)) else (some false)) else (some false)) else (some false)) else (some false))) = some r := H
           have A58 := Aside0.mk A580
           clear A580
           replace H := Option.bind_eq_some_iff.mp H
           obtain ⟨⟨t357, t358⟩, A590, H⟩ := H
           replace H : (if (t336 == t339) = true then (if t334 = t337 then (if t335 = t338 then (if (t343 == t346) = true then (if t341 = t344 then (if t342 = t345 then (if (t350 == t353) = true then (if t348 = t351 then (if t349 = t352 then (if t343 = true then (if t341 ≤ t342 then (if (t356 == t358) = true then (some (t355 == t357)) else (some false)) else (some false)) else (if (t356 == t358) = true then (some (t355 == t357)) else (some false))) else (some false)) else (some false)) else (some false)) else (some false)) else (some false)) else (some false)) else (some false)) else (some false)) else (some false)) = some r := H
           have A59 := Aside0.mk A590
           clear A590
           by_cases c60 : (t336 == t339) = true
           ·as_aux_lemma =>
              rw [if_pos c60] at H
              have c60b0 : (t336 == t339) = true := c60
              (try (have c60b1 : decide (t336 = t339) = true := by simpa using c60))
              (try (have c60b2 : (t336 == t339) = true := by simpa using c60))
              clear c60
              by_cases c61 : t334 = t337
              ·as_aux_lemma =>
                 rw [if_pos c61] at H
                 have c61b0 : (t334 == t337) = true := beq_iff_eq.mpr c61
                 have c61b1 : (t334 != t337) = false := bne_eq_false_iff_eq.mpr c61
                 clear c61
                 by_cases c62 : t335 = t338
                 ·as_aux_lemma =>
                    rw [if_pos c62] at H
                    have c62b0 : (t335 == t338) = true := beq_iff_eq.mpr c62
                    have c62b1 : (t335 != t338) = false := bne_eq_false_iff_eq.mpr c62
                    clear c62
                    by_cases c63 : (t343 == t346) = true
                    ·as_aux_lemma =>
                       rw [if_pos c63] at H
                       have c63b0 : (t343 == t346) = true := c63
                       (try (have c63b1 : decide (t343 = t346) = true := by simpa using c63))
                       (try (have c63b2 : (t343 == t346) = true := by simpa using c63))
                       clear c63
                       by_cases c64 : t341 = t344
                       ·as_aux_lemma =>
                          rw [if_pos c64] at H
                          have c64b0 : (t341 == t344) = true := beq_iff_eq.mpr c64
                          have c64b1 : (t341 != t344) = false := bne_eq_false_iff_eq.mpr c64
                          clear c64
                          by_cases c65 : t342 = t345
                          ·as_aux_lemma =>
                             rw [if_pos c65] at H
                             have c65b0 : (t342 == t345) = true := beq_iff_eq.mpr c65
                             have c65b1 : (t342 != t345) = false := bne_eq_false_iff_eq.mpr c65
                             clear c65
                             by_cases c66 : (t350 == t353) = true
                             ·as_aux_lemma =>
                                rw [if_pos c66] at H
                                have c66b0 : (t350 == t353) = true := c66
                                (try (have c66b1 : decide (t350 = t353) = true := by simpa using c66))
                                (try (have c66b2 : (t350 == t353) = true := by simpa using c66))
                                clear c66
                                by_cases c67 : t348 = t351
                                ·as_aux_lemma =>
                                   rw [if_pos c67] at H
                                   have c67b0 : (t348 == t351) = true := beq_iff_eq.mpr c67
                                   have c67b1 : (t348 != t351) = false := bne_eq_false_iff_eq.mpr c67
                                   clear c67
                                   by_cases c68 : t349 = t352
                                   ·as_aux_lemma =>
                                      rw [if_pos c68] at H
                                      have c68b0 : (t349 == t352) = true := beq_iff_eq.mpr c68
                                      have c68b1 : (t349 != t352) = false := bne_eq_false_iff_eq.mpr c68
                                      clear c68
                                      by_cases c69 : t343 = true
                                      ·as_aux_lemma =>
                                         subst c69
                                         have H1 : (if t341 ≤ t342 then (if (t356 == t358) = true then (some (t355 == t357)) else (some false)) else (some false)) = some r := by rw [if_pos rfl] at H; exact H
                                         clear H
                                         have H := H1
                                         clear H1
                                         by_cases c70 : t341 ≤ t342
                                         ·as_aux_lemma =>
                                            rw [if_pos c70] at H
                                            have c70b0 : decide (t341 ≤ t342) = true := decide_eq_true c70
                                            clear c70
                                            by_cases c71 : (t356 == t358) = true
                                            ·as_aux_lemma =>
                                               rw [if_pos c71] at H
                                               have c71b0 : (t356 == t358) = true := c71
                                               (try (have c71b1 : decide (t356 = t358) = true := by simpa using c71))
                                               (try (have c71b2 : (t356 == t358) = true := by simpa using c71))
                                               clear c71
                                               first
                                               | exact absurd (show false = true from (Option.some.inj H).trans HR_.out) Bool.false_ne_true
                                               | obtain rfl := Option.some.inj H
                                                 go_wp2_with (first | ((with_reducible refine gateC (f := 15) rfl ?_); refine goesL_ (some 184) rfl rfl Tryd.func15 (by kernel_rfl) rfl #[.slice A1 l1.length c1] rfl zm ?_; (with_reducible refine (spec_DrawReadCount.calls _ _ l1 t333 _ ?side1 ?side2 A48.out).mono ?_); (case side1 => exact zq (Kd.C_below HR1.out HB.out)); (case side2 => exact HC1.out); rintro e w72 ⟨rfl, hb⟩; refine ⟨_, rfl, ?_⟩; have n0_ := Aside0.mk (below_step zb hb); clear HB; have HB := n0_; clear n0_; (try clear hb); (try clear hb2); (try clear hk); (try clear hi)) | ((with_reducible refine gateC (f := 13) rfl ?_); refine goesL_ (some 187) rfl rfl Tryd.func13 (by kernel_rfl) rfl #[.string t333] rfl zm ?_; (with_reducible refine (impl_ReadCount.calls kj27 t333 t334 t335 t336 _ ?sideT A49.out).mono ?_); (case sideT => exact Door.below HT.out zb); rintro e w73 ⟨rfl, hb⟩; refine ⟨_, rfl, ?_⟩; have n0_ := Aside0.mk (below_step zb hb); clear HB; have HB := n0_; clear n0_; (try clear hb); (try clear hb2); (try clear hk); (try clear hi)) | ((with_reducible refine gateC (f := 16) rfl ?_); refine goesL_ (some 193) rfl rfl Tryd.func16 (by kernel_rfl) rfl #[.string t333] rfl zm ?_; (with_reducible refine (spec_ReadCount.calls kj27 t333 t337 t338 t339 _ A50.out).mono ?_); rintro e w74 ⟨rfl, hb⟩; refine ⟨_, rfl, ?_⟩; have n0_ := Aside0.mk (below_step zb hb); clear HB; have HB := n0_; clear n0_; (try clear hb); (try clear hb2); (try clear hk); (try clear hi)) | ((with_reducible refine gateC (f := 17) rfl ?_); refine goesL_ (some 198) rfl rfl Tryd.func17 (by kernel_rfl) rfl #[.slice A1 l1.length c1] rfl zm ?_; (with_reducible refine (spec_DrawReadPair.calls _ _ l1 t340 _ ?side1 ?side2 A51.out).mono ?_); (case side1 => exact zq (Kd.C_below HR1.out HB.out)); (case side2 => exact HC1.out); rintro e w75 ⟨rfl, hb⟩; refine ⟨_, rfl, ?_⟩; have n0_ := Aside0.mk (below_step zb hb); clear HB; have HB := n0_; clear n0_; (try clear hb); (try clear hb2); (try clear hk); (try clear hi)) | ((with_reducible refine gateC (f := 14) rfl ?_); refine goesL_ (some 201) rfl rfl Tryd.func14 (by kernel_rfl) rfl #[.string t340] rfl zm ?_; (with_reducible refine (impl_ReadPair.calls kj27 t340 t341 t342 true _ ?sideT A52.out).mono ?_); (case sideT => exact Door.below HT.out zb); rintro e w76 ⟨rfl, hb⟩; refine ⟨_, rfl, ?_⟩; have n0_ := Aside0.mk (below_step zb hb); clear HB; have HB := n0_; clear n0_; (try clear hb); (try clear hb2); (try clear hk); (try clear hi)) | ((with_reducible refine gateC (f := 18) rfl ?_); refine goesL_ (some 207) rfl rfl Tryd.func18 (by kernel_rfl) rfl #[.string t340] rfl zm ?_; (with_reducible refine (spec_ReadPair.calls kj27 t340 t344 t345 t346 _ A53.out).mono ?_); rintro e w77 ⟨rfl, hb⟩; refine ⟨_, rfl, ?_⟩; have n0_ := Aside0.mk (below_step zb hb); clear HB; have HB := n0_; clear n0_; (try clear hb); (try clear hb2); (try clear hk); (try clear hi)) | ((with_reducible refine gateC (f := 19) rfl ?_); refine goesL_ (some 212) rfl rfl Tryd.func19 (by kernel_rfl) rfl #[.slice A1 l1.length c1] rfl zm ?_; (with_reducible refine (spec_DrawReadEnd.calls _ _ l1 t347 _ ?side1 ?side2 A54.out).mono ?_); (case side1 => exact zq (Kd.C_below HR1.out HB.out)); (case side2 => exact HC1.out); rintro e w78 ⟨rfl, hb⟩; refine ⟨_, rfl, ?_⟩; have n0_ := Aside0.mk (below_step zb hb); clear HB; have HB := n0_; clear n0_; (try clear hb); (try clear hb2); (try clear hk); (try clear hi)) | ((with_reducible refine gateC (f := 20) rfl ?_); refine goesL_ (some 215) rfl rfl Tryd.func20 (by kernel_rfl) rfl #[.string t347] rfl zm ?_; (with_reducible refine (impl_ReadEnd.calls kj27 t347 t348 t349 t350 _ ?sideT A55.out).mono ?_); (case sideT => exact Door.below HT.out zb); rintro e w79 ⟨rfl, hb⟩; refine ⟨_, rfl, ?_⟩; have n0_ := Aside0.mk (below_step zb hb); clear HB; have HB := n0_; clear n0_; (try clear hb); (try clear hb2); (try clear hk); (try clear hi)) | ((with_reducible refine gateC (f := 21) rfl ?_); refine goesL_ (some 221) rfl rfl Tryd.func21 (by kernel_rfl) rfl #[.string t347] rfl zm ?_; (with_reducible refine (spec_ReadEnd.calls kj27 t347 t351 t352 t353 _ A56.out).mono ?_); rintro e w80 ⟨rfl, hb⟩; refine ⟨_, rfl, ?_⟩; have n0_ := Aside0.mk (below_step zb hb); clear HB; have HB := n0_; clear n0_; (try clear hb); (try clear hb2); (try clear hk); (try clear hi)) | ((with_reducible refine gateC (f := 22) rfl ?_); refine goesL_ (some 226) rfl rfl Tryd.func22 (by kernel_rfl) rfl #[.slice A1 l1.length c1] rfl zm ?_; (with_reducible refine (spec_DrawReadNumber.calls _ _ l1 t354 _ ?side1 ?side2 A57.out).mono ?_); (case side1 => exact zq (Kd.C_below HR1.out HB.out)); (case side2 => exact HC1.out); rintro e w81 ⟨rfl, hb⟩; refine ⟨_, rfl, ?_⟩; have n0_ := Aside0.mk (below_step zb hb); clear HB; have HB := n0_; clear n0_; (try clear hb); (try clear hb2); (try clear hk); (try clear hi)) | ((with_reducible refine gateC (f := 23) rfl ?_); refine goesL_ (some 229) rfl rfl Tryd.func23 (by kernel_rfl) rfl #[.string t354] rfl zm ?_; (with_reducible refine (impl_ReadNumber.calls t354 t355 t356 _ ?sideT A58.out).mono ?_); (case sideT => exact Door.below HT.out zb); rintro e w82 ⟨rfl, hb⟩; refine ⟨_, rfl, ?_⟩; have n0_ := Aside0.mk (below_step zb hb); clear HB; have HB := n0_; clear n0_; (try clear hb); (try clear hb2); (try clear hk); (try clear hi)) | ((with_reducible refine gateC (f := 24) rfl ?_); refine goesL_ (some 234) rfl rfl Tryd.func24 (by kernel_rfl) rfl #[.string t354] rfl zm ?_; (with_reducible refine (spec_ReadNumber.calls kj27 t354 t357 t358 _ A59.out).mono ?_); rintro e w' ⟨rfl, ⟨nd, rfl⟩⟩; refine ⟨_, rfl, ?_⟩))
                                                 go_ret
                                                 exact ⟨by first | rfl | (simp [errW_none, errW_some] <;> rfl) | (simp [*, errW_none, errW_some] <;> rfl), by repeat (first | (with_reducible first | exact HB.out | apply below_alloc | apply pw_below_drewN | apply below_drew1) | exact HB.out)⟩
                                            ·as_aux_lemma =>
                                               rw [if_neg c71] at H
                                               have c71b0 : (t356 == t358) = false := by simpa using c71
                                               (try (have c71b1 : decide (t356 = t358) = false := by simpa using c71))
                                               (try (have c71b2 : (t356 == t358) = false := by simpa using c71))
                                               (try (have c71b3 : ¬ (t356 = t358) := by simpa using c71))
                                               clear c71
                                               first
                                               | exact absurd (show false = true from (Option.some.inj H).trans HR_.out) Bool.false_ne_true
                                               | obtain rfl := Option.some.inj H
                                                 go_wp2_with (first | ((with_reducible refine gateC (f := 15) rfl ?_); refine goesL_ (some 184) rfl rfl Tryd.func15 (by kernel_rfl) rfl #[.slice A1 l1.length c1] rfl zm ?_; (with_reducible refine (spec_DrawReadCount.calls _ _ l1 t333 _ ?side1 ?side2 A48.out).mono ?_); (case side1 => exact zq (Kd.C_below HR1.out HB.out)); (case side2 => exact HC1.out); rintro e w83 ⟨rfl, hb⟩; refine ⟨_, rfl, ?_⟩; have n0_ := Aside0.mk (below_step zb hb); clear HB; have HB := n0_; clear n0_; (try clear hb); (try clear hb2); (try clear hk); (try clear hi)) | ((with_reducible refine gateC (f := 13) rfl ?_); refine goesL_ (some 187) rfl rfl Tryd.func13 (by kernel_rfl) rfl #[.string t333] rfl zm ?_; (with_reducible refine (impl_ReadCount.calls kj27 t333 t334 t335 t336 _ ?sideT A49.out).mono ?_); (case sideT => exact Door.below HT.out zb); rintro e w84 ⟨rfl, hb⟩; refine ⟨_, rfl, ?_⟩; have n0_ := Aside0.mk (below_step zb hb); clear HB; have HB := n0_; clear n0_; (try clear hb); (try clear hb2); (try clear hk); (try clear hi)) | ((with_reducible refine gateC (f := 16) rfl ?_); refine goesL_ (some 193) rfl rfl Tryd.func16 (by kernel_rfl) rfl #[.string t333] rfl zm ?_; (with_reducible refine (spec_ReadCount.calls kj27 t333 t337 t338 t339 _ A50.out).mono ?_); rintro e w85 ⟨rfl, hb⟩; refine ⟨_, rfl, ?_⟩; have n0_ := Aside0.mk (below_step zb hb); clear HB; have HB := n0_; clear n0_; (try clear hb); (try clear hb2); (try clear hk); (try clear hi)) | ((with_reducible refine gateC (f := 17) rfl ?_); refine goesL_ (some 198) rfl rfl Tryd.func17 (by kernel_rfl) rfl #[.slice A1 l1.length c1] rfl zm ?_; (with_reducible refine (spec_DrawReadPair.calls _ _ l1 t340 _ ?side1 ?side2 A51.out).mono ?_); (case side1 => exact zq (Kd.C_below HR1.out HB.out)); (case side2 => exact HC1.out); rintro e w86 ⟨rfl, hb⟩; refine ⟨_, rfl, ?_⟩; have n0_ := Aside0.mk (below_step zb hb); clear HB; have HB := n0_; clear n0_; (try clear hb); (try clear hb2); (try clear hk); (try clear hi)) | ((with_reducible refine gateC (f := 14) rfl ?_); refine goesL_ (some 201) rfl rfl Tryd.func14 (by kernel_rfl) rfl #[.string t340] rfl zm ?_; (with_reducible refine (impl_ReadPair.calls kj27 t340 t341 t342 true _ ?sideT A52.out).mono ?_); (case sideT => exact Door.below HT.out zb); rintro e w87 ⟨rfl, hb⟩; refine ⟨_, rfl, ?_⟩; have n0_ := Aside0.mk (below_step zb hb); clear HB; have HB := n0_; clear n0_; (try clear hb); (try clear hb2); (try clear hk); (try clear hi)) | ((with_reducible refine gateC (f := 18) rfl ?_); refine goesL_ (some 207) rfl rfl Tryd.func18 (by kernel_rfl) rfl #[.string t340] rfl zm ?_; (with_reducible refine (spec_ReadPair.calls kj27 t340 t344 t345 t346 _ A53.out).mono ?_); rintro e w88 ⟨rfl, hb⟩; refine ⟨_, rfl, ?_⟩; have n0_ := Aside0.mk (below_step zb hb); clear HB; have HB := n0_; clear n0_; (try clear hb); (try clear hb2); (try clear hk); (try clear hi)) | ((with_reducible refine gateC (f := 19) rfl ?_); refine goesL_ (some 212) rfl rfl Tryd.func19 (by kernel_rfl) rfl #[.slice A1 l1.length c1] rfl zm ?_; (with_reducible refine (spec_DrawReadEnd.calls _ _ l1 t347 _ ?side1 ?side2 A54.out).mono ?_); (case side1 => exact zq (Kd.C_below HR1.out HB.out)); (case side2 => exact HC1.out); rintro e w89 ⟨rfl, hb⟩; refine ⟨_, rfl, ?_⟩; have n0_ := Aside0.mk (below_step zb hb); clear HB; have HB := n0_; clear n0_; (try clear hb); (try clear hb2); (try clear hk); (try clear hi)) | ((with_reducible refine gateC (f := 20) rfl ?_); refine goesL_ (some 215) rfl rfl Tryd.func20 (by kernel_rfl) rfl #[.string t347] rfl zm ?_; (with_reducible refine (impl_ReadEnd.calls kj27 t347 t348 t349 t350 _ ?sideT A55.out).mono ?_); (case sideT => exact Door.below HT.out zb); rintro e w90 ⟨rfl, hb⟩; refine ⟨_, rfl, ?_⟩; have n0_ := Aside0.mk (below_step zb hb); clear HB; have HB := n0_; clear n0_; (try clear hb); (try clear hb2); (try clear hk); (try clear hi)) | ((with_reducible refine gateC (f := 21) rfl ?_); refine goesL_ (some 221) rfl rfl Tryd.func21 (by kernel_rfl) rfl #[.string t347] rfl zm ?_; (with_reducible refine (spec_ReadEnd.calls kj27 t347 t351 t352 t353 _ A56.out).mono ?_); rintro e w91 ⟨rfl, hb⟩; refine ⟨_, rfl, ?_⟩; have n0_ := Aside0.mk (below_step zb hb); clear HB; have HB := n0_; clear n0_; (try clear hb); (try clear hb2); (try clear hk); (try clear hi)) | ((with_reducible refine gateC (f := 22) rfl ?_); refine goesL_ (some 226) rfl rfl Tryd.func22 (by kernel_rfl) rfl #[.slice A1 l1.length c1] rfl zm ?_; (with_reducible refine (spec_DrawReadNumber.calls _ _ l1 t354 _ ?side1 ?side2 A57.out).mono ?_); (case side1 => exact zq (Kd.C_below HR1.out HB.out)); (case side2 => exact HC1.out); rintro e w92 ⟨rfl, hb⟩; refine ⟨_, rfl, ?_⟩; have n0_ := Aside0.mk (below_step zb hb); clear HB; have HB := n0_; clear n0_; (try clear hb); (try clear hb2); (try clear hk); (try clear hi)) | ((with_reducible refine gateC (f := 23) rfl ?_); refine goesL_ (some 229) rfl rfl Tryd.func23 (by kernel_rfl) rfl #[.string t354] rfl zm ?_; (with_reducible refine (impl_ReadNumber.calls t354 t355 t356 _ ?sideT A58.out).mono ?_); (case sideT => exact Door.below HT.out zb); rintro e w93 ⟨rfl, hb⟩; refine ⟨_, rfl, ?_⟩; have n0_ := Aside0.mk (below_step zb hb); clear HB; have HB := n0_; clear n0_; (try clear hb); (try clear hb2); (try clear hk); (try clear hi)) | ((with_reducible refine gateC (f := 24) rfl ?_); refine goesL_ (some 234) rfl rfl Tryd.func24 (by kernel_rfl) rfl #[.string t354] rfl zm ?_; (with_reducible refine (spec_ReadNumber.calls kj27 t354 t357 t358 _ A59.out).mono ?_); rintro e w' ⟨rfl, ⟨nd, rfl⟩⟩; refine ⟨_, rfl, ?_⟩))
                                                 go_ret
                                                 exact ⟨by first | rfl | (simp [errW_none, errW_some] <;> rfl) | (simp [*, errW_none, errW_some] <;> rfl), by repeat (first | (with_reducible first | exact HB.out | apply below_alloc | apply pw_below_drewN | apply below_drew1) | exact HB.out)⟩
                                         ·as_aux_lemma =>
                                            rw [if_neg c70] at H
                                            have c70b0 : decide (t341 ≤ t342) = false := decide_eq_false c70
                                            clear c70
                                            first
                                            | exact absurd (show false = true from (Option.some.inj H).trans HR_.out) Bool.false_ne_true
                                            | obtain rfl := Option.some.inj H
                                              go_wp2_with (first | ((with_reducible refine gateC (f := 15) rfl ?_); refine goesL_ (some 184) rfl rfl Tryd.func15 (by kernel_rfl) rfl #[.slice A1 l1.length c1] rfl zm ?_; (with_reducible refine (spec_DrawReadCount.calls _ _ l1 t333 _ ?side1 ?side2 A48.out).mono ?_); (case side1 => exact zq (Kd.C_below HR1.out HB.out)); (case side2 => exact HC1.out); rintro e w94 ⟨rfl, hb⟩; refine ⟨_, rfl, ?_⟩; have n0_ := Aside0.mk (below_step zb hb); clear HB; have HB := n0_; clear n0_; (try clear hb); (try clear hb2); (try clear hk); (try clear hi)) | ((with_reducible refine gateC (f := 13) rfl ?_); refine goesL_ (some 187) rfl rfl Tryd.func13 (by kernel_rfl) rfl #[.string t333] rfl zm ?_; (with_reducible refine (impl_ReadCount.calls kj27 t333 t334 t335 t336 _ ?sideT A49.out).mono ?_); (case sideT => exact Door.below HT.out zb); rintro e w95 ⟨rfl, hb⟩; refine ⟨_, rfl, ?_⟩; have n0_ := Aside0.mk (below_step zb hb); clear HB; have HB := n0_; clear n0_; (try clear hb); (try clear hb2); (try clear hk); (try clear hi)) | ((with_reducible refine gateC (f := 16) rfl ?_); refine goesL_ (some 193) rfl rfl Tryd.func16 (by kernel_rfl) rfl #[.string t333] rfl zm ?_; (with_reducible refine (spec_ReadCount.calls kj27 t333 t337 t338 t339 _ A50.out).mono ?_); rintro e w96 ⟨rfl, hb⟩; refine ⟨_, rfl, ?_⟩; have n0_ := Aside0.mk (below_step zb hb); clear HB; have HB := n0_; clear n0_; (try clear hb); (try clear hb2); (try clear hk); (try clear hi)) | ((with_reducible refine gateC (f := 17) rfl ?_); refine goesL_ (some 198) rfl rfl Tryd.func17 (by kernel_rfl) rfl #[.slice A1 l1.length c1] rfl zm ?_; (with_reducible refine (spec_DrawReadPair.calls _ _ l1 t340 _ ?side1 ?side2 A51.out).mono ?_); (case side1 => exact zq (Kd.C_below HR1.out HB.out)); (case side2 => exact HC1.out); rintro e w97 ⟨rfl, hb⟩; refine ⟨_, rfl, ?_⟩; have n0_ := Aside0.mk (below_step zb hb); clear HB; have HB := n0_; clear n0_; (try clear hb); (try clear hb2); (try clear hk); (try clear hi)) | ((with_reducible refine gateC (f := 14) rfl ?_); refine goesL_ (some 201) rfl rfl Tryd.func14 (by kernel_rfl) rfl #[.string t340] rfl zm ?_; (with_reducible refine (impl_ReadPair.calls kj27 t340 t341 t342 true _ ?sideT A52.out).mono ?_); (case sideT => exact Door.below HT.out zb); rintro e w98 ⟨rfl, hb⟩; refine ⟨_, rfl, ?_⟩; have n0_ := Aside0.mk (below_step zb hb); clear HB; have HB := n0_; clear n0_; (try clear hb); (try clear hb2); (try clear hk); (try clear hi)) | ((with_reducible refine gateC (f := 18) rfl ?_); refine goesL_ (some 207) rfl rfl Tryd.func18 (by kernel_rfl) rfl #[.string t340] rfl zm ?_; (with_reducible refine (spec_ReadPair.calls kj27 t340 t344 t345 t346 _ A53.out).mono ?_); rintro e w99 ⟨rfl, hb⟩; refine ⟨_, rfl, ?_⟩; have n0_ := Aside0.mk (below_step zb hb); clear HB; have HB := n0_; clear n0_; (try clear hb); (try clear hb2); (try clear hk); (try clear hi)) | ((with_reducible refine gateC (f := 19) rfl ?_); refine goesL_ (some 212) rfl rfl Tryd.func19 (by kernel_rfl) rfl #[.slice A1 l1.length c1] rfl zm ?_; (with_reducible refine (spec_DrawReadEnd.calls _ _ l1 t347 _ ?side1 ?side2 A54.out).mono ?_); (case side1 => exact zq (Kd.C_below HR1.out HB.out)); (case side2 => exact HC1.out); rintro e w100 ⟨rfl, hb⟩; refine ⟨_, rfl, ?_⟩; have n0_ := Aside0.mk (below_step zb hb); clear HB; have HB := n0_; clear n0_; (try clear hb); (try clear hb2); (try clear hk); (try clear hi)) | ((with_reducible refine gateC (f := 20) rfl ?_); refine goesL_ (some 215) rfl rfl Tryd.func20 (by kernel_rfl) rfl #[.string t347] rfl zm ?_; (with_reducible refine (impl_ReadEnd.calls kj27 t347 t348 t349 t350 _ ?sideT A55.out).mono ?_); (case sideT => exact Door.below HT.out zb); rintro e w101 ⟨rfl, hb⟩; refine ⟨_, rfl, ?_⟩; have n0_ := Aside0.mk (below_step zb hb); clear HB; have HB := n0_; clear n0_; (try clear hb); (try clear hb2); (try clear hk); (try clear hi)) | ((with_reducible refine gateC (f := 21) rfl ?_); refine goesL_ (some 221) rfl rfl Tryd.func21 (by kernel_rfl) rfl #[.string t347] rfl zm ?_; (with_reducible refine (spec_ReadEnd.calls kj27 t347 t351 t352 t353 _ A56.out).mono ?_); rintro e w102 ⟨rfl, hb⟩; refine ⟨_, rfl, ?_⟩; have n0_ := Aside0.mk (below_step zb hb); clear HB; have HB := n0_; clear n0_; (try clear hb); (try clear hb2); (try clear hk); (try clear hi)) | ((with_reducible refine gateC (f := 22) rfl ?_); refine goesL_ (some 226) rfl rfl Tryd.func22 (by kernel_rfl) rfl #[.slice A1 l1.length c1] rfl zm ?_; (with_reducible refine (spec_DrawReadNumber.calls _ _ l1 t354 _ ?side1 ?side2 A57.out).mono ?_); (case side1 => exact zq (Kd.C_below HR1.out HB.out)); (case side2 => exact HC1.out); rintro e w103 ⟨rfl, hb⟩; refine ⟨_, rfl, ?_⟩; have n0_ := Aside0.mk (below_step zb hb); clear HB; have HB := n0_; clear n0_; (try clear hb); (try clear hb2); (try clear hk); (try clear hi)) | ((with_reducible refine gateC (f := 23) rfl ?_); refine goesL_ (some 229) rfl rfl Tryd.func23 (by kernel_rfl) rfl #[.string t354] rfl zm ?_; (with_reducible refine (impl_ReadNumber.calls t354 t355 t356 _ ?sideT A58.out).mono ?_); (case sideT => exact Door.below HT.out zb); rintro e w104 ⟨rfl, hb⟩; refine ⟨_, rfl, ?_⟩; have n0_ := Aside0.mk (below_step zb hb); clear HB; have HB := n0_; clear n0_; (try clear hb); (try clear hb2); (try clear hk); (try clear hi)) | ((with_reducible refine gateC (f := 24) rfl ?_); refine goesL_ (some 234) rfl rfl Tryd.func24 (by kernel_rfl) rfl #[.string t354] rfl zm ?_; (with_reducible refine (spec_ReadNumber.calls kj27 t354 t357 t358 _ A59.out).mono ?_); rintro e w' ⟨rfl, ⟨nd, rfl⟩⟩; refine ⟨_, rfl, ?_⟩))
                                              go_ret
                                              exact ⟨by first | rfl | (simp [errW_none, errW_some] <;> rfl) | (simp [*, errW_none, errW_some] <;> rfl), by repeat (first | (with_reducible first | exact HB.out | apply below_alloc | apply pw_below_drewN | apply below_drew1) | exact HB.out)⟩
                                      ·as_aux_lemma =>
                                         replace c69 := Bool.eq_false_iff.mpr c69
                                         subst c69
                                         have H1 : (if (t356 == t358) = true then (some (t355 == t357)) else (some false)) = some r := by rw [if_neg (show ¬ (false = true) by decide)] at H; exact H
                                         clear H
                                         have H := H1
                                         clear H1
                                         by_cases c105 : (t356 == t358) = true
                                         ·as_aux_lemma =>
                                            rw [if_pos c105] at H
                                            have c105b0 : (t356 == t358) = true := c105
                                            (try (have c105b1 : decide (t356 = t358) = true := by simpa using c105))
                                            (try (have c105b2 : (t356 == t358) = true := by simpa using c105))
                                            clear c105
                                            first
                                            | exact absurd (show false = true from (Option.some.inj H).trans HR_.out) Bool.false_ne_true
                                            | obtain rfl := Option.some.inj H
                                              go_wp2_with (first | ((with_reducible refine gateC (f := 15) rfl ?_); refine goesL_ (some 184) rfl rfl Tryd.func15 (by kernel_rfl) rfl #[.slice A1 l1.length c1] rfl zm ?_; (with_reducible refine (spec_DrawReadCount.calls _ _ l1 t333 _ ?side1 ?side2 A48.out).mono ?_); (case side1 => exact zq (Kd.C_below HR1.out HB.out)); (case side2 => exact HC1.out); rintro e w106 ⟨rfl, hb⟩; refine ⟨_, rfl, ?_⟩; have n0_ := Aside0.mk (below_step zb hb); clear HB; have HB := n0_; clear n0_; (try clear hb); (try clear hb2); (try clear hk); (try clear hi)) | ((with_reducible refine gateC (f := 13) rfl ?_); refine goesL_ (some 187) rfl rfl Tryd.func13 (by kernel_rfl) rfl #[.string t333] rfl zm ?_; (with_reducible refine (impl_ReadCount.calls kj27 t333 t334 t335 t336 _ ?sideT A49.out).mono ?_); (case sideT => exact Door.below HT.out zb); rintro e w107 ⟨rfl, hb⟩; refine ⟨_, rfl, ?_⟩; have n0_ := Aside0.mk (below_step zb hb); clear HB; have HB := n0_; clear n0_; (try clear hb); (try clear hb2); (try clear hk); (try clear hi)) | ((with_reducible refine gateC (f := 16) rfl ?_); refine goesL_ (some 193) rfl rfl Tryd.func16 (by kernel_rfl) rfl #[.string t333] rfl zm ?_; (with_reducible refine (spec_ReadCount.calls kj27 t333 t337 t338 t339 _ A50.out).mono ?_); rintro e w108 ⟨rfl, hb⟩; refine ⟨_, rfl, ?_⟩; have n0_ := Aside0.mk (below_step zb hb); clear HB; have HB := n0_; clear n0_; (try clear hb); (try clear hb2); (try clear hk); (try clear hi)) | ((with_reducible refine gateC (f := 17) rfl ?_); refine goesL_ (some 198) rfl rfl Tryd.func17 (by kernel_rfl) rfl #[.slice A1 l1.length c1] rfl zm ?_; (with_reducible refine (spec_DrawReadPair.calls _ _ l1 t340 _ ?side1 ?side2 A51.out).mono ?_); (case side1 => exact zq (Kd.C_below HR1.out HB.out)); (case side2 => exact HC1.out); rintro e w109 ⟨rfl, hb⟩; refine ⟨_, rfl, ?_⟩; have n0_ := Aside0.mk (below_step zb hb); clear HB; have HB := n0_; clear n0_; (try clear hb); (try clear hb2); (try clear hk); (try clear hi)) | ((with_reducible refine gateC (f := 14) rfl ?_); refine goesL_ (some 201) rfl rfl Tryd.func14 (by kernel_rfl) rfl #[.string t340] rfl zm ?_; (with_reducible refine (impl_ReadPair.calls kj27 t340 t341 t342 false _ ?sideT A52.out).mono ?_); (case sideT => exact Door.below HT.out zb); rintro e w110 ⟨rfl, hb⟩; refine ⟨_, rfl, ?_⟩; have n0_ := Aside0.mk (below_step zb hb); clear HB; have HB := n0_; clear n0_; (try clear hb); (try clear hb2); (try clear hk); (try clear hi)) | ((with_reducible refine gateC (f := 18) rfl ?_); refine goesL_ (some 207) rfl rfl Tryd.func18 (by kernel_rfl) rfl #[.string t340] rfl zm ?_; (with_reducible refine (spec_ReadPair.calls kj27 t340 t344 t345 t346 _ A53.out).mono ?_); rintro e w111 ⟨rfl, hb⟩; refine ⟨_, rfl, ?_⟩; have n0_ := Aside0.mk (below_step zb hb); clear HB; have HB := n0_; clear n0_; (try clear hb); (try clear hb2); (try clear hk); (try clear hi)) | ((with_reducible refine gateC (f := 19) rfl ?_); refine goesL_ (some 212) rfl rfl Tryd.func19 (by kernel_rfl) rfl #[.slice A1 l1.length c1] rfl zm ?_; (with_reducible refine (spec_DrawReadEnd.calls _ _ l1 t347 _ ?side1 ?side2 A54.out).mono ?_); (case side1 => exact zq (Kd.C_below HR1.out HB.out)); (case side2 => exact HC1.out); rintro e w112 ⟨rfl, hb⟩; refine ⟨_, rfl, ?_⟩; have n0_ := Aside0.mk (below_step zb hb); clear HB; have HB := n0_; clear n0_; (try clear hb); (try clear hb2); (try clear hk); (try clear hi)) | ((with_reducible refine gateC (f := 20) rfl ?_); refine goesL_ (some 215) rfl rfl Tryd.func20 (by kernel_rfl) rfl #[.string t347] rfl zm ?_; (with_reducible refine (impl_ReadEnd.calls kj27 t347 t348 t349 t350 _ ?sideT A55.out).mono ?_); (case sideT => exact Door.below HT.out zb); rintro e w113 ⟨rfl, hb⟩; refine ⟨_, rfl, ?_⟩; have n0_ := Aside0.mk (below_step zb hb); clear HB; have HB := n0_; clear n0_; (try clear hb); (try clear hb2); (try clear hk); (try clear hi)) | ((with_reducible refine gateC (f := 21) rfl ?_); refine goesL_ (some 221) rfl rfl Tryd.func21 (by kernel_rfl) rfl #[.string t347] rfl zm ?_; (with_reducible refine (spec_ReadEnd.calls kj27 t347 t351 t352 t353 _ A56.out).mono ?_); rintro e w114 ⟨rfl, hb⟩; refine ⟨_, rfl, ?_⟩; have n0_ := Aside0.mk (below_step zb hb); clear HB; have HB := n0_; clear n0_; (try clear hb); (try clear hb2); (try clear hk); (try clear hi)) | ((with_reducible refine gateC (f := 22) rfl ?_); refine goesL_ (some 226) rfl rfl Tryd.func22 (by kernel_rfl) rfl #[.slice A1 l1.length c1] rfl zm ?_; (with_reducible refine (spec_DrawReadNumber.calls _ _ l1 t354 _ ?side1 ?side2 A57.out).mono ?_); (case side1 => exact zq (Kd.C_below HR1.out HB.out)); (case side2 => exact HC1.out); rintro e w115 ⟨rfl, hb⟩; refine ⟨_, rfl, ?_⟩; have n0_ := Aside0.mk (below_step zb hb); clear HB; have HB := n0_; clear n0_; (try clear hb); (try clear hb2); (try clear hk); (try clear hi)) | ((with_reducible refine gateC (f := 23) rfl ?_); refine goesL_ (some 229) rfl rfl Tryd.func23 (by kernel_rfl) rfl #[.string t354] rfl zm ?_; (with_reducible refine (impl_ReadNumber.calls t354 t355 t356 _ ?sideT A58.out).mono ?_); (case sideT => exact Door.below HT.out zb); rintro e w116 ⟨rfl, hb⟩; refine ⟨_, rfl, ?_⟩; have n0_ := Aside0.mk (below_step zb hb); clear HB; have HB := n0_; clear n0_; (try clear hb); (try clear hb2); (try clear hk); (try clear hi)) | ((with_reducible refine gateC (f := 24) rfl ?_); refine goesL_ (some 234) rfl rfl Tryd.func24 (by kernel_rfl) rfl #[.string t354] rfl zm ?_; (with_reducible refine (spec_ReadNumber.calls kj27 t354 t357 t358 _ A59.out).mono ?_); rintro e w' ⟨rfl, ⟨nd, rfl⟩⟩; refine ⟨_, rfl, ?_⟩))
                                              go_ret
                                              exact ⟨by first | rfl | (simp [errW_none, errW_some] <;> rfl) | (simp [*, errW_none, errW_some] <;> rfl), by repeat (first | (with_reducible first | exact HB.out | apply below_alloc | apply pw_below_drewN | apply below_drew1) | exact HB.out)⟩
                                         ·as_aux_lemma =>
                                            rw [if_neg c105] at H
                                            have c105b0 : (t356 == t358) = false := by simpa using c105
                                            (try (have c105b1 : decide (t356 = t358) = false := by simpa using c105))
                                            (try (have c105b2 : (t356 == t358) = false := by simpa using c105))
                                            (try (have c105b3 : ¬ (t356 = t358) := by simpa using c105))
                                            clear c105
                                            first
                                            | exact absurd (show false = true from (Option.some.inj H).trans HR_.out) Bool.false_ne_true
                                            | obtain rfl := Option.some.inj H
                                              go_wp2_with (first | ((with_reducible refine gateC (f := 15) rfl ?_); refine goesL_ (some 184) rfl rfl Tryd.func15 (by kernel_rfl) rfl #[.slice A1 l1.length c1] rfl zm ?_; (with_reducible refine (spec_DrawReadCount.calls _ _ l1 t333 _ ?side1 ?side2 A48.out).mono ?_); (case side1 => exact zq (Kd.C_below HR1.out HB.out)); (case side2 => exact HC1.out); rintro e w117 ⟨rfl, hb⟩; refine ⟨_, rfl, ?_⟩; have n0_ := Aside0.mk (below_step zb hb); clear HB; have HB := n0_; clear n0_; (try clear hb); (try clear hb2); (try clear hk); (try clear hi)) | ((with_reducible refine gateC (f := 13) rfl ?_); refine goesL_ (some 187) rfl rfl Tryd.func13 (by kernel_rfl) rfl #[.string t333] rfl zm ?_; (with_reducible refine (impl_ReadCount.calls kj27 t333 t334 t335 t336 _ ?sideT A49.out).mono ?_); (case sideT => exact Door.below HT.out zb); rintro e w118 ⟨rfl, hb⟩; refine ⟨_, rfl, ?_⟩; have n0_ := Aside0.mk (below_step zb hb); clear HB; have HB := n0_; clear n0_; (try clear hb); (try clear hb2); (try clear hk); (try clear hi)) | ((with_reducible refine gateC (f := 16) rfl ?_); refine goesL_ (some 193) rfl rfl Tryd.func16 (by kernel_rfl) rfl #[.string t333] rfl zm ?_; (with_reducible refine (spec_ReadCount.calls kj27 t333 t337 t338 t339 _ A50.out).mono ?_); rintro e w119 ⟨rfl, hb⟩; refine ⟨_, rfl, ?_⟩; have n0_ := Aside0.mk (below_step zb hb); clear HB; have HB := n0_; clear n0_; (try clear hb); (try clear hb2); (try clear hk); (try clear hi)) | ((with_reducible refine gateC (f := 17) rfl ?_); refine goesL_ (some 198) rfl rfl Tryd.func17 (by kernel_rfl) rfl #[.slice A1 l1.length c1] rfl zm ?_; (with_reducible refine (spec_DrawReadPair.calls _ _ l1 t340 _ ?side1 ?side2 A51.out).mono ?_); (case side1 => exact zq (Kd.C_below HR1.out HB.out)); (case side2 => exact HC1.out); rintro e w120 ⟨rfl, hb⟩; refine ⟨_, rfl, ?_⟩; have n0_ := Aside0.mk (below_step zb hb); clear HB; have HB := n0_; clear n0_; (try clear hb); (try clear hb2); (try clear hk); (try clear hi)) | ((with_reducible refine gateC (f := 14) rfl ?_); refine goesL_ (some 201) rfl rfl Tryd.func14 (by kernel_rfl) rfl #[.string t340] rfl zm ?_; (with_reducible refine (impl_ReadPair.calls kj27 t340 t341 t342 false _ ?sideT A52.out).mono ?_); (case sideT => exact Door.below HT.out zb); rintro e w121 ⟨rfl, hb⟩; refine ⟨_, rfl, ?_⟩; have n0_ := Aside0.mk (below_step zb hb); clear HB; have HB := n0_; clear n0_; (try clear hb); (try clear hb2); (try clear hk); (try clear hi)) | ((with_reducible refine gateC (f := 18) rfl ?_); refine goesL_ (some 207) rfl rfl Tryd.func18 (by kernel_rfl) rfl #[.string t340] rfl zm ?_; (with_reducible refine (spec_ReadPair.calls kj27 t340 t344 t345 t346 _ A53.out).mono ?_); rintro e w122 ⟨rfl, hb⟩; refine ⟨_, rfl, ?_⟩; have n0_ := Aside0.mk (below_step zb hb); clear HB; have HB := n0_; clear n0_; (try clear hb); (try clear hb2); (try clear hk); (try clear hi)) | ((with_reducible refine gateC (f := 19) rfl ?_); refine goesL_ (some 212) rfl rfl Tryd.func19 (by kernel_rfl) rfl #[.slice A1 l1.length c1] rfl zm ?_; (with_reducible refine (spec_DrawReadEnd.calls _ _ l1 t347 _ ?side1 ?side2 A54.out).mono ?_); (case side1 => exact zq (Kd.C_below HR1.out HB.out)); (case side2 => exact HC1.out); rintro e w123 ⟨rfl, hb⟩; refine ⟨_, rfl, ?_⟩; have n0_ := Aside0.mk (below_step zb hb); clear HB; have HB := n0_; clear n0_; (try clear hb); (try clear hb2); (try clear hk); (try clear hi)) | ((with_reducible refine gateC (f := 20) rfl ?_); refine goesL_ (some 215) rfl rfl Tryd.func20 (by kernel_rfl) rfl #[.string t347] rfl zm ?_; (with_reducible refine (impl_ReadEnd.calls kj27 t347 t348 t349 t350 _ ?sideT A55.out).mono ?_); (case sideT => exact Door.below HT.out zb); rintro e w124 ⟨rfl, hb⟩; refine ⟨_, rfl, ?_⟩; have n0_ := Aside0.mk (below_step zb hb); clear HB; have HB := n0_; clear n0_; (try clear hb); (try clear hb2); (try clear hk); (try clear hi)) | ((with_reducible refine gateC (f := 21) rfl ?_); refine goesL_ (some 221) rfl rfl Tryd.func21 (by kernel_rfl) rfl #[.string t347] rfl zm ?_; (with_reducible refine (spec_ReadEnd.calls kj27 t347 t351 t352 t353 _ A56.out).mono ?_); rintro e w125 ⟨rfl, hb⟩; refine ⟨_, rfl, ?_⟩; have n0_ := Aside0.mk (below_step zb hb); clear HB; have HB := n0_; clear n0_; (try clear hb); (try clear hb2); (try clear hk); (try clear hi)) | ((with_reducible refine gateC (f := 22) rfl ?_); refine goesL_ (some 226) rfl rfl Tryd.func22 (by kernel_rfl) rfl #[.slice A1 l1.length c1] rfl zm ?_; (with_reducible refine (spec_DrawReadNumber.calls _ _ l1 t354 _ ?side1 ?side2 A57.out).mono ?_); (case side1 => exact zq (Kd.C_below HR1.out HB.out)); (case side2 => exact HC1.out); rintro e w126 ⟨rfl, hb⟩; refine ⟨_, rfl, ?_⟩; have n0_ := Aside0.mk (below_step zb hb); clear HB; have HB := n0_; clear n0_; (try clear hb); (try clear hb2); (try clear hk); (try clear hi)) | ((with_reducible refine gateC (f := 23) rfl ?_); refine goesL_ (some 229) rfl rfl Tryd.func23 (by kernel_rfl) rfl #[.string t354] rfl zm ?_; (with_reducible refine (impl_ReadNumber.calls t354 t355 t356 _ ?sideT A58.out).mono ?_); (case sideT => exact Door.below HT.out zb); rintro e w127 ⟨rfl, hb⟩; refine ⟨_, rfl, ?_⟩; have n0_ := Aside0.mk (below_step zb hb); clear HB; have HB := n0_; clear n0_; (try clear hb); (try clear hb2); (try clear hk); (try clear hi)) | ((with_reducible refine gateC (f := 24) rfl ?_); refine goesL_ (some 234) rfl rfl Tryd.func24 (by kernel_rfl) rfl #[.string t354] rfl zm ?_; (with_reducible refine (spec_ReadNumber.calls kj27 t354 t357 t358 _ A59.out).mono ?_); rintro e w' ⟨rfl, ⟨nd, rfl⟩⟩; refine ⟨_, rfl, ?_⟩))
                                              go_ret
                                              exact ⟨by first | rfl | (simp [errW_none, errW_some] <;> rfl) | (simp [*, errW_none, errW_some] <;> rfl), by repeat (first | (with_reducible first | exact HB.out | apply below_alloc | apply pw_below_drewN | apply below_drew1) | exact HB.out)⟩
                                   ·as_aux_lemma =>
                                      rw [if_neg c68] at H
                                      have c68b0 : (t349 == t352) = false := beq_eq_false_iff_ne.mpr c68
                                      have c68b1 : (t349 != t352) = true := bne_iff_ne.mpr c68
                                      first
                                      | exact absurd (show false = true from (Option.some.inj H).trans HR_.out) Bool.false_ne_true
                                      | obtain rfl := Option.some.inj H
                                        go_wp2_with (first | ((with_reducible refine gateC (f := 15) rfl ?_); refine goesL_ (some 184) rfl rfl Tryd.func15 (by kernel_rfl) rfl #[.slice A1 l1.length c1] rfl zm ?_; (with_reducible refine (spec_DrawReadCount.calls _ _ l1 t333 _ ?side1 ?side2 A48.out).mono ?_); (case side1 => exact zq (Kd.C_below HR1.out HB.out)); (case side2 => exact HC1.out); rintro e w128 ⟨rfl, hb⟩; refine ⟨_, rfl, ?_⟩; have n0_ := Aside0.mk (below_step zb hb); clear HB; have HB := n0_; clear n0_; (try clear hb); (try clear hb2); (try clear hk); (try clear hi)) | ((with_reducible refine gateC (f := 13) rfl ?_); refine goesL_ (some 187) rfl rfl Tryd.func13 (by kernel_rfl) rfl #[.string t333] rfl zm ?_; (with_reducible refine (impl_ReadCount.calls kj27 t333 t334 t335 t336 _ ?sideT A49.out).mono ?_); (case sideT => exact Door.below HT.out zb); rintro e w129 ⟨rfl, hb⟩; refine ⟨_, rfl, ?_⟩; have n0_ := Aside0.mk (below_step zb hb); clear HB; have HB := n0_; clear n0_; (try clear hb); (try clear hb2); (try clear hk); (try clear hi)) | ((with_reducible refine gateC (f := 16) rfl ?_); refine goesL_ (some 193) rfl rfl Tryd.func16 (by kernel_rfl) rfl #[.string t333] rfl zm ?_; (with_reducible refine (spec_ReadCount.calls kj27 t333 t337 t338 t339 _ A50.out).mono ?_); rintro e w130 ⟨rfl, hb⟩; refine ⟨_, rfl, ?_⟩; have n0_ := Aside0.mk (below_step zb hb); clear HB; have HB := n0_; clear n0_; (try clear hb); (try clear hb2); (try clear hk); (try clear hi)) | ((with_reducible refine gateC (f := 17) rfl ?_); refine goesL_ (some 198) rfl rfl Tryd.func17 (by kernel_rfl) rfl #[.slice A1 l1.length c1] rfl zm ?_; (with_reducible refine (spec_DrawReadPair.calls _ _ l1 t340 _ ?side1 ?side2 A51.out).mono ?_); (case side1 => exact zq (Kd.C_below HR1.out HB.out)); (case side2 => exact HC1.out); rintro e w131 ⟨rfl, hb⟩; refine ⟨_, rfl, ?_⟩; have n0_ := Aside0.mk (below_step zb hb); clear HB; have HB := n0_; clear n0_; (try clear hb); (try clear hb2); (try clear hk); (try clear hi)) | ((with_reducible refine gateC (f := 14) rfl ?_); refine goesL_ (some 201) rfl rfl Tryd.func14 (by kernel_rfl) rfl #[.string t340] rfl zm ?_; (with_reducible refine (impl_ReadPair.calls kj27 t340 t341 t342 t343 _ ?sideT A52.out).mono ?_); (case sideT => exact Door.below HT.out zb); rintro e w132 ⟨rfl, hb⟩; refine ⟨_, rfl, ?_⟩; have n0_ := Aside0.mk (below_step zb hb); clear HB; have HB := n0_; clear n0_; (try clear hb); (try clear hb2); (try clear hk); (try clear hi)) | ((with_reducible refine gateC (f := 18) rfl ?_); refine goesL_ (some 207) rfl rfl Tryd.func18 (by kernel_rfl) rfl #[.string t340] rfl zm ?_; (with_reducible refine (spec_ReadPair.calls kj27 t340 t344 t345 t346 _ A53.out).mono ?_); rintro e w133 ⟨rfl, hb⟩; refine ⟨_, rfl, ?_⟩; have n0_ := Aside0.mk (below_step zb hb); clear HB; have HB := n0_; clear n0_; (try clear hb); (try clear hb2); (try clear hk); (try clear hi)) | ((with_reducible refine gateC (f := 19) rfl ?_); refine goesL_ (some 212) rfl rfl Tryd.func19 (by kernel_rfl) rfl #[.slice A1 l1.length c1] rfl zm ?_; (with_reducible refine (spec_DrawReadEnd.calls _ _ l1 t347 _ ?side1 ?side2 A54.out).mono ?_); (case side1 => exact zq (Kd.C_below HR1.out HB.out)); (case side2 => exact HC1.out); rintro e w134 ⟨rfl, hb⟩; refine ⟨_, rfl, ?_⟩; have n0_ := Aside0.mk (below_step zb hb); clear HB; have HB := n0_; clear n0_; (try clear hb); (try clear hb2); (try clear hk); (try clear hi)) | ((with_reducible refine gateC (f := 20) rfl ?_); refine goesL_ (some 215) rfl rfl Tryd.func20 (by kernel_rfl) rfl #[.string t347] rfl zm ?_; (with_reducible refine (impl_ReadEnd.calls kj27 t347 t348 t349 t350 _ ?sideT A55.out).mono ?_); (case sideT => exact Door.below HT.out zb); rintro e w135 ⟨rfl, hb⟩; refine ⟨_, rfl, ?_⟩; have n0_ := Aside0.mk (below_step zb hb); clear HB; have HB := n0_; clear n0_; (try clear hb); (try clear hb2); (try clear hk); (try clear hi)) | ((with_reducible refine gateC (f := 21) rfl ?_); refine goesL_ (some 221) rfl rfl Tryd.func21 (by kernel_rfl) rfl #[.string t347] rfl zm ?_; (with_reducible refine (spec_ReadEnd.calls kj27 t347 t351 t352 t353 _ A56.out).mono ?_); rintro e w136 ⟨rfl, hb⟩; refine ⟨_, rfl, ?_⟩; have n0_ := Aside0.mk (below_step zb hb); clear HB; have HB := n0_; clear n0_; (try clear hb); (try clear hb2); (try clear hk); (try clear hi)) | ((with_reducible refine gateC (f := 22) rfl ?_); refine goesL_ (some 226) rfl rfl Tryd.func22 (by kernel_rfl) rfl #[.slice A1 l1.length c1] rfl zm ?_; (with_reducible refine (spec_DrawReadNumber.calls _ _ l1 t354 _ ?side1 ?side2 A57.out).mono ?_); (case side1 => exact zq (Kd.C_below HR1.out HB.out)); (case side2 => exact HC1.out); rintro e w137 ⟨rfl, hb⟩; refine ⟨_, rfl, ?_⟩; have n0_ := Aside0.mk (below_step zb hb); clear HB; have HB := n0_; clear n0_; (try clear hb); (try clear hb2); (try clear hk); (try clear hi)) | ((with_reducible refine gateC (f := 23) rfl ?_); refine goesL_ (some 229) rfl rfl Tryd.func23 (by kernel_rfl) rfl #[.string t354] rfl zm ?_; (with_reducible refine (impl_ReadNumber.calls t354 t355 t356 _ ?sideT A58.out).mono ?_); (case sideT => exact Door.below HT.out zb); rintro e w138 ⟨rfl, hb⟩; refine ⟨_, rfl, ?_⟩; have n0_ := Aside0.mk (below_step zb hb); clear HB; have HB := n0_; clear n0_; (try clear hb); (try clear hb2); (try clear hk); (try clear hi)) | ((with_reducible refine gateC (f := 24) rfl ?_); refine goesL_ (some 234) rfl rfl Tryd.func24 (by kernel_rfl) rfl #[.string t354] rfl zm ?_; (with_reducible refine (spec_ReadNumber.calls kj27 t354 t357 t358 _ A59.out).mono ?_); rintro e w' ⟨rfl, ⟨nd, rfl⟩⟩; refine ⟨_, rfl, ?_⟩))
                                        go_ret
                                        exact ⟨by first | rfl | (simp [errW_none, errW_some] <;> rfl) | (simp [*, errW_none, errW_some] <;> rfl), by repeat (first | (with_reducible first | exact HB.out | apply below_alloc | apply pw_below_drewN | apply below_drew1) | exact HB.out)⟩
                                ·as_aux_lemma =>
                                   rw [if_neg c67] at H
                                   have c67b0 : (t348 == t351) = false := beq_eq_false_iff_ne.mpr c67
                                   have c67b1 : (t348 != t351) = true := bne_iff_ne.mpr c67
                                   first
                                   | exact absurd (show false = true from (Option.some.inj H).trans HR_.out) Bool.false_ne_true
                                   | obtain rfl := Option.some.inj H
                                     go_wp2_with (first | ((with_reducible refine gateC (f := 15) rfl ?_); refine goesL_ (some 184) rfl rfl Tryd.func15 (by kernel_rfl) rfl #[.slice A1 l1.length c1] rfl zm ?_; (with_reducible refine (spec_DrawReadCount.calls _ _ l1 t333 _ ?side1 ?side2 A48.out).mono ?_); (case side1 => exact zq (Kd.C_below HR1.out HB.out)); (case side2 => exact HC1.out); rintro e w139 ⟨rfl, hb⟩; refine ⟨_, rfl, ?_⟩; have n0_ := Aside0.mk (below_step zb hb); clear HB; have HB := n0_; clear n0_; (try clear hb); (try clear hb2); (try clear hk); (try clear hi)) | ((with_reducible refine gateC (f := 13) rfl ?_); refine goesL_ (some 187) rfl rfl Tryd.func13 (by kernel_rfl) rfl #[.string t333] rfl zm ?_; (with_reducible refine (impl_ReadCount.calls kj27 t333 t334 t335 t336 _ ?sideT A49.out).mono ?_); (case sideT => exact Door.below HT.out zb); rintro e w140 ⟨rfl, hb⟩; refine ⟨_, rfl, ?_⟩; have n0_ := Aside0.mk (below_step zb hb); clear HB; have HB := n0_; clear n0_; (try clear hb); (try clear hb2); (try clear hk); (try clear hi)) | ((with_reducible refine gateC (f := 16) rfl ?_); refine goesL_ (some 193) rfl rfl Tryd.func16 (by kernel_rfl) rfl #[.string t333] rfl zm ?_; (with_reducible refine (spec_ReadCount.calls kj27 t333 t337 t338 t339 _ A50.out).mono ?_); rintro e w141 ⟨rfl, hb⟩; refine ⟨_, rfl, ?_⟩; have n0_ := Aside0.mk (below_step zb hb); clear HB; have HB := n0_; clear n0_; (try clear hb); (try clear hb2); (try clear hk); (try clear hi)) | ((with_reducible refine gateC (f := 17) rfl ?_); refine goesL_ (some 198) rfl rfl Tryd.func17 (by kernel_rfl) rfl #[.slice A1 l1.length c1] rfl zm ?_; (with_reducible refine (spec_DrawReadPair.calls _ _ l1 t340 _ ?side1 ?side2 A51.out).mono ?_); (case side1 => exact zq (Kd.C_below HR1.out HB.out)); (case side2 => exact HC1.out); rintro e w142 ⟨rfl, hb⟩; refine ⟨_, rfl, ?_⟩; have n0_ := Aside0.mk (below_step zb hb); clear HB; have HB := n0_; clear n0_; (try clear hb); (try clear hb2); (try clear hk); (try clear hi)) | ((with_reducible refine gateC (f := 14) rfl ?_); refine goesL_ (some 201) rfl rfl Tryd.func14 (by kernel_rfl) rfl #[.string t340] rfl zm ?_; (with_reducible refine (impl_ReadPair.calls kj27 t340 t341 t342 t343 _ ?sideT A52.out).mono ?_); (case sideT => exact Door.below HT.out zb); rintro e w143 ⟨rfl, hb⟩; refine ⟨_, rfl, ?_⟩; have n0_ := Aside0.mk (below_step zb hb); clear HB; have HB := n0_; clear n0_; (try clear hb); (try clear hb2); (try clear hk); (try clear hi)) | ((with_reducible refine gateC (f := 18) rfl ?_); refine goesL_ (some 207) rfl rfl Tryd.func18 (by kernel_rfl) rfl #[.string t340] rfl zm ?_; (with_reducible refine (spec_ReadPair.calls kj27 t340 t344 t345 t346 _ A53.out).mono ?_); rintro e w144 ⟨rfl, hb⟩; refine ⟨_, rfl, ?_⟩; have n0_ := Aside0.mk (below_step zb hb); clear HB; have HB := n0_; clear n0_; (try clear hb); (try clear hb2); (try clear hk); (try clear hi)) | ((with_reducible refine gateC (f := 19) rfl ?_); refine goesL_ (some 212) rfl rfl Tryd.func19 (by kernel_rfl) rfl #[.slice A1 l1.length c1] rfl zm ?_; (with_reducible refine (spec_DrawReadEnd.calls _ _ l1 t347 _ ?side1 ?side2 A54.out).mono ?_); (case side1 => exact zq (Kd.C_below HR1.out HB.out)); (case side2 => exact HC1.out); rintro e w145 ⟨rfl, hb⟩; refine ⟨_, rfl, ?_⟩; have n0_ := Aside0.mk (below_step zb hb); clear HB; have HB := n0_; clear n0_; (try clear hb); (try clear hb2); (try clear hk); (try clear hi)) | ((with_reducible refine gateC (f := 20) rfl ?_); refine goesL_ (some 215) rfl rfl Tryd.func20 (by kernel_rfl) rfl #[.string t347] rfl zm ?_; (with_reducible refine (impl_ReadEnd.calls kj27 t347 t348 t349 t350 _ ?sideT A55.out).mono ?_); (case sideT => exact Door.below HT.out zb); rintro e w146 ⟨rfl, hb⟩; refine ⟨_, rfl, ?_⟩; have n0_ := Aside0.mk (below_step zb hb); clear HB; have HB := n0_; clear n0_; (try clear hb); (try clear hb2); (try clear hk); (try clear hi)) | ((with_reducible refine gateC (f := 21) rfl ?_); refine goesL_ (some 221) rfl rfl Tryd.func21 (by kernel_rfl) rfl #[.string t347] rfl zm ?_; (with_reducible refine (spec_ReadEnd.calls kj27 t347 t351 t352 t353 _ A56.out).mono ?_); rintro e w147 ⟨rfl, hb⟩; refine ⟨_, rfl, ?_⟩; have n0_ := Aside0.mk (below_step zb hb); clear HB; have HB := n0_; clear n0_; (try clear hb); (try clear hb2); (try clear hk); (try clear hi)) | ((with_reducible refine gateC (f := 22) rfl ?_); refine goesL_ (some 226) rfl rfl Tryd.func22 (by kernel_rfl) rfl #[.slice A1 l1.length c1] rfl zm ?_; (with_reducible refine (spec_DrawReadNumber.calls _ _ l1 t354 _ ?side1 ?side2 A57.out).mono ?_); (case side1 => exact zq (Kd.C_below HR1.out HB.out)); (case side2 => exact HC1.out); rintro e w148 ⟨rfl, hb⟩; refine ⟨_, rfl, ?_⟩; have n0_ := Aside0.mk (below_step zb hb); clear HB; have HB := n0_; clear n0_; (try clear hb); (try clear hb2); (try clear hk); (try clear hi)) | ((with_reducible refine gateC (f := 23) rfl ?_); refine goesL_ (some 229) rfl rfl Tryd.func23 (by kernel_rfl) rfl #[.string t354] rfl zm ?_; (with_reducible refine (impl_ReadNumber.calls t354 t355 t356 _ ?sideT A58.out).mono ?_); (case sideT => exact Door.below HT.out zb); rintro e w149 ⟨rfl, hb⟩; refine ⟨_, rfl, ?_⟩; have n0_ := Aside0.mk (below_step zb hb); clear HB; have HB := n0_; clear n0_; (try clear hb); (try clear hb2); (try clear hk); (try clear hi)) | ((with_reducible refine gateC (f := 24) rfl ?_); refine goesL_ (some 234) rfl rfl Tryd.func24 (by kernel_rfl) rfl #[.string t354] rfl zm ?_; (with_reducible refine (spec_ReadNumber.calls kj27 t354 t357 t358 _ A59.out).mono ?_); rintro e w' ⟨rfl, ⟨nd, rfl⟩⟩; refine ⟨_, rfl, ?_⟩))
                                     go_ret
                                     exact ⟨by first | rfl | (simp [errW_none, errW_some] <;> rfl) | (simp [*, errW_none, errW_some] <;> rfl), by repeat (first | (with_reducible first | exact HB.out | apply below_alloc | apply pw_below_drewN | apply below_drew1) | exact HB.out)⟩
                             ·as_aux_lemma =>
                                rw [if_neg c66] at H
                                have c66b0 : (t350 == t353) = false := by simpa using c66
                                (try (have c66b1 : decide (t350 = t353) = false := by simpa using c66))
                                (try (have c66b2 : (t350 == t353) = false := by simpa using c66))
                                (try (have c66b3 : ¬ (t350 = t353) := by simpa using c66))
                                clear c66
                                first
                                | exact absurd (show false = true from (Option.some.inj H).trans HR_.out) Bool.false_ne_true
                                | obtain rfl := Option.some.inj H
                                  go_wp2_with (first | ((with_reducible refine gateC (f := 15) rfl ?_); refine goesL_ (some 184) rfl rfl Tryd.func15 (by kernel_rfl) rfl #[.slice A1 l1.length c1] rfl zm ?_; (with_reducible refine (spec_DrawReadCount.calls _ _ l1 t333 _ ?side1 ?side2 A48.out).mono ?_); (case side1 => exact zq (Kd.C_below HR1.out HB.out)); (case side2 => exact HC1.out); rintro e w150 ⟨rfl, hb⟩; refine ⟨_, rfl, ?_⟩; have n0_ := Aside0.mk (below_step zb hb); clear HB; have HB := n0_; clear n0_; (try clear hb); (try clear hb2); (try clear hk); (try clear hi)) | ((with_reducible refine gateC (f := 13) rfl ?_); refine goesL_ (some 187) rfl rfl Tryd.func13 (by kernel_rfl) rfl #[.string t333] rfl zm ?_; (with_reducible refine (impl_ReadCount.calls kj27 t333 t334 t335 t336 _ ?sideT A49.out).mono ?_); (case sideT => exact Door.below HT.out zb); rintro e w151 ⟨rfl, hb⟩; refine ⟨_, rfl, ?_⟩; have n0_ := Aside0.mk (below_step zb hb); clear HB; have HB := n0_; clear n0_; (try clear hb); (try clear hb2); (try clear hk); (try clear hi)) | ((with_reducible refine gateC (f := 16) rfl ?_); refine goesL_ (some 193) rfl rfl Tryd.func16 (by kernel_rfl) rfl #[.string t333] rfl zm ?_; (with_reducible refine (spec_ReadCount.calls kj27 t333 t337 t338 t339 _ A50.out).mono ?_); rintro e w152 ⟨rfl, hb⟩; refine ⟨_, rfl, ?_⟩; have n0_ := Aside0.mk (below_step zb hb); clear HB; have HB := n0_; clear n0_; (try clear hb); (try clear hb2); (try clear hk); (try clear hi)) | ((with_reducible refine gateC (f := 17) rfl ?_); refine goesL_ (some 198) rfl rfl Tryd.func17 (by kernel_rfl) rfl #[.slice A1 l1.length c1] rfl zm ?_; (with_reducible refine (spec_DrawReadPair.calls _ _ l1 t340 _ ?side1 ?side2 A51.out).mono ?_); (case side1 => exact zq (Kd.C_below HR1.out HB.out)); (case side2 => exact HC1.out); rintro e w153 ⟨rfl, hb⟩; refine ⟨_, rfl, ?_⟩; have n0_ := Aside0.mk (below_step zb hb); clear HB; have HB := n0_; clear n0_; (try clear hb); (try clear hb2); (try clear hk); (try clear hi)) | ((with_reducible refine gateC (f := 14) rfl ?_); refine goesL_ (some 201) rfl rfl Tryd.func14 (by kernel_rfl) rfl #[.string t340] rfl zm ?_; (with_reducible refine (impl_ReadPair.calls kj27 t340 t341 t342 t343 _ ?sideT A52.out).mono ?_); (case sideT => exact Door.below HT.out zb); rintro e w154 ⟨rfl, hb⟩; refine ⟨_, rfl, ?_⟩; have n0_ := Aside0.mk (below_step zb hb); clear HB; have HB := n0_; clear n0_; (try clear hb); (try clear hb2); (try clear hk); (try clear hi)) | ((with_reducible refine gateC (f := 18) rfl ?_); refine goesL_ (some 207) rfl rfl Tryd.func18 (by kernel_rfl) rfl #[.string t340] rfl zm ?_; (with_reducible refine (spec_ReadPair.calls kj27 t340 t344 t345 t346 _ A53.out).mono ?_); rintro e w155 ⟨rfl, hb⟩; refine ⟨_, rfl, ?_⟩; have n0_ := Aside0.mk (below_step zb hb); clear HB; have HB := n0_; clear n0_; (try clear hb); (try clear hb2); (try clear hk); (try clear hi)) | ((with_reducible refine gateC (f := 19) rfl ?_); refine goesL_ (some 212) rfl rfl Tryd.func19 (by kernel_rfl) rfl #[.slice A1 l1.length c1] rfl zm ?_; (with_reducible refine (spec_DrawReadEnd.calls _ _ l1 t347 _ ?side1 ?side2 A54.out).mono ?_); (case side1 => exact zq (Kd.C_below HR1.out HB.out)); (case side2 => exact HC1.out); rintro e w156 ⟨rfl, hb⟩; refine ⟨_, rfl, ?_⟩; have n0_ := Aside0.mk (below_step zb hb); clear HB; have HB := n0_; clear n0_; (try clear hb); (try clear hb2); (try clear hk); (try clear hi)) | ((with_reducible refine gateC (f := 20) rfl ?_); refine goesL_ (some 215) rfl rfl Tryd.func20 (by kernel_rfl) rfl #[.string t347] rfl zm ?_; (with_reducible refine (impl_ReadEnd.calls kj27 t347 t348 t349 t350 _ ?sideT A55.out).mono ?_); (case sideT => exact Door.below HT.out zb); rintro e w157 ⟨rfl, hb⟩; refine ⟨_, rfl, ?_⟩; have n0_ := Aside0.mk (below_step zb hb); clear HB; have HB := n0_; clear n0_; (try clear hb); (try clear hb2); (try clear hk); (try clear hi)) | ((with_reducible refine gateC (f := 21) rfl ?_); refine goesL_ (some 221) rfl rfl Tryd.func21 (by kernel_rfl) rfl #[.string t347] rfl zm ?_; (with_reducible refine (spec_ReadEnd.calls kj27 t347 t351 t352 t353 _ A56.out).mono ?_); rintro e w158 ⟨rfl, hb⟩; refine ⟨_, rfl, ?_⟩; have n0_ := Aside0.mk (below_step zb hb); clear HB; have HB := n0_; clear n0_; (try clear hb); (try clear hb2); (try clear hk); (try clear hi)) | ((with_reducible refine gateC (f := 22) rfl ?_); refine goesL_ (some 226) rfl rfl Tryd.func22 (by kernel_rfl) rfl #[.slice A1 l1.length c1] rfl zm ?_; (with_reducible refine (spec_DrawReadNumber.calls _ _ l1 t354 _ ?side1 ?side2 A57.out).mono ?_); (case side1 => exact zq (Kd.C_below HR1.out HB.out)); (case side2 => exact HC1.out); rintro e w159 ⟨rfl, hb⟩; refine ⟨_, rfl, ?_⟩; have n0_ := Aside0.mk (below_step zb hb); clear HB; have HB := n0_; clear n0_; (try clear hb); (try clear hb2); (try clear hk); (try clear hi)) | ((with_reducible refine gateC (f := 23) rfl ?_); refine goesL_ (some 229) rfl rfl Tryd.func23 (by kernel_rfl) rfl #[.string t354] rfl zm ?_; (with_reducible refine (impl_ReadNumber.calls t354 t355 t356 _ ?sideT A58.out).mono ?_); (case sideT => exact Door.below HT.out zb); rintro e w160 ⟨rfl, hb⟩; refine ⟨_, rfl, ?_⟩; have n0_ := Aside0.mk (below_step zb hb); clear HB; have HB := n0_; clear n0_; (try clear hb); (try clear hb2); (try clear hk); (try clear hi)) | ((with_reducible refine gateC (f := 24) rfl ?_); refine goesL_ (some 234) rfl rfl Tryd.func24 (by kernel_rfl) rfl #[.string t354] rfl zm ?_; (with_reducible refine (spec_ReadNumber.calls kj27 t354 t357 t358 _ A59.out).mono ?_); rintro e w' ⟨rfl, ⟨nd, rfl⟩⟩; refine ⟨_, rfl, ?_⟩))
                                  go_ret
                                  exact ⟨by first | rfl | (simp [errW_none, errW_some] <;> rfl) | (simp [*, errW_none, errW_some] <;> rfl), by repeat (first | (with_reducible first | exact HB.out | apply below_alloc | apply pw_below_drewN | apply below_drew1) | exact HB.out)⟩
                          ·as_aux_lemma =>
                             rw [if_neg c65] at H
                             have c65b0 : (t342 == t345) = false := beq_eq_false_iff_ne.mpr c65
                             have c65b1 : (t342 != t345) = true := bne_iff_ne.mpr c65
                             first
                             | exact absurd (show false = true from (Option.some.inj H).trans HR_.out) Bool.false_ne_true
                             | obtain rfl := Option.some.inj H
                               go_wp2_with (first | ((with_reducible refine gateC (f := 15) rfl ?_); refine goesL_ (some 184) rfl rfl Tryd.func15 (by kernel_rfl) rfl #[.slice A1 l1.length c1] rfl zm ?_; (with_reducible refine (spec_DrawReadCount.calls _ _ l1 t333 _ ?side1 ?side2 A48.out).mono ?_); (case side1 => exact zq (Kd.C_below HR1.out HB.out)); (case side2 => exact HC1.out); rintro e w161 ⟨rfl, hb⟩; refine ⟨_, rfl, ?_⟩; have n0_ := Aside0.mk (below_step zb hb); clear HB; have HB := n0_; clear n0_; (try clear hb); (try clear hb2); (try clear hk); (try clear hi)) | ((with_reducible refine gateC (f := 13) rfl ?_); refine goesL_ (some 187) rfl rfl Tryd.func13 (by kernel_rfl) rfl #[.string t333] rfl zm ?_; (with_reducible refine (impl_ReadCount.calls kj27 t333 t334 t335 t336 _ ?sideT A49.out).mono ?_); (case sideT => exact Door.below HT.out zb); rintro e w162 ⟨rfl, hb⟩; refine ⟨_, rfl, ?_⟩; have n0_ := Aside0.mk (below_step zb hb); clear HB; have HB := n0_; clear n0_; (try clear hb); (try clear hb2); (try clear hk); (try clear hi)) | ((with_reducible refine gateC (f := 16) rfl ?_); refine goesL_ (some 193) rfl rfl Tryd.func16 (by kernel_rfl) rfl #[.string t333] rfl zm ?_; (with_reducible refine (spec_ReadCount.calls kj27 t333 t337 t338 t339 _ A50.out).mono ?_); rintro e w163 ⟨rfl, hb⟩; refine ⟨_, rfl, ?_⟩; have n0_ := Aside0.mk (below_step zb hb); clear HB; have HB := n0_; clear n0_; (try clear hb); (try clear hb2); (try clear hk); (try clear hi)) | ((with_reducible refine gateC (f := 17) rfl ?_); refine goesL_ (some 198) rfl rfl Tryd.func17 (by kernel_rfl) rfl #[.slice A1 l1.length c1] rfl zm ?_; (with_reducible refine (spec_DrawReadPair.calls _ _ l1 t340 _ ?side1 ?side2 A51.out).mono ?_); (case side1 => exact zq (Kd.C_below HR1.out HB.out)); (case side2 => exact HC1.out); rintro e w164 ⟨rfl, hb⟩; refine ⟨_, rfl, ?_⟩; have n0_ := Aside0.mk (below_step zb hb); clear HB; have HB := n0_; clear n0_; (try clear hb); (try clear hb2); (try clear hk); (try clear hi)) | ((with_reducible refine gateC (f := 14) rfl ?_); refine goesL_ (some 201) rfl rfl Tryd.func14 (by kernel_rfl) rfl #[.string t340] rfl zm ?_; (with_reducible refine (impl_ReadPair.calls kj27 t340 t341 t342 t343 _ ?sideT A52.out).mono ?_); (case sideT => exact Door.below HT.out zb); rintro e w165 ⟨rfl, hb⟩; refine ⟨_, rfl, ?_⟩; have n0_ := Aside0.mk (below_step zb hb); clear HB; have HB := n0_; clear n0_; (try clear hb); (try clear hb2); (try clear hk); (try clear hi)) | ((with_reducible refine gateC (f := 18) rfl ?_); refine goesL_ (some 207) rfl rfl Tryd.func18 (by kernel_rfl) rfl #[.string t340] rfl zm ?_; (with_reducible refine (spec_ReadPair.calls kj27 t340 t344 t345 t346 _ A53.out).mono ?_); rintro e w166 ⟨rfl, hb⟩; refine ⟨_, rfl, ?_⟩; have n0_ := Aside0.mk (below_step zb hb); clear HB; have HB := n0_; clear n0_; (try clear hb); (try clear hb2); (try clear hk); (try clear hi)) | ((with_reducible refine gateC (f := 19) rfl ?_); refine goesL_ (some 212) rfl rfl Tryd.func19 (by kernel_rfl) rfl #[.slice A1 l1.length c1] rfl zm ?_; (with_reducible refine (spec_DrawReadEnd.calls _ _ l1 t347 _ ?side1 ?side2 A54.out).mono ?_); (case side1 => exact zq (Kd.C_below HR1.out HB.out)); (case side2 => exact HC1.out); rintro e w167 ⟨rfl, hb⟩; refine ⟨_, rfl, ?_⟩; have n0_ := Aside0.mk (below_step zb hb); clear HB; have HB := n0_; clear n0_; (try clear hb); (try clear hb2); (try clear hk); (try clear hi)) | ((with_reducible refine gateC (f := 20) rfl ?_); refine goesL_ (some 215) rfl rfl Tryd.func20 (by kernel_rfl) rfl #[.string t347] rfl zm ?_; (with_reducible refine (impl_ReadEnd.calls kj27 t347 t348 t349 t350 _ ?sideT A55.out).mono ?_); (case sideT => exact Door.below HT.out zb); rintro e w168 ⟨rfl, hb⟩; refine ⟨_, rfl, ?_⟩; have n0_ := Aside0.mk (below_step zb hb); clear HB; have HB := n0_; clear n0_; (try clear hb); (try clear hb2); (try clear hk); (try clear hi)) | ((with_reducible refine gateC (f := 21) rfl ?_); refine goesL_ (some 221) rfl rfl Tryd.func21 (by kernel_rfl) rfl #[.string t347] rfl zm ?_; (with_reducible refine (spec_ReadEnd.calls kj27 t347 t351 t352 t353 _ A56.out).mono ?_); rintro e w169 ⟨rfl, hb⟩; refine ⟨_, rfl, ?_⟩; have n0_ := Aside0.mk (below_step zb hb); clear HB; have HB := n0_; clear n0_; (try clear hb); (try clear hb2); (try clear hk); (try clear hi)) | ((with_reducible refine gateC (f := 22) rfl ?_); refine goesL_ (some 226) rfl rfl Tryd.func22 (by kernel_rfl) rfl #[.slice A1 l1.length c1] rfl zm ?_; (with_reducible refine (spec_DrawReadNumber.calls _ _ l1 t354 _ ?side1 ?side2 A57.out).mono ?_); (case side1 => exact zq (Kd.C_below HR1.out HB.out)); (case side2 => exact HC1.out); rintro e w170 ⟨rfl, hb⟩; refine ⟨_, rfl, ?_⟩; have n0_ := Aside0.mk (below_step zb hb); clear HB; have HB := n0_; clear n0_; (try clear hb); (try clear hb2); (try clear hk); (try clear hi)) | ((with_reducible refine gateC (f := 23) rfl ?_); refine goesL_ (some 229) rfl rfl Tryd.func23 (by kernel_rfl) rfl #[.string t354] rfl zm ?_; (with_reducible refine (impl_ReadNumber.calls t354 t355 t356 _ ?sideT A58.out).mono ?_); (case sideT => exact Door.below HT.out zb); rintro e w171 ⟨rfl, hb⟩; refine ⟨_, rfl, ?_⟩; have n0_ := Aside0.mk (below_step zb hb); clear HB; have HB := n0_; clear n0_; (try clear hb); (try clear hb2); (try clear hk); (try clear hi)) | ((with_reducible refine gateC (f := 24) rfl ?_); refine goesL_ (some 234) rfl rfl Tryd.func24 (by kernel_rfl) rfl #[.string t354] rfl zm ?_; (with_reducible refine (spec_ReadNumber.calls kj27 t354 t357 t358 _ A59.out).mono ?_); rintro e w' ⟨rfl, ⟨nd, rfl⟩⟩; refine ⟨_, rfl, ?_⟩))
                               go_ret
                               exact ⟨by first | rfl | (simp [errW_none, errW_some] <;> rfl) | (simp [*, errW_none, errW_some] <;> rfl), by repeat (first | (with_reducible first | exact HB.out | apply below_alloc | apply pw_below_drewN | apply below_drew1) | exact HB.out)⟩
                       ·as_aux_lemma =>
                          rw [if_neg c64] at H
                          have c64b0 : (t341 == t344) = false := beq_eq_false_iff_ne.mpr c64
                          have c64b1 : (t341 != t344) = true := bne_iff_ne.mpr c64
                          first
                          | exact absurd (show false = true from (Option.some.inj H).trans HR_.out) Bool.false_ne_true
                          | obtain rfl := Option.some.inj H
                            go_wp2_with (first | ((with_reducible refine gateC (f := 15) rfl ?_); refine goesL_ (some 184) rfl rfl Tryd.func15 (by kernel_rfl) rfl #[.slice A1 l1.length c1] rfl zm ?_; (with_reducible refine (spec_DrawReadCount.calls _ _ l1 t333 _ ?side1 ?side2 A48.out).mono ?_); (case side1 => exact zq (Kd.C_below HR1.out HB.out)); (case side2 => exact HC1.out); rintro e w172 ⟨rfl, hb⟩; refine ⟨_, rfl, ?_⟩; have n0_ := Aside0.mk (below_step zb hb); clear HB; have HB := n0_; clear n0_; (try clear hb); (try clear hb2); (try clear hk); (try clear hi)) | ((with_reducible refine gateC (f := 13) rfl ?_); refine goesL_ (some 187) rfl rfl Tryd.func13 (by kernel_rfl) rfl #[.string t333] rfl zm ?_; (with_reducible refine (impl_ReadCount.calls kj27 t333 t334 t335 t336 _ ?sideT A49.out).mono ?_); (case sideT => exact Door.below HT.out zb); rintro e w173 ⟨rfl, hb⟩; refine ⟨_, rfl, ?_⟩; have n0_ := Aside0.mk (below_step zb hb); clear HB; have HB := n0_; clear n0_; (try clear hb); (try clear hb2); (try clear hk); (try clear hi)) | ((with_reducible refine gateC (f := 16) rfl ?_); refine goesL_ (some 193) rfl rfl Tryd.func16 (by kernel_rfl) rfl #[.string t333] rfl zm ?_; (with_reducible refine (spec_ReadCount.calls kj27 t333 t337 t338 t339 _ A50.out).mono ?_); rintro e w174 ⟨rfl, hb⟩; refine ⟨_, rfl, ?_⟩; have n0_ := Aside0.mk (below_step zb hb); clear HB; have HB := n0_; clear n0_; (try clear hb); (try clear hb2); (try clear hk); (try clear hi)) | ((with_reducible refine gateC (f := 17) rfl ?_); refine goesL_ (some 198) rfl rfl Tryd.func17 (by kernel_rfl) rfl #[.slice A1 l1.length c1] rfl zm ?_; (with_reducible refine (spec_DrawReadPair.calls _ _ l1 t340 _ ?side1 ?side2 A51.out).mono ?_); (case side1 => exact zq (Kd.C_below HR1.out HB.out)); (case side2 => exact HC1.out); rintro e w175 ⟨rfl, hb⟩; refine ⟨_, rfl, ?_⟩; have n0_ := Aside0.mk (below_step zb hb); clear HB; have HB := n0_; clear n0_; (try clear hb); (try clear hb2); (try clear hk); (try clear hi)) | ((with_reducible refine gateC (f := 14) rfl ?_); refine goesL_ (some 201) rfl rfl Tryd.func14 (by kernel_rfl) rfl #[.string t340] rfl zm ?_; (with_reducible refine (impl_ReadPair.calls kj27 t340 t341 t342 t343 _ ?sideT A52.out).mono ?_); (case sideT => exact Door.below HT.out zb); rintro e w176 ⟨rfl, hb⟩; refine ⟨_, rfl, ?_⟩; have n0_ := Aside0.mk (below_step zb hb); clear HB; have HB := n0_; clear n0_; (try clear hb); (try clear hb2); (try clear hk); (try clear hi)) | ((with_reducible refine gateC (f := 18) rfl ?_); refine goesL_ (some 207) rfl rfl Tryd.func18 (by kernel_rfl) rfl #[.string t340] rfl zm ?_; (with_reducible refine (spec_ReadPair.calls kj27 t340 t344 t345 t346 _ A53.out).mono ?_); rintro e w177 ⟨rfl, hb⟩; refine ⟨_, rfl, ?_⟩; have n0_ := Aside0.mk (below_step zb hb); clear HB; have HB := n0_; clear n0_; (try clear hb); (try clear hb2); (try clear hk); (try clear hi)) | ((with_reducible refine gateC (f := 19) rfl ?_); refine goesL_ (some 212) rfl rfl Tryd.func19 (by kernel_rfl) rfl #[.slice A1 l1.length c1] rfl zm ?_; (with_reducible refine (spec_DrawReadEnd.calls _ _ l1 t347 _ ?side1 ?side2 A54.out).mono ?_); (case side1 => exact zq (Kd.C_below HR1.out HB.out)); (case side2 => exact HC1.out); rintro e w178 ⟨rfl, hb⟩; refine ⟨_, rfl, ?_⟩; have n0_ := Aside0.mk (below_step zb hb); clear HB; have HB := n0_; clear n0_; (try clear hb); (try clear hb2); (try clear hk); (try clear hi)) | ((with_reducible refine gateC (f := 20) rfl ?_); refine goesL_ (some 215) rfl rfl Tryd.func20 (by kernel_rfl) rfl #[.string t347] rfl zm ?_; (with_reducible refine (impl_ReadEnd.calls kj27 t347 t348 t349 t350 _ ?sideT A55.out).mono ?_); (case sideT => exact Door.below HT.out zb); rintro e w179 ⟨rfl, hb⟩; refine ⟨_, rfl, ?_⟩; have n0_ := Aside0.mk (below_step zb hb); clear HB; have HB := n0_; clear n0_; (try clear hb); (try clear hb2); (try clear hk); (try clear hi)) | ((with_reducible refine gateC (f := 21) rfl ?_); refine goesL_ (some 221) rfl rfl Tryd.func21 (by kernel_rfl) rfl #[.string t347] rfl zm ?_; (with_reducible refine (spec_ReadEnd.calls kj27 t347 t351 t352 t353 _ A56.out).mono ?_); rintro e w180 ⟨rfl, hb⟩; refine ⟨_, rfl, ?_⟩; have n0_ := Aside0.mk (below_step zb hb); clear HB; have HB := n0_; clear n0_; (try clear hb); (try clear hb2); (try clear hk); (try clear hi)) | ((with_reducible refine gateC (f := 22) rfl ?_); refine goesL_ (some 226) rfl rfl Tryd.func22 (by kernel_rfl) rfl #[.slice A1 l1.length c1] rfl zm ?_; (with_reducible refine (spec_DrawReadNumber.calls _ _ l1 t354 _ ?side1 ?side2 A57.out).mono ?_); (case side1 => exact zq (Kd.C_below HR1.out HB.out)); (case side2 => exact HC1.out); rintro e w181 ⟨rfl, hb⟩; refine ⟨_, rfl, ?_⟩; have n0_ := Aside0.mk (below_step zb hb); clear HB; have HB := n0_; clear n0_; (try clear hb); (try clear hb2); (try clear hk); (try clear hi)) | ((with_reducible refine gateC (f := 23) rfl ?_); refine goesL_ (some 229) rfl rfl Tryd.func23 (by kernel_rfl) rfl #[.string t354] rfl zm ?_; (with_reducible refine (impl_ReadNumber.calls t354 t355 t356 _ ?sideT A58.out).mono ?_); (case sideT => exact Door.below HT.out zb); rintro e w182 ⟨rfl, hb⟩; refine ⟨_, rfl, ?_⟩; have n0_ := Aside0.mk (below_step zb hb); clear HB; have HB := n0_; clear n0_; (try clear hb); (try clear hb2); (try clear hk); (try clear hi)) | ((with_reducible refine gateC (f := 24) rfl ?_); refine goesL_ (some 234) rfl rfl Tryd.func24 (by kernel_rfl) rfl #[.string t354] rfl zm ?_; (with_reducible refine (spec_ReadNumber.calls kj27 t354 t357 t358 _ A59.out).mono ?_); rintro e w' ⟨rfl, ⟨nd, rfl⟩⟩; refine ⟨_, rfl, ?_⟩))
                            go_ret
                            exact ⟨by first | rfl | (simp [errW_none, errW_some] <;> rfl) | (simp [*, errW_none, errW_some] <;> rfl), by repeat (first | (with_reducible first | exact HB.out | apply below_alloc | apply pw_below_drewN | apply below_drew1) | exact HB.out)⟩
                    ·as_aux_lemma =>
                       rw [if_neg c63] at H
                       have c63b0 : (t343 == t346) = false := by simpa using c63
                       (try (have c63b1 : decide (t343 = t346) = false := by simpa using c63))
                       (try (have c63b2 : (t343 == t346) = false := by simpa using c63))
                       (try (have c63b3 : ¬ (t343 = t346) := by simpa using c63))
                       clear c63
                       first
                       | exact absurd (show false = true from (Option.some.inj H).trans HR_.out) Bool.false_ne_true
                       | obtain rfl := Option.some.inj H
                         go_wp2_with (first | ((with_reducible refine gateC (f := 15) rfl ?_); refine goesL_ (some 184) rfl rfl Tryd.func15 (by kernel_rfl) rfl #[.slice A1 l1.length c1] rfl zm ?_; (with_reducible refine (spec_DrawReadCount.calls _ _ l1 t333 _ ?side1 ?side2 A48.out).mono ?_); (case side1 => exact zq (Kd.C_below HR1.out HB.out)); (case side2 => exact HC1.out); rintro e w183 ⟨rfl, hb⟩; refine ⟨_, rfl, ?_⟩; have n0_ := Aside0.mk (below_step zb hb); clear HB; have HB := n0_; clear n0_; (try clear hb); (try clear hb2); (try clear hk); (try clear hi)) | ((with_reducible refine gateC (f := 13) rfl ?_); refine goesL_ (some 187) rfl rfl Tryd.func13 (by kernel_rfl) rfl #[.string t333] rfl zm ?_; (with_reducible refine (impl_ReadCount.calls kj27 t333 t334 t335 t336 _ ?sideT A49.out).mono ?_); (case sideT => exact Door.below HT.out zb); rintro e w184 ⟨rfl, hb⟩; refine ⟨_, rfl, ?_⟩; have n0_ := Aside0.mk (below_step zb hb); clear HB; have HB := n0_; clear n0_; (try clear hb); (try clear hb2); (try clear hk); (try clear hi)) | ((with_reducible refine gateC (f := 16) rfl ?_); refine goesL_ (some 193) rfl rfl Tryd.func16 (by kernel_rfl) rfl #[.string t333] rfl zm ?_; (with_reducible refine (spec_ReadCount.calls kj27 t333 t337 t338 t339 _ A50.out).mono ?_); rintro e w185 ⟨rfl, hb⟩; refine ⟨_, rfl, ?_⟩; have n0_ := Aside0.mk (below_step zb hb); clear HB; have HB := n0_; clear n0_; (try clear hb); (try clear hb2); (try clear hk); (try clear hi)) | ((with_reducible refine gateC (f := 17) rfl ?_); refine goesL_ (some 198) rfl rfl Tryd.func17 (by kernel_rfl) rfl #[.slice A1 l1.length c1] rfl zm ?_; (with_reducible refine (spec_DrawReadPair.calls _ _ l1 t340 _ ?side1 ?side2 A51.out).mono ?_); (case side1 => exact zq (Kd.C_below HR1.out HB.out)); (case side2 => exact HC1.out); rintro e w186 ⟨rfl, hb⟩; refine ⟨_, rfl, ?_⟩; have n0_ := Aside0.mk (below_step zb hb); clear HB; have HB := n0_; clear n0_; (try clear hb); (try clear hb2); (try clear hk); (try clear hi)) | ((with_reducible refine gateC (f := 14) rfl ?_); refine goesL_ (some 201) rfl rfl Tryd.func14 (by kernel_rfl) rfl #[.string t340] rfl zm ?_; (with_reducible refine (impl_ReadPair.calls kj27 t340 t341 t342 t343 _ ?sideT A52.out).mono ?_); (case sideT => exact Door.below HT.out zb); rintro e w187 ⟨rfl, hb⟩; refine ⟨_, rfl, ?_⟩; have n0_ := Aside0.mk (below_step zb hb); clear HB; have HB := n0_; clear n0_; (try clear hb); (try clear hb2); (try clear hk); (try clear hi)) | ((with_reducible refine gateC (f := 18) rfl ?_); refine goesL_ (some 207) rfl rfl Tryd.func18 (by kernel_rfl) rfl #[.string t340] rfl zm ?_; (with_reducible refine (spec_ReadPair.calls kj27 t340 t344 t345 t346 _ A53.out).mono ?_); rintro e w188 ⟨rfl, hb⟩; refine ⟨_, rfl, ?_⟩; have n0_ := Aside0.mk (below_step zb hb); clear HB; have HB := n0_; clear n0_; (try clear hb); (try clear hb2); (try clear hk); (try clear hi)) | ((with_reducible refine gateC (f := 19) rfl ?_); refine goesL_ (some 212) rfl rfl Tryd.func19 (by kernel_rfl) rfl #[.slice A1 l1.length c1] rfl zm ?_; (with_reducible refine (spec_DrawReadEnd.calls _ _ l1 t347 _ ?side1 ?side2 A54.out).mono ?_); (case side1 => exact zq (Kd.C_below HR1.out HB.out)); (case side2 => exact HC1.out); rintro e w189 ⟨rfl, hb⟩; refine ⟨_, rfl, ?_⟩; have n0_ := Aside0.mk (below_step zb hb); clear HB; have HB := n0_; clear n0_; (try clear hb); (try clear hb2); (try clear hk); (try clear hi)) | ((with_reducible refine gateC (f := 20) rfl ?_); refine goesL_ (some 215) rfl rfl Tryd.func20 (by kernel_rfl) rfl #[.string t347] rfl zm ?_; (with_reducible refine (impl_ReadEnd.calls kj27 t347 t348 t349 t350 _ ?sideT A55.out).mono ?_); (case sideT => exact Door.below HT.out zb); rintro e w190 ⟨rfl, hb⟩; refine ⟨_, rfl, ?_⟩; have n0_ := Aside0.mk (below_step zb hb); clear HB; have HB := n0_; clear n0_; (try clear hb); (try clear hb2); (try clear hk); (try clear hi)) | ((with_reducible refine gateC (f := 21) rfl ?_); refine goesL_ (some 221) rfl rfl Tryd.func21 (by kernel_rfl) rfl #[.string t347] rfl zm ?_; (with_reducible refine (spec_ReadEnd.calls kj27 t347 t351 t352 t353 _ A56.out).mono ?_); rintro e w191 ⟨rfl, hb⟩; refine ⟨_, rfl, ?_⟩; have n0_ := Aside0.mk (below_step zb hb); clear HB; have HB := n0_; clear n0_; (try clear hb); (try clear hb2); (try clear hk); (try clear hi)) | ((with_reducible refine gateC (f := 22) rfl ?_); refine goesL_ (some 226) rfl rfl Tryd.func22 (by kernel_rfl) rfl #[.slice A1 l1.length c1] rfl zm ?_; (with_reducible refine (spec_DrawReadNumber.calls _ _ l1 t354 _ ?side1 ?side2 A57.out).mono ?_); (case side1 => exact zq (Kd.C_below HR1.out HB.out)); (case side2 => exact HC1.out); rintro e w192 ⟨rfl, hb⟩; refine ⟨_, rfl, ?_⟩; have n0_ := Aside0.mk (below_step zb hb); clear HB; have HB := n0_; clear n0_; (try clear hb); (try clear hb2); (try clear hk); (try clear hi)) | ((with_reducible refine gateC (f := 23) rfl ?_); refine goesL_ (some 229) rfl rfl Tryd.func23 (by kernel_rfl) rfl #[.string t354] rfl zm ?_; (with_reducible refine (impl_ReadNumber.calls t354 t355 t356 _ ?sideT A58.out).mono ?_); (case sideT => exact Door.below HT.out zb); rintro e w193 ⟨rfl, hb⟩; refine ⟨_, rfl, ?_⟩; have n0_ := Aside0.mk (below_step zb hb); clear HB; have HB := n0_; clear n0_; (try clear hb); (try clear hb2); (try clear hk); (try clear hi)) | ((with_reducible refine gateC (f := 24) rfl ?_); refine goesL_ (some 234) rfl rfl Tryd.func24 (by kernel_rfl) rfl #[.string t354] rfl zm ?_; (with_reducible refine (spec_ReadNumber.calls kj27 t354 t357 t358 _ A59.out).mono ?_); rintro e w' ⟨rfl, ⟨nd, rfl⟩⟩; refine ⟨_, rfl, ?_⟩))
                         go_ret
                         exact ⟨by first | rfl | (simp [errW_none, errW_some] <;> rfl) | (simp [*, errW_none, errW_some] <;> rfl), by repeat (first | (with_reducible first | exact HB.out | apply below_alloc | apply pw_below_drewN | apply below_drew1) | exact HB.out)⟩
                 ·as_aux_lemma =>
                    rw [if_neg c62] at H
                    have c62b0 : (t335 == t338) = false := beq_eq_false_iff_ne.mpr c62
                    have c62b1 : (t335 != t338) = true := bne_iff_ne.mpr c62
                    first
                    | exact absurd (show false = true from (Option.some.inj H).trans HR_.out) Bool.false_ne_true
                    | obtain rfl := Option.some.inj H
                      go_wp2_with (first | ((with_reducible refine gateC (f := 15) rfl ?_); refine goesL_ (some 184) rfl rfl Tryd.func15 (by kernel_rfl) rfl #[.slice A1 l1.length c1] rfl zm ?_; (with_reducible refine (spec_DrawReadCount.calls _ _ l1 t333 _ ?side1 ?side2 A48.out).mono ?_); (case side1 => exact zq (Kd.C_below HR1.out HB.out)); (case side2 => exact HC1.out); rintro e w194 ⟨rfl, hb⟩; refine ⟨_, rfl, ?_⟩; have n0_ := Aside0.mk (below_step zb hb); clear HB; have HB := n0_; clear n0_; (try clear hb); (try clear hb2); (try clear hk); (try clear hi)) | ((with_reducible refine gateC (f := 13) rfl ?_); refine goesL_ (some 187) rfl rfl Tryd.func13 (by kernel_rfl) rfl #[.string t333] rfl zm ?_; (with_reducible refine (impl_ReadCount.calls kj27 t333 t334 t335 t336 _ ?sideT A49.out).mono ?_); (case sideT => exact Door.below HT.out zb); rintro e w195 ⟨rfl, hb⟩; refine ⟨_, rfl, ?_⟩; have n0_ := Aside0.mk (below_step zb hb); clear HB; have HB := n0_; clear n0_; (try clear hb); (try clear hb2); (try clear hk); (try clear hi)) | ((with_reducible refine gateC (f := 16) rfl ?_); refine goesL_ (some 193) rfl rfl Tryd.func16 (by kernel_rfl) rfl #[.string t333] rfl zm ?_; (with_reducible refine (spec_ReadCount.calls kj27 t333 t337 t338 t339 _ A50.out).mono ?_); rintro e w196 ⟨rfl, hb⟩; refine ⟨_, rfl, ?_⟩; have n0_ := Aside0.mk (below_step zb hb); clear HB; have HB := n0_; clear n0_; (try clear hb); (try clear hb2); (try clear hk); (try clear hi)) | ((with_reducible refine gateC (f := 17) rfl ?_); refine goesL_ (some 198) rfl rfl Tryd.func17 (by kernel_rfl) rfl #[.slice A1 l1.length c1] rfl zm ?_; (with_reducible refine (spec_DrawReadPair.calls _ _ l1 t340 _ ?side1 ?side2 A51.out).mono ?_); (case side1 => exact zq (Kd.C_below HR1.out HB.out)); (case side2 => exact HC1.out); rintro e w197 ⟨rfl, hb⟩; refine ⟨_, rfl, ?_⟩; have n0_ := Aside0.mk (below_step zb hb); clear HB; have HB := n0_; clear n0_; (try clear hb); (try clear hb2); (try clear hk); (try clear hi)) | ((with_reducible refine gateC (f := 14) rfl ?_); refine goesL_ (some 201) rfl rfl Tryd.func14 (by kernel_rfl) rfl #[.string t340] rfl zm ?_; (with_reducible refine (impl_ReadPair.calls kj27 t340 t341 t342 t343 _ ?sideT A52.out).mono ?_); (case sideT => exact Door.below HT.out zb); rintro e w198 ⟨rfl, hb⟩; refine ⟨_, rfl, ?_⟩; have n0_ := Aside0.mk (below_step zb hb); clear HB; have HB := n0_; clear n0_; (try clear hb); (try clear hb2); (try clear hk); (try clear hi)) | ((with_reducible refine gateC (f := 18) rfl ?_); refine goesL_ (some 207) rfl rfl Tryd.func18 (by kernel_rfl) rfl #[.string t340] rfl zm ?_; (with_reducible refine (spec_ReadPair.calls kj27 t340 t344 t345 t346 _ A53.out).mono ?_); rintro e w199 ⟨rfl, hb⟩; refine ⟨_, rfl, ?_⟩; have n0_ := Aside0.mk (below_step zb hb); clear HB; have HB := n0_; clear n0_; (try clear hb); (try clear hb2); (try clear hk); (try clear hi)) | ((with_reducible refine gateC (f := 19) rfl ?_); refine goesL_ (some 212) rfl rfl Tryd.func19 (by kernel_rfl) rfl #[.slice A1 l1.length c1] rfl zm ?_; (with_reducible refine (spec_DrawReadEnd.calls _ _ l1 t347 _ ?side1 ?side2 A54.out).mono ?_); (case side1 => exact zq (Kd.C_below HR1.out HB.out)); (case side2 => exact HC1.out); rintro e w200 ⟨rfl, hb⟩; refine ⟨_, rfl, ?_⟩; have n0_ := Aside0.mk (below_step zb hb); clear HB; have HB := n0_; clear n0_; (try clear hb); (try clear hb2); (try clear hk); (try clear hi)) | ((with_reducible refine gateC (f := 20) rfl ?_); refine goesL_ (some 215) rfl rfl Tryd.func20 (by kernel_rfl) rfl #[.string t347] rfl zm ?_; (with_reducible refine (impl_ReadEnd.calls kj27 t347 t348 t349 t350 _ ?sideT A55.out).mono ?_); (case sideT => exact Door.below HT.out zb); rintro e w201 ⟨rfl, hb⟩; refine ⟨_, rfl, ?_⟩; have n0_ := Aside0.mk (below_step zb hb); clear HB; have HB := n0_; clear n0_; (try clear hb); (try clear hb2); (try clear hk); (try clear hi)) | ((with_reducible refine gateC (f := 21) rfl ?_); refine goesL_ (some 221) rfl rfl Tryd.func21 (by kernel_rfl) rfl #[.string t347] rfl zm ?_; (with_reducible refine (spec_ReadEnd.calls kj27 t347 t351 t352 t353 _ A56.out).mono ?_); rintro e w202 ⟨rfl, hb⟩; refine ⟨_, rfl, ?_⟩; have n0_ := Aside0.mk (below_step zb hb); clear HB; have HB := n0_; clear n0_; (try clear hb); (try clear hb2); (try clear hk); (try clear hi)) | ((with_reducible refine gateC (f := 22) rfl ?_); refine goesL_ (some 226) rfl rfl Tryd.func22 (by kernel_rfl) rfl #[.slice A1 l1.length c1] rfl zm ?_; (with_reducible refine (spec_DrawReadNumber.calls _ _ l1 t354 _ ?side1 ?side2 A57.out).mono ?_); (case side1 => exact zq (Kd.C_below HR1.out HB.out)); (case side2 => exact HC1.out); rintro e w203 ⟨rfl, hb⟩; refine ⟨_, rfl, ?_⟩; have n0_ := Aside0.mk (below_step zb hb); clear HB; have HB := n0_; clear n0_; (try clear hb); (try clear hb2); (try clear hk); (try clear hi)) | ((with_reducible refine gateC (f := 23) rfl ?_); refine goesL_ (some 229) rfl rfl Tryd.func23 (by kernel_rfl) rfl #[.string t354] rfl zm ?_; (with_reducible refine (impl_ReadNumber.calls t354 t355 t356 _ ?sideT A58.out).mono ?_); (case sideT => exact Door.below HT.out zb); rintro e w204 ⟨rfl, hb⟩; refine ⟨_, rfl, ?_⟩; have n0_ := Aside0.mk (below_step zb hb); clear HB; have HB := n0_; clear n0_; (try clear hb); (try clear hb2); (try clear hk); (try clear hi)) | ((with_reducible refine gateC (f := 24) rfl ?_); refine goesL_ (some 234) rfl rfl Tryd.func24 (by kernel_rfl) rfl #[.string t354] rfl zm ?_; (with_reducible refine (spec_ReadNumber.calls kj27 t354 t357 t358 _ A59.out).mono ?_); rintro e w' ⟨rfl, ⟨nd, rfl⟩⟩; refine ⟨_, rfl, ?_⟩))
                      go_ret
                      exact ⟨by first | rfl | (simp [errW_none, errW_some] <;> rfl) | (simp [*, errW_none, errW_some] <;> rfl), by repeat (first | (with_reducible first | exact HB.out | apply below_alloc | apply pw_below_drewN | apply below_drew1) | exact HB.out)⟩
              ·as_aux_lemma =>
                 rw [if_neg c61] at H
                 have c61b0 : (t334 == t337) = false := beq_eq_false_iff_ne.mpr c61
                 have c61b1 : (t334 != t337) = true := bne_iff_ne.mpr c61
                 first
                 | exact absurd (show false = true from (Option.some.inj H).trans HR_.out) Bool.false_ne_true
                 | obtain rfl := Option.some.inj H
                   go_wp2_with (first | ((with_reducible refine gateC (f := 15) rfl ?_); refine goesL_ (some 184) rfl rfl Tryd.func15 (by kernel_rfl) rfl #[.slice A1 l1.length c1] rfl zm ?_; (with_reducible refine (spec_DrawReadCount.calls _ _ l1 t333 _ ?side1 ?side2 A48.out).mono ?_); (case side1 => exact zq (Kd.C_below HR1.out HB.out)); (case side2 => exact HC1.out); rintro e w205 ⟨rfl, hb⟩; refine ⟨_, rfl, ?_⟩; have n0_ := Aside0.mk (below_step zb hb); clear HB; have HB := n0_; clear n0_; (try clear hb); (try clear hb2); (try clear hk); (try clear hi)) | ((with_reducible refine gateC (f := 13) rfl ?_); refine goesL_ (some 187) rfl rfl Tryd.func13 (by kernel_rfl) rfl #[.string t333] rfl zm ?_; (with_reducible refine (impl_ReadCount.calls kj27 t333 t334 t335 t336 _ ?sideT A49.out).mono ?_); (case sideT => exact Door.below HT.out zb); rintro e w206 ⟨rfl, hb⟩; refine ⟨_, rfl, ?_⟩; have n0_ := Aside0.mk (below_step zb hb); clear HB; have HB := n0_; clear n0_; (try clear hb); (try clear hb2); (try clear hk); (try clear hi)) | ((with_reducible refine gateC (f := 16) rfl ?_); refine goesL_ (some 193) rfl rfl Tryd.func16 (by kernel_rfl) rfl #[.string t333] rfl zm ?_; (with_reducible refine (spec_ReadCount.calls kj27 t333 t337 t338 t339 _ A50.out).mono ?_); rintro e w207 ⟨rfl, hb⟩; refine ⟨_, rfl, ?_⟩; have n0_ := Aside0.mk (below_step zb hb); clear HB; have HB := n0_; clear n0_; (try clear hb); (try clear hb2); (try clear hk); (try clear hi)) | ((with_reducible refine gateC (f := 17) rfl ?_); refine goesL_ (some 198) rfl rfl Tryd.func17 (by kernel_rfl) rfl #[.slice A1 l1.length c1] rfl zm ?_; (with_reducible refine (spec_DrawReadPair.calls _ _ l1 t340 _ ?side1 ?side2 A51.out).mono ?_); (case side1 => exact zq (Kd.C_below HR1.out HB.out)); (case side2 => exact HC1.out); rintro e w208 ⟨rfl, hb⟩; refine ⟨_, rfl, ?_⟩; have n0_ := Aside0.mk (below_step zb hb); clear HB; have HB := n0_; clear n0_; (try clear hb); (try clear hb2); (try clear hk); (try clear hi)) | ((with_reducible refine gateC (f := 14) rfl ?_); refine goesL_ (some 201) rfl rfl Tryd.func14 (by kernel_rfl) rfl #[.string t340] rfl zm ?_; (with_reducible refine (impl_ReadPair.calls kj27 t340 t341 t342 t343 _ ?sideT A52.out).mono ?_); (case sideT => exact Door.below HT.out zb); rintro e w209 ⟨rfl, hb⟩; refine ⟨_, rfl, ?_⟩; have n0_ := Aside0.mk (below_step zb hb); clear HB; have HB := n0_; clear n0_; (try clear hb); (try clear hb2); (try clear hk); (try clear hi)) | ((with_reducible refine gateC (f := 18) rfl ?_); refine goesL_ (some 207) rfl rfl Tryd.func18 (by kernel_rfl) rfl #[.string t340] rfl zm ?_; (with_reducible refine (spec_ReadPair.calls kj27 t340 t344 t345 t346 _ A53.out).mono ?_); rintro e w210 ⟨rfl, hb⟩; refine ⟨_, rfl, ?_⟩; have n0_ := Aside0.mk (below_step zb hb); clear HB; have HB := n0_; clear n0_; (try clear hb); (try clear hb2); (try clear hk); (try clear hi)) | ((with_reducible refine gateC (f := 19) rfl ?_); refine goesL_ (some 212) rfl rfl Tryd.func19 (by kernel_rfl) rfl #[.slice A1 l1.length c1] rfl zm ?_; (with_reducible refine (spec_DrawReadEnd.calls _ _ l1 t347 _ ?side1 ?side2 A54.out).mono ?_); (case side1 => exact zq (Kd.C_below HR1.out HB.out)); (case side2 => exact HC1.out); rintro e w211 ⟨rfl, hb⟩; refine ⟨_, rfl, ?_⟩; have n0_ := Aside0.mk (below_step zb hb); clear HB; have HB := n0_; clear n0_; (try clear hb); (try clear hb2); (try clear hk); (try clear hi)) | ((with_reducible refine gateC (f := 20) rfl ?_); refine goesL_ (some 215) rfl rfl Tryd.func20 (by kernel_rfl) rfl #[.string t347] rfl zm ?_; (with_reducible refine (impl_ReadEnd.calls kj27 t347 t348 t349 t350 _ ?sideT A55.out).mono ?_); (case sideT => exact Door.below HT.out zb); rintro e w212 ⟨rfl, hb⟩; refine ⟨_, rfl, ?_⟩; have n0_ := Aside0.mk (below_step zb hb); clear HB; have HB := n0_; clear n0_; (try clear hb); (try clear hb2); (try clear hk); (try clear hi)) | ((with_reducible refine gateC (f := 21) rfl ?_); refine goesL_ (some 221) rfl rfl Tryd.func21 (by kernel_rfl) rfl #[.string t347] rfl zm ?_; (with_reducible refine (spec_ReadEnd.calls kj27 t347 t351 t352 t353 _ A56.out).mono ?_); rintro e w213 ⟨rfl, hb⟩; refine ⟨_, rfl, ?_⟩; have n0_ := Aside0.mk (below_step zb hb); clear HB; have HB := n0_; clear n0_; (try clear hb); (try clear hb2); (try clear hk); (try clear hi)) | ((with_reducible refine gateC (f := 22) rfl ?_); refine goesL_ (some 226) rfl rfl Tryd.func22 (by kernel_rfl) rfl #[.slice A1 l1.length c1] rfl zm ?_; (with_reducible refine (spec_DrawReadNumber.calls _ _ l1 t354 _ ?side1 ?side2 A57.out).mono ?_); (case side1 => exact zq (Kd.C_below HR1.out HB.out)); (case side2 => exact HC1.out); rintro e w214 ⟨rfl, hb⟩; refine ⟨_, rfl, ?_⟩; have n0_ := Aside0.mk (below_step zb hb); clear HB; have HB := n0_; clear n0_; (try clear hb); (try clear hb2); (try clear hk); (try clear hi)) | ((with_reducible refine gateC (f := 23) rfl ?_); refine goesL_ (some 229) rfl rfl Tryd.func23 (by kernel_rfl) rfl #[.string t354] rfl zm ?_; (with_reducible refine (impl_ReadNumber.calls t354 t355 t356 _ ?sideT A58.out).mono ?_); (case sideT => exact Door.below HT.out zb); rintro e w215 ⟨rfl, hb⟩; refine ⟨_, rfl, ?_⟩; have n0_ := Aside0.mk (below_step zb hb); clear HB; have HB := n0_; clear n0_; (try clear hb); (try clear hb2); (try clear hk); (try clear hi)) | ((with_reducible refine gateC (f := 24) rfl ?_); refine goesL_ (some 234) rfl rfl Tryd.func24 (by kernel_rfl) rfl #[.string t354] rfl zm ?_; (with_reducible refine (spec_ReadNumber.calls kj27 t354 t357 t358 _ A59.out).mono ?_); rintro e w' ⟨rfl, ⟨nd, rfl⟩⟩; refine ⟨_, rfl, ?_⟩))
                   go_ret
                   exact ⟨by first | rfl | (simp [errW_none, errW_some] <;> rfl) | (simp [*, errW_none, errW_some] <;> rfl), by repeat (first | (with_reducible first | exact HB.out | apply below_alloc | apply pw_below_drewN | apply below_drew1) | exact HB.out)⟩
           ·as_aux_lemma =>
              rw [if_neg c60] at H
              have c60b0 : (t336 == t339) = false := by simpa using c60
              (try (have c60b1 : decide (t336 = t339) = false := by simpa using c60))
              (try (have c60b2 : (t336 == t339) = false := by simpa using c60))
              (try (have c60b3 : ¬ (t336 = t339) := by simpa using c60))
              clear c60
              first
              | exact absurd (show false = true from (Option.some.inj H).trans HR_.out) Bool.false_ne_true
              | obtain rfl := Option.some.inj H
                go_wp2_with (first | ((with_reducible refine gateC (f := 15) rfl ?_); refine goesL_ (some 184) rfl rfl Tryd.func15 (by kernel_rfl) rfl #[.slice A1 l1.length c1] rfl zm ?_; (with_reducible refine (spec_DrawReadCount.calls _ _ l1 t333 _ ?side1 ?side2 A48.out).mono ?_); (case side1 => exact zq (Kd.C_below HR1.out HB.out)); (case side2 => exact HC1.out); rintro e w216 ⟨rfl, hb⟩; refine ⟨_, rfl, ?_⟩; have n0_ := Aside0.mk (below_step zb hb); clear HB; have HB := n0_; clear n0_; (try clear hb); (try clear hb2); (try clear hk); (try clear hi)) | ((with_reducible refine gateC (f := 13) rfl ?_); refine goesL_ (some 187) rfl rfl Tryd.func13 (by kernel_rfl) rfl #[.string t333] rfl zm ?_; (with_reducible refine (impl_ReadCount.calls kj27 t333 t334 t335 t336 _ ?sideT A49.out).mono ?_); (case sideT => exact Door.below HT.out zb); rintro e w217 ⟨rfl, hb⟩; refine ⟨_, rfl, ?_⟩; have n0_ := Aside0.mk (below_step zb hb); clear HB; have HB := n0_; clear n0_; (try clear hb); (try clear hb2); (try clear hk); (try clear hi)) | ((with_reducible refine gateC (f := 16) rfl ?_); refine goesL_ (some 193) rfl rfl Tryd.func16 (by kernel_rfl) rfl #[.string t333] rfl zm ?_; (with_reducible refine (spec_ReadCount.calls kj27 t333 t337 t338 t339 _ A50.out).mono ?_); rintro e w218 ⟨rfl, hb⟩; refine ⟨_, rfl, ?_⟩; have n0_ := Aside0.mk (below_step zb hb); clear HB; have HB := n0_; clear n0_; (try clear hb); (try clear hb2); (try clear hk); (try clear hi)) | ((with_reducible refine gateC (f := 17) rfl ?_); refine goesL_ (some 198) rfl rfl Tryd.func17 (by kernel_rfl) rfl #[.slice A1 l1.length c1] rfl zm ?_; (with_reducible refine (spec_DrawReadPair.calls _ _ l1 t340 _ ?side1 ?side2 A51.out).mono ?_); (case side1 => exact zq (Kd.C_below HR1.out HB.out)); (case side2 => exact HC1.out); rintro e w219 ⟨rfl, hb⟩; refine ⟨_, rfl, ?_⟩; have n0_ := Aside0.mk (below_step zb hb); clear HB; have HB := n0_; clear n0_; (try clear hb); (try clear hb2); (try clear hk); (try clear hi)) | ((with_reducible refine gateC (f := 14) rfl ?_); refine goesL_ (some 201) rfl rfl Tryd.func14 (by kernel_rfl) rfl #[.string t340] rfl zm ?_; (with_reducible refine (impl_ReadPair.calls kj27 t340 t341 t342 t343 _ ?sideT A52.out).mono ?_); (case sideT => exact Door.below HT.out zb); rintro e w220 ⟨rfl, hb⟩; refine ⟨_, rfl, ?_⟩; have n0_ := Aside0.mk (below_step zb hb); clear HB; have HB := n0_; clear n0_; (try clear hb); (try clear hb2); (try clear hk); (try clear hi)) | ((with_reducible refine gateC (f := 18) rfl ?_); refine goesL_ (some 207) rfl rfl Tryd.func18 (by kernel_rfl) rfl #[.string t340] rfl zm ?_; (with_reducible refine (spec_ReadPair.calls kj27 t340 t344 t345 t346 _ A53.out).mono ?_); rintro e w221 ⟨rfl, hb⟩; refine ⟨_, rfl, ?_⟩; have n0_ := Aside0.mk (below_step zb hb); clear HB; have HB := n0_; clear n0_; (try clear hb); (try clear hb2); (try clear hk); (try clear hi)) | ((with_reducible refine gateC (f := 19) rfl ?_); refine goesL_ (some 212) rfl rfl Tryd.func19 (by kernel_rfl) rfl #[.slice A1 l1.length c1] rfl zm ?_; (with_reducible refine (spec_DrawReadEnd.calls _ _ l1 t347 _ ?side1 ?side2 A54.out).mono ?_); (case side1 => exact zq (Kd.C_below HR1.out HB.out)); (case side2 => exact HC1.out); rintro e w222 ⟨rfl, hb⟩; refine ⟨_, rfl, ?_⟩; have n0_ := Aside0.mk (below_step zb hb); clear HB; have HB := n0_; clear n0_; (try clear hb); (try clear hb2); (try clear hk); (try clear hi)) | ((with_reducible refine gateC (f := 20) rfl ?_); refine goesL_ (some 215) rfl rfl Tryd.func20 (by kernel_rfl) rfl #[.string t347] rfl zm ?_; (with_reducible refine (impl_ReadEnd.calls kj27 t347 t348 t349 t350 _ ?sideT A55.out).mono ?_); (case sideT => exact Door.below HT.out zb); rintro e w223 ⟨rfl, hb⟩; refine ⟨_, rfl, ?_⟩; have n0_ := Aside0.mk (below_step zb hb); clear HB; have HB := n0_; clear n0_; (try clear hb); (try clear hb2); (try clear hk); (try clear hi)) | ((with_reducible refine gateC (f := 21) rfl ?_); refine goesL_ (some 221) rfl rfl Tryd.func21 (by kernel_rfl) rfl #[.string t347] rfl zm ?_; (with_reducible refine (spec_ReadEnd.calls kj27 t347 t351 t352 t353 _ A56.out).mono ?_); rintro e w224 ⟨rfl, hb⟩; refine ⟨_, rfl, ?_⟩; have n0_ := Aside0.mk (below_step zb hb); clear HB; have HB := n0_; clear n0_; (try clear hb); (try clear hb2); (try clear hk); (try clear hi)) | ((with_reducible refine gateC (f := 22) rfl ?_); refine goesL_ (some 226) rfl rfl Tryd.func22 (by kernel_rfl) rfl #[.slice A1 l1.length c1] rfl zm ?_; (with_reducible refine (spec_DrawReadNumber.calls _ _ l1 t354 _ ?side1 ?side2 A57.out).mono ?_); (case side1 => exact zq (Kd.C_below HR1.out HB.out)); (case side2 => exact HC1.out); rintro e w225 ⟨rfl, hb⟩; refine ⟨_, rfl, ?_⟩; have n0_ := Aside0.mk (below_step zb hb); clear HB; have HB := n0_; clear n0_; (try clear hb); (try clear hb2); (try clear hk); (try clear hi)) | ((with_reducible refine gateC (f := 23) rfl ?_); refine goesL_ (some 229) rfl rfl Tryd.func23 (by kernel_rfl) rfl #[.string t354] rfl zm ?_; (with_reducible refine (impl_ReadNumber.calls t354 t355 t356 _ ?sideT A58.out).mono ?_); (case sideT => exact Door.below HT.out zb); rintro e w226 ⟨rfl, hb⟩; refine ⟨_, rfl, ?_⟩; have n0_ := Aside0.mk (below_step zb hb); clear HB; have HB := n0_; clear n0_; (try clear hb); (try clear hb2); (try clear hk); (try clear hi)) | ((with_reducible refine gateC (f := 24) rfl ?_); refine goesL_ (some 234) rfl rfl Tryd.func24 (by kernel_rfl) rfl #[.string t354] rfl zm ?_; (with_reducible refine (spec_ReadNumber.calls kj27 t354 t357 t358 _ A59.out).mono ?_); rintro e w' ⟨rfl, ⟨nd, rfl⟩⟩; refine ⟨_, rfl, ?_⟩))
                go_ret
                exact ⟨by first | rfl | (simp [errW_none, errW_some] <;> rfl) | (simp [*, errW_none, errW_some] <;> rfl), by repeat (first | (with_reducible first | exact HB.out | apply below_alloc | apply pw_below_drewN | apply below_drew1) | exact HB.out)⟩

end Go.Proofs.YtgcibnkdomegkaaDoor.My

/- Written by this session's program (wip/gen): the law's pure statement. -/
namespace Go.Proofs.YtgcibnkdomegkaaDoor.My
open Go.RowKit Go.Proofs.YtgcibnkdomegkaaDoorW.PrintWords Go.Proofs.YtgcibnkdomegkaaDoorW.PrintLast Go.Proofs.YtgcibnkdomegkaaDoorW.PrintMore
attribute [local go_sem] max2_int min2_int max_two min_two max_three min_three max_four min_four
set_option linter.unusedVariables false
set_option linter.unusedSimpArgs false

/-- What is left to prove of laws_FnNumbers. -/
def laws_FnNumbers.Pure : Prop := ∀ (l0 : List Int) (l1 : List Int), (WL Wu8) l0 → (WL Wu8) l1 → ∃ k, laws_FnNumbers.f k l0 l1 = some true
end Go.Proofs.YtgcibnkdomegkaaDoor.My

/- Plain Lean, no program in sight: what holds from some number of rounds on, whole numbers that do not wrap, lists by an index. -/
namespace Go.Proofs.YtgcibnkdomegkaaDoor.Pl
open Go.RowKit Go.Proofs.YtgcibnkdomegkaaDoorW.PrintWords Go.Proofs.YtgcibnkdomegkaaDoorW.PrintLast
set_option linter.unusedVariables false
set_option linter.unusedSimpArgs false

section
variable {α β : Type}
theorem ev_pos {c : Prop} [Decidable c] {g g' : Nat → Option α} {r : α} (hc : c) (h : Ev g r) : Ev (fun k => if c then g k else g' k) r :=
  Ev.congr (fun _ => if_pos hc) h
theorem ev_neg {c : Prop} [Decidable c] {g g' : Nat → Option α} {r : α} (hc : ¬ c) (h : Ev g' r) : Ev (fun k => if c then g k else g' k) r :=
  Ev.congr (fun _ => if_neg hc) h
theorem ev_ite {c : Prop} [Decidable c] {g g' : Nat → Option α} {r : α} (h : c → Ev g r) (h' : ¬ c → Ev g' r) : Ev (fun k => if c then g k else g' k) r := by
  by_cases hc : c
  · exact ev_pos hc (h hc)
  · exact ev_neg hc (h' hc)
theorem ev_some {r r' : α} (h : r = r') : Ev (fun _ => some r) r' := h ▸ Ev.now r
theorem ev_const {o : Option α} {r : α} (h : o = some r) : Ev (fun _ => o) r := ⟨0, fun _ _ => h⟩
theorem ev_to {g : Nat → Option α} {r r' : α} (h : Ev g r) (e : r = r') : Ev g r' := e ▸ h
theorem ev_bind {g : Nat → Option α} {f : Nat → α → Option β} {a : α} {r : β} (h : Ev g a) (k : Ev (fun n => f n a) r) : Ev (fun n => (g n).bind fun t => f n t) r := Ev.bind h k
end

theorem wrap64_id {x : Int} (h : -9223372036854775808 ≤ x) (h' : x ≤ 9223372036854775807) : wrap64 x = x := by
  unfold wrap64
  omega
theorem wrap_succ (i : Nat) (h : i < 9223372036854775807) : wrap64 ((i : Int) + 1) = ((i + 1 : Nat) : Int) := by
  rw [wrap64_id (by omega) (by omega)]
  omega
theorem wrap_pred (n : Nat) (h0 : 0 < n) (h : n ≤ 9223372036854775807) : wrap64 ((n : Int) - 1) = ((n - 1 : Nat) : Int) := by
  rw [wrap64_id (by omega) (by omega)]
  omega
theorem wrap_sub (n m : Nat) (h0 : m ≤ n) (h : n ≤ 9223372036854775807) : wrap64 ((n : Int) - (m : Int)) = ((n - m : Nat) : Int) := by
  rw [wrap64_id (by omega) (by omega)]
  omega
theorem wrap_add (n m : Nat) (h : n + m ≤ 9223372036854775807) : wrap64 ((n : Int) + (m : Int)) = ((n + m : Nat) : Int) := by
  rw [wrap64_id (by omega) (by omega)]
  omega

theorem rdOf_nat {α : Type} (d : α) (xs : List α) (i : Nat) : rdOf d xs (i : Int) = xs.getD i d := rfl
theorem rd_nat (xs : List Int) (i : Nat) : rd xs (i : Int) = xs.getD i 0 := rfl
theorem getD_lt {α : Type} (xs : List α) (d : α) (i : Nat) (h : i < xs.length) : xs.getD i d = xs[i] := by
  simp [List.getD_eq_getElem?_getD, List.getElem?_eq_getElem h]
theorem rdOf_lt {α : Type} (d : α) (xs : List α) (i : Nat) (h : i < xs.length) : rdOf d xs (i : Int) = xs[i] := getD_lt xs d i h
theorem ba_ext {a b : ByteArray} (h : a.toList = b.toList) : a = b := by
  rw [Lib.toList_data, Lib.toList_data] at h
  cases a with | mk a => cases b with | mk b =>
  cases a with | mk a => cases b with | mk b =>
  simp_all
theorem ba_iff {a b : ByteArray} : a.toList = b.toList ↔ a = b := ⟨ba_ext, fun h => by rw [h]⟩
theorem drop_cons {α : Type} (xs : List α) (i : Nat) (h : i < xs.length) : xs.drop i = xs[i] :: xs.drop (i + 1) := List.drop_eq_getElem_cons h
theorem bt_nat (s : ByteArray) (i : Nat) (h : i < s.size) : bt s (i : Int) = ((s.data.toList[i]'(by rw [data_length]; exact h)).toNat : Int) := by
  unfold bt
  rw [dif_pos (by simpa using h)]
  simp [ByteArray.getElem_eq_getElem_data]
theorem u8_eq {b c : UInt8} (h : (b.toNat : Int) = (c.toNat : Int)) : b = c := UInt8.toNat_inj.1 (by omega)
theorem u8_ne {b c : UInt8} (h : ¬ (b.toNat : Int) = (c.toNat : Int)) : ¬ c = b := fun e => h (by rw [e])
end Go.Proofs.YtgcibnkdomegkaaDoor.Pl

/- Plain Lean: whether a number lies between two. No condition. -/
namespace Go.Proofs.YtgcibnkdomegkaaDoor.Pl
open Go.RowKit Go.Proofs.YtgcibnkdomegkaaDoorW.PrintWords Go.Proofs.YtgcibnkdomegkaaDoorW.PrintLast Go.Proofs.YtgcibnkdomegkaaDoor.My
set_option linter.unusedVariables false
set_option linter.unusedSimpArgs false

def inB (n lo hi : Int) : Bool := decide (lo ≤ n) && decide (n ≤ hi)
theorem inB_iff (a b c : Int) : inB a b c = true ↔ b ≤ a ∧ a ≤ c := by
  unfold inB
  rw [Bool.and_eq_true, decide_eq_true_eq, decide_eq_true_eq]
theorem impl_in_eq (a b c : Int) : impl_in.f a b c = some (inB a b c) := by
  unfold impl_in.f inB
  by_cases h : b ≤ a
  · rw [if_pos h]; simp [h]
  · rw [if_neg (by omega)]; simp [h]
theorem spec_l1In_eq (a b c : Int) : spec_l1In.f a b c = some (inB a b c) := by
  unfold spec_l1In.f inB
  by_cases h : b ≤ a
  · rw [if_pos h]; simp [h]
  · rw [if_neg (by omega)]; simp [h]
end Go.Proofs.YtgcibnkdomegkaaDoor.Pl

/- Plain Lean: the numeral of a whole number, the program's and the reference's. Asked: 0 or more, below 2^62. -/
namespace Go.Proofs.YtgcibnkdomegkaaDoor.Pl
open Go.RowKit Go.Proofs.YtgcibnkdomegkaaDoorW.PrintWords Go.Proofs.YtgcibnkdomegkaaDoorW.PrintLast Go.Proofs.YtgcibnkdomegkaaDoor.My
set_option linter.unusedVariables false
set_option linter.unusedSimpArgs false

def num (n : Nat) : ByteArray := ⟨(Lib.decDigits n).toArray⟩
theorem num_data (n : Nat) : (num n).data.toList = Lib.decDigits n := rfl
theorem num_size (n : Nat) (h : n < 18446744073709551616) : (num n).size ≤ 20 := by
  have h1 : (num n).size = (Lib.decDigits n).length := by rw [← data_length, num_data]
  rw [h1, Lib.decDigits_length]
  exact Lib.nDigits_le20 n h
theorem itoa_eq (n : Nat) (h : n ≤ 9223372036854775807) : strconv_Itoa_44.f (n : Int) = some (num n) := by
  unfold strconv_Itoa_44.f
  rw [if_pos (by omega), Lib.itoa_nonneg]
  rfl
theorem digit_eq (d : Nat) (h : d < 10) : strOfNums [(wrap64 (48 + (d : Int))) % 256] = ⟨#[UInt8.ofNat (48 + d)]⟩ := by
  rw [wrap64_id (by omega) (by omega)]
  have e : ((48 + (d : Int)) % 256) = ((48 + d : Nat) : Int) := by omega
  rw [e]
  unfold strOfNums
  rw [List.map_cons, List.map_nil, Int.toNat_natCast]
theorem l1Num_ev : ∀ (n : Nat), n ≤ 4611686018427387904 → Ev (fun k => spec_l1Num.f k (n : Int)) (num n) := by
  intro n
  induction n using Nat.strongRecOn with
  | _ n ih =>
    intro hn
    refine Ev.step (fun k => spec_l1Num.f.eq_2 ..) ?_
    by_cases h : n < 10
    · refine ev_pos (by omega) (ev_some ?_)
      rw [digit_eq n h]
      unfold num
      rw [Lib.decDigits_one h]
    · have e1 : wrap64 (Int.tdiv (n : Int) 10) = ((n / 10 : Nat) : Int) := by
        rw [Int.tdiv_eq_ediv_of_nonneg (by omega), wrap64_id (by omega) (by omega)]
        omega
      have e2 : Int.tmod (n : Int) 10 = ((n % 10 : Nat) : Int) := by
        rw [Int.tmod_eq_emod_of_nonneg (by omega)]
        omega
      rw [e1, e2]
      refine ev_neg (by omega) (ev_bind (ih (n / 10) (by omega) (by omega)) ?_)
      simp only [Option.bind_some]
      rw [digit_eq (n % 10) (by omega)]
      refine ev_pos ?_ (ev_some ?_)
      · have := num_size (n / 10) (by omega)
        have e3 : (⟨#[UInt8.ofNat (48 + n % 10)]⟩ : ByteArray).size = 1 := rfl
        omega
      · refine ba_ext ?_
        rw [Lib.toList_data, Lib.toList_data, num_data, Lib.decDigits.eq_def n, dif_neg h]
        simp [num, ByteArray.toList_data_append]
end Go.Proofs.YtgcibnkdomegkaaDoor.Pl

/- Plain Lean: a number read of a text, the program's way and the reference's. Asked: texts of at most 2^20 bytes. -/
namespace Go.Proofs.YtgcibnkdomegkaaDoor.Pl
open Go.RowKit Go.Proofs.YtgcibnkdomegkaaDoorW.PrintWords Go.Proofs.YtgcibnkdomegkaaDoorW.PrintLast Go.Proofs.YtgcibnkdomegkaaDoor.My
set_option linter.unusedVariables false
set_option linter.unusedSimpArgs false

theorem digitVal_of (d : Nat) (h : d < 10) : Lib.digitVal (UInt8.ofNat (48 + d)) = some d := by
  unfold Lib.digitVal
  have e : (UInt8.ofNat (48 + d)).toNat = 48 + d := by
    rw [UInt8.toNat_ofNat']
    omega
  rw [e, if_pos (by omega)]
  congr 1
  omega
theorem digitVal_some {b : UInt8} {d : Nat} (h : Lib.digitVal b = some d) : d < 10 ∧ b = UInt8.ofNat (48 + d) := by
  unfold Lib.digitVal at h
  split at h
  · rename_i c
    injection h with h
    refine ⟨by omega, UInt8.toNat_inj.1 ?_⟩
    rw [UInt8.toNat_ofNat']
    omega
  · cases h
theorem decFrom_append : ∀ (l r : List UInt8) (a : Nat), Lib.decFrom a (l ++ r) = (Lib.decFrom a l).bind fun b => Lib.decFrom b r
  | [], r, a => rfl
  | c :: t, r, a => by
    simp only [List.cons_append, Lib.decFrom]
    cases Lib.digitVal c with
    | none => rfl
    | some d => exact decFrom_append t r _
theorem decFrom_one (a : Nat) (b : UInt8) : Lib.decFrom a [b] = (Lib.digitVal b).map fun d => a * 10 + d := by
  simp only [Lib.decFrom]
  cases Lib.digitVal b <;> rfl
theorem decDigits_ne (n : Nat) : Lib.decDigits n ≠ [] := by
  rw [Lib.decDigits.eq_def]
  split
  · simp
  · simp
theorem decFrom_digits : ∀ (n : Nat), Lib.decFrom 0 (Lib.decDigits n) = some n := by
  intro n
  induction n using Nat.strongRecOn with
  | _ n ih =>
    by_cases h : n < 10
    · rw [Lib.decDigits_one h, decFrom_one, digitVal_of n h]
      simp
    · rw [Lib.decDigits.eq_def, dif_neg h, decFrom_append, ih (n / 10) (by omega), Option.bind_some, decFrom_one, digitVal_of _ (by omega)]
      simp only [Option.map_some, Option.some.injEq]
      omega
theorem head_digits : ∀ (n : Nat), 0 < n → (Lib.decDigits n).head? ≠ some 48 := by
  intro n
  induction n using Nat.strongRecOn with
  | _ n ih =>
    intro hn
    by_cases h : n < 10
    · rw [Lib.decDigits_one h]
      intro e
      simp only [List.head?_cons, Option.some.injEq] at e
      have e2 := congrArg UInt8.toNat e
      rw [UInt8.toNat_ofNat'] at e2
      have e3 : (48 : UInt8).toNat = 48 := rfl
      omega
    · rw [Lib.decDigits.eq_def, dif_neg h]
      have h1 := ih (n / 10) (by omega) (by omega)
      have h2 := decDigits_ne (n / 10)
      cases hd : Lib.decDigits (n / 10) with
      | nil => exact absurd hd h2
      | cons c t =>
        rw [hd] at h1
        simpa using h1
theorem digits_of_dec : ∀ (k : Nat) (l : List UInt8) (n : Nat), l.length = k → l ≠ [] → l.head? ≠ some 48 → Lib.decFrom 0 l = some n → Lib.decDigits n = l ∧ 0 < n := by
  intro k
  induction k with
  | zero => intro l n hl hne _ _; exact absurd (List.eq_nil_of_length_eq_zero hl) hne
  | succ k ih =>
    intro l n hl hne hh hd
    obtain ⟨l', b, rfl⟩ : ∃ l' b, l = l' ++ [b] := ⟨l.dropLast, l.getLast hne, (List.dropLast_concat_getLast hne).symm⟩
    rw [List.length_append, List.length_singleton] at hl
    rw [decFrom_append] at hd
    obtain ⟨a, ha, hb⟩ := Option.bind_eq_some_iff.1 hd
    rw [decFrom_one] at hb
    obtain ⟨d, hd', rfl⟩ := Option.map_eq_some_iff.1 hb
    obtain ⟨d1, rfl⟩ := digitVal_some hd'
    cases hl' : l' with
    | nil =>
      subst hl'
      simp only [Lib.decFrom, Option.some.injEq] at ha
      subst ha
      have d0 : d ≠ 0 := fun e => hh (by subst e; rfl)
      refine ⟨?_, by omega⟩
      rw [Lib.decDigits_one (by omega)]
      simp
    | cons c t =>
      rw [← hl']
      have hne' : l' ≠ [] := by rw [hl']; simp
      have hh' : l'.head? ≠ some 48 := by rw [hl'] at hh ⊢; simpa using hh
      obtain ⟨e, p⟩ := ih l' a (by omega) hne' hh' ha
      refine ⟨?_, by omega⟩
      rw [Lib.decDigits.eq_def, dif_neg (by omega), show (a * 10 + d) / 10 = a from by omega, e, show (a * 10 + d) % 10 = d from by omega]

/-- The number that a text is in its one form, of at most four digits. -/
def rd4 (l : List UInt8) : Option Nat := if l.length ≤ 4 ∧ (l.length ≤ 1 ∨ l.head? ≠ some 48) then Lib.decNat l else none
theorem rd4_some {l : List UInt8} {n : Nat} (h : rd4 l = some n) : Lib.decDigits n = l ∧ l.length ≤ 4 ∧ Lib.decNat l = some n := by
  unfold rd4 at h
  split at h
  · rename_i c
    refine ⟨?_, c.1, h⟩
    unfold Lib.decNat at h
    split at h
    · cases h
    · rename_i hne
      have hne : l ≠ [] := by simpa using hne
      by_cases hh : l.head? = some 48
      · have h1 : l.length ≤ 1 := by rcases c.2 with c | c; exact c; exact absurd hh c
        obtain ⟨b, rfl⟩ : ∃ b, l = [b] := by
          cases l with
          | nil => exact absurd rfl hne
          | cons b t => cases t with
            | nil => exact ⟨b, rfl⟩
            | cons _ _ => simp at h1
        simp only [List.head?_cons, Option.some.injEq] at hh
        subst hh
        have e : Lib.decFrom 0 [48] = some 0 := rfl
        rw [e] at h
        injection h with h
        subst h
        exact Lib.decDigits_one (by decide)
      · exact (digits_of_dec l.length l n rfl hne hh h).1
  · cases h
theorem rd4_digits {n : Nat} (h : (Lib.decDigits n).length ≤ 4) : rd4 (Lib.decDigits n) = some n := by
  unfold rd4
  rw [if_pos]
  · unfold Lib.decNat
    rw [if_neg (by simpa using decDigits_ne n)]
    exact decFrom_digits n
  · refine ⟨h, ?_⟩
    by_cases h0 : n = 0
    · subst h0
      rw [Lib.decDigits_one (by decide)]
      exact .inl (Nat.le_refl 1)
    · exact .inr (head_digits n (by omega))
theorem rd4_lt {l : List UInt8} {n : Nat} (h : rd4 l = some n) : n < 10000 := by
  obtain ⟨h1, h2, _⟩ := rd4_some h
  have h3 := Lib.lt_pow_nDigits n
  rw [← Lib.decDigits_length, h1] at h3
  have h4 : 10 ^ l.length ≤ 10 ^ 4 := Nat.pow_le_pow_right (by decide) h2
  omega
theorem size_len (s : ByteArray) : s.data.toList.length = s.size := data_length s
theorem readNumber_some {s : ByteArray} {n : Nat} (h : rd4 s.data.toList = some n) : impl_readNumber.v s = ((n : Int), true) := by
  obtain ⟨h1, h2, h3⟩ := rd4_some h
  have hA : Lib.atoiAll s.data.toList = .ok (n : Int) := by
    cases hl : s.data.toList with
    | nil => rw [hl] at h3; cases h3
    | cons c r =>
      rw [hl] at h2 h3
      have hc : ∃ d, Lib.digitVal c = some d := by
        unfold Lib.decNat at h3
        rw [if_neg (by simp)] at h3
        exact Lib.digit_of_decFrom _ _ _ h3 0 c rfl
      obtain ⟨d, hd⟩ := hc
      obtain ⟨d1, hc⟩ := digitVal_some hd
      have e2 := congrArg UInt8.toNat hc
      rw [UInt8.toNat_ofNat'] at e2
      rw [Lib.atoiAll_plain c r (by omega) (by omega), Lib.signless_short (by omega), h3]
      rfl
  unfold impl_readNumber.v
  rw [hA]
  simp only
  rw [Lib.itoa_nonneg, h1]
  have h4 : s.size ≤ 4 := by rw [← size_len]; exact h2
  have e0 : (s.data.toList == s.toList) = true := by rw [Lib.toList_data]; exact beq_self_eq_true _
  rw [e0, decide_eq_true h4, decide_eq_true (show (0 : Int) ≤ (n : Int) by omega)]
  rfl
theorem readNumber_none {s : ByteArray} (h : rd4 s.data.toList = none) : (impl_readNumber.v s).2 = false := by
  cases hb : (impl_readNumber.v s).2 with
  | false => rfl
  | true =>
    exfalso
    unfold impl_readNumber.v at hb
    rcases hA : Lib.atoiAll s.data.toList with v | _ | _
    · rw [hA] at hb
      simp only [Bool.and_eq_true, decide_eq_true_eq, beq_iff_eq] at hb
      obtain ⟨⟨h0, h4⟩, he⟩ := hb
      obtain ⟨n, rfl⟩ : ∃ n : Nat, v = (n : Int) := ⟨v.toNat, by omega⟩
      rw [Lib.itoa_nonneg, Lib.toList_data] at he
      have := rd4_digits (n := n) (by rw [he, size_len]; exact h4)
      rw [he, h] at this
      cases this
    · rw [hA] at hb; cases hb
    · rw [hA] at hb; cases hb
theorem readNumber_eq (s : ByteArray) (hs : s.size ≤ 1048576) : impl_readNumber.f s = some (impl_readNumber.v s) := by
  unfold impl_readNumber.f
  rw [if_pos (by omega)]

/-- What both ways to read one number come to. -/
def numR (s : ByteArray) : Int × Bool := match rd4 s.data.toList with
  | some n => ((n : Int), true)
  | none => (0, false)
theorem impl_ReadNumber_eq (s : ByteArray) (hs : s.size ≤ 1048576) : impl_ReadNumber.f s = some (numR s) := by
  unfold impl_ReadNumber.f numR
  rw [readNumber_eq s hs, Option.bind_some]
  cases h : rd4 s.data.toList with
  | some n => rw [readNumber_some h]; rfl
  | none => rw [if_neg (by rw [readNumber_none h]; simp)]
theorem bt_drop (s : ByteArray) (i : Nat) (h : i < s.size) : ∃ c, s.data.toList.drop i = c :: s.data.toList.drop (i + 1) ∧ bt s (i : Int) = (c.toNat : Int) := by
  have hl : i < s.data.toList.length := by rw [size_len]; exact h
  exact ⟨s.data.toList[i], List.drop_eq_getElem_cons hl, bt_nat s i h⟩
theorem l1Read_l0 (s : ByteArray) (hs : s.size ≤ 6) : ∀ d i (acc : Nat), i + d = s.size → acc < 10 ^ i → Ev (fun k => spec_l1Read.l0 k s (acc : Int) (i : Int)) (match Lib.decFrom acc (s.data.toList.drop i) with | some n => (n : Int) | none => -1) := by
  intro d
  induction d with
  | zero =>
    intro i acc hi ha
    refine Ev.step (fun k => spec_l1Read.l0.eq_2 ..) (ev_neg (by omega) (ev_some ?_))
    rw [List.drop_eq_nil_of_le (by rw [size_len]; omega)]
    rfl
  | succ d ih =>
    intro i acc hi ha
    obtain ⟨c, hc, hb⟩ := bt_drop s i (by omega)
    have h6 : 10 ^ i ≤ 10 ^ 6 := Nat.pow_le_pow_right (by decide) (by omega)
    have e6 : (10 : Nat) ^ 6 = 1000000 := by decide
    have hc8 := c.toNat_lt
    refine Ev.step (fun k => spec_l1Read.l0.eq_2 ..) (ev_pos (by omega) (ev_pos (by omega) ?_))
    rw [hb, hc]
    simp only [Lib.decFrom, Lib.digitVal]
    by_cases h : 48 ≤ c.toNat ∧ c.toNat ≤ 57
    · rw [if_pos h]
      refine ev_neg (by omega) (ev_neg (by omega) ?_)
      have e1 : wrap64 ((wrap64 (10 * (acc : Int))) + (((c.toNat : Int) - 48) % 256)) = ((acc * 10 + (c.toNat - 48) : Nat) : Int) := by
        rw [wrap64_id (x := 10 * (acc : Int)) (by omega) (by omega), wrap64_id (by omega) (by omega)]
        omega
      rw [e1, wrap_succ i (by omega)]
      exact ih (i + 1) _ (by omega) (by rw [Nat.pow_succ]; omega)
    · rw [if_neg h]
      by_cases h1 : (c.toNat : Int) < 48
      · exact ev_pos h1 (ev_some rfl)
      · exact ev_neg h1 (ev_pos (by omega) (ev_some rfl))
theorem spec_ReadNumber_ev (s : ByteArray) (hs : s.size ≤ 1048576) : Ev (fun k => spec_ReadNumber.f k s) (numR s) := by
  simp only [spec_ReadNumber.f, spec_l1Read.f]
  have hl := size_len s
  by_cases hin : inB (s.size : Int) 1 6 = true
  · have hb := (inB_iff _ _ _).1 hin
    obtain ⟨c, hc, hbt⟩ := bt_drop s 0 (by omega)
    rw [List.drop_zero] at hc
    have go : ∀ b : Bool, b = decide (s.data.toList.head? = some 48 ∧ 1 < s.size) → Ev (fun k => (spec_l1Read.j0 k s b).bind fun t162 => (if (s.size : Int) > 4 then (some ((0 : Int), false)) else (if t162 < 0 then (some (0, false)) else (some (t162, true))))) (numR s) := by
      intro b hbb
      by_cases hd : s.data.toList.head? = some 48 ∧ 1 < s.size
      · rw [decide_eq_true hd] at hbb
        subst hbb
        have eR : numR s = (0, false) := by
          unfold numR rd4
          rw [if_neg (by rintro ⟨_, h | h⟩; omega; exact h hd.1)]
        rw [eR]
        exact ev_bind (a := (-1 : Int)) (Ev.step (fun k => spec_l1Read.j0.eq_2 ..) (ev_pos rfl (ev_some rfl))) (ev_ite (fun _ => ev_some rfl) (fun _ => ev_pos (by decide) (ev_some rfl)))
      · rw [decide_eq_false hd] at hbb
        subst hbb
        refine ev_bind (a := (match Lib.decFrom 0 s.data.toList with | some n => (n : Int) | none => -1)) (Ev.step (fun k => spec_l1Read.j0.eq_2 ..) (ev_neg (by simp) (l1Read_l0 s (by omega) s.size 0 0 (by omega) (by decide)))) ?_
        by_cases h4 : (s.size : Int) > 4
        · have eR : numR s = (0, false) := by
            unfold numR rd4
            rw [if_neg (by omega)]
          rw [eR]
          exact ev_pos h4 (ev_some rfl)
        · have eR : numR s = (match Lib.decFrom 0 s.data.toList with | some n => ((n : Int), true) | none => (0, false)) := by
            have hc2 : s.data.toList.length ≤ 4 ∧ (s.data.toList.length ≤ 1 ∨ s.data.toList.head? ≠ some 48) := by
              refine ⟨by omega, ?_⟩
              by_cases h1 : 1 < s.size
              · exact .inr (fun e => hd ⟨e, h1⟩)
              · exact .inl (by omega)
            unfold numR rd4
            rw [if_pos hc2]
            unfold Lib.decNat
            rw [if_neg (by rw [hc]; simp)]
          rw [eR]
          refine ev_neg h4 ?_
          cases hx : Lib.decFrom 0 s.data.toList with
          | none => exact ev_pos (show (-1 : Int) < 0 by decide) (ev_some rfl)
          | some n => exact ev_neg (show ¬ ((n : Int) < 0) by omega) (ev_some rfl)
    refine Ev.congr (fun k => ?_) (go _ rfl)
    rw [spec_l1In_eq, Option.bind_some, if_pos hin, if_pos (by omega)]
    by_cases h48 : bt s 0 = 48
    · rw [if_pos h48]
      have e : s.data.toList.head? = some 48 := by
        rw [hc]
        simp only [List.head?_cons, Option.some.injEq]
        refine UInt8.toNat_inj.1 ?_
        have := hbt.symm.trans h48
        have e3 : (48 : UInt8).toNat = 48 := rfl
        omega
      have e2 : decide ((s.size : Int) > 1) = decide (s.data.toList.head? = some 48 ∧ 1 < s.size) := by
        rw [e]
        exact decide_eq_decide.2 (by simp; omega)
      rw [e2]
    · rw [if_neg h48]
      have e : ¬ (s.data.toList.head? = some 48 ∧ 1 < s.size) := by
        rintro ⟨e, _⟩
        rw [hc] at e
        simp only [List.head?_cons, Option.some.injEq] at e
        subst e
        exact h48 hbt
      rw [decide_eq_false e]
  · have hq : ∀ k, ((spec_l1In.f (s.size : Int) 1 6).bind fun t161 => (if t161 = true then (if 0 < (s.size : Int) then (if (bt s 0) = 48 then (spec_l1Read.j0 k s (decide ((s.size : Int) > 1))) else (spec_l1Read.j0 k s false)) else (none)) else (spec_l1Read.j0 k s true))) = spec_l1Read.j0 k s true := fun k => by rw [spec_l1In_eq, Option.bind_some, if_neg hin]
    refine Ev.congr (fun k => by rw [hq k]) ?_
    refine ev_bind (a := (-1 : Int)) (Ev.step (fun k => spec_l1Read.j0.eq_2 ..) (ev_pos rfl (ev_some rfl))) ?_
    have e : numR s = (0, false) := by
      unfold numR rd4
      rw [inB_iff] at hin
      by_cases h0 : s.size = 0
      · have hn : s.data.toList = [] := List.eq_nil_of_length_eq_zero (by omega)
        rw [hn]
        rfl
      · rw [if_neg (by omega)]
    rw [e]
    exact ev_ite (fun _ => ev_some rfl) (fun _ => ev_pos (by decide) (ev_some rfl))
end Go.Proofs.YtgcibnkdomegkaaDoor.Pl

/- Plain Lean: a range's two numbers as a text. No condition. -/
namespace Go.Proofs.YtgcibnkdomegkaaDoor.Pl
open Go.RowKit Go.Proofs.YtgcibnkdomegkaaDoorW.PrintWords Go.Proofs.YtgcibnkdomegkaaDoorW.PrintLast Go.Proofs.YtgcibnkdomegkaaDoor.My
set_option linter.unusedVariables false
set_option linter.unusedSimpArgs false

def inRange (a b : Int) : Bool := inB a 0 999 && inB b 0 999
theorem l4Range_eq (a b : Int) : spec_l4Range.f a b = some (inRange a b) := by
  unfold spec_l4Range.f inRange
  rw [spec_l1In_eq, Option.bind_some, spec_l1In_eq, Option.bind_some]
  cases inB a 0 999 <;> rfl
theorem isRange_eq (a b : Int) : impl_isRange.f a b = some (inRange a b) := by
  unfold impl_isRange.f inRange
  rw [impl_in_eq, Option.bind_some, impl_in_eq, Option.bind_some]
  cases inB a 0 999 <;> rfl
theorem inRange_iff (a b : Int) : inRange a b = true ↔ (0 ≤ a ∧ a ≤ 999) ∧ (0 ≤ b ∧ b ≤ 999) := by
  unfold inRange
  rw [Bool.and_eq_true, inB_iff, inB_iff]
/-- The comma between. -/
def comma : ByteArray := ⟨#[44]⟩
def pairV (f l : Nat) : ByteArray := if f = l then num f else num f ++ comma ++ num l
def pairR (a b : Int) : ByteArray × Bool := if inRange a b = true then (pairV (if b > 0 then a + 1 else a).toNat (a + b).toNat, true) else (⟨#[]⟩, false)
theorem num_size' (n : Nat) (h : n ≤ 100000) : (num n).size ≤ 20 := num_size n (by omega)
theorem pairOf_eq (f l : Nat) (hf : f ≤ 100000) (hl : l ≤ 100000) : impl_pairOf.f (f : Int) (l : Int) = some (pairV f l) := by
  unfold impl_pairOf.f pairV
  have h1 := num_size' f hf
  have h2 := num_size' l hl
  by_cases h : f = l
  · rw [if_pos (by omega), if_pos h, itoa_eq f (by omega)]; rfl
  · rw [if_neg (by omega), if_neg h, itoa_eq f (by omega), Option.bind_some, if_pos (by omega), itoa_eq l (by omega), Option.bind_some, if_pos (by
      rw [ByteArray.size_append, show (⟨#[44]⟩ : ByteArray).size = 1 from rfl]; omega)]
    rfl
theorem impl_PairText_eq (a b : Int) : impl_PairText.f a b = some (pairR a b) := by
  unfold impl_PairText.f pairR
  rw [isRange_eq, Option.bind_some]
  by_cases h : inRange a b = true
  · rw [if_pos h, if_pos h]
    rw [inRange_iff] at h
    unfold impl_numberOf.f impl_endOf.f
    rw [wrap64_id (x := a + b) (by omega) (by omega)]
    by_cases hb : b > 0
    · rw [if_pos hb, if_pos hb, Option.bind_some, Option.bind_some, wrap64_id (by omega) (by omega)]
      have := pairOf_eq (a + 1).toNat (a + b).toNat (by omega) (by omega)
      rw [Int.toNat_of_nonneg (by omega), Int.toNat_of_nonneg (by omega)] at this
      rw [this]
      rfl
    · rw [if_neg hb, if_neg hb, Option.bind_some, Option.bind_some]
      have := pairOf_eq a.toNat (a + b).toNat (by omega) (by omega)
      rw [Int.toNat_of_nonneg (by omega), Int.toNat_of_nonneg (by omega)] at this
      rw [this]
      rfl
  · rw [if_neg h, if_neg h]
theorem spec_PairText_ev (a b : Int) : Ev (fun k => spec_PairText.f k a b) (pairR a b) := by
  simp only [spec_PairText.f]
  unfold pairR
  refine ev_bind (ev_const (l4Range_eq a b)) (ev_ite (fun h => ?_) (fun h => ev_some ?_))
  · rw [if_pos h]
    rw [inRange_iff] at h
    simp only [spec_l4Pair.f, spec_l4Number.f]
    have hs := num_size' (a + b).toNat (by omega)
    have e : wrap64 (a + b) = ((a + b).toNat : Int) := by rw [wrap64_id (by omega) (by omega)]; omega
    by_cases hb : b > 0
    · have hs2 := num_size' (a + 1).toNat (by omega)
      have e1 : wrap64 (a + 1) = ((a + 1).toNat : Int) := by rw [wrap64_id (by omega) (by omega)]; omega
      have ev : (if b > 0 then a + 1 else a) = a + 1 := if_pos hb
      rw [ev]
      refine ev_bind (ev_bind (ev_pos hb (ev_some rfl)) ?_) (ev_some rfl)
      rw [e1, e]
      refine ev_bind (l1Num_ev _ (by omega)) (ev_ite (fun h2 => ev_bind (l1Num_ev _ (by omega)) (ev_pos (by omega) (ev_pos ?_ (ev_some ?_)))) (fun h2 => ev_some ?_))
      · rw [ByteArray.size_append, show (⟨#[44]⟩ : ByteArray).size = 1 from rfl]; omega
      · unfold pairV
        rw [if_neg (by omega), ByteArray.append_assoc]
        rfl
      · unfold pairV
        rw [if_pos (by omega)]
    · have e2 : a = ((a.toNat : Nat) : Int) := by omega
      have ev : (if b > 0 then a + 1 else a) = a := if_neg hb
      rw [ev]
      refine ev_bind (ev_bind (ev_neg hb (ev_some rfl)) ?_) (ev_some rfl)
      refine ev_bind (g := fun k => spec_l1Num.f k a) (a := num a.toNat) (by have := l1Num_ev a.toNat (by omega); rw [← e2] at this; exact this) (ev_neg (by omega) (ev_some ?_))
      unfold pairV
      rw [if_pos (by omega)]
  · rw [if_neg h]
end Go.Proofs.YtgcibnkdomegkaaDoor.Pl

/- Plain Lean: one number or two read of a text, cut at its comma. Asked: texts of at most 2^20 bytes. -/
namespace Go.Proofs.YtgcibnkdomegkaaDoor.Pl
open Go.RowKit Go.Proofs.YtgcibnkdomegkaaDoorW.PrintWords Go.Proofs.YtgcibnkdomegkaaDoorW.PrintLast Go.Proofs.YtgcibnkdomegkaaDoor.My
set_option linter.unusedVariables false
set_option linter.unusedSimpArgs false

def cutC : List UInt8 → List UInt8 × Option (List UInt8)
  | [] => ([], none)
  | c :: r => if c = 44 then ([], some r) else (c :: (cutC r).1, (cutC r).2)
def splitP : List UInt8 → List UInt8 → List (List UInt8)
  | pre, [] => [pre]
  | pre, c :: r => if c = 44 then pre :: splitP [] r else splitP (pre ++ [c]) r
theorem split_cut : ∀ (l pre : List UInt8), splitP pre l = match cutC l with
    | (a, none) => [pre ++ a]
    | (a, some b) => (pre ++ a) :: splitP [] b
  | [], pre => by simp [splitP, cutC]
  | c :: r, pre => by
    simp only [splitP, cutC]
    by_cases h : c = 44
    · rw [if_pos h, if_pos h]
      simp
    · rw [if_neg h, if_neg h, split_cut r (pre ++ [c])]
      cases h2 : cutC r with
      | mk a o => cases o with
        | none => simp
        | some b => simp
theorem cut_index : ∀ (l : List UInt8), match cutC l with
    | (a, none) => Lib.indexByte l 44 = -1 ∧ a = l
    | (a, some b) => Lib.indexByte l 44 = (a.length : Int) ∧ l = a ++ 44 :: b
  | [] => by simp [cutC, Lib.indexByte]
  | c :: r => by
    have ih := cut_index r
    simp only [cutC]
    by_cases h : c = 44
    · rw [if_pos h]
      subst h
      simp [Lib.indexByte]
    · rw [if_neg h]
      have hb : (c == 44) = false := by simpa using h
      cases h2 : cutC r with
      | mk a o =>
        rw [h2] at ih
        cases o with
        | none =>
          simp only at ih ⊢
          obtain ⟨i1, i2⟩ := ih
          subst i2
          unfold Lib.indexByte
          simp [hb, i1]
        | some b =>
          simp only at ih ⊢
          obtain ⟨i1, i2⟩ := ih
          refine ⟨?_, by rw [i2, List.cons_append]⟩
          unfold Lib.indexByte
          simp only [hb]
          rw [i1]
          have e : ((a.length : Int) == -1) = false := by
            have h9 : ¬ ((a.length : Int) = -1) := by omega
            exact beq_eq_false_iff_ne.2 h9
          simp only [e, List.length_cons]
          simp
theorem rd4_comma {a b : List UInt8} : rd4 (a ++ 44 :: b) = none := by
  cases h : rd4 (a ++ 44 :: b) with
  | none => rfl
  | some n =>
    exfalso
    obtain ⟨_, _, h3⟩ := rd4_some h
    unfold Lib.decNat at h3
    rw [if_neg (by simp)] at h3
    obtain ⟨d, hd⟩ := Lib.digit_of_decFrom _ _ _ h3 a.length 44 (by simp)
    cases hd
/-- One number or two; none where they are not in form. -/
def cutR (l : List UInt8) : Option (Nat × Option Nat) := match cutC l with
  | (a, none) => (rd4 a).map fun n => (n, none)
  | (a, some b) => (rd4 a).bind fun n => (rd4 b).map fun m => (n, some m)
def BA (l : List UInt8) : ByteArray := ⟨l.toArray⟩
theorem BA_data (l : List UInt8) : (BA l).data.toList = l := rfl
theorem ba_of {s : ByteArray} {l : List UInt8} (h : s.data.toList = l) : s = BA l := ba_ext (by rw [Lib.toList_data, Lib.toList_data, h, BA_data])
theorem BA_size (l : List UInt8) : (BA l).size = l.length := by rw [← size_len, BA_data]
theorem numR_BA (l : List UInt8) : numR (BA l) = match rd4 l with
  | some n => ((n : Int), true)
  | none => (0, false) := rfl
theorem extract_BA (s : ByteArray) (a b : Nat) : s.extract a b = BA ((s.data.toList.take b).drop a) := ba_of (by rw [ByteArray.data_extract, Array.toList_extract, List.extract_eq_take_drop, ← List.drop_take])

theorem l1Split_l0 (s : ByteArray) (hs : s.size ≤ 1048576) : ∀ d i f (out : List ByteArray), i + d = s.size → f ≤ i → out.length ≤ i →
    Ev (fun k => spec_l1Split.l0 k s 44 out (f : Int) (i : Int)) (out ++ (splitP ((s.data.toList.take i).drop f) (s.data.toList.drop i)).map BA) := by
  intro d
  induction d with
  | zero =>
    intro i f out hi hf ho
    refine Ev.step (fun k => spec_l1Split.l0.eq_2 ..) (ev_neg (by omega) (ev_pos (by omega) (ev_pos (by omega) (ev_pos (by omega) (ev_some ?_)))))
    have e0 : s.data.toList.drop i = [] := List.drop_eq_nil_of_le (by rw [size_len]; omega)
    rw [e0, Int.toNat_natCast, extract_BA]
    simp only [splitP, List.map_cons, List.map_nil]
    rw [show i = s.size from by omega]
  | succ d ih =>
    intro i f out hi hf ho
    obtain ⟨c, hc, hb⟩ := bt_drop s i (by omega)
    rw [hc]
    simp only [splitP]
    refine Ev.step (fun k => spec_l1Split.l0.eq_2 ..) (ev_pos (by omega) (ev_pos (by omega) ?_))
    rw [hb, wrap_succ i (by omega), Int.toNat_natCast, Int.toNat_natCast]
    have e44 : (44 : UInt8).toNat = 44 := rfl
    by_cases h : c = 44
    · subst h
      rw [if_pos rfl]
      refine ev_pos (by omega) (ev_pos (by omega) (ev_pos (by omega) (ev_pos (by omega) (ev_pos (by omega) ?_))))
      refine ev_to (ih (i + 1) (i + 1) _ (by omega) (Nat.le_refl _) (by rw [List.length_append, List.length_singleton]; omega)) ?_
      have e0 : (s.data.toList.take (i + 1)).drop (i + 1) = [] := List.drop_eq_nil_of_le (by rw [List.length_take]; omega)
      rw [e0, extract_BA]
      simp
    · rw [if_neg h]
      refine ev_neg (fun e => h (UInt8.toNat_inj.1 (by omega))) (ev_to (ih (i + 1) f out (by omega) (by omega) (by omega)) ?_)
      have hl : i < s.data.toList.length := by rw [size_len]; omega
      have hcc : s.data.toList[i] = c := by
        have h2 := List.drop_eq_getElem_cons hl
        rw [hc] at h2
        exact (List.cons.inj h2).1.symm
      rw [List.take_succ_eq_append_getElem hl, hcc, List.drop_append_of_le_length (by rw [List.length_take]; omega)]
theorem l1Split_ev (s : ByteArray) (hs : s.size ≤ 1048576) : Ev (fun k => spec_l1Split.f k s 44) ((splitP [] s.data.toList).map BA) := by
  simp only [spec_l1Split.f]
  exact ev_to (l1Split_l0 s hs s.size 0 0 [] (by omega) (Nat.le_refl _) (Nat.le_refl _)) (by simp)

theorem index2_ev (s : ByteArray) (c : UInt8) : Ev (fun k => stringslite_Index.f k s ⟨#[c]⟩) (Lib.indexByte s.data.toList c) := by
  have hj : ∀ b : Bool, (b = true → Lib.indexByte s.data.toList c = 0) → Ev (fun k => stringslite_Index.j0 k s ⟨#[c]⟩ 1 b) (Lib.indexByte s.data.toList c) := by
    intro b hb
    refine Ev.step (fun k => stringslite_Index.j0.eq_2 ..) ?_
    refine ev_ite (fun h => ev_some (hb h).symm) (fun _ => ?_)
    refine ev_pos rfl (ev_pos (by show (0 : Int) < ((1 : Nat) : Int); decide) ?_)
    refine ev_const ?_
    rw [show bt ⟨#[c]⟩ 0 = (c.toNat : Int) from rfl]
    simp [stringslite_IndexByte.f]
  simp only [stringslite_Index.f]
  refine ev_neg (by show ¬ (((1 : Nat) : Int) = 0); decide) ?_
  refine hj _ (fun h => ?_)
  have e : s.data.toList = [c] := by
    have := beq_iff_eq.1 h
    rw [Lib.toList_data, Lib.toList_data] at this
    exact this.symm
  rw [e]
  simp [Lib.indexByte]
theorem cut_ev (s : ByteArray) (hs : s.size ≤ 1048576) : Ev (fun k => strings_Cut.f k s ⟨#[44]⟩) (match cutC s.data.toList with
    | (a, none) => (BA a, BA [], false)
    | (a, some b) => (BA a, BA b, true)) := by
  have hl := size_len s
  have hci := cut_index s.data.toList
  simp only [strings_Cut.f, stringslite_Cut.f]
  refine ev_bind (ev_bind (index2_ev s 44) ?_) (ev_some rfl)
  cases h2 : cutC s.data.toList with
  | mk a o =>
    rw [h2] at hci
    cases o with
    | none =>
      simp only at hci ⊢
      rw [hci.1, hci.2]
      refine ev_neg (by decide) (ev_some ?_)
      rw [← ba_of rfl]
      rfl
    | some b =>
      simp only at hci ⊢
      have hlen := congrArg List.length hci.2
      rw [List.length_append, List.length_cons, hl] at hlen
      have e1 : wrap64 ((a.length : Int) + ((⟨#[44]⟩ : ByteArray).size : Int)) = ((a.length + 1 : Nat) : Int) := wrap_succ a.length (by omega)
      rw [hci.1, e1, Int.toNat_natCast, Int.toNat_natCast, extract_BA, extract_BA]
      refine ev_pos (by omega) (ev_pos (by omega) (ev_pos (by omega) (ev_pos (by omega) (ev_pos (by omega) (ev_some ?_)))))
      have e5 : (a ++ 44 :: b).drop (a.length + 1) = b := by
        rw [List.drop_append, List.drop_eq_nil_of_le (by omega), List.nil_append, show a.length + 1 - a.length = 1 from by omega]
        rfl
      rw [List.take_of_length_le (i := s.size) (by omega), hci.2, List.drop_zero, List.take_left' rfl, e5]
/-- What the program reads of one number or two. -/
theorem readTwo_ev (s : ByteArray) (hs : s.size ≤ 1048576) : ∃ r, Ev (fun k => impl_readTwo.f k s) r ∧ (match cutR s.data.toList with
    | some (n, none) => r = ((n : Int), (n : Int), false, true)
    | some (n, some m) => r = ((n : Int), (m : Int), true, true)
    | none => r.2.2.2 = false) := by
  have hl := size_len s
  have hci := cut_index s.data.toList
  have hcut := cut_ev s hs
  simp only [impl_readTwo.f]
  unfold cutR
  cases h2 : cutC s.data.toList with
  | mk a o =>
    rw [h2] at hci hcut
    cases o with
    | none =>
      simp only at hci hcut ⊢
      have hlen := congrArg List.length hci.2
      refine ⟨((impl_readNumber.v (BA a)).1, (impl_readNumber.v (BA a)).1, false, (impl_readNumber.v (BA a)).2), ev_bind hcut (ev_bind (ev_const (readNumber_eq (BA a) (by rw [BA_size]; omega))) (ev_neg (by simp) (ev_some rfl))), ?_⟩
      cases h3 : rd4 a with
      | none => exact readNumber_none h3
      | some n =>
        rw [readNumber_some (s := BA a) h3]
        rfl
    | some b =>
      simp only at hci hcut ⊢
      have hlen := congrArg List.length hci.2
      rw [List.length_append, List.length_cons, hl] at hlen
      have ra := readNumber_eq (BA a) (by rw [BA_size]; omega)
      have rb := readNumber_eq (BA b) (by rw [BA_size]; omega)
      cases h3 : (impl_readNumber.v (BA a)).2 with
      | false =>
        refine ⟨((impl_readNumber.v (BA a)).1, (impl_readNumber.v (BA b)).1, true, false), ev_bind hcut (ev_bind (ev_const ra) (ev_pos rfl (ev_bind (ev_const rb) (ev_neg (by rw [h3]; simp) (ev_some rfl))))), ?_⟩
        have h4 : rd4 a = none := by
          cases h5 : rd4 a with
          | none => rfl
          | some n => rw [readNumber_some (s := BA a) h5] at h3; cases h3
        rw [h4]
        rfl
      | true =>
        refine ⟨((impl_readNumber.v (BA a)).1, (impl_readNumber.v (BA b)).1, true, (impl_readNumber.v (BA b)).2), ev_bind hcut (ev_bind (ev_const ra) (ev_pos rfl (ev_bind (ev_const rb) (ev_pos h3 (ev_some rfl))))), ?_⟩
        cases h4 : rd4 a with
        | none => rw [readNumber_none (s := BA a) h4] at h3; cases h3
        | some n =>
          rw [readNumber_some (s := BA a) h4]
          cases h5 : rd4 b with
          | none => exact readNumber_none (s := BA b) h5
          | some m => rw [readNumber_some (s := BA b) h5]; rfl
theorem cutR_lt {l : List UInt8} {n : Nat} {o : Option Nat} (h : cutR l = some (n, o)) : n < 10000 ∧ ∀ m, o = some m → m < 10000 := by
  unfold cutR at h
  cases h2 : cutC l with
  | mk a q =>
    rw [h2] at h
    cases q with
    | none =>
      obtain ⟨x, hx, e⟩ := Option.map_eq_some_iff.1 h
      injection e with e1 e2
      subst e1; subst e2
      exact ⟨rd4_lt hx, fun m e => by cases e⟩
    | some b =>
      obtain ⟨x, hx, e⟩ := Option.bind_eq_some_iff.1 h
      obtain ⟨y, hy, e⟩ := Option.map_eq_some_iff.1 e
      injection e with e1 e2
      subst e1; subst e2
      exact ⟨rd4_lt hx, fun m e => by injection e with e; subst e; exact rd4_lt hy⟩
def endsR (less : Nat) (l : List UInt8) : Int × Int × Bool := match cutR l with
  | none => (0, 0, false)
  | some (n, o) => if n ≤ 1000 ∧ o.getD n ≤ 1000 ∧ n ≤ o.getD n + less then ((n : Int), ((o.getD n : Nat) : Int), true) else (0, 0, false)
theorem readEnds_ev (s : ByteArray) (hs : s.size ≤ 1048576) (less : Nat) (hle : less ≤ 1) : Ev (fun k => impl_readEnds.f k s (less : Int)) (endsR less s.data.toList) := by
  obtain ⟨r, hr, hm⟩ := readTwo_ev s hs
  simp only [impl_readEnds.f]
  refine ev_bind hr ?_
  unfold endsR
  cases h : cutR s.data.toList with
  | none =>
    rw [h] at hm
    exact ev_neg (by rw [hm]; simp) (ev_some rfl)
  | some p =>
    obtain ⟨n, o⟩ := p
    rw [h] at hm
    have hb := cutR_lt h
    cases o with
    | none =>
      simp only at hm
      subst hm
      simp only [Option.getD_none]
      refine ev_pos (by simp) (ev_ite (fun c => ev_some ?_) (fun c => ev_neg (by simp) (ev_some ?_)))
      · unfold mx at c
        rw [if_neg (by split at c <;> omega)]
      · unfold mx at c
        rw [if_pos (by split at c <;> omega)]
    | some m =>
      simp only at hm
      subst hm
      have hb2 := hb.2 m rfl
      simp only [Option.getD_some]
      have e : wrap64 ((m : Int) + (less : Int)) = ((m + less : Nat) : Int) := wrap_add m less (by omega)
      rw [e]
      refine ev_pos (by simp) (ev_ite (fun c => ev_some ?_) (fun c => ev_pos (by simp) (ev_ite (fun c2 => ev_some ?_) (fun c2 => ev_some ?_))))
      · unfold mx at c
        rw [if_neg (by split at c <;> omega)]
      · rw [if_neg (by omega)]
      · unfold mx at c
        rw [if_pos (by split at c <;> omega)]
def twoR (l : List UInt8) : Int × Int × Bool := match cutR l with
  | none => (0, 0, false)
  | some (n, o) => if n ≤ 1000 ∧ o.getD n ≤ 1000 then ((n : Int), ((o.getD n : Nat) : Int), true) else (0, 0, false)
theorem l4Two_ev (s : ByteArray) (hs : s.size ≤ 1048576) : Ev (fun k => spec_l4Two.f k s) (twoR s.data.toList) := by
  have hl := size_len s
  have hci := cut_index s.data.toList
  have hsp := l1Split_ev s hs
  rw [split_cut] at hsp
  simp only [spec_l4Two.f]
  unfold twoR cutR
  have fls : ∀ (p : List ByteArray) (x : Int), Ev (fun k => spec_l4Two.j0 k p x true) ((0 : Int), (0 : Int), false) := fun p x => Ev.step (fun k => spec_l4Two.j0.eq_2 ..) (ev_pos (by simp) (ev_some rfl))
  cases h2 : cutC s.data.toList with
  | mk a o =>
    rw [h2] at hci hsp
    cases o with
    | none =>
      simp only [List.nil_append, List.map_cons, List.map_nil] at hci hsp ⊢
      have hlen := congrArg List.length hci.2
      refine ev_bind hsp (ev_pos (by simp) (ev_bind (a := numR (BA a)) (spec_ReadNumber_ev (BA a) (by rw [BA_size]; omega)) ?_))
      rw [numR_BA]
      cases h3 : rd4 a with
      | none => exact ev_neg (by simp) (fls _ _)
      | some n =>
        have hb := rd4_lt h3
        refine ev_pos (by simp) (ev_neg (by simp) ?_)
        simp only [Option.map_some, Option.getD_none]
        by_cases c : (n : Int) > 1000
        · rw [decide_eq_true c, if_neg (by omega)]
          exact fls _ _
        · rw [decide_eq_false c, if_pos (by omega)]
          exact Ev.step (fun k => spec_l4Two.j0.eq_2 ..) (ev_neg (by simp) (ev_pos (by simp) (ev_some rfl)))
    | some b =>
      simp only [List.nil_append, List.map_cons] at hci hsp ⊢
      have hlen := congrArg List.length hci.2
      rw [List.length_append, List.length_cons, hl] at hlen
      rw [split_cut] at hsp
      have hcb := cut_index b
      refine ev_bind hsp (ev_pos (by simp) (ev_bind (a := numR (BA a)) (spec_ReadNumber_ev (BA a) (by rw [BA_size]; omega)) ?_))
      rw [numR_BA]
      cases h3 : rd4 a with
      | none => exact ev_neg (by simp) (fls _ _)
      | some n =>
        have hb := rd4_lt h3
        simp only [Option.bind_some]
        refine ev_pos (by simp) ?_
        cases h4 : cutC b with
        | mk a2 o2 =>
          rw [h4] at hcb
          cases o2 with
          | some b2 =>
            simp only at hcb
            rw [hcb.2, rd4_comma]
            refine ev_pos ?_ (fls _ _)
            show ((BA a :: (BA ([] ++ a2) :: (splitP [] b2).map BA)).length : Int) > 2
            rw [split_cut]
            cases cutC b2 with
            | mk a3 o3 => cases o3 <;> simp <;> omega
          | none =>
            simp only [List.nil_append, List.map_cons, List.map_nil] at hcb ⊢
            rw [hcb.2]
            refine ev_neg (by simp) ?_
            by_cases c : (n : Int) > 1000
            · rw [decide_eq_true c]
              refine ev_to (fls _ _) ?_
              cases rd4 b with
              | none => rfl
              | some m => simp only [Option.map_some, Option.getD_some]; rw [if_neg (by omega)]
            · rw [decide_eq_false c]
              refine Ev.step (fun k => spec_l4Two.j0.eq_2 ..) (ev_neg (by simp) (ev_neg (by simp) (ev_pos (by simp) (ev_bind (a := numR (BA b)) (spec_ReadNumber_ev (BA b) (by rw [BA_size]; omega)) ?_))))
              rw [numR_BA]
              cases h5 : rd4 b with
              | none => exact ev_neg (by simp) (ev_some rfl)
              | some m =>
                simp only [Option.map_some, Option.getD_some]
                refine ev_pos (by simp) (ev_ite (fun c2 => ev_some ?_) (fun c2 => ev_some ?_))
                · rw [if_neg (by omega)]
                · rw [if_pos (by omega)]
theorem two_ends (less : Nat) (l : List UInt8) : endsR less l = if (twoR l).2.2 = true ∧ (twoR l).1 ≤ (twoR l).2.1 + (less : Int) then twoR l else (0, 0, false) := by
  unfold endsR twoR
  cases cutR l with
  | none => simp
  | some p =>
    obtain ⟨n, o⟩ := p
    simp only
    by_cases c : n ≤ 1000 ∧ o.getD n ≤ 1000
    · rw [if_pos c]
      by_cases c2 : n ≤ o.getD n + less
      · rw [if_pos ⟨c.1, c.2, c2⟩, if_pos ⟨rfl, by show (n : Int) ≤ ((o.getD n : Nat) : Int) + (less : Int); omega⟩]
      · rw [if_neg (fun e => c2 e.2.2), if_neg (fun e => c2 (by have := e.2; simp only at this; omega))]
    · rw [if_neg c, if_neg (fun e => c ⟨e.1, e.2.1⟩)]
      simp
theorem twoR_small (l : List UInt8) : 0 ≤ (twoR l).2.1 ∧ (twoR l).2.1 ≤ 1000 := by
  unfold twoR
  cases cutR l with
  | none => simp
  | some p =>
    obtain ⟨n, o⟩ := p
    simp only
    split
    · simp only; omega
    · simp
theorem spec_ReadPair_ev (s : ByteArray) (hs : s.size ≤ 1048576) : Ev (fun k => spec_ReadPair.f k s) (endsR 0 s.data.toList) := by
  simp only [spec_ReadPair.f]
  rw [two_ends]
  refine ev_bind (l4Two_ev s hs) (ev_ite (fun c => ev_ite (fun c2 => ev_some ?_) (fun c2 => ev_some ?_)) (fun c => ev_some ?_))
  · rw [if_neg (by omega)]
  · rw [if_pos ⟨c, by omega⟩, ← c]
  · rw [if_neg (fun e => c e.1)]
theorem spec_ReadEnd_ev (s : ByteArray) (hs : s.size ≤ 1048576) : Ev (fun k => spec_ReadEnd.f k s) (endsR 1 s.data.toList) := by
  simp only [spec_ReadEnd.f]
  rw [two_ends]
  have hb := twoR_small s.data.toList
  refine ev_bind (l4Two_ev s hs) ?_
  rw [wrap64_id (by omega) (by omega)]
  refine ev_ite (fun c => ev_ite (fun c2 => ev_some ?_) (fun c2 => ev_some ?_)) (fun c => ev_some ?_)
  · rw [if_neg (by omega)]
  · rw [if_pos ⟨c, by omega⟩, ← c]
  · rw [if_neg (fun e => c e.1)]
theorem impl_ReadPair_ev (s : ByteArray) (hs : s.size ≤ 1048576) : Ev (fun k => impl_ReadPair.f k s) (endsR 0 s.data.toList) := by
  simp only [impl_ReadPair.f]
  exact ev_bind (readEnds_ev s hs 0 (by decide)) (ev_some rfl)
theorem impl_ReadEnd_ev (s : ByteArray) (hs : s.size ≤ 1048576) : Ev (fun k => impl_ReadEnd.f k s) (endsR 1 s.data.toList) := by
  simp only [impl_ReadEnd.f]
  exact ev_bind (readEnds_ev s hs 1 (by decide)) (ev_some rfl)

def countV (n m : Int) : Int × Int × Bool := if inRange (if m > 0 then n - 1 else n) m = true then (if m > 0 then n - 1 else n, m, true) else (0, 0, false)
def countR (l : List UInt8) : Int × Int × Bool := match cutR l with
  | none => (0, 0, false)
  | some (n, o) => countV (n : Int) ((o.getD 1 : Nat) : Int)
theorem implCount_j0 (n m : Int) (h : -1000000 ≤ n ∧ n ≤ 1000000) : Ev (fun k => impl_ReadCount.j0 k n m true) (countV n m) := by
  unfold countV
  refine Ev.step (fun k => impl_ReadCount.j0.eq_2 ..) ?_
  rw [wrap64_id (x := n - 1) (by omega) (by omega)]
  refine ev_ite (fun c => ev_pos (by simp) (ev_bind (ev_const (isRange_eq _ _)) (ev_ite (fun c2 => ev_some ?_) (fun c2 => ev_some ?_)))) (fun c => ev_pos (by simp) (ev_bind (ev_const (isRange_eq _ _)) (ev_ite (fun c2 => ev_some ?_) (fun c2 => ev_some ?_))))
  · rw [if_pos c, if_pos c2]
  · rw [if_pos c, if_neg c2]
  · rw [if_neg c, if_pos c2]
  · rw [if_neg c, if_neg c2]
theorem implCount_bad (n m : Int) : Ev (fun k => impl_ReadCount.j0 k n m false) ((0 : Int), (0 : Int), false) :=
  Ev.step (fun k => impl_ReadCount.j0.eq_2 ..) (ev_ite (fun _ => ev_neg (by simp) (ev_some rfl)) (fun _ => ev_neg (by simp) (ev_some rfl)))
theorem impl_ReadCount_ev (s : ByteArray) (hs : s.size ≤ 1048576) : Ev (fun k => impl_ReadCount.f k s) (countR s.data.toList) := by
  obtain ⟨r, hr, hm⟩ := readTwo_ev s hs
  simp only [impl_ReadCount.f]
  refine ev_bind hr ?_
  unfold countR
  cases h : cutR s.data.toList with
  | none =>
    rw [h] at hm
    simp only at hm
    rw [hm]
    exact ev_ite (fun _ => implCount_bad _ _) (fun _ => implCount_bad _ _)
  | some p =>
    obtain ⟨n, o⟩ := p
    rw [h] at hm
    have hb := cutR_lt h
    cases o with
    | none =>
      simp only at hm
      subst hm
      exact ev_neg (by simp) (implCount_j0 _ _ (by omega))
    | some m =>
      simp only at hm
      subst hm
      exact ev_pos (by simp) (implCount_j0 _ _ (by omega))
theorem specCount_j0 (p : List ByteArray) (n m : Int) (h : -1000000 ≤ n ∧ n ≤ 1000000) (hp : p.length ≤ 2) : Ev (fun k => spec_ReadCount.j0 k p n true m) (countV n m) := by
  unfold countV
  refine Ev.step (fun k => spec_ReadCount.j0.eq_2 ..) ?_
  rw [wrap64_id (x := n - 1) (by omega) (by omega)]
  refine ev_ite (fun c => ev_pos (by simp) (ev_neg (by omega) (ev_bind (ev_const (l4Range_eq _ _)) (ev_ite (fun c2 => ev_some ?_) (fun c2 => ev_some ?_))))) (fun c => ev_pos (by simp) (ev_neg (by omega) (ev_bind (ev_const (l4Range_eq _ _)) (ev_ite (fun c2 => ev_some ?_) (fun c2 => ev_some ?_)))))
  · rw [if_pos c, if_pos c2]
  · rw [if_pos c, if_neg c2]
  · rw [if_neg c, if_pos c2]
  · rw [if_neg c, if_neg c2]
theorem specCount_bad (p : List ByteArray) (n m : Int) (b : Bool) (h : b = false ∨ 2 < p.length) : Ev (fun k => spec_ReadCount.j0 k p n b m) ((0 : Int), (0 : Int), false) := by
  refine Ev.step (fun k => spec_ReadCount.j0.eq_2 ..) ?_
  rcases h with h | h
  · subst h
    exact ev_ite (fun _ => ev_neg (by simp) (ev_some rfl)) (fun _ => ev_neg (by simp) (ev_some rfl))
  · exact ev_ite (fun _ => ev_ite (fun _ => ev_pos (by omega) (ev_some rfl)) (fun _ => ev_some rfl)) (fun _ => ev_ite (fun _ => ev_pos (by omega) (ev_some rfl)) (fun _ => ev_some rfl))
theorem spec_ReadCount_ev (s : ByteArray) (hs : s.size ≤ 1048576) : Ev (fun k => spec_ReadCount.f k s) (countR s.data.toList) := by
  have hl := size_len s
  have hci := cut_index s.data.toList
  have hsp := l1Split_ev s hs
  rw [split_cut] at hsp
  simp only [spec_ReadCount.f]
  unfold countR cutR
  cases h2 : cutC s.data.toList with
  | mk a o =>
    rw [h2] at hci hsp
    cases o with
    | none =>
      simp only [List.nil_append, List.map_cons, List.map_nil] at hci hsp ⊢
      have hlen := congrArg List.length hci.2
      refine ev_bind hsp (ev_pos (by simp) (ev_bind (a := numR (BA a)) (spec_ReadNumber_ev (BA a) (by rw [BA_size]; omega)) (ev_neg (by simp) ?_)))
      rw [numR_BA]
      cases h3 : rd4 a with
      | none => exact specCount_bad _ _ _ _ (.inl rfl)
      | some n =>
        have hb := rd4_lt h3
        exact specCount_j0 _ _ _ (by simp only; omega) (by simp)
    | some b =>
      simp only [List.nil_append, List.map_cons] at hci hsp ⊢
      have hlen := congrArg List.length hci.2
      rw [List.length_append, List.length_cons, hl] at hlen
      rw [split_cut] at hsp
      have hcb := cut_index b
      refine ev_bind hsp (ev_pos (by simp) (ev_bind (a := numR (BA a)) (spec_ReadNumber_ev (BA a) (by rw [BA_size]; omega)) ?_))
      cases h4 : cutC b with
      | mk a2 o2 =>
        rw [h4] at hcb
        cases o2 with
        | some b2 =>
          simp only at hcb
          have e : ((rd4 a).bind fun n => (rd4 b).map fun m => (n, some m)) = none := by
            rw [hcb.2, rd4_comma]
            cases rd4 a <;> rfl
          rw [e]
          have hlong : 2 < ((BA a) :: (BA ([] ++ a2) :: (splitP [] b2).map BA)).length := by
            rw [split_cut]
            cases cutC b2 with
            | mk a3 o3 => cases o3 <;> simp
          refine ev_neg ?_ (specCount_bad _ _ _ _ (.inr hlong))
          simp only [List.map_cons]
          omega
        | none =>
          simp only [List.nil_append, List.map_cons, List.map_nil] at hcb ⊢
          rw [hcb.2]
          refine ev_pos (by simp) (ev_pos (by simp) (ev_bind (a := numR (BA b)) (spec_ReadNumber_ev (BA b) (by rw [BA_size]; omega)) ?_))
          rw [numR_BA, numR_BA]
          cases h3 : rd4 a with
          | none => exact ev_neg (by simp) (specCount_bad _ _ _ _ (.inl rfl))
          | some n =>
            have hb := rd4_lt h3
            refine ev_pos (by simp) ?_
            cases h5 : rd4 b with
            | none => exact specCount_bad _ _ _ _ (.inl rfl)
            | some m => exact specCount_j0 _ _ _ (by simp only; omega) (by simp)
end Go.Proofs.YtgcibnkdomegkaaDoor.Pl

/- Plain Lean: a range by its first line and its number of lines as a text. No condition. -/
namespace Go.Proofs.YtgcibnkdomegkaaDoor.Pl
open Go.RowKit Go.Proofs.YtgcibnkdomegkaaDoorW.PrintWords Go.Proofs.YtgcibnkdomegkaaDoorW.PrintLast Go.Proofs.YtgcibnkdomegkaaDoor.My
set_option linter.unusedVariables false
set_option linter.unusedSimpArgs false
def cntV (f m : Nat) : ByteArray := if m = 1 then num f else num f ++ (comma ++ num m)
def countTR (a b : Int) : ByteArray × Bool := if inRange a b = true then (cntV (if b > 0 then a + 1 else a).toNat b.toNat, true) else (⟨#[]⟩, false)
theorem itoa_eq' (a : Int) (h0 : 0 ≤ a) (h : a ≤ 100000) : strconv_Itoa_44.f a = some (num a.toNat) := by
  have := itoa_eq a.toNat (by omega)
  rw [Int.toNat_of_nonneg h0] at this
  exact this
theorem l1Num_ev' (a : Int) (h0 : 0 ≤ a) (h : a ≤ 100000) : Ev (fun k => spec_l1Num.f k a) (num a.toNat) := by
  have := l1Num_ev a.toNat (by omega)
  rw [Int.toNat_of_nonneg h0] at this
  exact this
theorem impl_CountText_eq (a b : Int) : impl_CountText.f a b = some (countTR a b) := by
  unfold impl_CountText.f countTR
  rw [isRange_eq, Option.bind_some]
  by_cases h : inRange a b = true
  · rw [if_pos h, if_pos h]
    rw [inRange_iff] at h
    have key : ∀ f : Int, 0 ≤ f → f ≤ 1000 → ((strconv_Itoa_44.f f).bind fun t129 => (if b = 1 then (some t129) else ((strconv_Itoa_44.f b).bind fun t130 => (if 1 + t130.size ≤ 9223372036854775807 then (if t129.size + ((⟨#[44]⟩ : ByteArray) ++ t130).size ≤ 9223372036854775807 then (some (t129 ++ ((⟨#[44]⟩ : ByteArray) ++ t130))) else (none)) else (none))))) = some (cntV f.toNat b.toNat) := by
      intro f h0 h1
      have s1 := num_size' f.toNat (by omega)
      have s2 := num_size' b.toNat (by omega)
      rw [itoa_eq' f h0 (by omega), Option.bind_some]
      unfold cntV
      by_cases hb : b = 1
      · rw [if_pos hb, if_pos (by omega)]
      · rw [if_neg hb, if_neg (by omega), itoa_eq' b (by omega) (by omega), Option.bind_some, if_pos (by omega), if_pos (by rw [ByteArray.size_append, show (⟨#[44]⟩ : ByteArray).size = 1 from rfl]; omega)]
        rfl
    unfold impl_countOf.f impl_numberOf.f
    by_cases hb : b > 0
    · have ev : (if b > 0 then a + 1 else a) = a + 1 := if_pos hb
      rw [ev, if_pos hb, Option.bind_some, wrap64_id (by omega) (by omega), key (a + 1) (by omega) (by omega)]
      rfl
    · have ev : (if b > 0 then a + 1 else a) = a := if_neg hb
      rw [ev, if_neg hb, Option.bind_some, key a (by omega) (by omega)]
      rfl
  · rw [if_neg h, if_neg h]
theorem spec_CountText_ev (a b : Int) : Ev (fun k => spec_CountText.f k a b) (countTR a b) := by
  simp only [spec_CountText.f]
  unfold countTR
  refine ev_bind (ev_const (l4Range_eq a b)) (ev_ite (fun h => ?_) (fun h => ev_some ?_))
  · rw [if_pos h]
    rw [inRange_iff] at h
    have key : ∀ f : Int, 0 ≤ f → f ≤ 1000 → Ev (fun k => (spec_l1Num.f k f).bind fun t143 => (if b = 1 then (some t143) else ((spec_l1Num.f k b).bind fun t144 => (if 1 + t144.size ≤ 9223372036854775807 then (if t143.size + ((⟨#[44]⟩ : ByteArray) ++ t144).size ≤ 9223372036854775807 then (some (t143 ++ ((⟨#[44]⟩ : ByteArray) ++ t144))) else (none)) else (none))))) (cntV f.toNat b.toNat) := by
      intro f h0 h1
      have s1 := num_size' f.toNat (by omega)
      have s2 := num_size' b.toNat (by omega)
      unfold cntV
      refine ev_bind (l1Num_ev' f h0 (by omega)) (ev_ite (fun hb => ev_some ?_) (fun hb => ev_bind (l1Num_ev' b (by omega) (by omega)) (ev_pos (by omega) (ev_pos ?_ (ev_some ?_)))))
      · rw [if_pos (by omega)]
      · rw [ByteArray.size_append, show (⟨#[44]⟩ : ByteArray).size = 1 from rfl]; omega
      · rw [if_neg (by omega)]; rfl
    simp only [spec_l4Count.f, spec_l4Number.f]
    by_cases hb : b > 0
    · have ev : (if b > 0 then a + 1 else a) = a + 1 := if_pos hb
      rw [ev]
      exact ev_bind (ev_bind (ev_pos hb (ev_some (wrap64_id (x := a + 1) (by omega) (by omega)))) (key (a + 1) (by omega) (by omega))) (ev_some rfl)
    · have ev : (if b > 0 then a + 1 else a) = a := if_neg hb
      rw [ev]
      exact ev_bind (ev_bind (ev_neg hb (ev_some rfl)) (key a (by omega) (by omega))) (ev_some rfl)
  · rw [if_neg h]
end Go.Proofs.YtgcibnkdomegkaaDoor.Pl

/- Plain Lean: the reader of choices: what it hands out is small. Asked: a reader that stands below 2^61. -/
namespace Go.Proofs.YtgcibnkdomegkaaDoor.Pl
open Go.RowKit Go.Proofs.YtgcibnkdomegkaaDoorW.PrintWords Go.Proofs.YtgcibnkdomegkaaDoorW.PrintLast Go.Proofs.YtgcibnkdomegkaaDoor.My
set_option linter.unusedVariables false
set_option linter.unusedSimpArgs false

/-- Bytes. -/
def Bytes8 (c : List Int) : Prop := (c.length : Int) ≤ 9223372036854775807 ∧ ∀ x ∈ c, 0 ≤ x ∧ x ≤ 255
theorem u64_wrap_nat (x : Int) : ∃ n : Nat, IntKind.u64.wrap x = (n : Int) ∧ n < 18446744073709551616 := by
  have h : IntKind.u64.wrap x = x % 18446744073709551616 := rfl
  exact ⟨(IntKind.u64.wrap x).toNat, by rw [h]; omega, by rw [h]; omega⟩
theorem low_byte (x : Int) : 0 ≤ wrap64 (Go.bits .and .u64 (IntKind.u64.wrap x / 1099511627776) 255) ∧ wrap64 (Go.bits .and .u64 (IntKind.u64.wrap x / 1099511627776) 255) ≤ 255 := by
  obtain ⟨n, e, hn⟩ := u64_wrap_nat x
  have e2 : IntKind.u64.wrap x / 1099511627776 = ((n / 1099511627776 : Nat) : Int) := by rw [e]; omega
  rw [e2, show (255 : Int) = ((255 : Nat) : Int) from rfl, bits_and_u64_nat _ _ (by omega) (by decide)]
  have h3 : n / 1099511627776 &&& 255 = n / 1099511627776 % 256 := Nat.and_two_pow_sub_one_eq_mod (n := 8) _
  rw [h3, wrap64_id (by omega) (by omega)]
  omega
/-- Where the reader stands. -/
def At (B a : Int) : Prop := 0 ≤ a ∧ a ≤ B
theorem next_some (c : List Int) (hc : Bytes8 c) (a s : Int) (ha : At 2305843009213693952 a) : ∃ b s2, spec_l1Cur_next.f c a s = some (b, a + 1, s2) ∧ 0 ≤ b ∧ b ≤ 255 := by
  obtain ⟨h0, h1⟩ := ha
  unfold spec_l1Cur_next.f
  have e1 : wrap64 (a + 1) = a + 1 := wrap64_id (by omega) (by omega)
  rw [e1]
  by_cases h : a < (c.length : Int)
  · rw [if_pos h, if_pos h0, if_pos (by omega)]
    have hm : rd c a ∈ c := by
      have e2 : rd c a = c[a.toNat]'(by omega) := by
        have := getD_lt c 0 a.toNat (by omega)
        exact this
      rw [e2]
      exact List.getElem_mem _
    have hb := hc.2 _ hm
    rw [wrap64_id (x := rd c a) (by omega) (by omega)]
    exact ⟨_, _, rfl, hb.1, hb.2⟩
  · rw [if_neg h]
    by_cases h2 : a + 1 ≤ (c.length : Int)
    · rw [if_pos h2]
      exact ⟨_, _, rfl, by decide, by decide⟩
    · rw [if_neg h2]
      have := low_byte ((IntKind.u64.wrap ((IntKind.u64.wrap (s * 6364136223846793005)) + 0)) + 1442695040888963407)
      exact ⟨_, _, rfl, this.1, this.2⟩
theorem tmod_range (x n : Int) (hx : 0 ≤ x) (hn : 0 < n) : 0 ≤ Int.tmod x n ∧ Int.tmod x n < n := by
  rw [Int.tmod_eq_emod_of_nonneg hx]
  exact ⟨Int.emod_nonneg _ (by omega), Int.emod_lt_of_pos _ hn⟩
/-- A number below n (0 where n is none). -/
theorem pick_some (c : List Int) (hc : Bytes8 c) (a s n : Int) (ha : At 2305843009213693951 a) : ∃ v a2 s2, spec_l1Cur_pick.f c a s n = some (v, a2, s2) ∧ 0 ≤ v ∧ (v = 0 ∨ v < n) ∧ v ≤ 65535 ∧ a ≤ a2 ∧ a2 ≤ a + 2 := by
  obtain ⟨h0, h1⟩ := ha
  unfold spec_l1Cur_pick.f
  by_cases h : n ≤ 1
  · rw [if_pos h]
    exact ⟨0, a, s, rfl, by omega, .inl rfl, by omega, by omega, by omega⟩
  · rw [if_neg h]
    obtain ⟨b, s2, e, hb0, hb1⟩ := next_some c hc a s ⟨h0, by omega⟩
    rw [e]
    simp only [Option.bind_some]
    by_cases h2 : n > 200
    · obtain ⟨b2, s3, e2, hc0, hc1⟩ := next_some c hc (a + 1) s2 ⟨by omega, by omega⟩
      rw [if_pos h2, e2]
      simp only [Option.bind_some]
      rw [if_neg (by omega), wrap64_id (x := b * 256) (by omega) (by omega), wrap64_id (by omega) (by omega)]
      have ht := tmod_range (b * 256 + b2) n (by omega) (by omega)
      refine ⟨_, _, _, rfl, ht.1, .inr ht.2, ?_, by omega, by omega⟩
      rw [Int.tmod_eq_emod_of_nonneg (by omega)]
      have h5 : (b * 256 + b2) % n ≤ b * 256 + b2 := by
        have h6 := Int.mul_ediv_add_emod (b * 256 + b2) n
        have h7 : 0 ≤ (b * 256 + b2) / n := Int.ediv_nonneg (by omega) (by omega)
        have h8 : 0 ≤ n * ((b * 256 + b2) / n) := Int.mul_nonneg (by omega) h7
        omega
      omega
    · rw [if_neg h2, if_neg (by omega)]
      have ht := tmod_range b n hb0 (by omega)
      exact ⟨_, _, _, rfl, ht.1, .inr ht.2, by omega, by omega, by omega⟩
end Go.Proofs.YtgcibnkdomegkaaDoor.Pl

/- Plain Lean: the reader of choices: yes or no, and one of a list of texts. Asked: a reader that stands below 2^61. -/
namespace Go.Proofs.YtgcibnkdomegkaaDoor.Pl
open Go.RowKit Go.Proofs.YtgcibnkdomegkaaDoorW.PrintWords Go.Proofs.YtgcibnkdomegkaaDoorW.PrintLast Go.Proofs.YtgcibnkdomegkaaDoor.My
set_option linter.unusedVariables false
theorem one_some (c : List Int) (hc : Bytes8 c) (a s n : Int) (ha : At 2305843009213693951 a) : ∃ v a2 s2, spec_l1Cur_one.f c a s n = some (v, a2, s2) ∧ a ≤ a2 ∧ a2 ≤ a + 2 := by
  unfold spec_l1Cur_one.f
  obtain ⟨v, a2, s2, e, h⟩ := pick_some c hc a s n ha
  rw [e]
  exact ⟨_, _, _, rfl, h.2.2.2.1, h.2.2.2.2⟩
theorem of_some (c : List Int) (hc : Bytes8 c) (a s : Int) (ha : At 2305843009213693951 a) (l : List ByteArray) (hl : 0 < l.length) : ∃ v a2 s2, spec_l1Cur_of.f c a s l = some (v, a2, s2) ∧ v ∈ l ∧ a ≤ a2 ∧ a2 ≤ a + 2 := by
  unfold spec_l1Cur_of.f
  obtain ⟨v, a2, s2, e, h⟩ := pick_some c hc a s (l.length : Int) ha
  rw [e]
  simp only [Option.bind_some]
  have hv : v < (l.length : Int) := by rcases h.2.1 with h | h <;> omega
  rw [if_pos h.1, if_pos hv]
  refine ⟨_, _, _, rfl, ?_, h.2.2.2.1, h.2.2.2.2⟩
  have e2 : rdOf ByteArray.empty l v = l[v.toNat]'(by omega) := getD_lt l _ v.toNat (by omega)
  rw [e2]
  exact List.getElem_mem _
end Go.Proofs.YtgcibnkdomegkaaDoor.Pl

/- Plain Lean: the reader of choices: one of a list of numbers. Asked: a reader that stands below 2^61. -/
namespace Go.Proofs.YtgcibnkdomegkaaDoor.Pl
open Go.RowKit Go.Proofs.YtgcibnkdomegkaaDoorW.PrintWords Go.Proofs.YtgcibnkdomegkaaDoorW.PrintLast Go.Proofs.YtgcibnkdomegkaaDoor.My
set_option linter.unusedVariables false
theorem among_some (c : List Int) (hc : Bytes8 c) (a s : Int) (ha : At 2305843009213693951 a) (l : List Int) (hl : 0 < l.length) : ∃ v a2 s2, spec_l1Cur_among.f c a s l = some (v, a2, s2) ∧ v ∈ l ∧ a ≤ a2 ∧ a2 ≤ a + 2 := by
  unfold spec_l1Cur_among.f
  obtain ⟨v, a2, s2, e, h⟩ := pick_some c hc a s (l.length : Int) ha
  rw [e]
  simp only [Option.bind_some]
  have hv : v < (l.length : Int) := by rcases h.2.1 with h | h <;> omega
  rw [if_pos h.1, if_pos hv]
  refine ⟨_, _, _, rfl, ?_, h.2.2.2.1, h.2.2.2.2⟩
  have e2 : rd l v = l[v.toNat]'(by omega) := getD_lt l 0 v.toNat (by omega)
  rw [e2]
  exact List.getElem_mem _
end Go.Proofs.YtgcibnkdomegkaaDoor.Pl

/- Plain Lean: the drawn laws' bytes, and the test of their number. No condition. -/
namespace Go.Proofs.YtgcibnkdomegkaaDoor.Pl
open Go.RowKit Go.Proofs.YtgcibnkdomegkaaDoorW.PrintWords Go.Proofs.YtgcibnkdomegkaaDoorW.PrintLast Go.Proofs.YtgcibnkdomegkaaDoor.My
set_option linter.unusedVariables false
set_option linter.unusedSimpArgs false
theorem wu8_bounds {z : Int} (h : Wu8 z) : 0 ≤ z ∧ z ≤ 255 := by
  have h' : (Lit.int .u8 z).wf = true := h
  simp [Lit.wf, show IntKind.u8.min = 0 from rfl, show IntKind.u8.max = 255 from rfl] at h'
  omega
theorem bytes8_of {l : List Int} (h : (WL Wu8) l) : Bytes8 l := by
  refine ⟨?_, fun x hx => wu8_bounds (h.2 x hx)⟩
  have h1 := h.1
  have h2 : maxLen ≤ 9223372036854775807 := by decide
  omega
def bigB (a b : List Int) : Bool := if (a.length : Int) > 1048576 then true else decide ((b.length : Int) > 1048576 - (a.length : Int))
theorem big_eq (a b : List Int) (ha : Bytes8 a) (hb : Bytes8 b) : laws_big.f a b = some (bigB a b) := by
  unfold laws_big.f bigB
  have h1 := ha.1
  by_cases h : (a.length : Int) > 1048576
  · rw [if_pos h, if_pos h]
  · rw [if_neg h, if_neg h, wrap64_id (by omega) (by omega)]
end Go.Proofs.YtgcibnkdomegkaaDoor.Pl

/- FnNumbers, in plain Lean: a range is read back from its text. No condition. -/
namespace Go.Proofs.YtgcibnkdomegkaaDoor.Pure
open Go.RowKit Go.Proofs.YtgcibnkdomegkaaDoor.My Go.Proofs.YtgcibnkdomegkaaDoor.Pl Go.Proofs.YtgcibnkdomegkaaDoorW.PrintWords Go.Proofs.YtgcibnkdomegkaaDoorW.PrintLast
set_option linter.unusedVariables false
set_option linter.unusedSimpArgs false
theorem drawPair_some (c : List Int) (hc : Bytes8 c) : ∃ a b, spec_DrawPairText.f c = some (a, b) := by
  unfold spec_DrawPairText.f spec_DrawPairText.g spec_l1Cur_range2.f
  obtain ⟨v, a2, s2, e, _, h⟩ := among_some c hc 0 0 ⟨by omega, by omega⟩ [0, 1, 2, 5, 9, 998, 999, 1000, (-1)] (by decide)
  obtain ⟨v2, a3, s3, e2, _, h2⟩ := among_some c hc a2 s2 ⟨by omega, by omega⟩ [0, 1, 2, 3, 7, 999, 1000] (by decide)
  rw [e]
  simp only [Option.bind_some]
  rw [e2]
  exact ⟨_, _, rfl⟩
theorem drawCount_some (c : List Int) (hc : Bytes8 c) : ∃ a b, spec_DrawCountText.f c = some (a, b) := by
  obtain ⟨a, b, e⟩ := drawPair_some c hc
  unfold spec_DrawCountText.f
  rw [e]
  exact ⟨a, b, rfl⟩
theorem mem_le {l : List ByteArray} {v : ByteArray} (n : Nat) (h : v ∈ l) (hb : ∀ x ∈ l, x.size ≤ n) : v.size ≤ n := hb v h
theorem drawReadPair_some (c : List Int) (hc : Bytes8 c) : ∃ s, spec_DrawReadPair.f c = some s ∧ s.size ≤ 100 := by
  unfold spec_DrawReadPair.f spec_DrawReadPair.g spec_l1Cur_pairText.f
  obtain ⟨v, a1, s1, e1, m1, h1, h1'⟩ := of_some c hc 0 0 ⟨by omega, by omega⟩ [(⟨#[48]⟩ : ByteArray), (⟨#[49]⟩ : ByteArray), (⟨#[50]⟩ : ByteArray), (⟨#[53]⟩ : ByteArray), (⟨#[49, 50]⟩ : ByteArray), (⟨#[49, 48, 48, 48]⟩ : ByteArray), (⟨#[48, 49]⟩ : ByteArray), (⟨#[]⟩ : ByteArray)] (by decide)
  have z1 : v.size ≤ 4 := mem_le 4 m1 (by decide)
  obtain ⟨b2, a2, s2, e2, h2, h2'⟩ := one_some c hc a1 s1 2 ⟨by omega, by omega⟩
  obtain ⟨w, a3, s3, e3, m3, h3, h3'⟩ := of_some c hc a2 s2 ⟨by omega, by omega⟩ [(⟨#[48]⟩ : ByteArray), (⟨#[49]⟩ : ByteArray), (⟨#[50]⟩ : ByteArray), (⟨#[53]⟩ : ByteArray), (⟨#[52]⟩ : ByteArray), (⟨#[49, 50]⟩ : ByteArray), (⟨#[49, 48, 48, 48]⟩ : ByteArray), (⟨#[49, 48, 48, 49]⟩ : ByteArray), (⟨#[120]⟩ : ByteArray), (⟨#[]⟩ : ByteArray)] (by decide)
  have z3 : w.size ≤ 4 := mem_le 4 m3 (by decide)
  obtain ⟨b4, a4, s4, e4, h4, h4'⟩ := one_some c hc a3 s3 12 ⟨by omega, by omega⟩
  obtain ⟨b5, a5, s5, e5, h5, h5'⟩ := one_some c hc a2 s2 12 ⟨by omega, by omega⟩
  have k1 : (⟨#[44]⟩ : ByteArray).size = 1 := rfl
  have k2 : (⟨#[44, 51]⟩ : ByteArray).size = 2 := rfl
  rw [e1]
  simp only [Option.bind_some]
  rw [e2]
  simp only [Option.bind_some]
  by_cases c2 : b2 = true
  · rw [if_pos c2, e3]
    simp only [Option.bind_some]
    rw [if_pos (by omega), if_pos (by simp only [ByteArray.size_append, k1]; omega), e4]
    simp only [Option.bind_some]
    by_cases c4 : b4 = true
    · rw [if_pos c4, if_pos (by simp only [ByteArray.size_append, k1]; omega)]
      exact ⟨_, rfl, by simp only [ByteArray.size_append, k1, k2]; omega⟩
    · rw [if_neg c4]
      exact ⟨_, rfl, by simp only [ByteArray.size_append, k1]; omega⟩
  · rw [if_neg c2, e5]
    simp only [Option.bind_some]
    by_cases c5 : b5 = true
    · rw [if_pos c5, if_pos (by omega)]
      exact ⟨_, rfl, by simp only [ByteArray.size_append, k2]; omega⟩
    · rw [if_neg c5]
      exact ⟨_, rfl, by show v.size ≤ 100; omega⟩
theorem drawReadNumber_some (c : List Int) (hc : Bytes8 c) : ∃ s, spec_DrawReadNumber.f c = some s ∧ s.size ≤ 100 := by
  unfold spec_DrawReadNumber.f spec_DrawReadNumber.g
  obtain ⟨v, a1, s1, e1, m1, h1, h1'⟩ := of_some c hc 0 0 ⟨by omega, by omega⟩ [(⟨#[]⟩ : ByteArray), (⟨#[48]⟩ : ByteArray), (⟨#[49]⟩ : ByteArray), (⟨#[49, 50]⟩ : ByteArray), (⟨#[48, 49]⟩ : ByteArray), (⟨#[57, 57, 57, 57]⟩ : ByteArray), (⟨#[49, 48, 48, 48, 48]⟩ : ByteArray), (⟨#[97]⟩ : ByteArray), (⟨#[45, 49]⟩ : ByteArray), (⟨#[49, 48, 48, 48]⟩ : ByteArray)] (by decide)
  have z1 : v.size ≤ 100 := mem_le 100 m1 (by decide)
  rw [e1]
  exact ⟨_, rfl, z1⟩
/-! Reading back. -/
theorem no_comma (n : Nat) : ∀ b ∈ Lib.decDigits n, b ≠ 44 := by
  intro b hb e
  obtain ⟨k, hk, e2⟩ := List.getElem_of_mem hb
  obtain ⟨d, hd⟩ := Lib.digit_of_decFrom _ _ _ (decFrom_digits n) k b (by rw [List.getElem?_eq_getElem hk, e2])
  rw [e] at hd
  cases hd
theorem cutC_none : ∀ (l : List UInt8), (∀ b ∈ l, b ≠ 44) → cutC l = (l, none)
  | [], _ => rfl
  | c :: r, h => by
    simp only [cutC]
    rw [if_neg (h c (List.mem_cons_self ..)), cutC_none r (fun b hb => h b (List.mem_cons_of_mem _ hb))]
theorem cutC_at : ∀ (l r : List UInt8), (∀ b ∈ l, b ≠ 44) → cutC (l ++ 44 :: r) = (l, some r)
  | [], r, _ => by simp [cutC]
  | c :: t, r, h => by
    simp only [List.cons_append, cutC]
    rw [if_neg (h c (List.mem_cons_self ..)), cutC_at t r (fun b hb => h b (List.mem_cons_of_mem _ hb))]
theorem short_digits {n : Nat} (h : n ≤ 9999) : (Lib.decDigits n).length ≤ 4 := by
  rw [Lib.decDigits_length]
  have key : ∀ k : Nat, n < 10 ^ k → 1 ≤ k → Lib.nDigits n ≤ k := by
    intro k
    induction k generalizing n with
    | zero => intro _ h1; omega
    | succ k ih =>
      intro hk _
      by_cases h10 : n < 10
      · rw [Lib.nDigits_small h10]; omega
      · rw [Lib.nDigits_big h10]
        have hk1 : 1 ≤ k := by
          rcases Nat.eq_zero_or_pos k with h0 | h0
          · subst h0; simp at hk; omega
          · exact h0
        rw [Nat.pow_succ] at hk
        have := ih (n := n / 10) (by omega) (by omega) hk1
        omega
  exact key 4 (by omega) (by decide)
theorem rd4_num {n : Nat} (h : n ≤ 9999) : rd4 (Lib.decDigits n) = some n := rd4_digits (short_digits h)
theorem append_data (a b : ByteArray) : (a ++ b).data.toList = a.data.toList ++ b.data.toList := by simp
theorem back_count (a b : Int) (h : inRange a b = true) : countR (countTR a b).1.data.toList = (a, b, true) := by
  have hr := (inRange_iff a b).1 h
  unfold countTR
  rw [if_pos h]
  simp only
  generalize hf : (if b > 0 then a + 1 else a).toNat = f
  have hf2 : (f : Int) = if b > 0 then a + 1 else a := by
    rw [← hf]
    split <;> omega
  have hf3 : f ≤ 1000 := by
    split at hf2 <;> omega
  unfold cntV
  by_cases h1 : b.toNat = 1
  · rw [if_pos h1, num_data]
    unfold countR cutR
    rw [cutC_none _ (no_comma f)]
    simp only
    rw [rd4_num (by omega)]
    simp only [Option.map_some, Option.getD_none]
    unfold countV
    have e : (if (1 : Int) > 0 then (f : Int) - 1 else (f : Int)) = a := by
      rw [if_pos (by decide), hf2, if_pos (by omega)]
      omega
    rw [show (((1 : Nat) : Int)) = 1 from rfl, e, show b = 1 from by omega]
    rw [show b = 1 from by omega] at h
    rw [if_pos h]
  · rw [if_neg h1, append_data, append_data, num_data, num_data]
    show countR (Lib.decDigits f ++ 44 :: Lib.decDigits b.toNat) = _
    unfold countR cutR
    rw [cutC_at _ _ (no_comma f)]
    simp only
    rw [rd4_num (by omega), rd4_num (by omega)]
    simp only [Option.bind_some, Option.map_some, Option.getD_some]
    unfold countV
    rw [show ((b.toNat : Nat) : Int) = b from by omega]
    have e : (if b > 0 then (f : Int) - 1 else (f : Int)) = a := by
      split
      · rw [hf2, if_pos (by omega)]; omega
      · rw [hf2, if_neg (by omega)]
    rw [e, if_pos h]
theorem back_pair (a b : Int) (h : inRange a b = true) (hs : a + b ≤ 1000) (hb : b > 0) : endsR 0 (pairR a b).1.data.toList = (a + 1, a + b, true) := by
  have hr := (inRange_iff a b).1 h
  unfold pairR
  rw [if_pos h]
  simp only
  have e1 : (if b > 0 then a + 1 else a) = a + 1 := if_pos hb
  rw [e1]
  unfold pairV
  by_cases h1 : (a + 1).toNat = (a + b).toNat
  · rw [if_pos h1, num_data]
    unfold endsR cutR
    rw [cutC_none _ (no_comma _)]
    simp only
    rw [rd4_num (by omega)]
    simp only [Option.map_some, Option.getD_none]
    rw [if_pos (by omega)]
    refine Prod.ext (by simp only; omega) (Prod.ext (by simp only; omega) rfl)
  · rw [if_neg h1, append_data, append_data, num_data, num_data]
    show endsR 0 ((Lib.decDigits (a + 1).toNat ++ [44]) ++ Lib.decDigits (a + b).toNat) = _
    rw [List.append_assoc]
    show endsR 0 (Lib.decDigits (a + 1).toNat ++ 44 :: Lib.decDigits (a + b).toNat) = _
    unfold endsR cutR
    rw [cutC_at _ _ (no_comma _)]
    simp only
    rw [rd4_num (by omega), rd4_num (by omega)]
    simp only [Option.bind_some, Option.map_some, Option.getD_some]
    rw [if_pos (by omega)]
    refine Prod.ext (by simp only; omega) (Prod.ext (by simp only; omega) rfl)
theorem ends_le {l : List UInt8} (h : (endsR 0 l).2.2 = true) : (endsR 0 l).1 ≤ (endsR 0 l).2.1 := by
  unfold endsR at h ⊢
  cases cutR l with
  | none => simp
  | some p =>
    obtain ⟨n, o⟩ := p
    simp only at h ⊢
    split
    · simp only; omega
    · simp
theorem cntV_size (f m : Nat) (hf : f ≤ 100000) (hm : m ≤ 100000) : (cntV f m).size ≤ 100 := by
  have s1 := num_size' f hf
  have s2 := num_size' m hm
  unfold cntV
  split
  · omega
  · rw [ByteArray.size_append, ByteArray.size_append, show comma.size = 1 from rfl]; omega
theorem pairV_size' (f m : Nat) (hf : f ≤ 100000) (hm : m ≤ 100000) : (pairV f m).size ≤ 100 := by
  have s1 := num_size' f hf
  have s2 := num_size' m hm
  unfold pairV
  split
  · omega
  · rw [ByteArray.size_append, ByteArray.size_append, show comma.size = 1 from rfl]; omega
theorem first_small {a b : Int} (h : (0 ≤ a ∧ a ≤ 999) ∧ (0 ≤ b ∧ b ≤ 999)) : (if b > 0 then a + 1 else a).toNat ≤ 100000 := by
  by_cases hb : b > 0
  · rw [if_pos hb]; omega
  · rw [if_neg hb]; omega
theorem cnt_size (a b : Int) : (countTR a b).1.size ≤ 100 := by
  unfold countTR
  by_cases h : inRange a b = true
  · rw [if_pos h]
    rw [inRange_iff] at h
    exact cntV_size _ _ (first_small h) (by omega)
  · rw [if_neg h]
    exact Nat.zero_le _
theorem pair_size (a b : Int) : (pairR a b).1.size ≤ 100 := by
  unfold pairR
  by_cases h : inRange a b = true
  · rw [if_pos h]
    rw [inRange_iff] at h
    exact pairV_size' _ _ (first_small h) (by omega)
  · rw [if_neg h]
    exact Nat.zero_le _
theorem FnNumbers : laws_FnNumbers.Pure := by
  intro l0 l1 q0 q1
  have hc0 := bytes8_of q0
  have hc1 := bytes8_of q1
  refine Ev.rounds (r := true) ?_
  simp only [laws_FnNumbers.f]
  refine ev_bind (ev_const (big_eq l0 l1 hc0 hc1)) (ev_ite (fun _ => ev_some rfl) (fun _ => ?_))
  obtain ⟨a, b, ed⟩ := drawCount_some l0 hc0
  have hj2 : Ev (fun k => laws_FnNumbers.j2 k l1) true := by
    obtain ⟨s1, e1, z1⟩ := drawReadPair_some l1 hc1
    obtain ⟨s2, e2, z2⟩ := drawReadNumber_some l1 hc1
    have f1 : spec_DrawReadCount.f l1 = some s1 := by unfold spec_DrawReadCount.f; rw [e1]; rfl
    have f2 : spec_DrawReadEnd.f l1 = some s1 := by unfold spec_DrawReadEnd.f; rw [e1]; rfl
    refine Ev.step (fun k => laws_FnNumbers.j2.eq_2 ..) ?_
    refine ev_bind (ev_const f1) (ev_bind (impl_ReadCount_ev s1 (by omega)) (ev_bind (spec_ReadCount_ev s1 (by omega)) ?_))
    refine ev_bind (ev_const e1) (ev_bind (impl_ReadPair_ev s1 (by omega)) (ev_bind (spec_ReadPair_ev s1 (by omega)) ?_))
    refine ev_bind (ev_const f2) (ev_bind (impl_ReadEnd_ev s1 (by omega)) (ev_bind (spec_ReadEnd_ev s1 (by omega)) ?_))
    refine ev_bind (ev_const e2) (ev_bind (ev_const (impl_ReadNumber_eq s2 (by omega))) (ev_bind (spec_ReadNumber_ev s2 (by omega)) ?_))
    refine ev_pos (by simp) (ev_pos rfl (ev_pos rfl (ev_pos (by simp) (ev_pos rfl (ev_pos rfl (ev_pos (by simp) (ev_pos rfl (ev_pos rfl ?_))))))))
    refine ev_ite (fun h => ev_pos (ends_le h) (ev_pos (by simp) (ev_some (by simp)))) (fun _ => ev_pos (by simp) (ev_some (by simp)))
  have hj0 : Ev (fun k => laws_FnNumbers.j0 k l1 a b (countTR a b).1 (countTR a b).2 (pairR a b).1 false) true := by
    refine Ev.step (fun k => laws_FnNumbers.j0.eq_2 ..) (ev_neg (by simp) (ev_ite (fun h => ?_) (fun _ => hj2)))
    have hr : inRange a b = true := by
      unfold countTR at h
      split at h
      · assumption
      · cases h
    have hb := (inRange_iff a b).1 hr
    have z1 := cnt_size a b
    have z2 := pair_size a b
    refine ev_bind (impl_ReadCount_ev _ (by omega)) ?_
    rw [back_count a b hr]
    refine ev_pos rfl (ev_pos rfl ?_)
    refine Ev.step (fun k => laws_FnNumbers.j1.eq_2 ..) (ev_neg (by simp) (ev_bind (impl_ReadPair_ev _ (by omega)) ?_))
    rw [wrap64_id (x := a + b) (by omega) (by omega)]
    refine ev_ite (fun c1 => ev_ite (fun c2 => ?_) (fun _ => hj2)) (fun _ => hj2)
    rw [back_pair a b hr c1 c2, wrap64_id (x := a + 1) (by omega) (by omega)]
    exact ev_pos rfl (ev_pos rfl (ev_pos rfl hj2))
  have e2 : (countTR a b).2 = (pairR a b).2 := by
    unfold countTR pairR
    split <;> rfl
  refine ev_bind (ev_const ed) (ev_bind (ev_const (impl_CountText_eq a b)) (ev_bind (spec_CountText_ev a b) (ev_bind (ev_const (impl_PairText_eq a b)) (ev_bind (spec_PairText_ev a b) ?_))))
  refine ev_bind (a := pairR a b) (ev_const (by unfold impl_EndText.f; rw [impl_PairText_eq]; rfl)) (ev_bind (a := pairR a b) (by simp only [spec_EndText.f]; exact ev_bind (spec_PairText_ev a b) (ev_some rfl)) ?_)
  refine ev_neg (by simp) (ev_pos rfl (ev_neg (by simp) (ev_pos rfl (ev_neg (by simp) (ev_pos rfl (ev_neg (by rw [e2]; simp) ?_))))))
  simp only [bne_self_eq_false]
  exact hj0
end Go.Proofs.YtgcibnkdomegkaaDoor.Pure

/- The Go function loop.example/g00825/laws.FnNumbers returns true for every input, and each argument reads afterwards as it read before. No condition. -/
namespace Go.Proofs.YtgcibnkdomegkaaDoor.fnNumbers
open Go.ChangeShapes Go.WideShapes Go.ChangeAt Go.RowKit Go.Joins Go.Proofs.YtgcibnkdomegkaaDoor.Opens Go.Proofs.YtgcibnkdomegkaaDoor.My
open Go.ChangeMaps (open_string shut_string)
set_option linter.unusedVariables false
set_option linter.unusedSimpArgs false
theorem own : ownKnob Tryd.prog.godebug = none := by kernel_rfl
theorem laidOut : laidOutB Tryd.prog = true := by kernel_rfl
/-- WHAT THE ROW's LIST GIVES THE WALK. -/
theorem door {W : World} (h : laidMetH Tryd.prog Rows.fnNumbersRow.laid W) : Door true W := by
  rw [MakeChecks.laidMetH_plain _ _ _ (by kernel_rfl)] at h
  have hT : Lib.TabIs Tryd.prog W "internal/strconv.uint64pow10" .u64 Lib.pow10Tab := doorTab (h.tail.tail)
  exact ⟨hT, fun _ => doorSyn (h.tail.tail.tail.tail), fun _ => doorRng (h.tail.tail.tail)⟩
theorem door_met (os : Os) (args : Array Value) : laidMetH Tryd.prog Rows.fnNumbersRow.laid ((World.doorLaid Tryd.prog 62 os).forCall (fun _ _ => 0) ⟨#[], args, []⟩).memory :=
  laidMetH_of_parts3 (fuel := 8) (laidMet_of_run' 8 (by kernel_rfl) (by kernel_rfl)) (by kernel_rfl) (by kernel_rfl)
set_option maxRecDepth 100000 in
theorem lifted (os : Os) (started : os.Started) (H : Type) (enc : TypeId × Value → H) :
    ReturnsInHanded {} Tryd.checked os 3 .any (fun w args => (Rows.fnNumbersSpec.pre enc Tryd.prog Tryd.f3 [] false w args ∧ laidMetH Tryd.prog Rows.fnNumbersRow.laid w) ∧ sizedMet enc Tryd.prog Tryd.f3 (OpenSpec.ofChange Rows.fnNumbersSpec) false w args) (Rows.fnNumbersSpec.post enc Tryd.prog Tryd.f3 false true false false) := by
  refine returnsInHanded_of_change_and (C := Tryd.checked) (X := fun w _ => laidMetH Tryd.prog Rows.fnNumbersRow.laid w) (fun _ _ _ hh h => h.of_heap hh) own started (by kernel_rfl) Tryd.func3
    (ChangeSpec.witness_shaped (enc := enc) (C := Tryd.checked) (os := os) (X := fun w _ => laidMetH Tryd.prog Rows.fnNumbersRow.laid w) false (World.doorLaid Tryd.prog 62 os) #[.slice none 0 0, .slice none 0 0] 8 rfl (World.shaped_of_RefB (by kernel_rfl) (by kernel_rfl)) (by kernel_rfl) (by kernel_rfl) (by kernel_rfl) (door_met os _)) ?_
  intro W base args ds gs before hval0 hW hcnd hsz0 hL _
  have hval : ∀ (j : Nat) t v, Tryd.f3.params[j]? = some t → args[j]? = some v → Value.okWide Tryd.prog W .any base t v := hval0
  have hW' := hW
  obtain ⟨p, q, hA0, hV, rfl, hfz, hnd⟩ := hW
  have hA : DataW.TrodAll enc Tryd.prog W 0 (fun _ => true) true Tryd.f3.params.toList args.toList ds p := hA0
  rw [Tryd.params3] at hA hval
  obtain ⟨v0, vs0, d0, ds0, p0, q0, hargs, rfl, rfl, h0, r0⟩ := trodAll_cons hA
  obtain ⟨v1, vs1, d1, ds1, p1, q1, rfl, rfl, rfl, h1, r1⟩ := trodAll_cons r0
  obtain ⟨rfl, rfl, rfl⟩ := trodAll_nil r1
  obtain rfl : args = #[v0, v1] := by cases args; simp_all
  obtain ⟨rfl, rfl⟩ := trodVars_none hV
  obtain ⟨A0, n0, c0, rfl⟩ := okWide_slice Tryd.underlying22 (hval 0 22 v0 rfl rfl)
  have k0 := h0
  have lt0 : ∀ x ∈ p0, x.block < W.heap.size := by obtain ⟨m, hm⟩ := k0; exact DataW.trod_lt m _ _ _ hm
  obtain ⟨l0, rfl, hc0, hr0, q0_⟩ := Opens.row (opens_slice Tryd.underlying22 (by kernel_rfl) (opens_int .u8 Tryd.underlying5)) h0
  obtain ⟨A1, n1, c1, rfl⟩ := okWide_slice Tryd.underlying22 (hval 1 22 v1 rfl rfl)
  have k1 := h1
  have lt1 : ∀ x ∈ p1, x.block < W.heap.size := by obtain ⟨m, hm⟩ := k1; exact DataW.trod_lt m _ _ _ hm
  obtain ⟨l1, rfl, hc1, hr1, q1_⟩ := Opens.row (opens_slice Tryd.underlying22 (by kernel_rfl) (opens_int .u8 Tryd.underlying5)) h1
  clear hA0 hval0 hsz0
  obtain ⟨kr, hk⟩ := Pure.FnNumbers l0 l1 q0_ q1_
  refine (laws_FnNumbers.calls kr _ _ l0 _ _ l1 true W (door hL) hr0 hc0 hr1 hc1 hk rfl).mono fun e W' hh => ?_
  obtain ⟨rfl, hd⟩ := hh
  have bel : Below W.heap.size W W' := hd
  exact ⟨_, rfl, _, _, _, [], _, [], hW', trodAll_mk1 (shut_bool Tryd.underlying4 _), (trodAll_cons_mk (Below.trod laidOut (by kernel_rfl) (of_decide_eq_true (by kernel_rfl)) k0 bel lt0) (trodAll_cons_mk (Below.trod laidOut (by kernel_rfl) (of_decide_eq_true (by kernel_rfl)) k1 bel lt1) trodAll_mk0)), rfl, bel.frame _, fun h => by cases h⟩
theorem over : Rows.fnNumbersRow.holds Tryd.pinned (OpenSpec.ofChange Rows.fnNumbersSpec) :=
  OpenClaim.holds_of_wide 3 Tryd.f3 rfl rfl rfl rfl rfl rfl rfl ⟨rfl, rfl, rfl, rfl, rfl⟩ rfl rfl rfl rfl rfl (by kernel_rfl) Tryd.func3 (by kernel_rfl)
    (of_decide_eq_true (by kernel_rfl)) (by unfold Func.isWrapper; first | (rw [if_pos (by decide +kernel)]; kernel_rfl) | (rw [if_neg (by decide +kernel)]; exact ⟨rfl, rfl⟩))
    (fun os started H enc _ => lifted os started H enc)
theorem plain (f : FuncId) (fn : Func) (hf : Tryd.pinned.checked.prog.funcNamed "loop.example/g00825/laws.FnNumbers" = some f) (hfn : Tryd.pinned.checked.prog.funcs[f]? = some fn) :
    true = Tryd.pinned.checked.prog.looks [] ∧ ∀ (j : Nat) t, fn.params[j]? = some t → Tryd.pinned.checked.prog.wantsStandIn t = false := by
  obtain rfl : f = 3 := Option.some.inj ((show Tryd.prog.funcNamed "loop.example/g00825/laws.FnNumbers" = some 3 by kernel_rfl).symm.trans hf) |>.symm
  obtain rfl : fn = Tryd.f3 := (Option.some.inj (Tryd.func3.symm.trans hfn)).symm
  refine ⟨by kernel_rfl, fun j t ht => ?_⟩
  have hall : (Tryd.f3.params.all fun u => !Tryd.prog.wantsStandIn u) = true := by kernel_rfl
  have hm := (Array.all_eq_true_iff_forall_mem.1 hall) t (Array.mem_of_getElem? ht)
  exact (show Tryd.prog.wantsStandIn t = false by simpa using hm)
theorem proved : Rows.FnNumbersCardSaid :=
  Claim7.holds_tied_plain_at .later [] _ _ _ _ over (fun _ h => by cases h) (by kernel_rfl) (fun _ h => by cases h) fnNumbers_row_tie rfl ⟨rfl, rfl⟩ (by kernel_rfl) rfl plain (by kernel_rfl)
#print axioms proved
end Go.Proofs.YtgcibnkdomegkaaDoor.fnNumbers
namespace Go.Proofs.YtgcibnkdomegkaaDoor
/-- The row, under a short name, for the claim. -/
theorem fnNumbers_holds : Rows.FnNumbersCardSaid := fnNumbers.proved
end Go.Proofs.YtgcibnkdomegkaaDoor
