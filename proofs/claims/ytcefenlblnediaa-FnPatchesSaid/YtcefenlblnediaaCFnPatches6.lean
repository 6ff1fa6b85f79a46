/- Part 6 of 7 of a proof of this sentence: The Go function loop.example/g00825/laws.FnPatches returns true for every input, and each argument reads afterwards as it read before. No condition. -/
import Derived.Lib.Strings
import Derived.Laws.Bits64b
import Derived.Lib.Bytealg
import Derived.Test.YtcefenlblnediaaCFnPatches5
/- Written by this session's program (wip/gen): a plain function with the same answers as the Go function, and the proof that the Go code comes to them. Asked: that the plain function has an answer. -/
namespace Go.Proofs.Ytcefenlblnediaa.My
open Go.RowKit Go.Proofs.YtcefenlblnediaaW.PrintWords Go.Proofs.YtcefenlblnediaaW.PrintLast Go.Proofs.YtcefenlblnediaaW.PrintMore
attribute [local go_sem] max2_int min2_int max_two min_two max_three min_three max_four min_four
set_option linter.unusedVariables false
set_option linter.unusedSimpArgs false

/-! ### laws_FnPatches: function 8 -/
mutual
def laws_FnPatches.j0 : Nat → List Int → List ByteArray → List (S111) → List ByteArray → Bool → List (S111) → Bool → Option (Bool)
 | 0, _, _, _, _, _, _, _ => none
 | k + 1, x1, x5, x6, x7, x8, x11, x100 => if x100 = true then (some false) else (if x8 = true then ((impl_Patch.f k x7 x11).bind fun bt1012 => ((impl_CountHunks.f k x6).bind fun bt1016 => ((impl_BackHunks.f k x7 x11).bind fun bt1019 => (if bt1012.2 = true then ((laws_sameTexts.f k bt1012.1 x5).bind fun t1023 => (if t1023 = true then (if bt1016.2.2 = true then (if (x7.length : Int) = (wrap64 ((wrap64 ((x5.length : Int) - bt1016.1)) + bt1016.2.1)) then (if bt1019.2 = true then ((laws_sameHunks.f k bt1019.1 x6).bind fun t1024 => (if t1024 = true then ((impl_GoodHunks.f k (x7.length : Int) x11).bind fun t1025 => (if t1025 = true then (laws_FnPatches.j1 k x1) else (some false))) else (some false))) else (some false)) else (some false)) else (some false)) else (some false))) else (some false))))) else (laws_FnPatches.j1 k x1))
def laws_FnPatches.j1 : Nat → List Int → Option (Bool)
 | 0, _ => none
 | k + 1, x1 => (spec_DrawGoodHunks.f k x1).bind fun bt1026 => ((spec_DrawCountHunks.f k x1).bind fun t1030 => ((impl_CountHunks.f k t1030).bind fun bt1033 => ((spec_CountHunks.f k t1030).bind fun bt1036 => ((spec_DrawSameHunks.f k x1).bind fun bt1039 => ((impl_GoodHunks.f k bt1026.1 bt1026.2).bind fun t1045 => ((spec_GoodHunks.f k bt1026.1 bt1026.2).bind fun t1046 => (if (t1045 == t1046) = true then (if (bt1033.2.2 == bt1036.2.2) = true then (if bt1033.1 = bt1036.1 then (if bt1033.2.1 = bt1036.2.1 then ((impl_SameHunks.f k bt1039.1 bt1039.2).bind fun t1047 => ((spec_SameHunks.f k bt1039.1 bt1039.2).bind fun t1048 => (if (t1047 == t1048) = true then ((impl_SameHunks.f k bt1039.1 bt1039.2).bind fun t1049 => ((laws_sameHunks.f k bt1039.1 bt1039.2).bind fun t1050 => (some (t1049 == t1050)))) else (some false)))) else (some false)) else (some false)) else (some false)) else (some false))))))))
end
def laws_FnPatches.f (k : Nat) (l0 : List Int) (l1 : List Int) : Option (Bool) := (laws_big.f l0 l1).bind fun t985 => (if t985 = true then (some true) else ((spec_DrawBackHunks.f k l0).bind fun bt986 => ((impl_Patch.f k bt986.1 bt986.2).bind fun bt992 => ((spec_Patch.f k bt986.1 bt986.2).bind fun bt996 => ((impl_BackHunks.f k bt986.1 bt986.2).bind fun bt1000 => ((spec_BackHunks.f k bt986.1 bt986.2).bind fun bt1004 => (if (bt992.2 != bt996.2) = true then (laws_FnPatches.j0 k l1 bt986.1 bt986.2 bt992.1 bt992.2 bt1000.1 true) else ((laws_sameTexts.f k bt992.1 bt996.1).bind fun t1008 => (if t1008 = true then (if (bt1000.2 != bt1004.2) = true then (laws_FnPatches.j0 k l1 bt986.1 bt986.2 bt992.1 bt992.2 bt1000.1 true) else ((laws_sameHunks.f k bt1000.1 bt1004.1).bind fun t1009 => (if t1009 = true then (if (bt992.2 != bt1000.2) = true then (laws_FnPatches.j0 k l1 bt986.1 bt986.2 bt992.1 bt992.2 bt1000.1 true) else ((impl_GoodHunks.f k (bt986.1.length : Int) bt986.2).bind fun t1010 => ((spec_GoodHunks.f k (bt986.1.length : Int) bt986.2).bind fun t1011 => (laws_FnPatches.j0 k l1 bt986.1 bt986.2 bt992.1 bt992.2 bt1000.1 (t1010 != t1011))))) else (laws_FnPatches.j0 k l1 bt986.1 bt986.2 bt992.1 bt992.2 bt1000.1 true)))) else (laws_FnPatches.j0 k l1 bt986.1 bt986.2 bt992.1 bt992.2 bt1000.1 true))))))))))
set_option maxHeartbeats 8000000 in
set_option maxRecDepth 100000 in
theorem laws_FnPatches.calls (k : Nat) (A0 : Option Addr) (c0 : Nat) (l0 : List Int) (A1 : Option Addr) (c1 : Nat) (l1 : List Int) (r : Bool) (w : World) (hr0 : Kd.C (Kd.int .u8) w A0 l0.length l0) (hc0 : l0.length ≤ c0) (hr1 : Kd.C (Kd.int .u8) w A1 l1.length l1) (hc1 : l1.length ≤ c1) (h : laws_FnPatches.f k l0 l1 = some r) (hr_ : r = true) :
  Calls Try.prog 8 #[.slice A0 l0.length c0, .slice A1 l1.length c1] w fun e w' => e = .returned (.bool r) ∧ Below w.heap.size w w' := by
 have HR_ := Aside0.mk hr_
 clear hr_
 have HR0 := Aside0.mk hr0
 have HC0 := Aside0.mk hc0
 clear hr0 hc0
 have HR1 := Aside0.mk hr1
 have HC1 := Aside0.mk hc1
 clear hr1 hc1
 have HB := Aside0.mk (Below.refl w.heap.size w)
 have H : ((laws_big.f l0 l1).bind fun t985 => (if t985 = true then (some true) else ((spec_DrawBackHunks.f k l0).bind fun bt986 => ((impl_Patch.f k bt986.1 bt986.2).bind fun bt992 => ((spec_Patch.f k bt986.1 bt986.2).bind fun bt996 => ((impl_BackHunks.f k bt986.1 bt986.2).bind fun bt1000 => ((spec_BackHunks.f k bt986.1 bt986.2).bind fun bt1004 => (if (bt992.2 != bt996.2) = true then (laws_FnPatches.j0 k l1 bt986.1 bt986.2 bt992.1 bt992.2 bt1000.1 true) else ((laws_sameTexts.f k bt992.1 bt996.1).bind fun t1008 => (if t1008 = true then (if (bt1000.2 != bt1004.2) = true then (laws_FnPatches.j0 k l1 bt986.1 bt986.2 bt992.1 bt992.2 bt1000.1 true) else ((laws_sameHunks.f k bt1000.1 bt1004.1).bind fun t1009 => (if t1009 = true then (if (bt992.2 != bt1000.2) = true then (laws_FnPatches.j0 k l1 bt986.1 bt986.2 bt992.1 bt992.2 bt1000.1 true) else ((impl_GoodHunks.f k (bt986.1.length : Int) bt986.2).bind fun t1010 => ((spec_GoodHunks.f k (bt986.1.length : Int) bt986.2).bind fun t1011 => (laws_FnPatches.j0 k l1 bt986.1 bt986.2 bt992.1 bt992.2 bt1000.1 (t1010 != t1011))))) else (laws_FnPatches.j0 k l1 bt986.1 bt986.2 bt992.1 bt992.2 bt1000.1 true)))) else (laws_FnPatches.j0 k l1 bt986.1 bt986.2 bt992.1 bt992.2 bt1000.1 true))))))))))) = some r := h
 clear h
 replace H := Option.bind_eq_some_iff.mp H
 obtain ⟨t985, A30, H⟩ := H
 replace H : (if t985 = true then (some true) else ((spec_DrawBackHunks.f k l0).bind fun bt986 => ((impl_Patch.f k bt986.1 bt986.2).bind fun bt992 => ((spec_Patch.f k bt986.1 bt986.2).bind fun bt996 => ((impl_BackHunks.f k bt986.1 bt986.2).bind fun bt1000 => ((spec_BackHunks.f k bt986.1 bt986.2).bind fun bt1004 => (if (bt992.2 != bt996.2) = true then (laws_FnPatches.j0 k l1 bt986.1 bt986.2 bt992.1 bt992.2 bt1000.1 true) else ((laws_sameTexts.f k bt992.1 bt996.1).bind fun t1008 => (if t1008 = true then (if (bt1000.2 != bt1004.2) = true then (laws_FnPatches.j0 k l1 bt986.1 bt986.2 bt992.1 bt992.2 bt1000.1 true) else ((laws_sameHunks.f k bt1000.1 bt1004.1).bind fun t1009 => (if t1009 = true then (if (bt992.2 != bt1000.2) = true then (laws_FnPatches.j0 k l1 bt986.1 bt986.2 bt992.1 bt992.2 bt1000.1 true) else ((impl_GoodHunks.f k (bt986.1.length : Int) bt986.2).bind fun t1010 => ((spec_GoodHunks.f k (bt986.1.length : Int) bt986.2).bind fun t1011 => (laws_FnPatches.j0 k l1 bt986.1 bt986.2 bt992.1 bt992.2 bt1000.1 (t1010 != t1011))))) else (laws_FnPatches.j0 k l1 bt986.1 bt986.2 bt992.1 bt992.2 bt1000.1 true)))) else (laws_FnPatches.j0 k l1 bt986.1 bt986.2 bt992.1 bt992.2 bt1000.1 true)))))))))) = some r := H
 have A3 := Aside0.mk A30
 clear A30
 by_cases c4 : t985 = true
 ·as_aux_lemma =>
    subst c4
    have H1 : (some true) = some r := by rw [if_pos rfl] at H; exact H
    clear H
    have H := H1
    clear H1
    first
    | exact absurd (show false = true from (Option.some.inj H).trans HR_.out) Bool.false_ne_true
    | obtain rfl := Option.some.inj H
      go_enter Try.func8, Try.ntmps8
      go_wp2_with (first | ((with_reducible refine gateC (f := 32) rfl ?_); refine goesL_ (some 35) rfl rfl Try.func32 (by kernel_rfl) rfl #[.slice A0 l0.length c0, .slice A1 l1.length c1] rfl zm ?_; (with_reducible refine (laws_big.calls _ _ l0 _ _ l1 true _ ?side1 ?side2 ?side3 ?side4 A3.out).mono ?_); (case side1 => exact zq HR0.out); (case side2 => exact HC0.out); (case side3 => exact zq HR1.out); (case side4 => exact HC1.out); rintro e w' ⟨rfl, ⟨nd, rfl⟩⟩; refine ⟨_, rfl, ?_⟩))
      go_ret
      exact ⟨by first | rfl | (simp [errW_none, errW_some] <;> rfl) | (simp [*, errW_none, errW_some] <;> rfl), by repeat (first | (with_reducible first | exact HB.out | apply below_alloc | apply pw_below_drewN | apply below_drew1) | exact HB.out)⟩
 ·as_aux_lemma =>
    replace c4 := Bool.eq_false_iff.mpr c4
    subst c4
    have H1 : ((spec_DrawBackHunks.f k l0).bind fun bt986 => ((impl_Patch.f k bt986.1 bt986.2).bind fun bt992 => ((spec_Patch.f k bt986.1 bt986.2).bind fun bt996 => ((impl_BackHunks.f k bt986.1 bt986.2).bind fun bt1000 => ((spec_BackHunks.f k bt986.1 bt986.2).bind fun bt1004 => (if (bt992.2 != bt996.2) = true then (laws_FnPatches.j0 k l1 bt986.1 bt986.2 bt992.1 bt992.2 bt1000.1 true) else ((laws_sameTexts.f k bt992.1 bt996.1).bind fun t1008 => (if t1008 = true then (if (bt1000.2 != bt1004.2) = true then (laws_FnPatches.j0 k l1 bt986.1 bt986.2 bt992.1 bt992.2 bt1000.1 true) else ((laws_sameHunks.f k bt1000.1 bt1004.1).bind fun t1009 => (if t1009 = true then (if (bt992.2 != bt1000.2) = true then (laws_FnPatches.j0 k l1 bt986.1 bt986.2 bt992.1 bt992.2 bt1000.1 true) else ((impl_GoodHunks.f k (bt986.1.length : Int) bt986.2).bind fun t1010 => ((spec_GoodHunks.f k (bt986.1.length : Int) bt986.2).bind fun t1011 => (laws_FnPatches.j0 k l1 bt986.1 bt986.2 bt992.1 bt992.2 bt1000.1 (t1010 != t1011))))) else (laws_FnPatches.j0 k l1 bt986.1 bt986.2 bt992.1 bt992.2 bt1000.1 true)))) else (laws_FnPatches.j0 k l1 bt986.1 bt986.2 bt992.1 bt992.2 bt1000.1 true))))))))) = some r := by rw [if_neg (show ¬ (false = true) by decide)] at H; exact H
    clear H
    have H := H1
    clear H1
    replace H := Option.bind_eq_some_iff.mp H
    obtain ⟨⟨t986, t987⟩, A50, H⟩ := H
    replace H : ((impl_Patch.f k t986 t987).bind fun bt992 => ((spec_Patch.f k t986 t987).bind fun bt996 => ((impl_BackHunks.f k t986 t987).bind fun bt1000 => ((spec_BackHunks.f k t986 t987).bind fun bt1004 => (if (bt992.2 != bt996.2) = true then (laws_FnPatches.j0 k l1 t986 t987 bt992.1 bt992.2 bt1000.1 true) else ((laws_sameTexts.f k bt992.1 bt996.1).bind fun t1008 => (if t1008 = true then (if (bt1000.2 != bt1004.2) = true then (laws_FnPatches.j0 k l1 t986 t987 bt992.1 bt992.2 bt1000.1 true) else ((laws_sameHunks.f k bt1000.1 bt1004.1).bind fun t1009 => (if t1009 = true then (if (bt992.2 != bt1000.2) = true then (laws_FnPatches.j0 k l1 t986 t987 bt992.1 bt992.2 bt1000.1 true) else ((impl_GoodHunks.f k (t986.length : Int) t987).bind fun t1010 => ((spec_GoodHunks.f k (t986.length : Int) t987).bind fun t1011 => (laws_FnPatches.j0 k l1 t986 t987 bt992.1 bt992.2 bt1000.1 (t1010 != t1011))))) else (laws_FnPatches.j0 k l1 t986 t987 bt992.1 bt992.2 bt1000.1 true)))) else (laws_FnPatches.j0 k l1 t986 t987 bt992.1 bt992.2 bt1000.1 true)))))))) = some r := H
    have A5 := Aside0.mk A50
    clear A50
    replace H := Option.bind_eq_some_iff.mp H
    obtain ⟨⟨t992, t993⟩, A60, H⟩ := H
    replace H : ((spec_Patch.f k t986 t987).bind fun bt996 => ((impl_BackHunks.f k t986 t987).bind fun bt1000 => ((spec_BackHunks.f k t986 t987).bind fun bt1004 => (if (t993 != bt996.2) = true then (laws_FnPatches.j0 k l1 t986 t987 t992 t993 bt1000.1 true) else ((laws_sameTexts.f k t992 bt996.1).bind fun t1008 => (if t1008 = true then (if (bt1000.2 != bt1004.2) = true then (laws_FnPatches.j0 k l1 t986 t987 t992 t993 bt1000.1 true) else ((laws_sameHunks.f k bt1000.1 bt1004.1).bind fun t1009 => (if t1009 = true then (if (t993 != bt1000.2) = true then (laws_FnPatches.j0 k l1 t986 t987 t992 t993 bt1000.1 true) else ((impl_GoodHunks.f k (t986.length : Int) t987).bind fun t1010 => ((spec_GoodHunks.f k (t986.length : Int) t987).bind fun t1011 => (laws_FnPatches.j0 k l1 t986 t987 t992 t993 bt1000.1 (t1010 != t1011))))) else (laws_FnPatches.j0 k l1 t986 t987 t992 t993 bt1000.1 true)))) else (laws_FnPatches.j0 k l1 t986 t987 t992 t993 bt1000.1 true))))))) = some r := H
    have A6 := Aside0.mk A60
    clear A60
    replace H := Option.bind_eq_some_iff.mp H
    obtain ⟨⟨t996, t997⟩, A70, H⟩ := H
    replace H : ((impl_BackHunks.f k t986 t987).bind fun bt1000 => ((spec_BackHunks.f k t986 t987).bind fun bt1004 => (if (t993 != t997) = true then (laws_FnPatches.j0 k l1 t986 t987 t992 t993 bt1000.1 true) else ((laws_sameTexts.f k t992 t996).bind fun t1008 => (if t1008 = true then (if (bt1000.2 != bt1004.2) = true then (laws_FnPatches.j0 k l1 t986 t987 t992 t993 bt1000.1 true) else ((laws_sameHunks.f k bt1000.1 bt1004.1).bind fun t1009 => (if t1009 = true then (if (t993 != bt1000.2) = true then (laws_FnPatches.j0 k l1 t986 t987 t992 t993 bt1000.1 true) else ((impl_GoodHunks.f k (t986.length : Int) t987).bind fun t1010 => ((spec_GoodHunks.f k (t986.length : Int) t987).bind fun t1011 => (laws_FnPatches.j0 k l1 t986 t987 t992 t993 bt1000.1 (t1010 != t1011))))) else (laws_FnPatches.j0 k l1 t986 t987 t992 t993 bt1000.1 true)))) else (laws_FnPatches.j0 k l1 t986 t987 t992 t993 bt1000.1 true)))))) = some r := H
    have A7 := Aside0.mk A70
    clear A70
    replace H := Option.bind_eq_some_iff.mp H
    obtain ⟨⟨t1000, t1001⟩, A80, H⟩ := H
    replace H : ((spec_BackHunks.f k t986 t987).bind fun bt1004 => (if (t993 != t997) = true then (laws_FnPatches.j0 k l1 t986 t987 t992 t993 t1000 true) else ((laws_sameTexts.f k t992 t996).bind fun t1008 => (if t1008 = true then (if (t1001 != bt1004.2) = true then (laws_FnPatches.j0 k l1 t986 t987 t992 t993 t1000 true) else ((laws_sameHunks.f k t1000 bt1004.1).bind fun t1009 => (if t1009 = true then (if (t993 != t1001) = true then (laws_FnPatches.j0 k l1 t986 t987 t992 t993 t1000 true) else ((impl_GoodHunks.f k (t986.length : Int) t987).bind fun t1010 => ((spec_GoodHunks.f k (t986.length : Int) t987).bind fun t1011 => (laws_FnPatches.j0 k l1 t986 t987 t992 t993 t1000 (t1010 != t1011))))) else (laws_FnPatches.j0 k l1 t986 t987 t992 t993 t1000 true)))) else (laws_FnPatches.j0 k l1 t986 t987 t992 t993 t1000 true))))) = some r := H
    have A8 := Aside0.mk A80
    clear A80
    replace H := Option.bind_eq_some_iff.mp H
    obtain ⟨⟨t1004, t1005⟩, A90, H⟩ := H
    replace H : (if (t993 != t997) = true then (laws_FnPatches.j0 k l1 t986 t987 t992 t993 t1000 true) else ((laws_sameTexts.f k t992 t996).bind fun t1008 => (if t1008 = true then (if (t1001 != t1005) = true then (laws_FnPatches.j0 k l1 t986 t987 t992 t993 t1000 true) else ((laws_sameHunks.f k t1000 t1004).bind fun t1009 => (if t1009 = true then (if (t993 != t1001) = true then (laws_FnPatches.j0 k l1 t986 t987 t992 t993 t1000 true) else ((impl_GoodHunks.f k (t986.length : Int) t987).bind fun t1010 => ((spec_GoodHunks.f k (t986.length : Int) t987).bind fun t1011 => (laws_FnPatches.j0 k l1 t986 t987 t992 t993 t1000 (t1010 != t1011))))) else (laws_FnPatches.j0 k l1 t986 t987 t992 t993 t1000 true)))) else (laws_FnPatches.j0 k l1 t986 t987 t992 t993 t1000 true)))) = some r := H
    have A9 := Aside0.mk A90
    clear A90
    have HC10 := Aside0.mk H
    clear H
    go_enter Try.func8, Try.ntmps8
    go_upto_region 8 with (first | ((with_reducible refine gateC (f := 32) rfl ?_); refine goesL_ (some 35) rfl rfl Try.func32 (by kernel_rfl) rfl #[.slice A0 l0.length c0, .slice A1 l1.length c1] rfl zm ?_; (with_reducible refine (laws_big.calls _ _ l0 _ _ l1 false _ ?side1 ?side2 ?side3 ?side4 A3.out).mono ?_); (case side1 => exact zq HR0.out); (case side2 => exact HC0.out); (case side3 => exact zq HR1.out); (case side4 => exact HC1.out); rintro e w' ⟨rfl, ⟨nd, rfl⟩⟩; refine ⟨_, rfl, ?_⟩) | ((with_reducible refine gateC (f := 46) rfl ?_); refine goesL_ (some 38) rfl rfl Try.func46 (by kernel_rfl) rfl #[.slice A0 l0.length c0] rfl zm ?_; (with_reducible refine (spec_DrawBackHunks.calls k _ _ l0 t986 t987 _ ?side1 ?side2 A5.out).mono ?_); (case side1 => exact zq HR0.out); (case side2 => exact HC0.out); rintro e w11 ⟨v988, v990, rfl, ho0, ho1, hb⟩; refine ⟨_, rfl, ?_⟩; have n0_ := Aside0.mk (Kd.R_lower ho0 (below_size zb)); have n1_ := Aside0.mk (Kd.S_lower ho1 (below_size zb)); have n2_ := Aside0.mk (below_step zb hb); clear HB; have HO989 := n0_; have HO991 := n1_; have HB := n2_; clear n0_ n1_ n2_; (try clear hb); (try clear hb2); (try clear hk); (try clear hi); (try clear ho0); (try clear ho1); obtain ⟨Ao12, co12, eo12⟩ := Kd.R_slice HO989.out; subst eo12; obtain ⟨Ao13, co13, eo13⟩ := Kd.S_slice HO991.out; subst eo13) | ((with_reducible refine gateC (f := 35) rfl ?_); refine goesL_ (some 44) rfl rfl Try.func35 (by kernel_rfl) rfl #[.slice Ao12 t986.length co12, .slice Ao13 t987.length co13] rfl zm ?_; (with_reducible refine (impl_Patch.calls k _ _ t986 _ _ t987 t992 t993 _ ?side1 ?side2 ?side3 ?side4 A6.out).mono ?_); (case side1 => repeat (first | exact (Kd.R_reads' HO989.out).2.2 | (with_reducible refine Kd.C_alloc ?_ _) | (with_reducible refine Kd.C_drewN ?_ _) | (with_reducible refine Kd.C_drew ?_))); (case side2 => exact (Kd.R_reads' HO989.out).2.1); (case side3 => repeat (first | exact (Kd.S_reads' HO991.out).2.2 | (with_reducible refine Kd.C_alloc ?_ _) | (with_reducible refine Kd.C_drewN ?_ _) | (with_reducible refine Kd.C_drew ?_))); (case side4 => exact (Kd.S_reads' HO991.out).2.1); rintro e w14 ⟨v994, rfl, ho0, hb⟩; refine ⟨_, rfl, ?_⟩; have n0_ := Aside0.mk (Kd.R_elder' (zr HO989.out) (Kd.R_base ho0) hb); have n1_ := Aside0.mk (Kd.S_elder' (zs HO991.out) (Kd.R_base ho0) hb); have n2_ := Aside0.mk (Kd.R_lower (Kd.R_new' ho0 (Kd.R_lt (zr HO989.out))) (below_size zb)); have n3_ := Aside0.mk (below_step zb hb); clear HO989; clear HO991; clear HB; have HO989 := n0_; have HO991 := n1_; have HO995 := n2_; have HB := n3_; clear n0_ n1_ n2_ n3_; (try clear hb); (try clear hb2); (try clear hk); (try clear hi); (try clear ho0)) | ((with_reducible refine gateC (f := 39) rfl ?_); refine goesL_ (some 50) rfl rfl Try.func39 (by kernel_rfl) rfl #[.slice Ao12 t986.length co12, .slice Ao13 t987.length co13] rfl zm ?_; (with_reducible refine (spec_Patch.calls k _ _ t986 _ _ t987 t996 t997 _ ?side1 ?side2 ?side3 ?side4 A7.out).mono ?_); (case side1 => repeat (first | exact (Kd.R_reads' HO989.out).2.2 | (with_reducible refine Kd.C_alloc ?_ _) | (with_reducible refine Kd.C_drewN ?_ _) | (with_reducible refine Kd.C_drew ?_))); (case side2 => exact (Kd.R_reads' HO989.out).2.1); (case side3 => repeat (first | exact (Kd.S_reads' HO991.out).2.2 | (with_reducible refine Kd.C_alloc ?_ _) | (with_reducible refine Kd.C_drewN ?_ _) | (with_reducible refine Kd.C_drew ?_))); (case side4 => exact (Kd.S_reads' HO991.out).2.1); rintro e w15 ⟨v998, rfl, ho0, hb⟩; refine ⟨_, rfl, ?_⟩; have n0_ := Aside0.mk (Kd.R_elder' (zr HO989.out) (Kd.R_base ho0) hb); have n1_ := Aside0.mk (Kd.S_elder' (zs HO991.out) (Kd.R_base ho0) hb); have n2_ := Aside0.mk (Kd.R_elder' (zr HO995.out) (Kd.R_base ho0) hb); have n3_ := Aside0.mk (Kd.R_lower (Kd.R_new' (Kd.R_new' ho0 (Kd.R_lt (zr HO989.out))) (Kd.R_lt (zr HO995.out))) (below_size zb)); have n4_ := Aside0.mk (below_step zb hb); clear HO989; clear HO991; clear HO995; clear HB; have HO989 := n0_; have HO991 := n1_; have HO995 := n2_; have HO999 := n3_; have HB := n4_; clear n0_ n1_ n2_ n3_ n4_; (try clear hb); (try clear hb2); (try clear hk); (try clear hi); (try clear ho0)) | ((with_reducible refine gateC (f := 47) rfl ?_); refine goesL_ (some 56) rfl rfl Try.func47 (by kernel_rfl) rfl #[.slice Ao12 t986.length co12, .slice Ao13 t987.length co13] rfl zm ?_; (with_reducible refine (impl_BackHunks.calls k _ _ t986 _ _ t987 t1000 t1001 _ ?side1 ?side2 ?side3 ?side4 A8.out).mono ?_); (case side1 => repeat (first | exact (Kd.R_reads' HO989.out).2.2 | (with_reducible refine Kd.C_alloc ?_ _) | (with_reducible refine Kd.C_drewN ?_ _) | (with_reducible refine Kd.C_drew ?_))); (case side2 => exact (Kd.R_reads' HO989.out).2.1); (case side3 => repeat (first | exact (Kd.S_reads' HO991.out).2.2 | (with_reducible refine Kd.C_alloc ?_ _) | (with_reducible refine Kd.C_drewN ?_ _) | (with_reducible refine Kd.C_drew ?_))); (case side4 => exact (Kd.S_reads' HO991.out).2.1); rintro e w16 ⟨v1002, rfl, ho0, hb⟩; refine ⟨_, rfl, ?_⟩; have n0_ := Aside0.mk (Kd.R_below (zr HO989.out) hb); have n1_ := Aside0.mk (Kd.S_elder' (zs HO991.out) (Kd.S_base ho0) hb); have n2_ := Aside0.mk (Kd.R_below (zr HO995.out) hb); have n3_ := Aside0.mk (Kd.R_below (zr HO999.out) hb); have n4_ := Aside0.mk (Kd.S_lower (Kd.S_new' (Kd.S_new' (Kd.S_new' (Kd.S_new' ho0 (Kd.R_lt (zr HO989.out))) (Kd.S_lt (zs HO991.out))) (Kd.R_lt (zr HO995.out))) (Kd.R_lt (zr HO999.out))) (below_size zb)); have n5_ := Aside0.mk (below_step zb hb); clear HO989; clear HO991; clear HO995; clear HO999; clear HB; have HO989 := n0_; have HO991 := n1_; have HO995 := n2_; have HO999 := n3_; have HO1003 := n4_; have HB := n5_; clear n0_ n1_ n2_ n3_ n4_ n5_; (try clear hb); (try clear hb2); (try clear hk); (try clear hi); (try clear ho0)) | ((with_reducible refine gateC (f := 48) rfl ?_); refine goesL_ (some 62) rfl rfl Try.func48 (by kernel_rfl) rfl #[.slice Ao12 t986.length co12, .slice Ao13 t987.length co13] rfl zm ?_; (with_reducible refine (spec_BackHunks.calls k _ _ t986 _ _ t987 t1004 t1005 _ ?side1 ?side2 ?side3 ?side4 A9.out).mono ?_); (case side1 => repeat (first | exact (Kd.R_reads' HO989.out).2.2 | (with_reducible refine Kd.C_alloc ?_ _) | (with_reducible refine Kd.C_drewN ?_ _) | (with_reducible refine Kd.C_drew ?_))); (case side2 => exact (Kd.R_reads' HO989.out).2.1); (case side3 => repeat (first | exact (Kd.S_reads' HO991.out).2.2 | (with_reducible refine Kd.C_alloc ?_ _) | (with_reducible refine Kd.C_drewN ?_ _) | (with_reducible refine Kd.C_drew ?_))); (case side4 => exact (Kd.S_reads' HO991.out).2.1); rintro e w17 ⟨v1006, rfl, ho0, hb⟩; refine ⟨_, rfl, ?_⟩; have n0_ := Aside0.mk (Kd.R_below (zr HO989.out) hb); have n1_ := Aside0.mk (Kd.S_elder' (zs HO991.out) (Kd.S_base ho0) hb); have n2_ := Aside0.mk (Kd.R_below (zr HO995.out) hb); have n3_ := Aside0.mk (Kd.R_below (zr HO999.out) hb); have n4_ := Aside0.mk (Kd.S_elder' (zs HO1003.out) (Kd.S_base ho0) hb); have n5_ := Aside0.mk (Kd.S_lower (Kd.S_new' (Kd.S_new' (Kd.S_new' (Kd.S_new' (Kd.S_new' ho0 (Kd.R_lt (zr HO989.out))) (Kd.S_lt (zs HO991.out))) (Kd.R_lt (zr HO995.out))) (Kd.R_lt (zr HO999.out))) (Kd.S_lt (zs HO1003.out))) (below_size zb)); have n6_ := Aside0.mk (below_step zb hb); clear HO989; clear HO991; clear HO995; clear HO999; clear HO1003; clear HB; have HO989 := n0_; have HO991 := n1_; have HO995 := n2_; have HO999 := n3_; have HO1003 := n4_; have HO1007 := n5_; have HB := n6_; clear n0_ n1_ n2_ n3_ n4_ n5_ n6_; (try clear hb); (try clear hb2); (try clear hk); (try clear hi); (try clear ho0)))
    (try simp only [Act.put, List.setIfInBounds_toArray, List.set_cons_zero, List.set_cons_succ])
    go_cut [100] (fun v100 wc => ∃ (kq : Nat) (x100_9 : Bool), v100 = .bool x100_9 ∧ Aside0 (laws_FnPatches.j0 kq l1 t986 t987 t992 t993 t1000 x100_9 = some r) ∧ Aside0 (kq ≤ k) ∧ Aside0 (Kd.R Kd.string 9 wc w.heap.size (fun k_ => some k_ ≠ (v994 : Value).ownBlock) (.slice Ao12 t986.length co12) t986) ∧ Aside0 (Kd.S k111 111 wc w.heap.size (fun k_ => some k_ ≠ ((.slice Ao12 t986.length co12) : Value).ownBlock ∧ some k_ ≠ (v994 : Value).ownBlock ∧ some k_ ≠ (v1002 : Value).ownBlock) (.slice Ao13 t987.length co13) t987) ∧ Aside0 (Kd.R Kd.string 9 wc w.heap.size (fun k_ => some k_ ≠ ((.slice Ao12 t986.length co12) : Value).ownBlock) v994 t992) ∧ Aside0 (Kd.S k111 111 wc w.heap.size (fun k_ => some k_ ≠ ((.slice Ao12 t986.length co12) : Value).ownBlock ∧ some k_ ≠ ((.slice Ao13 t987.length co13) : Value).ownBlock ∧ some k_ ≠ (v994 : Value).ownBlock) v1002 t1000) ∧ Aside0 (Below w.heap.size w wc))
    case first =>
     have H := HC10.out
     clear HC10
     by_cases c18 : (t993 != t997) = true
     ·as_aux_lemma =>
        rw [if_pos c18] at H
        have c18b0 : (t993 != t997) = true := c18
        (try (have c18b1 : decide (t993 = t997) = false := by simpa using c18))
        (try (have c18b2 : (t993 == t997) = false := by simpa using c18))
        (try (have c18b3 : ¬ (t993 = t997) := by simpa using c18))
        clear c18
        (first | rw [c18b0] | (simp only [i64_w, i32_w]; rw [c18b0]) | skip)
        have H' := Aside0.mk H
        clear H
        go_wp2
        go_meet
        case rel => exact ⟨_, (true), zf, H', ⟨by first | omega | exact Nat.le_refl _⟩, ⟨by (with_reducible repeat (first | apply Kd.R_alloc | apply Kd.R_drewN | apply Kd.R_drew)); exact Kd.R_mono HO989.out (fun _ hk => hk.1.2)⟩, ⟨by (with_reducible repeat (first | apply Kd.S_alloc | apply Kd.S_drewN | apply Kd.S_drew)); exact Kd.S_mono HO991.out (fun _ hk => ⟨hk.1.1.1.1, ⟨hk.1.1.1.2, hk.1.2⟩⟩)⟩, ⟨by (with_reducible repeat (first | apply Kd.R_alloc | apply Kd.R_drewN | apply Kd.R_drew)); exact Kd.R_mono HO995.out (fun _ hk => hk.1.2)⟩, ⟨by (with_reducible repeat (first | apply Kd.S_alloc | apply Kd.S_drewN | apply Kd.S_drew)); exact Kd.S_mono HO1003.out (fun _ hk => ⟨hk.1.1.1.1.2, ⟨hk.1.1.1.2, hk.1.1.2⟩⟩)⟩, ⟨by repeat (first | (with_reducible first | exact HB.out | apply below_alloc | apply pw_below_drewN | apply below_drew1) | exact HB.out)⟩⟩
     ·as_aux_lemma =>
        rw [if_neg c18] at H
        have c18b0 : (t993 != t997) = false := by simpa using c18
        (try (have c18b1 : decide (t993 = t997) = true := by simpa using c18))
        (try (have c18b2 : (t993 == t997) = true := by simpa using c18))
        clear c18
        (first | rw [c18b0] | (simp only [i64_w, i32_w]; rw [c18b0]) | skip)
        replace H := Option.bind_eq_some_iff.mp H
        obtain ⟨t1008, A190, H⟩ := H
        replace H : (if t1008 = true then (if (t1001 != t1005) = true then (laws_FnPatches.j0 k l1 t986 t987 t992 t993 t1000 true) else ((laws_sameHunks.f k t1000 t1004).bind fun t1009 => (if t1009 = true then (if (t993 != t1001) = true then (laws_FnPatches.j0 k l1 t986 t987 t992 t993 t1000 true) else ((impl_GoodHunks.f k (t986.length : Int) t987).bind fun t1010 => ((spec_GoodHunks.f k (t986.length : Int) t987).bind fun t1011 => (laws_FnPatches.j0 k l1 t986 t987 t992 t993 t1000 (t1010 != t1011))))) else (laws_FnPatches.j0 k l1 t986 t987 t992 t993 t1000 true)))) else (laws_FnPatches.j0 k l1 t986 t987 t992 t993 t1000 true)) = some r := H
        have A19 := Aside0.mk A190
        clear A190
        by_cases c20 : t1008 = true
        ·as_aux_lemma =>
           subst c20
           have H1 : (if (t1001 != t1005) = true then (laws_FnPatches.j0 k l1 t986 t987 t992 t993 t1000 true) else ((laws_sameHunks.f k t1000 t1004).bind fun t1009 => (if t1009 = true then (if (t993 != t1001) = true then (laws_FnPatches.j0 k l1 t986 t987 t992 t993 t1000 true) else ((impl_GoodHunks.f k (t986.length : Int) t987).bind fun t1010 => ((spec_GoodHunks.f k (t986.length : Int) t987).bind fun t1011 => (laws_FnPatches.j0 k l1 t986 t987 t992 t993 t1000 (t1010 != t1011))))) else (laws_FnPatches.j0 k l1 t986 t987 t992 t993 t1000 true)))) = some r := by rw [if_pos rfl] at H; exact H
           clear H
           have H := H1
           clear H1
           by_cases c21 : (t1001 != t1005) = true
           ·as_aux_lemma =>
              rw [if_pos c21] at H
              have c21b0 : (t1001 != t1005) = true := c21
              (try (have c21b1 : decide (t1001 = t1005) = false := by simpa using c21))
              (try (have c21b2 : (t1001 == t1005) = false := by simpa using c21))
              (try (have c21b3 : ¬ (t1001 = t1005) := by simpa using c21))
              clear c21
              have H' := Aside0.mk H
              clear H
              obtain ⟨Ao22, co22, eo22⟩ := Kd.R_slice HO995.out
              subst eo22
              obtain ⟨Ao23, co23, eo23⟩ := Kd.R_slice HO999.out
              subst eo23
              go_wp2_with (first | (go_at_call 36; (with_reducible refine (laws_sameTexts.calls k _ _ t992 _ _ t996 true _ ?side1 ?side2 ?side3 ?side4 A19.out).mono ?_); (case side1 => repeat (first | exact (Kd.R_reads' HO995.out).2.2 | (with_reducible refine Kd.C_alloc ?_ _) | (with_reducible refine Kd.C_drewN ?_ _) | (with_reducible refine Kd.C_drew ?_))); (case side2 => exact (Kd.R_reads' HO995.out).2.1); (case side3 => repeat (first | exact (Kd.R_reads' HO999.out).2.2 | (with_reducible refine Kd.C_alloc ?_ _) | (with_reducible refine Kd.C_drewN ?_ _) | (with_reducible refine Kd.C_drew ?_))); (case side4 => exact (Kd.R_reads' HO999.out).2.1); rintro e w' ⟨rfl, ⟨nd, rfl⟩⟩))
              go_meet
              case rel => exact ⟨_, (true), zf, H', ⟨by first | omega | exact Nat.le_refl _⟩, ⟨by (with_reducible repeat (first | apply Kd.R_alloc | apply Kd.R_drewN | apply Kd.R_drew)); exact Kd.R_mono HO989.out (fun _ hk => hk.1.2)⟩, ⟨by (with_reducible repeat (first | apply Kd.S_alloc | apply Kd.S_drewN | apply Kd.S_drew)); exact Kd.S_mono HO991.out (fun _ hk => ⟨hk.1.1.1.1, ⟨hk.1.1.1.2, hk.1.2⟩⟩)⟩, ⟨by (with_reducible repeat (first | apply Kd.R_alloc | apply Kd.R_drewN | apply Kd.R_drew)); exact Kd.R_mono HO995.out (fun _ hk => hk.1.2)⟩, ⟨by (with_reducible repeat (first | apply Kd.S_alloc | apply Kd.S_drewN | apply Kd.S_drew)); exact Kd.S_mono HO1003.out (fun _ hk => ⟨hk.1.1.1.1.2, ⟨hk.1.1.1.2, hk.1.1.2⟩⟩)⟩, ⟨by repeat (first | (with_reducible first | exact HB.out | apply below_alloc | apply pw_below_drewN | apply below_drew1) | exact HB.out)⟩⟩
           ·as_aux_lemma =>
              rw [if_neg c21] at H
              have c21b0 : (t1001 != t1005) = false := by simpa using c21
              (try (have c21b1 : decide (t1001 = t1005) = true := by simpa using c21))
              (try (have c21b2 : (t1001 == t1005) = true := by simpa using c21))
              clear c21
              replace H := Option.bind_eq_some_iff.mp H
              obtain ⟨t1009, A240, H⟩ := H
              replace H : (if t1009 = true then (if (t993 != t1001) = true then (laws_FnPatches.j0 k l1 t986 t987 t992 t993 t1000 true) else ((impl_GoodHunks.f k (t986.length : Int) t987).bind fun t1010 => ((spec_GoodHunks.f k (t986.length : Int) t987).bind fun t1011 => (laws_FnPatches.j0 k l1 t986 t987 t992 t993 t1000 (t1010 != t1011))))) else (laws_FnPatches.j0 k l1 t986 t987 t992 t993 t1000 true)) = some r := H
              have A24 := Aside0.mk A240
              clear A240
              by_cases c25 : t1009 = true
              ·as_aux_lemma =>
                 subst c25
                 have H1 : (if (t993 != t1001) = true then (laws_FnPatches.j0 k l1 t986 t987 t992 t993 t1000 true) else ((impl_GoodHunks.f k (t986.length : Int) t987).bind fun t1010 => ((spec_GoodHunks.f k (t986.length : Int) t987).bind fun t1011 => (laws_FnPatches.j0 k l1 t986 t987 t992 t993 t1000 (t1010 != t1011))))) = some r := by rw [if_pos rfl] at H; exact H
                 clear H
                 have H := H1
                 clear H1
                 by_cases c26 : (t993 != t1001) = true
                 ·as_aux_lemma =>
                    rw [if_pos c26] at H
                    have c26b0 : (t993 != t1001) = true := c26
                    (try (have c26b1 : decide (t993 = t1001) = false := by simpa using c26))
                    (try (have c26b2 : (t993 == t1001) = false := by simpa using c26))
                    (try (have c26b3 : ¬ (t993 = t1001) := by simpa using c26))
                    clear c26
                    have H' := Aside0.mk H
                    clear H
                    obtain ⟨Ao27, co27, eo27⟩ := Kd.R_slice HO995.out
                    subst eo27
                    obtain ⟨Ao28, co28, eo28⟩ := Kd.R_slice HO999.out
                    subst eo28
                    go_wp2_with (first | (go_at_call 36; (with_reducible refine (laws_sameTexts.calls k _ _ t992 _ _ t996 true _ ?side1 ?side2 ?side3 ?side4 A19.out).mono ?_); (case side1 => repeat (first | exact (Kd.R_reads' HO995.out).2.2 | (with_reducible refine Kd.C_alloc ?_ _) | (with_reducible refine Kd.C_drewN ?_ _) | (with_reducible refine Kd.C_drew ?_))); (case side2 => exact (Kd.R_reads' HO995.out).2.1); (case side3 => repeat (first | exact (Kd.R_reads' HO999.out).2.2 | (with_reducible refine Kd.C_alloc ?_ _) | (with_reducible refine Kd.C_drewN ?_ _) | (with_reducible refine Kd.C_drew ?_))); (case side4 => exact (Kd.R_reads' HO999.out).2.1); rintro e w' ⟨rfl, ⟨nd, rfl⟩⟩; obtain ⟨Ao29, co29, eo29⟩ := Kd.S_slice HO1003.out; subst eo29; obtain ⟨Ao30, co30, eo30⟩ := Kd.S_slice HO1007.out; subst eo30) | (go_at_call 34; (with_reducible refine (laws_sameHunks.calls k _ _ t1000 _ _ t1004 true _ ?side1 ?side2 ?side3 ?side4 A24.out).mono ?_); (case side1 => repeat (first | exact (Kd.S_reads' HO1003.out).2.2 | (with_reducible refine Kd.C_alloc ?_ _) | (with_reducible refine Kd.C_drewN ?_ _) | (with_reducible refine Kd.C_drew ?_))); (case side2 => exact (Kd.S_reads' HO1003.out).2.1); (case side3 => repeat (first | exact (Kd.S_reads' HO1007.out).2.2 | (with_reducible refine Kd.C_alloc ?_ _) | (with_reducible refine Kd.C_drewN ?_ _) | (with_reducible refine Kd.C_drew ?_))); (case side4 => exact (Kd.S_reads' HO1007.out).2.1); rintro e w31 ⟨rfl, hb⟩; have n0_ := Aside0.mk (Kd.R_below (zr HO989.out) hb); have n1_ := Aside0.mk (Kd.S_below (zs HO991.out) hb); have n2_ := Aside0.mk (Kd.R_below (zr HO995.out) hb); have n3_ := Aside0.mk (Kd.R_below (zr HO999.out) hb); have n4_ := Aside0.mk (Kd.S_below (zs HO1003.out) hb); have n5_ := Aside0.mk (Kd.S_below (zs HO1007.out) hb); have n6_ := Aside0.mk (below_step zb hb); clear HO989; clear HO991; clear HO995; clear HO999; clear HO1003; clear HO1007; clear HB; have HO989 := n0_; have HO991 := n1_; have HO995 := n2_; have HO999 := n3_; have HO1003 := n4_; have HO1007 := n5_; have HB := n6_; clear n0_ n1_ n2_ n3_ n4_ n5_ n6_; (try clear hb); (try clear hb2); (try clear hk); (try clear hi)))
                    go_meet
                    case rel => exact ⟨_, (true), zf, H', ⟨by first | omega | exact Nat.le_refl _⟩, ⟨by (with_reducible repeat (first | apply Kd.R_alloc | apply Kd.R_drewN | apply Kd.R_drew)); exact Kd.R_mono HO989.out (fun _ hk => hk.1.2)⟩, ⟨by (with_reducible repeat (first | apply Kd.S_alloc | apply Kd.S_drewN | apply Kd.S_drew)); exact Kd.S_mono HO991.out (fun _ hk => ⟨hk.1.1.1.1, ⟨hk.1.1.1.2, hk.1.2⟩⟩)⟩, ⟨by (with_reducible repeat (first | apply Kd.R_alloc | apply Kd.R_drewN | apply Kd.R_drew)); exact Kd.R_mono HO995.out (fun _ hk => hk.1.2)⟩, ⟨by (with_reducible repeat (first | apply Kd.S_alloc | apply Kd.S_drewN | apply Kd.S_drew)); exact Kd.S_mono HO1003.out (fun _ hk => ⟨hk.1.1.1.1.2, ⟨hk.1.1.1.2, hk.1.1.2⟩⟩)⟩, ⟨by repeat (first | (with_reducible first | exact HB.out | apply below_alloc | apply pw_below_drewN | apply below_drew1) | exact HB.out)⟩⟩
                 ·as_aux_lemma =>
                    rw [if_neg c26] at H
                    have c26b0 : (t993 != t1001) = false := by simpa using c26
                    (try (have c26b1 : decide (t993 = t1001) = true := by simpa using c26))
                    (try (have c26b2 : (t993 == t1001) = true := by simpa using c26))
                    clear c26
                    replace H := Option.bind_eq_some_iff.mp H
                    obtain ⟨t1010, A320, H⟩ := H
                    replace H : ((spec_GoodHunks.f k (t986.length : Int) t987).bind fun t1011 => (laws_FnPatches.j0 k l1 t986 t987 t992 t993 t1000 (t1010 != t1011))) = some r := H
                    have A32 := Aside0.mk A320
                    clear A320
                    replace H := Option.bind_eq_some_iff.mp H
                    obtain ⟨t1011, A330, H⟩ := H
                    replace H : (laws_FnPatches.j0 k l1 t986 t987 t992 t993 t1000 (t1010 != t1011)) = some r := H
                    have A33 := Aside0.mk A330
                    clear A330
                    have H' := Aside0.mk H
                    clear H
                    obtain ⟨Ao34, co34, eo34⟩ := Kd.R_slice HO995.out
                    subst eo34
                    obtain ⟨Ao35, co35, eo35⟩ := Kd.R_slice HO999.out
                    subst eo35
                    go_wp2_with (first | (go_at_call 36; (with_reducible refine (laws_sameTexts.calls k _ _ t992 _ _ t996 true _ ?side1 ?side2 ?side3 ?side4 A19.out).mono ?_); (case side1 => repeat (first | exact (Kd.R_reads' HO995.out).2.2 | (with_reducible refine Kd.C_alloc ?_ _) | (with_reducible refine Kd.C_drewN ?_ _) | (with_reducible refine Kd.C_drew ?_))); (case side2 => exact (Kd.R_reads' HO995.out).2.1); (case side3 => repeat (first | exact (Kd.R_reads' HO999.out).2.2 | (with_reducible refine Kd.C_alloc ?_ _) | (with_reducible refine Kd.C_drewN ?_ _) | (with_reducible refine Kd.C_drew ?_))); (case side4 => exact (Kd.R_reads' HO999.out).2.1); rintro e w' ⟨rfl, ⟨nd, rfl⟩⟩; obtain ⟨Ao36, co36, eo36⟩ := Kd.S_slice HO1003.out; subst eo36; obtain ⟨Ao37, co37, eo37⟩ := Kd.S_slice HO1007.out; subst eo37) | (go_at_call 34; (with_reducible refine (laws_sameHunks.calls k _ _ t1000 _ _ t1004 true _ ?side1 ?side2 ?side3 ?side4 A24.out).mono ?_); (case side1 => repeat (first | exact (Kd.S_reads' HO1003.out).2.2 | (with_reducible refine Kd.C_alloc ?_ _) | (with_reducible refine Kd.C_drewN ?_ _) | (with_reducible refine Kd.C_drew ?_))); (case side2 => exact (Kd.S_reads' HO1003.out).2.1); (case side3 => repeat (first | exact (Kd.S_reads' HO1007.out).2.2 | (with_reducible refine Kd.C_alloc ?_ _) | (with_reducible refine Kd.C_drewN ?_ _) | (with_reducible refine Kd.C_drew ?_))); (case side4 => exact (Kd.S_reads' HO1007.out).2.1); rintro e w38 ⟨rfl, hb⟩; have n0_ := Aside0.mk (Kd.R_below (zr HO989.out) hb); have n1_ := Aside0.mk (Kd.S_below (zs HO991.out) hb); have n2_ := Aside0.mk (Kd.R_below (zr HO995.out) hb); have n3_ := Aside0.mk (Kd.R_below (zr HO999.out) hb); have n4_ := Aside0.mk (Kd.S_below (zs HO1003.out) hb); have n5_ := Aside0.mk (Kd.S_below (zs HO1007.out) hb); have n6_ := Aside0.mk (below_step zb hb); clear HO989; clear HO991; clear HO995; clear HO999; clear HO1003; clear HO1007; clear HB; have HO989 := n0_; have HO991 := n1_; have HO995 := n2_; have HO999 := n3_; have HO1003 := n4_; have HO1007 := n5_; have HB := n6_; clear n0_ n1_ n2_ n3_ n4_ n5_ n6_; (try clear hb); (try clear hb2); (try clear hk); (try clear hi)) | (go_at_call 49; (with_reducible refine (impl_GoodHunks.calls k (t986.length : Int) _ _ t987 t1010 _ ?side1 ?side2 A32.out).mono ?_); (case side1 => repeat (first | exact (Kd.S_reads' HO991.out).2.2 | (with_reducible refine Kd.C_alloc ?_ _) | (with_reducible refine Kd.C_drewN ?_ _) | (with_reducible refine Kd.C_drew ?_))); (case side2 => exact (Kd.S_reads' HO991.out).2.1); rintro e w39 ⟨rfl, hb⟩; have n0_ := Aside0.mk (Kd.R_below (zr HO989.out) hb); have n1_ := Aside0.mk (Kd.S_below (zs HO991.out) hb); have n2_ := Aside0.mk (Kd.R_below (zr HO995.out) hb); have n3_ := Aside0.mk (Kd.R_below (zr HO999.out) hb); have n4_ := Aside0.mk (Kd.S_below (zs HO1003.out) hb); have n5_ := Aside0.mk (Kd.S_below (zs HO1007.out) hb); have n6_ := Aside0.mk (below_step zb hb); clear HO989; clear HO991; clear HO995; clear HO999; clear HO1003; clear HO1007; clear HB; have HO989 := n0_; have HO991 := n1_; have HO995 := n2_; have HO999 := n3_; have HO1003 := n4_; have HO1007 := n5_; have HB := n6_; clear n0_ n1_ n2_ n3_ n4_ n5_ n6_; (try clear hb); (try clear hb2); (try clear hk); (try clear hi)) | (go_at_call 50; (with_reducible refine (spec_GoodHunks.calls k (t986.length : Int) _ _ t987 t1011 _ ?side1 ?side2 A33.out).mono ?_); (case side1 => repeat (first | exact (Kd.S_reads' HO991.out).2.2 | (with_reducible refine Kd.C_alloc ?_ _) | (with_reducible refine Kd.C_drewN ?_ _) | (with_reducible refine Kd.C_drew ?_))); (case side2 => exact (Kd.S_reads' HO991.out).2.1); rintro e w40 ⟨rfl, hb⟩; have n0_ := Aside0.mk (Kd.R_below (zr HO989.out) hb); have n1_ := Aside0.mk (Kd.S_below (zs HO991.out) hb); have n2_ := Aside0.mk (Kd.R_below (zr HO995.out) hb); have n3_ := Aside0.mk (Kd.R_below (zr HO999.out) hb); have n4_ := Aside0.mk (Kd.S_below (zs HO1003.out) hb); have n5_ := Aside0.mk (Kd.S_below (zs HO1007.out) hb); have n6_ := Aside0.mk (below_step zb hb); clear HO989; clear HO991; clear HO995; clear HO999; clear HO1003; clear HO1007; clear HB; have HO989 := n0_; have HO991 := n1_; have HO995 := n2_; have HO999 := n3_; have HO1003 := n4_; have HO1007 := n5_; have HB := n6_; clear n0_ n1_ n2_ n3_ n4_ n5_ n6_; (try clear hb); (try clear hb2); (try clear hk); (try clear hi)))
                    go_meet
                    case rel => exact ⟨_, ((t1010 != t1011)), zf, H', ⟨by first | omega | exact Nat.le_refl _⟩, ⟨by (with_reducible repeat (first | apply Kd.R_alloc | apply Kd.R_drewN | apply Kd.R_drew)); exact Kd.R_mono HO989.out (fun _ hk => hk.1.2)⟩, ⟨by (with_reducible repeat (first | apply Kd.S_alloc | apply Kd.S_drewN | apply Kd.S_drew)); exact Kd.S_mono HO991.out (fun _ hk => ⟨hk.1.1.1.1, ⟨hk.1.1.1.2, hk.1.2⟩⟩)⟩, ⟨by (with_reducible repeat (first | apply Kd.R_alloc | apply Kd.R_drewN | apply Kd.R_drew)); exact Kd.R_mono HO995.out (fun _ hk => hk.1.2)⟩, ⟨by (with_reducible repeat (first | apply Kd.S_alloc | apply Kd.S_drewN | apply Kd.S_drew)); exact Kd.S_mono HO1003.out (fun _ hk => ⟨hk.1.1.1.1.2, ⟨hk.1.1.1.2, hk.1.1.2⟩⟩)⟩, ⟨by repeat (first | (with_reducible first | exact HB.out | apply below_alloc | apply pw_below_drewN | apply below_drew1) | exact HB.out)⟩⟩
              ·as_aux_lemma =>
                 replace c25 := Bool.eq_false_iff.mpr c25
                 subst c25
                 have H1 : (laws_FnPatches.j0 k l1 t986 t987 t992 t993 t1000 true) = some r := by rw [if_neg (show ¬ (false = true) by decide)] at H; exact H
                 clear H
                 have H := H1
                 clear H1
                 have H' := Aside0.mk H
                 clear H
                 obtain ⟨Ao41, co41, eo41⟩ := Kd.R_slice HO995.out
                 subst eo41
                 obtain ⟨Ao42, co42, eo42⟩ := Kd.R_slice HO999.out
                 subst eo42
                 go_wp2_with (first | (go_at_call 36; (with_reducible refine (laws_sameTexts.calls k _ _ t992 _ _ t996 true _ ?side1 ?side2 ?side3 ?side4 A19.out).mono ?_); (case side1 => repeat (first | exact (Kd.R_reads' HO995.out).2.2 | (with_reducible refine Kd.C_alloc ?_ _) | (with_reducible refine Kd.C_drewN ?_ _) | (with_reducible refine Kd.C_drew ?_))); (case side2 => exact (Kd.R_reads' HO995.out).2.1); (case side3 => repeat (first | exact (Kd.R_reads' HO999.out).2.2 | (with_reducible refine Kd.C_alloc ?_ _) | (with_reducible refine Kd.C_drewN ?_ _) | (with_reducible refine Kd.C_drew ?_))); (case side4 => exact (Kd.R_reads' HO999.out).2.1); rintro e w' ⟨rfl, ⟨nd, rfl⟩⟩; obtain ⟨Ao43, co43, eo43⟩ := Kd.S_slice HO1003.out; subst eo43; obtain ⟨Ao44, co44, eo44⟩ := Kd.S_slice HO1007.out; subst eo44) | (go_at_call 34; (with_reducible refine (laws_sameHunks.calls k _ _ t1000 _ _ t1004 false _ ?side1 ?side2 ?side3 ?side4 A24.out).mono ?_); (case side1 => repeat (first | exact (Kd.S_reads' HO1003.out).2.2 | (with_reducible refine Kd.C_alloc ?_ _) | (with_reducible refine Kd.C_drewN ?_ _) | (with_reducible refine Kd.C_drew ?_))); (case side2 => exact (Kd.S_reads' HO1003.out).2.1); (case side3 => repeat (first | exact (Kd.S_reads' HO1007.out).2.2 | (with_reducible refine Kd.C_alloc ?_ _) | (with_reducible refine Kd.C_drewN ?_ _) | (with_reducible refine Kd.C_drew ?_))); (case side4 => exact (Kd.S_reads' HO1007.out).2.1); rintro e w45 ⟨rfl, hb⟩; have n0_ := Aside0.mk (Kd.R_below (zr HO989.out) hb); have n1_ := Aside0.mk (Kd.S_below (zs HO991.out) hb); have n2_ := Aside0.mk (Kd.R_below (zr HO995.out) hb); have n3_ := Aside0.mk (Kd.R_below (zr HO999.out) hb); have n4_ := Aside0.mk (Kd.S_below (zs HO1003.out) hb); have n5_ := Aside0.mk (Kd.S_below (zs HO1007.out) hb); have n6_ := Aside0.mk (below_step zb hb); clear HO989; clear HO991; clear HO995; clear HO999; clear HO1003; clear HO1007; clear HB; have HO989 := n0_; have HO991 := n1_; have HO995 := n2_; have HO999 := n3_; have HO1003 := n4_; have HO1007 := n5_; have HB := n6_; clear n0_ n1_ n2_ n3_ n4_ n5_ n6_; (try clear hb); (try clear hb2); (try clear hk); (try clear hi)))
                 go_meet
                 case rel => exact ⟨_, (true), zf, H', ⟨by first | omega | exact Nat.le_refl _⟩, ⟨by (with_reducible repeat (first | apply Kd.R_alloc | apply Kd.R_drewN | apply Kd.R_drew)); exact Kd.R_mono HO989.out (fun _ hk => hk.1.2)⟩, ⟨by (with_reducible repeat (first | apply Kd.S_alloc | apply Kd.S_drewN | apply Kd.S_drew)); exact Kd.S_mono HO991.out (fun _ hk => ⟨hk.1.1.1.1, ⟨hk.1.1.1.2, hk.1.2⟩⟩)⟩, ⟨by (with_reducible repeat (first | apply Kd.R_alloc | apply Kd.R_drewN | apply Kd.R_drew)); exact Kd.R_mono HO995.out (fun _ hk => hk.1.2)⟩, ⟨by (with_reducible repeat (first | apply Kd.S_alloc | apply Kd.S_drewN | apply Kd.S_drew)); exact Kd.S_mono HO1003.out (fun _ hk => ⟨hk.1.1.1.1.2, ⟨hk.1.1.1.2, hk.1.1.2⟩⟩)⟩, ⟨by repeat (first | (with_reducible first | exact HB.out | apply below_alloc | apply pw_below_drewN | apply below_drew1) | exact HB.out)⟩⟩
        ·as_aux_lemma =>
           replace c20 := Bool.eq_false_iff.mpr c20
           subst c20
           have H1 : (laws_FnPatches.j0 k l1 t986 t987 t992 t993 t1000 true) = some r := by rw [if_neg (show ¬ (false = true) by decide)] at H; exact H
           clear H
           have H := H1
           clear H1
           have H' := Aside0.mk H
           clear H
           obtain ⟨Ao46, co46, eo46⟩ := Kd.R_slice HO995.out
           subst eo46
           obtain ⟨Ao47, co47, eo47⟩ := Kd.R_slice HO999.out
           subst eo47
           go_wp2_with (first | (go_at_call 36; (with_reducible refine (laws_sameTexts.calls k _ _ t992 _ _ t996 false _ ?side1 ?side2 ?side3 ?side4 A19.out).mono ?_); (case side1 => repeat (first | exact (Kd.R_reads' HO995.out).2.2 | (with_reducible refine Kd.C_alloc ?_ _) | (with_reducible refine Kd.C_drewN ?_ _) | (with_reducible refine Kd.C_drew ?_))); (case side2 => exact (Kd.R_reads' HO995.out).2.1); (case side3 => repeat (first | exact (Kd.R_reads' HO999.out).2.2 | (with_reducible refine Kd.C_alloc ?_ _) | (with_reducible refine Kd.C_drewN ?_ _) | (with_reducible refine Kd.C_drew ?_))); (case side4 => exact (Kd.R_reads' HO999.out).2.1); rintro e w' ⟨rfl, ⟨nd, rfl⟩⟩))
           go_meet
           case rel => exact ⟨_, (true), zf, H', ⟨by first | omega | exact Nat.le_refl _⟩, ⟨by (with_reducible repeat (first | apply Kd.R_alloc | apply Kd.R_drewN | apply Kd.R_drew)); exact Kd.R_mono HO989.out (fun _ hk => hk.1.2)⟩, ⟨by (with_reducible repeat (first | apply Kd.S_alloc | apply Kd.S_drewN | apply Kd.S_drew)); exact Kd.S_mono HO991.out (fun _ hk => ⟨hk.1.1.1.1, ⟨hk.1.1.1.2, hk.1.2⟩⟩)⟩, ⟨by (with_reducible repeat (first | apply Kd.R_alloc | apply Kd.R_drewN | apply Kd.R_drew)); exact Kd.R_mono HO995.out (fun _ hk => hk.1.2)⟩, ⟨by (with_reducible repeat (first | apply Kd.S_alloc | apply Kd.S_drewN | apply Kd.S_drew)); exact Kd.S_mono HO1003.out (fun _ hk => ⟨hk.1.1.1.1.2, ⟨hk.1.1.1.2, hk.1.1.2⟩⟩)⟩, ⟨by repeat (first | (with_reducible first | exact HB.out | apply below_alloc | apply pw_below_drewN | apply below_drew1) | exact HB.out)⟩⟩
    case rest =>
     clear HC10
     try clear c1
     try clear c2
     try clear p2
     try clear c3
     try clear c4
     try clear c8
     try clear c18
     try clear c18b0
     try clear c18b1
     try clear c18b2
     try clear c20
     try clear c21
     try clear c21b0
     try clear c21b1
     try clear c21b2
     try clear c25
     try clear c26
     try clear c26b0
     try clear c26b1
     try clear c26b2
     try clear c32
     try clear c35
     try clear c39
     try clear c46
     try clear c47
     obtain ⟨kq, x100_9, rfl, HA, HJ9, HO_5, HO_6, HO_7, HO_11, HB⟩ := hcut
     cases kq with
     | zero => exact absurd HA.out (by simp [laws_FnPatches.j0])
     | succ kj9 =>
      have H := HA.out
      clear HA
      simp only [laws_FnPatches.j0] at H
      by_cases c48 : x100_9 = true
      ·as_aux_lemma =>
         subst c48
         have H1 : (some false) = some r := by rw [if_pos rfl] at H; exact H
         clear H
         have H := H1
         clear H1
         first
         | exact absurd (show false = true from (Option.some.inj H).trans HR_.out) Bool.false_ne_true
         | obtain rfl := Option.some.inj H
           go_wp2
           go_ret
           exact ⟨by first | rfl | (simp [errW_none, errW_some] <;> rfl) | (simp [*, errW_none, errW_some] <;> rfl), by repeat (first | (with_reducible first | exact HB.out | apply below_alloc | apply pw_below_drewN | apply below_drew1) | exact HB.out)⟩
      ·as_aux_lemma =>
         replace c48 := Bool.eq_false_iff.mpr c48
         subst c48
         have H1 : (if t993 = true then ((impl_Patch.f kj9 t992 t1000).bind fun bt1012 => ((impl_CountHunks.f kj9 t987).bind fun bt1016 => ((impl_BackHunks.f kj9 t992 t1000).bind fun bt1019 => (if bt1012.2 = true then ((laws_sameTexts.f kj9 bt1012.1 t986).bind fun t1023 => (if t1023 = true then (if bt1016.2.2 = true then (if (t992.length : Int) = (wrap64 ((wrap64 ((t986.length : Int) - bt1016.1)) + bt1016.2.1)) then (if bt1019.2 = true then ((laws_sameHunks.f kj9 bt1019.1 t987).bind fun t1024 => (if t1024 = true then ((impl_GoodHunks.f kj9 (t992.length : Int) t1000).bind fun t1025 => (if t1025 = true then (laws_FnPatches.j1 kj9 l1) else (some false))) else (some false))) else (some false)) else (some false)) else (some false)) else (some false))) else (some false))))) else (laws_FnPatches.j1 kj9 l1)) = some r := by rw [if_neg (show ¬ (false = true) by decide)] at H; exact H
         clear H
         have H := H1
         clear H1
         have HC49 := Aside0.mk H
         clear H
         go_upto_if 101 with (fail)
         go_cut [] (fun wc => ∃ (kq : Nat), Aside0 (laws_FnPatches.j1 kq l1 = some r) ∧ Aside0 (kq ≤ kj9) ∧ Aside0 (Below w.heap.size w wc))
         case first =>
          have H := HC49.out
          clear HC49
          by_cases c50 : t993 = true
          ·as_aux_lemma =>
             subst c50
             have H1 : ((impl_Patch.f kj9 t992 t1000).bind fun bt1012 => ((impl_CountHunks.f kj9 t987).bind fun bt1016 => ((impl_BackHunks.f kj9 t992 t1000).bind fun bt1019 => (if bt1012.2 = true then ((laws_sameTexts.f kj9 bt1012.1 t986).bind fun t1023 => (if t1023 = true then (if bt1016.2.2 = true then (if (t992.length : Int) = (wrap64 ((wrap64 ((t986.length : Int) - bt1016.1)) + bt1016.2.1)) then (if bt1019.2 = true then ((laws_sameHunks.f kj9 bt1019.1 t987).bind fun t1024 => (if t1024 = true then ((impl_GoodHunks.f kj9 (t992.length : Int) t1000).bind fun t1025 => (if t1025 = true then (laws_FnPatches.j1 kj9 l1) else (some false))) else (some false))) else (some false)) else (some false)) else (some false)) else (some false))) else (some false))))) = some r := by rw [if_pos rfl] at H; exact H
             clear H
             have H := H1
             clear H1
             replace H := Option.bind_eq_some_iff.mp H
             obtain ⟨⟨t1012, t1013⟩, A510, H⟩ := H
             replace H : ((impl_CountHunks.f kj9 t987).bind fun bt1016 => ((impl_BackHunks.f kj9 t992 t1000).bind fun bt1019 => (if t1013 = true then ((laws_sameTexts.f kj9 t1012 t986).bind fun t1023 => (if t1023 = true then (if bt1016.2.2 = true then (if (t992.length : Int) = (wrap64 ((wrap64 ((t986.length : Int) - bt1016.1)) + bt1016.2.1)) then (if bt1019.2 = true then ((laws_sameHunks.f kj9 bt1019.1 t987).bind fun t1024 => (if t1024 = true then ((impl_GoodHunks.f kj9 (t992.length : Int) t1000).bind fun t1025 => (if t1025 = true then (laws_FnPatches.j1 kj9 l1) else (some false))) else (some false))) else (some false)) else (some false)) else (some false)) else (some false))) else (some false)))) = some r := H
             have A51 := Aside0.mk A510
             clear A510
             replace H := Option.bind_eq_some_iff.mp H
             obtain ⟨⟨t1016, t1017, t1018⟩, A520, H⟩ := H
             replace H : ((impl_BackHunks.f kj9 t992 t1000).bind fun bt1019 => (if t1013 = true then ((laws_sameTexts.f kj9 t1012 t986).bind fun t1023 => (if t1023 = true then (if t1018 = true then (if (t992.length : Int) = (wrap64 ((wrap64 ((t986.length : Int) - t1016)) + t1017)) then (if bt1019.2 = true then ((laws_sameHunks.f kj9 bt1019.1 t987).bind fun t1024 => (if t1024 = true then ((impl_GoodHunks.f kj9 (t992.length : Int) t1000).bind fun t1025 => (if t1025 = true then (laws_FnPatches.j1 kj9 l1) else (some false))) else (some false))) else (some false)) else (some false)) else (some false)) else (some false))) else (some false))) = some r := H
             have A52 := Aside0.mk A520
             clear A520
             replace H := Option.bind_eq_some_iff.mp H
             obtain ⟨⟨t1019, t1020⟩, A530, H⟩ := H
             replace H : (if t1013 = true then ((laws_sameTexts.f kj9 t1012 t986).bind fun t1023 => (if t1023 = true then (if t1018 = true then (if (t992.length : Int) = (wrap64 ((wrap64 ((t986.length : Int) - t1016)) + t1017)) then (if t1020 = true then ((laws_sameHunks.f kj9 t1019 t987).bind fun t1024 => (if t1024 = true then ((impl_GoodHunks.f kj9 (t992.length : Int) t1000).bind fun t1025 => (if t1025 = true then (laws_FnPatches.j1 kj9 l1) else (some false))) else (some false))) else (some false)) else (some false)) else (some false)) else (some false))) else (some false)) = some r := H
             have A53 := Aside0.mk A530
             clear A530
             by_cases c54 : t1013 = true
             ·as_aux_lemma =>
                subst c54
                have H1 : ((laws_sameTexts.f kj9 t1012 t986).bind fun t1023 => (if t1023 = true then (if t1018 = true then (if (t992.length : Int) = (wrap64 ((wrap64 ((t986.length : Int) - t1016)) + t1017)) then (if t1020 = true then ((laws_sameHunks.f kj9 t1019 t987).bind fun t1024 => (if t1024 = true then ((impl_GoodHunks.f kj9 (t992.length : Int) t1000).bind fun t1025 => (if t1025 = true then (laws_FnPatches.j1 kj9 l1) else (some false))) else (some false))) else (some false)) else (some false)) else (some false)) else (some false))) = some r := by rw [if_pos rfl] at H; exact H
                clear H
                have H := H1
                clear H1
                replace H := Option.bind_eq_some_iff.mp H
                obtain ⟨t1023, A550, H⟩ := H
                replace H : (if t1023 = true then (if t1018 = true then (if (t992.length : Int) = (wrap64 ((wrap64 ((t986.length : Int) - t1016)) + t1017)) then (if t1020 = true then ((laws_sameHunks.f kj9 t1019 t987).bind fun t1024 => (if t1024 = true then ((impl_GoodHunks.f kj9 (t992.length : Int) t1000).bind fun t1025 => (if t1025 = true then (laws_FnPatches.j1 kj9 l1) else (some false))) else (some false))) else (some false)) else (some false)) else (some false)) else (some false)) = some r := H
                have A55 := Aside0.mk A550
                clear A550
                by_cases c56 : t1023 = true
                ·as_aux_lemma =>
                   subst c56
                   have H1 : (if t1018 = true then (if (t992.length : Int) = (wrap64 ((wrap64 ((t986.length : Int) - t1016)) + t1017)) then (if t1020 = true then ((laws_sameHunks.f kj9 t1019 t987).bind fun t1024 => (if t1024 = true then ((impl_GoodHunks.f kj9 (t992.length : Int) t1000).bind fun t1025 => (if t1025 = true then (laws_FnPatches.j1 kj9 l1) else (some false))) else (some false))) else (some false)) else (some false)) else (some false)) = some r := by rw [if_pos rfl] at H; exact H
                   clear H
                   have H := H1
                   clear H1
                   by_cases c57 : t1018 = true
                   ·as_aux_lemma =>
                      subst c57
                      have H1 : (if (t992.length : Int) = (wrap64 ((wrap64 ((t986.length : Int) - t1016)) + t1017)) then (if t1020 = true then ((laws_sameHunks.f kj9 t1019 t987).bind fun t1024 => (if t1024 = true then ((impl_GoodHunks.f kj9 (t992.length : Int) t1000).bind fun t1025 => (if t1025 = true then (laws_FnPatches.j1 kj9 l1) else (some false))) else (some false))) else (some false)) else (some false)) = some r := by rw [if_pos rfl] at H; exact H
                      clear H
                      have H := H1
                      clear H1
                      by_cases c58 : (t992.length : Int) = (wrap64 ((wrap64 ((t986.length : Int) - t1016)) + t1017))
                      ·as_aux_lemma =>
                         rw [if_pos c58] at H
                         have c58b0 : ((t992.length : Int) == (wrap64 ((wrap64 ((t986.length : Int) - t1016)) + t1017))) = true := beq_iff_eq.mpr c58
                         have c58b1 : ((t992.length : Int) != (wrap64 ((wrap64 ((t986.length : Int) - t1016)) + t1017))) = false := bne_eq_false_iff_eq.mpr c58
                         clear c58
                         (first | rw [c58b0] | (simp only [i64_w, i32_w]; rw [c58b0]) | skip)
                         by_cases c59 : t1020 = true
                         ·as_aux_lemma =>
                            subst c59
                            have H1 : ((laws_sameHunks.f kj9 t1019 t987).bind fun t1024 => (if t1024 = true then ((impl_GoodHunks.f kj9 (t992.length : Int) t1000).bind fun t1025 => (if t1025 = true then (laws_FnPatches.j1 kj9 l1) else (some false))) else (some false))) = some r := by rw [if_pos rfl] at H; exact H
                            clear H
                            have H := H1
                            clear H1
                            replace H := Option.bind_eq_some_iff.mp H
                            obtain ⟨t1024, A600, H⟩ := H
                            replace H : (if t1024 = true then ((impl_GoodHunks.f kj9 (t992.length : Int) t1000).bind fun t1025 => (if t1025 = true then (laws_FnPatches.j1 kj9 l1) else (some false))) else (some false)) = some r := H
                            have A60 := Aside0.mk A600
                            clear A600
                            by_cases c61 : t1024 = true
                            ·as_aux_lemma =>
                               subst c61
                               have H1 : ((impl_GoodHunks.f kj9 (t992.length : Int) t1000).bind fun t1025 => (if t1025 = true then (laws_FnPatches.j1 kj9 l1) else (some false))) = some r := by rw [if_pos rfl] at H; exact H
                               clear H
                               have H := H1
                               clear H1
                               replace H := Option.bind_eq_some_iff.mp H
                               obtain ⟨t1025, A620, H⟩ := H
                               replace H : (if t1025 = true then (laws_FnPatches.j1 kj9 l1) else (some false)) = some r := H
                               have A62 := Aside0.mk A620
                               clear A620
                               by_cases c63 : t1025 = true
                               ·as_aux_lemma =>
                                  subst c63
                                  have H1 : (laws_FnPatches.j1 kj9 l1) = some r := by rw [if_pos rfl] at H; exact H
                                  clear H
                                  have H := H1
                                  clear H1
                                  have H' := Aside0.mk H
                                  clear H
                                  obtain ⟨Ao64, co64, eo64⟩ := Kd.R_slice HO_7.out
                                  subst eo64
                                  obtain ⟨Ao65, co65, eo65⟩ := Kd.S_slice HO_11.out
                                  subst eo65
                                  go_wp2_with (first | ((with_reducible refine gateC (f := 35) rfl ?_); refine goesL_ (some 105) rfl rfl Try.func35 (by kernel_rfl) rfl #[.slice Ao64 t992.length co64, .slice Ao65 t1000.length co65] rfl zm ?_; (with_reducible refine (impl_Patch.calls kj9 _ _ t992 _ _ t1000 t1012 true _ ?side1 ?side2 ?side3 ?side4 A51.out).mono ?_); (case side1 => repeat (first | exact (Kd.R_reads' HO_7.out).2.2 | (with_reducible refine Kd.C_alloc ?_ _) | (with_reducible refine Kd.C_drewN ?_ _) | (with_reducible refine Kd.C_drew ?_))); (case side2 => exact (Kd.R_reads' HO_7.out).2.1); (case side3 => repeat (first | exact (Kd.S_reads' HO_11.out).2.2 | (with_reducible refine Kd.C_alloc ?_ _) | (with_reducible refine Kd.C_drewN ?_ _) | (with_reducible refine Kd.C_drew ?_))); (case side4 => exact (Kd.S_reads' HO_11.out).2.1); rintro e w66 ⟨v1014, rfl, ho0, hb⟩; refine ⟨_, rfl, ?_⟩; have n0_ := Aside0.mk (Kd.R_elder' (zr HO_5.out) (Kd.R_base ho0) hb); have n1_ := Aside0.mk (Kd.S_elder' (zs HO_6.out) (Kd.R_base ho0) hb); have n2_ := Aside0.mk (Kd.R_elder' (zr HO_7.out) (Kd.R_base ho0) hb); have n3_ := Aside0.mk (Kd.S_elder' (zs HO_11.out) (Kd.R_base ho0) hb); have n4_ := Aside0.mk (Kd.R_lower (Kd.R_new' (Kd.R_new' ho0 (Kd.R_lt (zr HO_5.out))) (Kd.R_lt (zr HO_7.out))) (below_size zb)); have n5_ := Aside0.mk (below_step zb hb); clear HO_5; clear HO_6; clear HO_7; clear HO_11; clear HB; have HO_5 := n0_; have HO_6 := n1_; have HO_7 := n2_; have HO_11 := n3_; have HO1015 := n4_; have HB := n5_; clear n0_ n1_ n2_ n3_ n4_ n5_; (try clear hb); (try clear hb2); (try clear hk); (try clear hi); (try clear ho0)) | ((with_reducible refine gateC (f := 43) rfl ?_); refine goesL_ (some 110) rfl rfl Try.func43 (by kernel_rfl) rfl #[.slice Ao13 t987.length co13] rfl zm ?_; (with_reducible refine (impl_CountHunks.calls kj9 _ _ t987 t1016 t1017 true _ ?side1 ?side2 A52.out).mono ?_); (case side1 => repeat (first | exact (Kd.S_reads' HO_6.out).2.2 | (with_reducible refine Kd.C_alloc ?_ _) | (with_reducible refine Kd.C_drewN ?_ _) | (with_reducible refine Kd.C_drew ?_))); (case side2 => exact (Kd.S_reads' HO_6.out).2.1); rintro e w67 ⟨rfl, hb⟩; refine ⟨_, rfl, ?_⟩; have n0_ := Aside0.mk (Kd.R_below (zr HO_5.out) hb); have n1_ := Aside0.mk (Kd.S_below (zs HO_6.out) hb); have n2_ := Aside0.mk (Kd.R_below (zr HO_7.out) hb); have n3_ := Aside0.mk (Kd.S_below (zs HO_11.out) hb); have n4_ := Aside0.mk (Kd.R_below (zr HO1015.out) hb); have n5_ := Aside0.mk (below_step zb hb); clear HO_5; clear HO_6; clear HO_7; clear HO_11; clear HO1015; clear HB; have HO_5 := n0_; have HO_6 := n1_; have HO_7 := n2_; have HO_11 := n3_; have HO1015 := n4_; have HB := n5_; clear n0_ n1_ n2_ n3_ n4_ n5_; (try clear hb); (try clear hb2); (try clear hk); (try clear hi)) | ((with_reducible refine gateC (f := 47) rfl ?_); refine goesL_ (some 117) rfl rfl Try.func47 (by kernel_rfl) rfl #[.slice Ao64 t992.length co64, .slice Ao65 t1000.length co65] rfl zm ?_; (with_reducible refine (impl_BackHunks.calls kj9 _ _ t992 _ _ t1000 t1019 true _ ?side1 ?side2 ?side3 ?side4 A53.out).mono ?_); (case side1 => repeat (first | exact (Kd.R_reads' HO_7.out).2.2 | (with_reducible refine Kd.C_alloc ?_ _) | (with_reducible refine Kd.C_drewN ?_ _) | (with_reducible refine Kd.C_drew ?_))); (case side2 => exact (Kd.R_reads' HO_7.out).2.1); (case side3 => repeat (first | exact (Kd.S_reads' HO_11.out).2.2 | (with_reducible refine Kd.C_alloc ?_ _) | (with_reducible refine Kd.C_drewN ?_ _) | (with_reducible refine Kd.C_drew ?_))); (case side4 => exact (Kd.S_reads' HO_11.out).2.1); rintro e w68 ⟨v1021, rfl, ho0, hb⟩; refine ⟨_, rfl, ?_⟩; have n0_ := Aside0.mk (Kd.R_below (zr HO_5.out) hb); have n1_ := Aside0.mk (Kd.S_elder' (zs HO_6.out) (Kd.S_base ho0) hb); have n2_ := Aside0.mk (Kd.R_below (zr HO_7.out) hb); have n3_ := Aside0.mk (Kd.S_elder' (zs HO_11.out) (Kd.S_base ho0) hb); have n4_ := Aside0.mk (Kd.R_below (zr HO1015.out) hb); have n5_ := Aside0.mk (Kd.S_lower (Kd.S_new' (Kd.S_new' (Kd.S_new' (Kd.S_new' (Kd.S_new' ho0 (Kd.R_lt (zr HO_5.out))) (Kd.S_lt (zs HO_6.out))) (Kd.R_lt (zr HO_7.out))) (Kd.S_lt (zs HO_11.out))) (Kd.R_lt (zr HO1015.out))) (below_size zb)); have n6_ := Aside0.mk (below_step zb hb); clear HO_5; clear HO_6; clear HO_7; clear HO_11; clear HO1015; clear HB; have HO_5 := n0_; have HO_6 := n1_; have HO_7 := n2_; have HO_11 := n3_; have HO1015 := n4_; have HO1022 := n5_; have HB := n6_; clear n0_ n1_ n2_ n3_ n4_ n5_ n6_; (try clear hb); (try clear hb2); (try clear hk); (try clear hi); (try clear ho0); obtain ⟨Ao69, co69, eo69⟩ := Kd.R_slice HO1015.out; subst eo69) | (go_at_call 36; (with_reducible refine (laws_sameTexts.calls kj9 _ _ t1012 _ _ t986 true _ ?side1 ?side2 ?side3 ?side4 A55.out).mono ?_); (case side1 => repeat (first | exact (Kd.R_reads' HO1015.out).2.2 | (with_reducible refine Kd.C_alloc ?_ _) | (with_reducible refine Kd.C_drewN ?_ _) | (with_reducible refine Kd.C_drew ?_))); (case side2 => exact (Kd.R_reads' HO1015.out).2.1); (case side3 => repeat (first | exact (Kd.R_reads' HO_5.out).2.2 | (with_reducible refine Kd.C_alloc ?_ _) | (with_reducible refine Kd.C_drewN ?_ _) | (with_reducible refine Kd.C_drew ?_))); (case side4 => exact (Kd.R_reads' HO_5.out).2.1); rintro e w' ⟨rfl, ⟨nd, rfl⟩⟩; obtain ⟨Ao70, co70, eo70⟩ := Kd.S_slice HO1022.out; subst eo70) | (go_at_call 34; (with_reducible refine (laws_sameHunks.calls kj9 _ _ t1019 _ _ t987 true _ ?side1 ?side2 ?side3 ?side4 A60.out).mono ?_); (case side1 => repeat (first | exact (Kd.S_reads' HO1022.out).2.2 | (with_reducible refine Kd.C_alloc ?_ _) | (with_reducible refine Kd.C_drewN ?_ _) | (with_reducible refine Kd.C_drew ?_))); (case side2 => exact (Kd.S_reads' HO1022.out).2.1); (case side3 => repeat (first | exact (Kd.S_reads' HO_6.out).2.2 | (with_reducible refine Kd.C_alloc ?_ _) | (with_reducible refine Kd.C_drewN ?_ _) | (with_reducible refine Kd.C_drew ?_))); (case side4 => exact (Kd.S_reads' HO_6.out).2.1); rintro e w71 ⟨rfl, hb⟩; have n0_ := Aside0.mk (Kd.R_below (zr HO_5.out) hb); have n1_ := Aside0.mk (Kd.S_below (zs HO_6.out) hb); have n2_ := Aside0.mk (Kd.R_below (zr HO_7.out) hb); have n3_ := Aside0.mk (Kd.S_below (zs HO_11.out) hb); have n4_ := Aside0.mk (Kd.R_below (zr HO1015.out) hb); have n5_ := Aside0.mk (Kd.S_below (zs HO1022.out) hb); have n6_ := Aside0.mk (below_step zb hb); clear HO_5; clear HO_6; clear HO_7; clear HO_11; clear HO1015; clear HO1022; clear HB; have HO_5 := n0_; have HO_6 := n1_; have HO_7 := n2_; have HO_11 := n3_; have HO1015 := n4_; have HO1022 := n5_; have HB := n6_; clear n0_ n1_ n2_ n3_ n4_ n5_ n6_; (try clear hb); (try clear hb2); (try clear hk); (try clear hi)) | (go_at_call 49; (with_reducible refine (impl_GoodHunks.calls kj9 (t992.length : Int) _ _ t1000 true _ ?side1 ?side2 A62.out).mono ?_); (case side1 => repeat (first | exact (Kd.S_reads' HO_11.out).2.2 | (with_reducible refine Kd.C_alloc ?_ _) | (with_reducible refine Kd.C_drewN ?_ _) | (with_reducible refine Kd.C_drew ?_))); (case side2 => exact (Kd.S_reads' HO_11.out).2.1); rintro e w72 ⟨rfl, hb⟩; have n0_ := Aside0.mk (Kd.R_below (zr HO_5.out) hb); have n1_ := Aside0.mk (Kd.S_below (zs HO_6.out) hb); have n2_ := Aside0.mk (Kd.R_below (zr HO_7.out) hb); have n3_ := Aside0.mk (Kd.S_below (zs HO_11.out) hb); have n4_ := Aside0.mk (Kd.R_below (zr HO1015.out) hb); have n5_ := Aside0.mk (Kd.S_below (zs HO1022.out) hb); have n6_ := Aside0.mk (below_step zb hb); clear HO_5; clear HO_6; clear HO_7; clear HO_11; clear HO1015; clear HO1022; clear HB; have HO_5 := n0_; have HO_6 := n1_; have HO_7 := n2_; have HO_11 := n3_; have HO1015 := n4_; have HO1022 := n5_; have HB := n6_; clear n0_ n1_ n2_ n3_ n4_ n5_ n6_; (try clear hb); (try clear hb2); (try clear hk); (try clear hi)))
                                  go_meet
                                  case rel => exact ⟨_, H', ⟨by have := HJ9.out; first | omega | exact Nat.le_refl _⟩, ⟨by repeat (first | (with_reducible first | exact HB.out | apply below_alloc | apply pw_below_drewN | apply below_drew1) | exact HB.out)⟩⟩
                               ·as_aux_lemma =>
                                  replace c63 := Bool.eq_false_iff.mpr c63
                                  subst c63
                                  have H1 : (some false) = some r := by rw [if_neg (show ¬ (false = true) by decide)] at H; exact H
                                  clear H
                                  have H := H1
                                  clear H1
                                  first
                                  | exact absurd (show false = true from (Option.some.inj H).trans HR_.out) Bool.false_ne_true
                                  | obtain rfl := Option.some.inj H
                                    obtain ⟨Ao73, co73, eo73⟩ := Kd.R_slice HO_7.out
                                    subst eo73
                                    obtain ⟨Ao74, co74, eo74⟩ := Kd.S_slice HO_11.out
                                    subst eo74
                                    go_wp2_with (first | ((with_reducible refine gateC (f := 35) rfl ?_); refine goesL_ (some 105) rfl rfl Try.func35 (by kernel_rfl) rfl #[.slice Ao73 t992.length co73, .slice Ao74 t1000.length co74] rfl zm ?_; (with_reducible refine (impl_Patch.calls kj9 _ _ t992 _ _ t1000 t1012 true _ ?side1 ?side2 ?side3 ?side4 A51.out).mono ?_); (case side1 => repeat (first | exact (Kd.R_reads' HO_7.out).2.2 | (with_reducible refine Kd.C_alloc ?_ _) | (with_reducible refine Kd.C_drewN ?_ _) | (with_reducible refine Kd.C_drew ?_))); (case side2 => exact (Kd.R_reads' HO_7.out).2.1); (case side3 => repeat (first | exact (Kd.S_reads' HO_11.out).2.2 | (with_reducible refine Kd.C_alloc ?_ _) | (with_reducible refine Kd.C_drewN ?_ _) | (with_reducible refine Kd.C_drew ?_))); (case side4 => exact (Kd.S_reads' HO_11.out).2.1); rintro e w75 ⟨v1014, rfl, ho0, hb⟩; refine ⟨_, rfl, ?_⟩; have n0_ := Aside0.mk (Kd.R_elder' (zr HO_5.out) (Kd.R_base ho0) hb); have n1_ := Aside0.mk (Kd.S_elder' (zs HO_6.out) (Kd.R_base ho0) hb); have n2_ := Aside0.mk (Kd.R_elder' (zr HO_7.out) (Kd.R_base ho0) hb); have n3_ := Aside0.mk (Kd.S_elder' (zs HO_11.out) (Kd.R_base ho0) hb); have n4_ := Aside0.mk (Kd.R_lower (Kd.R_new' (Kd.R_new' ho0 (Kd.R_lt (zr HO_5.out))) (Kd.R_lt (zr HO_7.out))) (below_size zb)); have n5_ := Aside0.mk (below_step zb hb); clear HO_5; clear HO_6; clear HO_7; clear HO_11; clear HB; have HO_5 := n0_; have HO_6 := n1_; have HO_7 := n2_; have HO_11 := n3_; have HO1015 := n4_; have HB := n5_; clear n0_ n1_ n2_ n3_ n4_ n5_; (try clear hb); (try clear hb2); (try clear hk); (try clear hi); (try clear ho0)) | ((with_reducible refine gateC (f := 43) rfl ?_); refine goesL_ (some 110) rfl rfl Try.func43 (by kernel_rfl) rfl #[.slice Ao13 t987.length co13] rfl zm ?_; (with_reducible refine (impl_CountHunks.calls kj9 _ _ t987 t1016 t1017 true _ ?side1 ?side2 A52.out).mono ?_); (case side1 => repeat (first | exact (Kd.S_reads' HO_6.out).2.2 | (with_reducible refine Kd.C_alloc ?_ _) | (with_reducible refine Kd.C_drewN ?_ _) | (with_reducible refine Kd.C_drew ?_))); (case side2 => exact (Kd.S_reads' HO_6.out).2.1); rintro e w76 ⟨rfl, hb⟩; refine ⟨_, rfl, ?_⟩; have n0_ := Aside0.mk (Kd.R_below (zr HO_5.out) hb); have n1_ := Aside0.mk (Kd.S_below (zs HO_6.out) hb); have n2_ := Aside0.mk (Kd.R_below (zr HO_7.out) hb); have n3_ := Aside0.mk (Kd.S_below (zs HO_11.out) hb); have n4_ := Aside0.mk (Kd.R_below (zr HO1015.out) hb); have n5_ := Aside0.mk (below_step zb hb); clear HO_5; clear HO_6; clear HO_7; clear HO_11; clear HO1015; clear HB; have HO_5 := n0_; have HO_6 := n1_; have HO_7 := n2_; have HO_11 := n3_; have HO1015 := n4_; have HB := n5_; clear n0_ n1_ n2_ n3_ n4_ n5_; (try clear hb); (try clear hb2); (try clear hk); (try clear hi)) | ((with_reducible refine gateC (f := 47) rfl ?_); refine goesL_ (some 117) rfl rfl Try.func47 (by kernel_rfl) rfl #[.slice Ao73 t992.length co73, .slice Ao74 t1000.length co74] rfl zm ?_; (with_reducible refine (impl_BackHunks.calls kj9 _ _ t992 _ _ t1000 t1019 true _ ?side1 ?side2 ?side3 ?side4 A53.out).mono ?_); (case side1 => repeat (first | exact (Kd.R_reads' HO_7.out).2.2 | (with_reducible refine Kd.C_alloc ?_ _) | (with_reducible refine Kd.C_drewN ?_ _) | (with_reducible refine Kd.C_drew ?_))); (case side2 => exact (Kd.R_reads' HO_7.out).2.1); (case side3 => repeat (first | exact (Kd.S_reads' HO_11.out).2.2 | (with_reducible refine Kd.C_alloc ?_ _) | (with_reducible refine Kd.C_drewN ?_ _) | (with_reducible refine Kd.C_drew ?_))); (case side4 => exact (Kd.S_reads' HO_11.out).2.1); rintro e w77 ⟨v1021, rfl, ho0, hb⟩; refine ⟨_, rfl, ?_⟩; have n0_ := Aside0.mk (Kd.R_below (zr HO_5.out) hb); have n1_ := Aside0.mk (Kd.S_elder' (zs HO_6.out) (Kd.S_base ho0) hb); have n2_ := Aside0.mk (Kd.R_below (zr HO_7.out) hb); have n3_ := Aside0.mk (Kd.S_elder' (zs HO_11.out) (Kd.S_base ho0) hb); have n4_ := Aside0.mk (Kd.R_below (zr HO1015.out) hb); have n5_ := Aside0.mk (Kd.S_lower (Kd.S_new' (Kd.S_new' (Kd.S_new' (Kd.S_new' (Kd.S_new' ho0 (Kd.R_lt (zr HO_5.out))) (Kd.S_lt (zs HO_6.out))) (Kd.R_lt (zr HO_7.out))) (Kd.S_lt (zs HO_11.out))) (Kd.R_lt (zr HO1015.out))) (below_size zb)); have n6_ := Aside0.mk (below_step zb hb); clear HO_5; clear HO_6; clear HO_7; clear HO_11; clear HO1015; clear HB; have HO_5 := n0_; have HO_6 := n1_; have HO_7 := n2_; have HO_11 := n3_; have HO1015 := n4_; have HO1022 := n5_; have HB := n6_; clear n0_ n1_ n2_ n3_ n4_ n5_ n6_; (try clear hb); (try clear hb2); (try clear hk); (try clear hi); (try clear ho0); obtain ⟨Ao78, co78, eo78⟩ := Kd.R_slice HO1015.out; subst eo78) | (go_at_call 36; (with_reducible refine (laws_sameTexts.calls kj9 _ _ t1012 _ _ t986 true _ ?side1 ?side2 ?side3 ?side4 A55.out).mono ?_); (case side1 => repeat (first | exact (Kd.R_reads' HO1015.out).2.2 | (with_reducible refine Kd.C_alloc ?_ _) | (with_reducible refine Kd.C_drewN ?_ _) | (with_reducible refine Kd.C_drew ?_))); (case side2 => exact (Kd.R_reads' HO1015.out).2.1); (case side3 => repeat (first | exact (Kd.R_reads' HO_5.out).2.2 | (with_reducible refine Kd.C_alloc ?_ _) | (with_reducible refine Kd.C_drewN ?_ _) | (with_reducible refine Kd.C_drew ?_))); (case side4 => exact (Kd.R_reads' HO_5.out).2.1); rintro e w' ⟨rfl, ⟨nd, rfl⟩⟩; obtain ⟨Ao79, co79, eo79⟩ := Kd.S_slice HO1022.out; subst eo79) | (go_at_call 34; (with_reducible refine (laws_sameHunks.calls kj9 _ _ t1019 _ _ t987 true _ ?side1 ?side2 ?side3 ?side4 A60.out).mono ?_); (case side1 => repeat (first | exact (Kd.S_reads' HO1022.out).2.2 | (with_reducible refine Kd.C_alloc ?_ _) | (with_reducible refine Kd.C_drewN ?_ _) | (with_reducible refine Kd.C_drew ?_))); (case side2 => exact (Kd.S_reads' HO1022.out).2.1); (case side3 => repeat (first | exact (Kd.S_reads' HO_6.out).2.2 | (with_reducible refine Kd.C_alloc ?_ _) | (with_reducible refine Kd.C_drewN ?_ _) | (with_reducible refine Kd.C_drew ?_))); (case side4 => exact (Kd.S_reads' HO_6.out).2.1); rintro e w80 ⟨rfl, hb⟩; have n0_ := Aside0.mk (Kd.R_below (zr HO_5.out) hb); have n1_ := Aside0.mk (Kd.S_below (zs HO_6.out) hb); have n2_ := Aside0.mk (Kd.R_below (zr HO_7.out) hb); have n3_ := Aside0.mk (Kd.S_below (zs HO_11.out) hb); have n4_ := Aside0.mk (Kd.R_below (zr HO1015.out) hb); have n5_ := Aside0.mk (Kd.S_below (zs HO1022.out) hb); have n6_ := Aside0.mk (below_step zb hb); clear HO_5; clear HO_6; clear HO_7; clear HO_11; clear HO1015; clear HO1022; clear HB; have HO_5 := n0_; have HO_6 := n1_; have HO_7 := n2_; have HO_11 := n3_; have HO1015 := n4_; have HO1022 := n5_; have HB := n6_; clear n0_ n1_ n2_ n3_ n4_ n5_ n6_; (try clear hb); (try clear hb2); (try clear hk); (try clear hi)) | (go_at_call 49; (with_reducible refine (impl_GoodHunks.calls kj9 (t992.length : Int) _ _ t1000 false _ ?side1 ?side2 A62.out).mono ?_); (case side1 => repeat (first | exact (Kd.S_reads' HO_11.out).2.2 | (with_reducible refine Kd.C_alloc ?_ _) | (with_reducible refine Kd.C_drewN ?_ _) | (with_reducible refine Kd.C_drew ?_))); (case side2 => exact (Kd.S_reads' HO_11.out).2.1); rintro e w81 ⟨rfl, hb⟩; have n0_ := Aside0.mk (Kd.R_below (zr HO_5.out) hb); have n1_ := Aside0.mk (Kd.S_below (zs HO_6.out) hb); have n2_ := Aside0.mk (Kd.R_below (zr HO_7.out) hb); have n3_ := Aside0.mk (Kd.S_below (zs HO_11.out) hb); have n4_ := Aside0.mk (Kd.R_below (zr HO1015.out) hb); have n5_ := Aside0.mk (Kd.S_below (zs HO1022.out) hb); have n6_ := Aside0.mk (below_step zb hb); clear HO_5; clear HO_6; clear HO_7; clear HO_11; clear HO1015; clear HO1022; clear HB; have HO_5 := n0_; have HO_6 := n1_; have HO_7 := n2_; have HO_11 := n3_; have HO1015 := n4_; have HO1022 := n5_; have HB := n6_; clear n0_ n1_ n2_ n3_ n4_ n5_ n6_; (try clear hb); (try clear hb2); (try clear hk); (try clear hi)))
                                    go_ret
                                    exact ⟨by first | rfl | (simp [errW_none, errW_some] <;> rfl) | (simp [*, errW_none, errW_some] <;> rfl), by repeat (first | (with_reducible first | exact HB.out | apply below_alloc | apply pw_below_drewN | apply below_drew1) | exact HB.out)⟩
                            ·as_aux_lemma =>
                               replace c61 := Bool.eq_false_iff.mpr c61
                               subst c61
                               have H1 : (some false) = some r := by rw [if_neg (show ¬ (false = true) by decide)] at H; exact H
                               clear H
                               have H := H1
                               clear H1
                               first
                               | exact absurd (show false = true from (Option.some.inj H).trans HR_.out) Bool.false_ne_true
                               | obtain rfl := Option.some.inj H
                                 obtain ⟨Ao82, co82, eo82⟩ := Kd.R_slice HO_7.out
                                 subst eo82
                                 obtain ⟨Ao83, co83, eo83⟩ := Kd.S_slice HO_11.out
                                 subst eo83
                                 go_wp2_with (first | ((with_reducible refine gateC (f := 35) rfl ?_); refine goesL_ (some 105) rfl rfl Try.func35 (by kernel_rfl) rfl #[.slice Ao82 t992.length co82, .slice Ao83 t1000.length co83] rfl zm ?_; (with_reducible refine (impl_Patch.calls kj9 _ _ t992 _ _ t1000 t1012 true _ ?side1 ?side2 ?side3 ?side4 A51.out).mono ?_); (case side1 => repeat (first | exact (Kd.R_reads' HO_7.out).2.2 | (with_reducible refine Kd.C_alloc ?_ _) | (with_reducible refine Kd.C_drewN ?_ _) | (with_reducible refine Kd.C_drew ?_))); (case side2 => exact (Kd.R_reads' HO_7.out).2.1); (case side3 => repeat (first | exact (Kd.S_reads' HO_11.out).2.2 | (with_reducible refine Kd.C_alloc ?_ _) | (with_reducible refine Kd.C_drewN ?_ _) | (with_reducible refine Kd.C_drew ?_))); (case side4 => exact (Kd.S_reads' HO_11.out).2.1); rintro e w84 ⟨v1014, rfl, ho0, hb⟩; refine ⟨_, rfl, ?_⟩; have n0_ := Aside0.mk (Kd.R_elder' (zr HO_5.out) (Kd.R_base ho0) hb); have n1_ := Aside0.mk (Kd.S_elder' (zs HO_6.out) (Kd.R_base ho0) hb); have n2_ := Aside0.mk (Kd.R_elder' (zr HO_7.out) (Kd.R_base ho0) hb); have n3_ := Aside0.mk (Kd.S_elder' (zs HO_11.out) (Kd.R_base ho0) hb); have n4_ := Aside0.mk (Kd.R_lower (Kd.R_new' (Kd.R_new' ho0 (Kd.R_lt (zr HO_5.out))) (Kd.R_lt (zr HO_7.out))) (below_size zb)); have n5_ := Aside0.mk (below_step zb hb); clear HO_5; clear HO_6; clear HO_7; clear HO_11; clear HB; have HO_5 := n0_; have HO_6 := n1_; have HO_7 := n2_; have HO_11 := n3_; have HO1015 := n4_; have HB := n5_; clear n0_ n1_ n2_ n3_ n4_ n5_; (try clear hb); (try clear hb2); (try clear hk); (try clear hi); (try clear ho0)) | ((with_reducible refine gateC (f := 43) rfl ?_); refine goesL_ (some 110) rfl rfl Try.func43 (by kernel_rfl) rfl #[.slice Ao13 t987.length co13] rfl zm ?_; (with_reducible refine (impl_CountHunks.calls kj9 _ _ t987 t1016 t1017 true _ ?side1 ?side2 A52.out).mono ?_); (case side1 => repeat (first | exact (Kd.S_reads' HO_6.out).2.2 | (with_reducible refine Kd.C_alloc ?_ _) | (with_reducible refine Kd.C_drewN ?_ _) | (with_reducible refine Kd.C_drew ?_))); (case side2 => exact (Kd.S_reads' HO_6.out).2.1); rintro e w85 ⟨rfl, hb⟩; refine ⟨_, rfl, ?_⟩; have n0_ := Aside0.mk (Kd.R_below (zr HO_5.out) hb); have n1_ := Aside0.mk (Kd.S_below (zs HO_6.out) hb); have n2_ := Aside0.mk (Kd.R_below (zr HO_7.out) hb); have n3_ := Aside0.mk (Kd.S_below (zs HO_11.out) hb); have n4_ := Aside0.mk (Kd.R_below (zr HO1015.out) hb); have n5_ := Aside0.mk (below_step zb hb); clear HO_5; clear HO_6; clear HO_7; clear HO_11; clear HO1015; clear HB; have HO_5 := n0_; have HO_6 := n1_; have HO_7 := n2_; have HO_11 := n3_; have HO1015 := n4_; have HB := n5_; clear n0_ n1_ n2_ n3_ n4_ n5_; (try clear hb); (try clear hb2); (try clear hk); (try clear hi)) | ((with_reducible refine gateC (f := 47) rfl ?_); refine goesL_ (some 117) rfl rfl Try.func47 (by kernel_rfl) rfl #[.slice Ao82 t992.length co82, .slice Ao83 t1000.length co83] rfl zm ?_; (with_reducible refine (impl_BackHunks.calls kj9 _ _ t992 _ _ t1000 t1019 true _ ?side1 ?side2 ?side3 ?side4 A53.out).mono ?_); (case side1 => repeat (first | exact (Kd.R_reads' HO_7.out).2.2 | (with_reducible refine Kd.C_alloc ?_ _) | (with_reducible refine Kd.C_drewN ?_ _) | (with_reducible refine Kd.C_drew ?_))); (case side2 => exact (Kd.R_reads' HO_7.out).2.1); (case side3 => repeat (first | exact (Kd.S_reads' HO_11.out).2.2 | (with_reducible refine Kd.C_alloc ?_ _) | (with_reducible refine Kd.C_drewN ?_ _) | (with_reducible refine Kd.C_drew ?_))); (case side4 => exact (Kd.S_reads' HO_11.out).2.1); rintro e w86 ⟨v1021, rfl, ho0, hb⟩; refine ⟨_, rfl, ?_⟩; have n0_ := Aside0.mk (Kd.R_below (zr HO_5.out) hb); have n1_ := Aside0.mk (Kd.S_elder' (zs HO_6.out) (Kd.S_base ho0) hb); have n2_ := Aside0.mk (Kd.R_below (zr HO_7.out) hb); have n3_ := Aside0.mk (Kd.S_elder' (zs HO_11.out) (Kd.S_base ho0) hb); have n4_ := Aside0.mk (Kd.R_below (zr HO1015.out) hb); have n5_ := Aside0.mk (Kd.S_lower (Kd.S_new' (Kd.S_new' (Kd.S_new' (Kd.S_new' (Kd.S_new' ho0 (Kd.R_lt (zr HO_5.out))) (Kd.S_lt (zs HO_6.out))) (Kd.R_lt (zr HO_7.out))) (Kd.S_lt (zs HO_11.out))) (Kd.R_lt (zr HO1015.out))) (below_size zb)); have n6_ := Aside0.mk (below_step zb hb); clear HO_5; clear HO_6; clear HO_7; clear HO_11; clear HO1015; clear HB; have HO_5 := n0_; have HO_6 := n1_; have HO_7 := n2_; have HO_11 := n3_; have HO1015 := n4_; have HO1022 := n5_; have HB := n6_; clear n0_ n1_ n2_ n3_ n4_ n5_ n6_; (try clear hb); (try clear hb2); (try clear hk); (try clear hi); (try clear ho0); obtain ⟨Ao87, co87, eo87⟩ := Kd.R_slice HO1015.out; subst eo87) | (go_at_call 36; (with_reducible refine (laws_sameTexts.calls kj9 _ _ t1012 _ _ t986 true _ ?side1 ?side2 ?side3 ?side4 A55.out).mono ?_); (case side1 => repeat (first | exact (Kd.R_reads' HO1015.out).2.2 | (with_reducible refine Kd.C_alloc ?_ _) | (with_reducible refine Kd.C_drewN ?_ _) | (with_reducible refine Kd.C_drew ?_))); (case side2 => exact (Kd.R_reads' HO1015.out).2.1); (case side3 => repeat (first | exact (Kd.R_reads' HO_5.out).2.2 | (with_reducible refine Kd.C_alloc ?_ _) | (with_reducible refine Kd.C_drewN ?_ _) | (with_reducible refine Kd.C_drew ?_))); (case side4 => exact (Kd.R_reads' HO_5.out).2.1); rintro e w' ⟨rfl, ⟨nd, rfl⟩⟩; obtain ⟨Ao88, co88, eo88⟩ := Kd.S_slice HO1022.out; subst eo88) | (go_at_call 34; (with_reducible refine (laws_sameHunks.calls kj9 _ _ t1019 _ _ t987 false _ ?side1 ?side2 ?side3 ?side4 A60.out).mono ?_); (case side1 => repeat (first | exact (Kd.S_reads' HO1022.out).2.2 | (with_reducible refine Kd.C_alloc ?_ _) | (with_reducible refine Kd.C_drewN ?_ _) | (with_reducible refine Kd.C_drew ?_))); (case side2 => exact (Kd.S_reads' HO1022.out).2.1); (case side3 => repeat (first | exact (Kd.S_reads' HO_6.out).2.2 | (with_reducible refine Kd.C_alloc ?_ _) | (with_reducible refine Kd.C_drewN ?_ _) | (with_reducible refine Kd.C_drew ?_))); (case side4 => exact (Kd.S_reads' HO_6.out).2.1); rintro e w89 ⟨rfl, hb⟩; have n0_ := Aside0.mk (Kd.R_below (zr HO_5.out) hb); have n1_ := Aside0.mk (Kd.S_below (zs HO_6.out) hb); have n2_ := Aside0.mk (Kd.R_below (zr HO_7.out) hb); have n3_ := Aside0.mk (Kd.S_below (zs HO_11.out) hb); have n4_ := Aside0.mk (Kd.R_below (zr HO1015.out) hb); have n5_ := Aside0.mk (Kd.S_below (zs HO1022.out) hb); have n6_ := Aside0.mk (below_step zb hb); clear HO_5; clear HO_6; clear HO_7; clear HO_11; clear HO1015; clear HO1022; clear HB; have HO_5 := n0_; have HO_6 := n1_; have HO_7 := n2_; have HO_11 := n3_; have HO1015 := n4_; have HO1022 := n5_; have HB := n6_; clear n0_ n1_ n2_ n3_ n4_ n5_ n6_; (try clear hb); (try clear hb2); (try clear hk); (try clear hi)))
                                 go_ret
                                 exact ⟨by first | rfl | (simp [errW_none, errW_some] <;> rfl) | (simp [*, errW_none, errW_some] <;> rfl), by repeat (first | (with_reducible first | exact HB.out | apply below_alloc | apply pw_below_drewN | apply below_drew1) | exact HB.out)⟩
                         ·as_aux_lemma =>
                            replace c59 := Bool.eq_false_iff.mpr c59
                            subst c59
                            have H1 : (some false) = some r := by rw [if_neg (show ¬ (false = true) by decide)] at H; exact H
                            clear H
                            have H := H1
                            clear H1
                            first
                            | exact absurd (show false = true from (Option.some.inj H).trans HR_.out) Bool.false_ne_true
                            | obtain rfl := Option.some.inj H
                              obtain ⟨Ao90, co90, eo90⟩ := Kd.R_slice HO_7.out
                              subst eo90
                              obtain ⟨Ao91, co91, eo91⟩ := Kd.S_slice HO_11.out
                              subst eo91
                              go_wp2_with (first | ((with_reducible refine gateC (f := 35) rfl ?_); refine goesL_ (some 105) rfl rfl Try.func35 (by kernel_rfl) rfl #[.slice Ao90 t992.length co90, .slice Ao91 t1000.length co91] rfl zm ?_; (with_reducible refine (impl_Patch.calls kj9 _ _ t992 _ _ t1000 t1012 true _ ?side1 ?side2 ?side3 ?side4 A51.out).mono ?_); (case side1 => repeat (first | exact (Kd.R_reads' HO_7.out).2.2 | (with_reducible refine Kd.C_alloc ?_ _) | (with_reducible refine Kd.C_drewN ?_ _) | (with_reducible refine Kd.C_drew ?_))); (case side2 => exact (Kd.R_reads' HO_7.out).2.1); (case side3 => repeat (first | exact (Kd.S_reads' HO_11.out).2.2 | (with_reducible refine Kd.C_alloc ?_ _) | (with_reducible refine Kd.C_drewN ?_ _) | (with_reducible refine Kd.C_drew ?_))); (case side4 => exact (Kd.S_reads' HO_11.out).2.1); rintro e w92 ⟨v1014, rfl, ho0, hb⟩; refine ⟨_, rfl, ?_⟩; have n0_ := Aside0.mk (Kd.R_elder' (zr HO_5.out) (Kd.R_base ho0) hb); have n1_ := Aside0.mk (Kd.S_elder' (zs HO_6.out) (Kd.R_base ho0) hb); have n2_ := Aside0.mk (Kd.R_elder' (zr HO_7.out) (Kd.R_base ho0) hb); have n3_ := Aside0.mk (Kd.S_elder' (zs HO_11.out) (Kd.R_base ho0) hb); have n4_ := Aside0.mk (Kd.R_lower (Kd.R_new' (Kd.R_new' ho0 (Kd.R_lt (zr HO_5.out))) (Kd.R_lt (zr HO_7.out))) (below_size zb)); have n5_ := Aside0.mk (below_step zb hb); clear HO_5; clear HO_6; clear HO_7; clear HO_11; clear HB; have HO_5 := n0_; have HO_6 := n1_; have HO_7 := n2_; have HO_11 := n3_; have HO1015 := n4_; have HB := n5_; clear n0_ n1_ n2_ n3_ n4_ n5_; (try clear hb); (try clear hb2); (try clear hk); (try clear hi); (try clear ho0)) | ((with_reducible refine gateC (f := 43) rfl ?_); refine goesL_ (some 110) rfl rfl Try.func43 (by kernel_rfl) rfl #[.slice Ao13 t987.length co13] rfl zm ?_; (with_reducible refine (impl_CountHunks.calls kj9 _ _ t987 t1016 t1017 true _ ?side1 ?side2 A52.out).mono ?_); (case side1 => repeat (first | exact (Kd.S_reads' HO_6.out).2.2 | (with_reducible refine Kd.C_alloc ?_ _) | (with_reducible refine Kd.C_drewN ?_ _) | (with_reducible refine Kd.C_drew ?_))); (case side2 => exact (Kd.S_reads' HO_6.out).2.1); rintro e w93 ⟨rfl, hb⟩; refine ⟨_, rfl, ?_⟩; have n0_ := Aside0.mk (Kd.R_below (zr HO_5.out) hb); have n1_ := Aside0.mk (Kd.S_below (zs HO_6.out) hb); have n2_ := Aside0.mk (Kd.R_below (zr HO_7.out) hb); have n3_ := Aside0.mk (Kd.S_below (zs HO_11.out) hb); have n4_ := Aside0.mk (Kd.R_below (zr HO1015.out) hb); have n5_ := Aside0.mk (below_step zb hb); clear HO_5; clear HO_6; clear HO_7; clear HO_11; clear HO1015; clear HB; have HO_5 := n0_; have HO_6 := n1_; have HO_7 := n2_; have HO_11 := n3_; have HO1015 := n4_; have HB := n5_; clear n0_ n1_ n2_ n3_ n4_ n5_; (try clear hb); (try clear hb2); (try clear hk); (try clear hi)) | ((with_reducible refine gateC (f := 47) rfl ?_); refine goesL_ (some 117) rfl rfl Try.func47 (by kernel_rfl) rfl #[.slice Ao90 t992.length co90, .slice Ao91 t1000.length co91] rfl zm ?_; (with_reducible refine (impl_BackHunks.calls kj9 _ _ t992 _ _ t1000 t1019 false _ ?side1 ?side2 ?side3 ?side4 A53.out).mono ?_); (case side1 => repeat (first | exact (Kd.R_reads' HO_7.out).2.2 | (with_reducible refine Kd.C_alloc ?_ _) | (with_reducible refine Kd.C_drewN ?_ _) | (with_reducible refine Kd.C_drew ?_))); (case side2 => exact (Kd.R_reads' HO_7.out).2.1); (case side3 => repeat (first | exact (Kd.S_reads' HO_11.out).2.2 | (with_reducible refine Kd.C_alloc ?_ _) | (with_reducible refine Kd.C_drewN ?_ _) | (with_reducible refine Kd.C_drew ?_))); (case side4 => exact (Kd.S_reads' HO_11.out).2.1); rintro e w94 ⟨v1021, rfl, ho0, hb⟩; refine ⟨_, rfl, ?_⟩; have n0_ := Aside0.mk (Kd.R_below (zr HO_5.out) hb); have n1_ := Aside0.mk (Kd.S_elder' (zs HO_6.out) (Kd.S_base ho0) hb); have n2_ := Aside0.mk (Kd.R_below (zr HO_7.out) hb); have n3_ := Aside0.mk (Kd.S_elder' (zs HO_11.out) (Kd.S_base ho0) hb); have n4_ := Aside0.mk (Kd.R_below (zr HO1015.out) hb); have n5_ := Aside0.mk (Kd.S_lower (Kd.S_new' (Kd.S_new' (Kd.S_new' (Kd.S_new' (Kd.S_new' ho0 (Kd.R_lt (zr HO_5.out))) (Kd.S_lt (zs HO_6.out))) (Kd.R_lt (zr HO_7.out))) (Kd.S_lt (zs HO_11.out))) (Kd.R_lt (zr HO1015.out))) (below_size zb)); have n6_ := Aside0.mk (below_step zb hb); clear HO_5; clear HO_6; clear HO_7; clear HO_11; clear HO1015; clear HB; have HO_5 := n0_; have HO_6 := n1_; have HO_7 := n2_; have HO_11 := n3_; have HO1015 := n4_; have HO1022 := n5_; have HB := n6_; clear n0_ n1_ n2_ n3_ n4_ n5_ n6_; (try clear hb); (try clear hb2); (try clear hk); (try clear hi); (try clear ho0); obtain ⟨Ao95, co95, eo95⟩ := Kd.R_slice HO1015.out; subst eo95) | (go_at_call 36; (with_reducible refine (laws_sameTexts.calls kj9 _ _ t1012 _ _ t986 true _ ?side1 ?side2 ?side3 ?side4 A55.out).mono ?_); (case side1 => repeat (first | exact (Kd.R_reads' HO1015.out).2.2 | (with_reducible refine Kd.C_alloc ?_ _) | (with_reducible refine Kd.C_drewN ?_ _) | (with_reducible refine Kd.C_drew ?_))); (case side2 => exact (Kd.R_reads' HO1015.out).2.1); (case side3 => repeat (first | exact (Kd.R_reads' HO_5.out).2.2 | (with_reducible refine Kd.C_alloc ?_ _) | (with_reducible refine Kd.C_drewN ?_ _) | (with_reducible refine Kd.C_drew ?_))); (case side4 => exact (Kd.R_reads' HO_5.out).2.1); rintro e w' ⟨rfl, ⟨nd, rfl⟩⟩))
                              go_ret
                              exact ⟨by first | rfl | (simp [errW_none, errW_some] <;> rfl) | (simp [*, errW_none, errW_some] <;> rfl), by repeat (first | (with_reducible first | exact HB.out | apply below_alloc | apply pw_below_drewN | apply below_drew1) | exact HB.out)⟩
                      ·as_aux_lemma =>
                         rw [if_neg c58] at H
                         have c58b0 : ((t992.length : Int) == (wrap64 ((wrap64 ((t986.length : Int) - t1016)) + t1017))) = false := beq_eq_false_iff_ne.mpr c58
                         have c58b1 : ((t992.length : Int) != (wrap64 ((wrap64 ((t986.length : Int) - t1016)) + t1017))) = true := bne_iff_ne.mpr c58
                         (first | rw [c58b0] | (simp only [i64_w, i32_w]; rw [c58b0]) | skip)
                         first
                         | exact absurd (show false = true from (Option.some.inj H).trans HR_.out) Bool.false_ne_true
                         | obtain rfl := Option.some.inj H
                           obtain ⟨Ao96, co96, eo96⟩ := Kd.R_slice HO_7.out
                           subst eo96
                           obtain ⟨Ao97, co97, eo97⟩ := Kd.S_slice HO_11.out
                           subst eo97
                           go_wp2_with (first | ((with_reducible refine gateC (f := 35) rfl ?_); refine goesL_ (some 105) rfl rfl Try.func35 (by kernel_rfl) rfl #[.slice Ao96 t992.length co96, .slice Ao97 t1000.length co97] rfl zm ?_; (with_reducible refine (impl_Patch.calls kj9 _ _ t992 _ _ t1000 t1012 true _ ?side1 ?side2 ?side3 ?side4 A51.out).mono ?_); (case side1 => repeat (first | exact (Kd.R_reads' HO_7.out).2.2 | (with_reducible refine Kd.C_alloc ?_ _) | (with_reducible refine Kd.C_drewN ?_ _) | (with_reducible refine Kd.C_drew ?_))); (case side2 => exact (Kd.R_reads' HO_7.out).2.1); (case side3 => repeat (first | exact (Kd.S_reads' HO_11.out).2.2 | (with_reducible refine Kd.C_alloc ?_ _) | (with_reducible refine Kd.C_drewN ?_ _) | (with_reducible refine Kd.C_drew ?_))); (case side4 => exact (Kd.S_reads' HO_11.out).2.1); rintro e w98 ⟨v1014, rfl, ho0, hb⟩; refine ⟨_, rfl, ?_⟩; have n0_ := Aside0.mk (Kd.R_elder' (zr HO_5.out) (Kd.R_base ho0) hb); have n1_ := Aside0.mk (Kd.S_elder' (zs HO_6.out) (Kd.R_base ho0) hb); have n2_ := Aside0.mk (Kd.R_elder' (zr HO_7.out) (Kd.R_base ho0) hb); have n3_ := Aside0.mk (Kd.S_elder' (zs HO_11.out) (Kd.R_base ho0) hb); have n4_ := Aside0.mk (Kd.R_lower (Kd.R_new' (Kd.R_new' ho0 (Kd.R_lt (zr HO_5.out))) (Kd.R_lt (zr HO_7.out))) (below_size zb)); have n5_ := Aside0.mk (below_step zb hb); clear HO_5; clear HO_6; clear HO_7; clear HO_11; clear HB; have HO_5 := n0_; have HO_6 := n1_; have HO_7 := n2_; have HO_11 := n3_; have HO1015 := n4_; have HB := n5_; clear n0_ n1_ n2_ n3_ n4_ n5_; (try clear hb); (try clear hb2); (try clear hk); (try clear hi); (try clear ho0)) | ((with_reducible refine gateC (f := 43) rfl ?_); refine goesL_ (some 110) rfl rfl Try.func43 (by kernel_rfl) rfl #[.slice Ao13 t987.length co13] rfl zm ?_; (with_reducible refine (impl_CountHunks.calls kj9 _ _ t987 t1016 t1017 true _ ?side1 ?side2 A52.out).mono ?_); (case side1 => repeat (first | exact (Kd.S_reads' HO_6.out).2.2 | (with_reducible refine Kd.C_alloc ?_ _) | (with_reducible refine Kd.C_drewN ?_ _) | (with_reducible refine Kd.C_drew ?_))); (case side2 => exact (Kd.S_reads' HO_6.out).2.1); rintro e w99 ⟨rfl, hb⟩; refine ⟨_, rfl, ?_⟩; have n0_ := Aside0.mk (Kd.R_below (zr HO_5.out) hb); have n1_ := Aside0.mk (Kd.S_below (zs HO_6.out) hb); have n2_ := Aside0.mk (Kd.R_below (zr HO_7.out) hb); have n3_ := Aside0.mk (Kd.S_below (zs HO_11.out) hb); have n4_ := Aside0.mk (Kd.R_below (zr HO1015.out) hb); have n5_ := Aside0.mk (below_step zb hb); clear HO_5; clear HO_6; clear HO_7; clear HO_11; clear HO1015; clear HB; have HO_5 := n0_; have HO_6 := n1_; have HO_7 := n2_; have HO_11 := n3_; have HO1015 := n4_; have HB := n5_; clear n0_ n1_ n2_ n3_ n4_ n5_; (try clear hb); (try clear hb2); (try clear hk); (try clear hi)) | ((with_reducible refine gateC (f := 47) rfl ?_); refine goesL_ (some 117) rfl rfl Try.func47 (by kernel_rfl) rfl #[.slice Ao96 t992.length co96, .slice Ao97 t1000.length co97] rfl zm ?_; (with_reducible refine (impl_BackHunks.calls kj9 _ _ t992 _ _ t1000 t1019 t1020 _ ?side1 ?side2 ?side3 ?side4 A53.out).mono ?_); (case side1 => repeat (first | exact (Kd.R_reads' HO_7.out).2.2 | (with_reducible refine Kd.C_alloc ?_ _) | (with_reducible refine Kd.C_drewN ?_ _) | (with_reducible refine Kd.C_drew ?_))); (case side2 => exact (Kd.R_reads' HO_7.out).2.1); (case side3 => repeat (first | exact (Kd.S_reads' HO_11.out).2.2 | (with_reducible refine Kd.C_alloc ?_ _) | (with_reducible refine Kd.C_drewN ?_ _) | (with_reducible refine Kd.C_drew ?_))); (case side4 => exact (Kd.S_reads' HO_11.out).2.1); rintro e w100 ⟨v1021, rfl, ho0, hb⟩; refine ⟨_, rfl, ?_⟩; have n0_ := Aside0.mk (Kd.R_below (zr HO_5.out) hb); have n1_ := Aside0.mk (Kd.S_elder' (zs HO_6.out) (Kd.S_base ho0) hb); have n2_ := Aside0.mk (Kd.R_below (zr HO_7.out) hb); have n3_ := Aside0.mk (Kd.S_elder' (zs HO_11.out) (Kd.S_base ho0) hb); have n4_ := Aside0.mk (Kd.R_below (zr HO1015.out) hb); have n5_ := Aside0.mk (Kd.S_lower (Kd.S_new' (Kd.S_new' (Kd.S_new' (Kd.S_new' (Kd.S_new' ho0 (Kd.R_lt (zr HO_5.out))) (Kd.S_lt (zs HO_6.out))) (Kd.R_lt (zr HO_7.out))) (Kd.S_lt (zs HO_11.out))) (Kd.R_lt (zr HO1015.out))) (below_size zb)); have n6_ := Aside0.mk (below_step zb hb); clear HO_5; clear HO_6; clear HO_7; clear HO_11; clear HO1015; clear HB; have HO_5 := n0_; have HO_6 := n1_; have HO_7 := n2_; have HO_11 := n3_; have HO1015 := n4_; have HO1022 := n5_; have HB := n6_; clear n0_ n1_ n2_ n3_ n4_ n5_ n6_; (try clear hb); (try clear hb2); (try clear hk); (try clear hi); (try clear ho0); obtain ⟨Ao101, co101, eo101⟩ := Kd.R_slice HO1015.out; subst eo101) | (go_at_call 36; (with_reducible refine (laws_sameTexts.calls kj9 _ _ t1012 _ _ t986 true _ ?side1 ?side2 ?side3 ?side4 A55.out).mono ?_); (case side1 => repeat (first | exact (Kd.R_reads' HO1015.out).2.2 | (with_reducible refine Kd.C_alloc ?_ _) | (with_reducible refine Kd.C_drewN ?_ _) | (with_reducible refine Kd.C_drew ?_))); (case side2 => exact (Kd.R_reads' HO1015.out).2.1); (case side3 => repeat (first | exact (Kd.R_reads' HO_5.out).2.2 | (with_reducible refine Kd.C_alloc ?_ _) | (with_reducible refine Kd.C_drewN ?_ _) | (with_reducible refine Kd.C_drew ?_))); (case side4 => exact (Kd.R_reads' HO_5.out).2.1); rintro e w' ⟨rfl, ⟨nd, rfl⟩⟩))
                           go_ret
                           exact ⟨by first | rfl | (simp [errW_none, errW_some] <;> rfl) | (simp [*, errW_none, errW_some] <;> rfl), by repeat (first | (with_reducible first | exact HB.out | apply below_alloc | apply pw_below_drewN | apply below_drew1) | exact HB.out)⟩
                   ·as_aux_lemma =>
                      replace c57 := Bool.eq_false_iff.mpr c57
                      subst c57
                      have H1 : (some false) = some r := by rw [if_neg (show ¬ (false = true) by decide)] at H; exact H
                      clear H
                      have H := H1
                      clear H1
                      first
                      | exact absurd (show false = true from (Option.some.inj H).trans HR_.out) Bool.false_ne_true
                      | obtain rfl := Option.some.inj H
                        obtain ⟨Ao102, co102, eo102⟩ := Kd.R_slice HO_7.out
                        subst eo102
                        obtain ⟨Ao103, co103, eo103⟩ := Kd.S_slice HO_11.out
                        subst eo103
                        go_wp2_with (first | ((with_reducible refine gateC (f := 35) rfl ?_); refine goesL_ (some 105) rfl rfl Try.func35 (by kernel_rfl) rfl #[.slice Ao102 t992.length co102, .slice Ao103 t1000.length co103] rfl zm ?_; (with_reducible refine (impl_Patch.calls kj9 _ _ t992 _ _ t1000 t1012 true _ ?side1 ?side2 ?side3 ?side4 A51.out).mono ?_); (case side1 => repeat (first | exact (Kd.R_reads' HO_7.out).2.2 | (with_reducible refine Kd.C_alloc ?_ _) | (with_reducible refine Kd.C_drewN ?_ _) | (with_reducible refine Kd.C_drew ?_))); (case side2 => exact (Kd.R_reads' HO_7.out).2.1); (case side3 => repeat (first | exact (Kd.S_reads' HO_11.out).2.2 | (with_reducible refine Kd.C_alloc ?_ _) | (with_reducible refine Kd.C_drewN ?_ _) | (with_reducible refine Kd.C_drew ?_))); (case side4 => exact (Kd.S_reads' HO_11.out).2.1); rintro e w104 ⟨v1014, rfl, ho0, hb⟩; refine ⟨_, rfl, ?_⟩; have n0_ := Aside0.mk (Kd.R_elder' (zr HO_5.out) (Kd.R_base ho0) hb); have n1_ := Aside0.mk (Kd.S_elder' (zs HO_6.out) (Kd.R_base ho0) hb); have n2_ := Aside0.mk (Kd.R_elder' (zr HO_7.out) (Kd.R_base ho0) hb); have n3_ := Aside0.mk (Kd.S_elder' (zs HO_11.out) (Kd.R_base ho0) hb); have n4_ := Aside0.mk (Kd.R_lower (Kd.R_new' (Kd.R_new' ho0 (Kd.R_lt (zr HO_5.out))) (Kd.R_lt (zr HO_7.out))) (below_size zb)); have n5_ := Aside0.mk (below_step zb hb); clear HO_5; clear HO_6; clear HO_7; clear HO_11; clear HB; have HO_5 := n0_; have HO_6 := n1_; have HO_7 := n2_; have HO_11 := n3_; have HO1015 := n4_; have HB := n5_; clear n0_ n1_ n2_ n3_ n4_ n5_; (try clear hb); (try clear hb2); (try clear hk); (try clear hi); (try clear ho0)) | ((with_reducible refine gateC (f := 43) rfl ?_); refine goesL_ (some 110) rfl rfl Try.func43 (by kernel_rfl) rfl #[.slice Ao13 t987.length co13] rfl zm ?_; (with_reducible refine (impl_CountHunks.calls kj9 _ _ t987 t1016 t1017 false _ ?side1 ?side2 A52.out).mono ?_); (case side1 => repeat (first | exact (Kd.S_reads' HO_6.out).2.2 | (with_reducible refine Kd.C_alloc ?_ _) | (with_reducible refine Kd.C_drewN ?_ _) | (with_reducible refine Kd.C_drew ?_))); (case side2 => exact (Kd.S_reads' HO_6.out).2.1); rintro e w105 ⟨rfl, hb⟩; refine ⟨_, rfl, ?_⟩; have n0_ := Aside0.mk (Kd.R_below (zr HO_5.out) hb); have n1_ := Aside0.mk (Kd.S_below (zs HO_6.out) hb); have n2_ := Aside0.mk (Kd.R_below (zr HO_7.out) hb); have n3_ := Aside0.mk (Kd.S_below (zs HO_11.out) hb); have n4_ := Aside0.mk (Kd.R_below (zr HO1015.out) hb); have n5_ := Aside0.mk (below_step zb hb); clear HO_5; clear HO_6; clear HO_7; clear HO_11; clear HO1015; clear HB; have HO_5 := n0_; have HO_6 := n1_; have HO_7 := n2_; have HO_11 := n3_; have HO1015 := n4_; have HB := n5_; clear n0_ n1_ n2_ n3_ n4_ n5_; (try clear hb); (try clear hb2); (try clear hk); (try clear hi)) | ((with_reducible refine gateC (f := 47) rfl ?_); refine goesL_ (some 117) rfl rfl Try.func47 (by kernel_rfl) rfl #[.slice Ao102 t992.length co102, .slice Ao103 t1000.length co103] rfl zm ?_; (with_reducible refine (impl_BackHunks.calls kj9 _ _ t992 _ _ t1000 t1019 t1020 _ ?side1 ?side2 ?side3 ?side4 A53.out).mono ?_); (case side1 => repeat (first | exact (Kd.R_reads' HO_7.out).2.2 | (with_reducible refine Kd.C_alloc ?_ _) | (with_reducible refine Kd.C_drewN ?_ _) | (with_reducible refine Kd.C_drew ?_))); (case side2 => exact (Kd.R_reads' HO_7.out).2.1); (case side3 => repeat (first | exact (Kd.S_reads' HO_11.out).2.2 | (with_reducible refine Kd.C_alloc ?_ _) | (with_reducible refine Kd.C_drewN ?_ _) | (with_reducible refine Kd.C_drew ?_))); (case side4 => exact (Kd.S_reads' HO_11.out).2.1); rintro e w106 ⟨v1021, rfl, ho0, hb⟩; refine ⟨_, rfl, ?_⟩; have n0_ := Aside0.mk (Kd.R_below (zr HO_5.out) hb); have n1_ := Aside0.mk (Kd.S_elder' (zs HO_6.out) (Kd.S_base ho0) hb); have n2_ := Aside0.mk (Kd.R_below (zr HO_7.out) hb); have n3_ := Aside0.mk (Kd.S_elder' (zs HO_11.out) (Kd.S_base ho0) hb); have n4_ := Aside0.mk (Kd.R_below (zr HO1015.out) hb); have n5_ := Aside0.mk (Kd.S_lower (Kd.S_new' (Kd.S_new' (Kd.S_new' (Kd.S_new' (Kd.S_new' ho0 (Kd.R_lt (zr HO_5.out))) (Kd.S_lt (zs HO_6.out))) (Kd.R_lt (zr HO_7.out))) (Kd.S_lt (zs HO_11.out))) (Kd.R_lt (zr HO1015.out))) (below_size zb)); have n6_ := Aside0.mk (below_step zb hb); clear HO_5; clear HO_6; clear HO_7; clear HO_11; clear HO1015; clear HB; have HO_5 := n0_; have HO_6 := n1_; have HO_7 := n2_; have HO_11 := n3_; have HO1015 := n4_; have HO1022 := n5_; have HB := n6_; clear n0_ n1_ n2_ n3_ n4_ n5_ n6_; (try clear hb); (try clear hb2); (try clear hk); (try clear hi); (try clear ho0); obtain ⟨Ao107, co107, eo107⟩ := Kd.R_slice HO1015.out; subst eo107) | (go_at_call 36; (with_reducible refine (laws_sameTexts.calls kj9 _ _ t1012 _ _ t986 true _ ?side1 ?side2 ?side3 ?side4 A55.out).mono ?_); (case side1 => repeat (first | exact (Kd.R_reads' HO1015.out).2.2 | (with_reducible refine Kd.C_alloc ?_ _) | (with_reducible refine Kd.C_drewN ?_ _) | (with_reducible refine Kd.C_drew ?_))); (case side2 => exact (Kd.R_reads' HO1015.out).2.1); (case side3 => repeat (first | exact (Kd.R_reads' HO_5.out).2.2 | (with_reducible refine Kd.C_alloc ?_ _) | (with_reducible refine Kd.C_drewN ?_ _) | (with_reducible refine Kd.C_drew ?_))); (case side4 => exact (Kd.R_reads' HO_5.out).2.1); rintro e w' ⟨rfl, ⟨nd, rfl⟩⟩))
                        go_ret
                        exact ⟨by first | rfl | (simp [errW_none, errW_some] <;> rfl) | (simp [*, errW_none, errW_some] <;> rfl), by repeat (first | (with_reducible first | exact HB.out | apply below_alloc | apply pw_below_drewN | apply below_drew1) | exact HB.out)⟩
                ·as_aux_lemma =>
                   replace c56 := Bool.eq_false_iff.mpr c56
                   subst c56
                   have H1 : (some false) = some r := by rw [if_neg (show ¬ (false = true) by decide)] at H; exact H
                   clear H
                   have H := H1
                   clear H1
                   first
                   | exact absurd (show false = true from (Option.some.inj H).trans HR_.out) Bool.false_ne_true
                   | obtain rfl := Option.some.inj H
                     obtain ⟨Ao108, co108, eo108⟩ := Kd.R_slice HO_7.out
                     subst eo108
                     obtain ⟨Ao109, co109, eo109⟩ := Kd.S_slice HO_11.out
                     subst eo109
                     go_wp2_with (first | ((with_reducible refine gateC (f := 35) rfl ?_); refine goesL_ (some 105) rfl rfl Try.func35 (by kernel_rfl) rfl #[.slice Ao108 t992.length co108, .slice Ao109 t1000.length co109] rfl zm ?_; (with_reducible refine (impl_Patch.calls kj9 _ _ t992 _ _ t1000 t1012 true _ ?side1 ?side2 ?side3 ?side4 A51.out).mono ?_); (case side1 => repeat (first | exact (Kd.R_reads' HO_7.out).2.2 | (with_reducible refine Kd.C_alloc ?_ _) | (with_reducible refine Kd.C_drewN ?_ _) | (with_reducible refine Kd.C_drew ?_))); (case side2 => exact (Kd.R_reads' HO_7.out).2.1); (case side3 => repeat (first | exact (Kd.S_reads' HO_11.out).2.2 | (with_reducible refine Kd.C_alloc ?_ _) | (with_reducible refine Kd.C_drewN ?_ _) | (with_reducible refine Kd.C_drew ?_))); (case side4 => exact (Kd.S_reads' HO_11.out).2.1); rintro e w110 ⟨v1014, rfl, ho0, hb⟩; refine ⟨_, rfl, ?_⟩; have n0_ := Aside0.mk (Kd.R_elder' (zr HO_5.out) (Kd.R_base ho0) hb); have n1_ := Aside0.mk (Kd.S_elder' (zs HO_6.out) (Kd.R_base ho0) hb); have n2_ := Aside0.mk (Kd.R_elder' (zr HO_7.out) (Kd.R_base ho0) hb); have n3_ := Aside0.mk (Kd.S_elder' (zs HO_11.out) (Kd.R_base ho0) hb); have n4_ := Aside0.mk (Kd.R_lower (Kd.R_new' (Kd.R_new' ho0 (Kd.R_lt (zr HO_5.out))) (Kd.R_lt (zr HO_7.out))) (below_size zb)); have n5_ := Aside0.mk (below_step zb hb); clear HO_5; clear HO_6; clear HO_7; clear HO_11; clear HB; have HO_5 := n0_; have HO_6 := n1_; have HO_7 := n2_; have HO_11 := n3_; have HO1015 := n4_; have HB := n5_; clear n0_ n1_ n2_ n3_ n4_ n5_; (try clear hb); (try clear hb2); (try clear hk); (try clear hi); (try clear ho0)) | ((with_reducible refine gateC (f := 43) rfl ?_); refine goesL_ (some 110) rfl rfl Try.func43 (by kernel_rfl) rfl #[.slice Ao13 t987.length co13] rfl zm ?_; (with_reducible refine (impl_CountHunks.calls kj9 _ _ t987 t1016 t1017 t1018 _ ?side1 ?side2 A52.out).mono ?_); (case side1 => repeat (first | exact (Kd.S_reads' HO_6.out).2.2 | (with_reducible refine Kd.C_alloc ?_ _) | (with_reducible refine Kd.C_drewN ?_ _) | (with_reducible refine Kd.C_drew ?_))); (case side2 => exact (Kd.S_reads' HO_6.out).2.1); rintro e w111 ⟨rfl, hb⟩; refine ⟨_, rfl, ?_⟩; have n0_ := Aside0.mk (Kd.R_below (zr HO_5.out) hb); have n1_ := Aside0.mk (Kd.S_below (zs HO_6.out) hb); have n2_ := Aside0.mk (Kd.R_below (zr HO_7.out) hb); have n3_ := Aside0.mk (Kd.S_below (zs HO_11.out) hb); have n4_ := Aside0.mk (Kd.R_below (zr HO1015.out) hb); have n5_ := Aside0.mk (below_step zb hb); clear HO_5; clear HO_6; clear HO_7; clear HO_11; clear HO1015; clear HB; have HO_5 := n0_; have HO_6 := n1_; have HO_7 := n2_; have HO_11 := n3_; have HO1015 := n4_; have HB := n5_; clear n0_ n1_ n2_ n3_ n4_ n5_; (try clear hb); (try clear hb2); (try clear hk); (try clear hi)) | ((with_reducible refine gateC (f := 47) rfl ?_); refine goesL_ (some 117) rfl rfl Try.func47 (by kernel_rfl) rfl #[.slice Ao108 t992.length co108, .slice Ao109 t1000.length co109] rfl zm ?_; (with_reducible refine (impl_BackHunks.calls kj9 _ _ t992 _ _ t1000 t1019 t1020 _ ?side1 ?side2 ?side3 ?side4 A53.out).mono ?_); (case side1 => repeat (first | exact (Kd.R_reads' HO_7.out).2.2 | (with_reducible refine Kd.C_alloc ?_ _) | (with_reducible refine Kd.C_drewN ?_ _) | (with_reducible refine Kd.C_drew ?_))); (case side2 => exact (Kd.R_reads' HO_7.out).2.1); (case side3 => repeat (first | exact (Kd.S_reads' HO_11.out).2.2 | (with_reducible refine Kd.C_alloc ?_ _) | (with_reducible refine Kd.C_drewN ?_ _) | (with_reducible refine Kd.C_drew ?_))); (case side4 => exact (Kd.S_reads' HO_11.out).2.1); rintro e w112 ⟨v1021, rfl, ho0, hb⟩; refine ⟨_, rfl, ?_⟩; have n0_ := Aside0.mk (Kd.R_below (zr HO_5.out) hb); have n1_ := Aside0.mk (Kd.S_elder' (zs HO_6.out) (Kd.S_base ho0) hb); have n2_ := Aside0.mk (Kd.R_below (zr HO_7.out) hb); have n3_ := Aside0.mk (Kd.S_elder' (zs HO_11.out) (Kd.S_base ho0) hb); have n4_ := Aside0.mk (Kd.R_below (zr HO1015.out) hb); have n5_ := Aside0.mk (Kd.S_lower (Kd.S_new' (Kd.S_new' (Kd.S_new' (Kd.S_new' (Kd.S_new' ho0 (Kd.R_lt (zr HO_5.out))) (Kd.S_lt (zs HO_6.out))) (Kd.R_lt (zr HO_7.out))) (Kd.S_lt (zs HO_11.out))) (Kd.R_lt (zr HO1015.out))) (below_size zb)); have n6_ := Aside0.mk (below_step zb hb); clear HO_5; clear HO_6; clear HO_7; clear HO_11; clear HO1015; clear HB; have HO_5 := n0_; have HO_6 := n1_; have HO_7 := n2_; have HO_11 := n3_; have HO1015 := n4_; have HO1022 := n5_; have HB := n6_; clear n0_ n1_ n2_ n3_ n4_ n5_ n6_; (try clear hb); (try clear hb2); (try clear hk); (try clear hi); (try clear ho0); obtain ⟨Ao113, co113, eo113⟩ := Kd.R_slice HO1015.out; subst eo113) | (go_at_call 36; (with_reducible refine (laws_sameTexts.calls kj9 _ _ t1012 _ _ t986 false _ ?side1 ?side2 ?side3 ?side4 A55.out).mono ?_); (case side1 => repeat (first | exact (Kd.R_reads' HO1015.out).2.2 | (with_reducible refine Kd.C_alloc ?_ _) | (with_reducible refine Kd.C_drewN ?_ _) | (with_reducible refine Kd.C_drew ?_))); (case side2 => exact (Kd.R_reads' HO1015.out).2.1); (case side3 => repeat (first | exact (Kd.R_reads' HO_5.out).2.2 | (with_reducible refine Kd.C_alloc ?_ _) | (with_reducible refine Kd.C_drewN ?_ _) | (with_reducible refine Kd.C_drew ?_))); (case side4 => exact (Kd.R_reads' HO_5.out).2.1); rintro e w' ⟨rfl, ⟨nd, rfl⟩⟩))
                     go_ret
                     exact ⟨by first | rfl | (simp [errW_none, errW_some] <;> rfl) | (simp [*, errW_none, errW_some] <;> rfl), by repeat (first | (with_reducible first | exact HB.out | apply below_alloc | apply pw_below_drewN | apply below_drew1) | exact HB.out)⟩
             ·as_aux_lemma =>
                replace c54 := Bool.eq_false_iff.mpr c54
                subst c54
                have H1 : (some false) = some r := by rw [if_neg (show ¬ (false = true) by decide)] at H; exact H
                clear H
                have H := H1
                clear H1
                first
                | exact absurd (show false = true from (Option.some.inj H).trans HR_.out) Bool.false_ne_true
                | obtain rfl := Option.some.inj H
                  obtain ⟨Ao114, co114, eo114⟩ := Kd.R_slice HO_7.out
                  subst eo114
                  obtain ⟨Ao115, co115, eo115⟩ := Kd.S_slice HO_11.out
                  subst eo115
                  go_wp2_with (first | ((with_reducible refine gateC (f := 35) rfl ?_); refine goesL_ (some 105) rfl rfl Try.func35 (by kernel_rfl) rfl #[.slice Ao114 t992.length co114, .slice Ao115 t1000.length co115] rfl zm ?_; (with_reducible refine (impl_Patch.calls kj9 _ _ t992 _ _ t1000 t1012 false _ ?side1 ?side2 ?side3 ?side4 A51.out).mono ?_); (case side1 => repeat (first | exact (Kd.R_reads' HO_7.out).2.2 | (with_reducible refine Kd.C_alloc ?_ _) | (with_reducible refine Kd.C_drewN ?_ _) | (with_reducible refine Kd.C_drew ?_))); (case side2 => exact (Kd.R_reads' HO_7.out).2.1); (case side3 => repeat (first | exact (Kd.S_reads' HO_11.out).2.2 | (with_reducible refine Kd.C_alloc ?_ _) | (with_reducible refine Kd.C_drewN ?_ _) | (with_reducible refine Kd.C_drew ?_))); (case side4 => exact (Kd.S_reads' HO_11.out).2.1); rintro e w116 ⟨v1014, rfl, ho0, hb⟩; refine ⟨_, rfl, ?_⟩; have n0_ := Aside0.mk (Kd.R_elder' (zr HO_5.out) (Kd.R_base ho0) hb); have n1_ := Aside0.mk (Kd.S_elder' (zs HO_6.out) (Kd.R_base ho0) hb); have n2_ := Aside0.mk (Kd.R_elder' (zr HO_7.out) (Kd.R_base ho0) hb); have n3_ := Aside0.mk (Kd.S_elder' (zs HO_11.out) (Kd.R_base ho0) hb); have n4_ := Aside0.mk (Kd.R_lower (Kd.R_new' (Kd.R_new' ho0 (Kd.R_lt (zr HO_5.out))) (Kd.R_lt (zr HO_7.out))) (below_size zb)); have n5_ := Aside0.mk (below_step zb hb); clear HO_5; clear HO_6; clear HO_7; clear HO_11; clear HB; have HO_5 := n0_; have HO_6 := n1_; have HO_7 := n2_; have HO_11 := n3_; have HO1015 := n4_; have HB := n5_; clear n0_ n1_ n2_ n3_ n4_ n5_; (try clear hb); (try clear hb2); (try clear hk); (try clear hi); (try clear ho0)) | ((with_reducible refine gateC (f := 43) rfl ?_); refine goesL_ (some 110) rfl rfl Try.func43 (by kernel_rfl) rfl #[.slice Ao13 t987.length co13] rfl zm ?_; (with_reducible refine (impl_CountHunks.calls kj9 _ _ t987 t1016 t1017 t1018 _ ?side1 ?side2 A52.out).mono ?_); (case side1 => repeat (first | exact (Kd.S_reads' HO_6.out).2.2 | (with_reducible refine Kd.C_alloc ?_ _) | (with_reducible refine Kd.C_drewN ?_ _) | (with_reducible refine Kd.C_drew ?_))); (case side2 => exact (Kd.S_reads' HO_6.out).2.1); rintro e w117 ⟨rfl, hb⟩; refine ⟨_, rfl, ?_⟩; have n0_ := Aside0.mk (Kd.R_below (zr HO_5.out) hb); have n1_ := Aside0.mk (Kd.S_below (zs HO_6.out) hb); have n2_ := Aside0.mk (Kd.R_below (zr HO_7.out) hb); have n3_ := Aside0.mk (Kd.S_below (zs HO_11.out) hb); have n4_ := Aside0.mk (Kd.R_below (zr HO1015.out) hb); have n5_ := Aside0.mk (below_step zb hb); clear HO_5; clear HO_6; clear HO_7; clear HO_11; clear HO1015; clear HB; have HO_5 := n0_; have HO_6 := n1_; have HO_7 := n2_; have HO_11 := n3_; have HO1015 := n4_; have HB := n5_; clear n0_ n1_ n2_ n3_ n4_ n5_; (try clear hb); (try clear hb2); (try clear hk); (try clear hi)) | ((with_reducible refine gateC (f := 47) rfl ?_); refine goesL_ (some 117) rfl rfl Try.func47 (by kernel_rfl) rfl #[.slice Ao114 t992.length co114, .slice Ao115 t1000.length co115] rfl zm ?_; (with_reducible refine (impl_BackHunks.calls kj9 _ _ t992 _ _ t1000 t1019 t1020 _ ?side1 ?side2 ?side3 ?side4 A53.out).mono ?_); (case side1 => repeat (first | exact (Kd.R_reads' HO_7.out).2.2 | (with_reducible refine Kd.C_alloc ?_ _) | (with_reducible refine Kd.C_drewN ?_ _) | (with_reducible refine Kd.C_drew ?_))); (case side2 => exact (Kd.R_reads' HO_7.out).2.1); (case side3 => repeat (first | exact (Kd.S_reads' HO_11.out).2.2 | (with_reducible refine Kd.C_alloc ?_ _) | (with_reducible refine Kd.C_drewN ?_ _) | (with_reducible refine Kd.C_drew ?_))); (case side4 => exact (Kd.S_reads' HO_11.out).2.1); rintro e w118 ⟨v1021, rfl, ho0, hb⟩; refine ⟨_, rfl, ?_⟩; have n0_ := Aside0.mk (Kd.R_below (zr HO_5.out) hb); have n1_ := Aside0.mk (Kd.S_elder' (zs HO_6.out) (Kd.S_base ho0) hb); have n2_ := Aside0.mk (Kd.R_below (zr HO_7.out) hb); have n3_ := Aside0.mk (Kd.S_elder' (zs HO_11.out) (Kd.S_base ho0) hb); have n4_ := Aside0.mk (Kd.R_below (zr HO1015.out) hb); have n5_ := Aside0.mk (Kd.S_lower (Kd.S_new' (Kd.S_new' (Kd.S_new' (Kd.S_new' (Kd.S_new' ho0 (Kd.R_lt (zr HO_5.out))) (Kd.S_lt (zs HO_6.out))) (Kd.R_lt (zr HO_7.out))) (Kd.S_lt (zs HO_11.out))) (Kd.R_lt (zr HO1015.out))) (below_size zb)); have n6_ := Aside0.mk (below_step zb hb); clear HO_5; clear HO_6; clear HO_7; clear HO_11; clear HO1015; clear HB; have HO_5 := n0_; have HO_6 := n1_; have HO_7 := n2_; have HO_11 := n3_; have HO1015 := n4_; have HO1022 := n5_; have HB := n6_; clear n0_ n1_ n2_ n3_ n4_ n5_ n6_; (try clear hb); (try clear hb2); (try clear hk); (try clear hi); (try clear ho0)))
                  go_ret
                  exact ⟨by first | rfl | (simp [errW_none, errW_some] <;> rfl) | (simp [*, errW_none, errW_some] <;> rfl), by repeat (first | (with_reducible first | exact HB.out | apply below_alloc | apply pw_below_drewN | apply below_drew1) | exact HB.out)⟩
          ·as_aux_lemma =>
             replace c50 := Bool.eq_false_iff.mpr c50
             subst c50
             have H1 : (laws_FnPatches.j1 kj9 l1) = some r := by rw [if_neg (show ¬ (false = true) by decide)] at H; exact H
             clear H
             have H := H1
             clear H1
             have H' := Aside0.mk H
             clear H
             go_wp2
             go_meet
             case rel => exact ⟨_, H', ⟨by have := HJ9.out; first | omega | exact Nat.le_refl _⟩, ⟨by repeat (first | (with_reducible first | exact HB.out | apply below_alloc | apply pw_below_drewN | apply below_drew1) | exact HB.out)⟩⟩
         case rest =>
          clear HC49
          try clear c1
          try clear c2
          try clear p2
          try clear c3
          try clear c4
          try clear c5
          try clear c6
          try clear p6
          try clear c8
          try clear c18
          try clear c18b0
          try clear c18b1
          try clear c18b2
          try clear c20
          try clear c21
          try clear c21b0
          try clear c21b1
          try clear c21b2
          try clear c25
          try clear c26
          try clear c26b0
          try clear c26b1
          try clear c26b2
          try clear c32
          try clear c35
          try clear c39
          try clear c43
          try clear c46
          try clear c47
          try clear c48
          try clear c50
          try clear c54
          try clear c56
          try clear c57
          try clear c58
          try clear c58b0
          try clear c58b1
          try clear c59
          try clear c61
          try clear c63
          try clear p64
          try clear p2
          obtain ⟨kq, HA, HJ48, HB⟩ := hcut
          cases kq with
          | zero => exact absurd HA.out (by simp [laws_FnPatches.j1])
          | succ kj48 =>
           have H := HA.out
           clear HA
           simp only [laws_FnPatches.j1] at H
           replace H := Option.bind_eq_some_iff.mp H
           obtain ⟨⟨t1026, t1027⟩, A1190, H⟩ := H
           replace H : ((spec_DrawCountHunks.f kj48 l1).bind fun t1030 => ((impl_CountHunks.f kj48 t1030).bind fun bt1033 => ((spec_CountHunks.f kj48 t1030).bind fun bt1036 => ((spec_DrawSameHunks.f kj48 l1).bind fun bt1039 => ((impl_GoodHunks.f kj48 t1026 t1027).bind fun t1045 => ((spec_GoodHunks.f kj48 t1026 t1027).bind fun t1046 => (if (t1045 == t1046) = true then (if (bt1033.2.2 == bt1036.2.2) = true then (if bt1033.1 = bt1036.1 then (if bt1033.2.1 = bt1036.2.1 then ((impl_SameHunks.f kj48 bt1039.1 bt1039.2).bind fun t1047 => ((spec_SameHunks.f kj48 bt1039.1 bt1039.2).bind fun t1048 => (if (t1047 == t1048) = true then ((impl_SameHunks.f kj48 bt1039.1 bt1039.2).bind fun t1049 => ((laws_sameHunks.f kj48 bt1039.1 bt1039.2).bind fun t1050 => (some (t1049 == t1050)))) else (some false)))) else (some false)) else (some false)) else (some false)) else (some false)))))))) = some r := H
           have A119 := Aside0.mk A1190
           clear A1190
           replace H := Option.bind_eq_some_iff.mp H
           obtain ⟨t1030, A1200, H⟩ := H
           replace H : ((impl_CountHunks.f kj48 t1030).bind fun bt1033 => ((spec_CountHunks.f kj48 t1030).bind fun bt1036 => ((spec_DrawSameHunks.f kj48 l1).bind fun bt1039 => ((impl_GoodHunks.f kj48 t1026 t1027).bind fun t1045 => ((spec_GoodHunks.f kj48 t1026 t1027).bind fun t1046 => (if (t1045 == t1046) = true then (if (bt1033.2.2 == bt1036.2.2) = true then (if bt1033.1 = bt1036.1 then (if bt1033.2.1 = bt1036.2.1 then ((impl_SameHunks.f kj48 bt1039.1 bt1039.2).bind fun t1047 => ((spec_SameHunks.f kj48 bt1039.1 bt1039.2).bind fun t1048 => (if (t1047 == t1048) = true then ((impl_SameHunks.f kj48 bt1039.1 bt1039.2).bind fun t1049 => ((laws_sameHunks.f kj48 bt1039.1 bt1039.2).bind fun t1050 => (some (t1049 == t1050)))) else (some false)))) else (some false)) else (some false)) else (some false)) else (some false))))))) = some r := H
           have A120 := Aside0.mk A1200
           clear A1200
           replace H := Option.bind_eq_some_iff.mp H
           obtain ⟨⟨t1033, t1034, t1035⟩, A1210, H⟩ := H
           replace H : ((spec_CountHunks.f kj48 t1030).bind fun bt1036 => ((spec_DrawSameHunks.f kj48 l1).bind fun bt1039 => ((impl_GoodHunks.f kj48 t1026 t1027).bind fun t1045 => ((spec_GoodHunks.f kj48 t1026 t1027).bind fun t1046 => (if (t1045 == t1046) = true then (if (t1035 == bt1036.2.2) = true then (if t1033 = bt1036.1 then (if t1034 = bt1036.2.1 then ((impl_SameHunks.f kj48 bt1039.1 bt1039.2).bind fun t1047 => ((spec_SameHunks.f kj48 bt1039.1 bt1039.2).bind fun t1048 => (if (t1047 == t1048) = true then ((impl_SameHunks.f kj48 bt1039.1 bt1039.2).bind fun t1049 => ((laws_sameHunks.f kj48 bt1039.1 bt1039.2).bind fun t1050 => (some (t1049 == t1050)))) else (some false)))) else (some false)) else (some false)) else (some false)) else (some false)))))) = some r := H
           have A121 := Aside0.mk A1210
           clear A1210
           replace H := Option.bind_eq_some_iff.mp H
           obtain ⟨⟨t1036, t1037, t1038⟩, A1220, H⟩ := H
           replace H : ((spec_DrawSameHunks.f kj48 l1).bind fun bt1039 => ((impl_GoodHunks.f kj48 t1026 t1027).bind fun t1045 => ((spec_GoodHunks.f kj48 t1026 t1027).bind fun t1046 => (if (t1045 == t1046) = true then (if (t1035 == t1038) = true then (if t1033 = t1036 then (if t1034 = t1037 then ((impl_SameHunks.f kj48 bt1039.1 bt1039.2).bind fun t1047 => ((spec_SameHunks.f kj48 bt1039.1 bt1039.2).bind fun t1048 => (if (t1047 == t1048) = true then ((impl_SameHunks.f kj48 bt1039.1 bt1039.2).bind fun t1049 => ((laws_sameHunks.f kj48 bt1039.1 bt1039.2).bind fun t1050 => (some (t1049 == t1050)))) else (some false)))) else (some false)) else (some false)) else (some false)) else (some false))))) = some r := H
           have A122 := Aside0.mk A1220
           clear A1220
           replace H := Option.bind_eq_some_iff.mp H
           obtain ⟨⟨t1039, t1040⟩, A1230, H⟩ := H
           replace H : ((impl_GoodHunks.f kj48 t1026 t1027).bind fun t1045 => ((spec_GoodHunks.f kj48 t1026 t1027).bind fun t1046 => (if (t1045 == t1046) = true then (if (t1035 == t1038) = true then (if t1033 = t1036 then (if t1034 = t1037 then ((impl_SameHunks.f kj48 t1039 t1040).bind fun t1047 => ((spec_SameHunks.f kj48 t1039 t1040).bind fun t1048 => (if (t1047 == t1048) = true then ((impl_SameHunks.f kj48 t1039 t1040).bind fun t1049 => ((laws_sameHunks.f kj48 t1039 t1040).bind fun t1050 => (some (t1049 == t1050)))) else (some false)))) else (some false)) else (some false)) else (some false)) else (some false)))) = some r := H
           have A123 := Aside0.mk A1230
           clear A1230
           replace H := Option.bind_eq_some_iff.mp H
           obtain ⟨t1045, A1240, H⟩ := H
           replace H : ((spec_GoodHunks.f kj48 t1026 t1027).bind fun t1046 => (if (t1045 == t1046) = true then (if (t1035 == t1038) = true then (if t1033 = t1036 then (if t1034 = t1037 then ((impl_SameHunks.f kj48 t1039 t1040).bind fun t1047 => ((spec_SameHunks.f kj48 t1039 t1040).bind fun t1048 => (if (t1047 == t1048) = true then ((impl_SameHunks.f kj48 t1039 t1040).bind fun t1049 => ((laws_sameHunks.f kj48 t1039 t1040).bind fun t1050 => (some (t1049 == t1050)))) else (some false)))) else (some false)) else (some false)) else (some false)) else (some false))) = some r := H
           have A124 := Aside0.mk A1240
           clear A1240
           replace H := Option.bind_eq_some_iff.mp H
           obtain ⟨t1046, A1250, H⟩ := H
           replace H : (if (t1045 == t1046) = true then (if (t1035 == t1038) = true then (if t1033 = t1036 then (if t1034 = t1037 then ((impl_SameHunks.f kj48 t1039 t1040).bind fun t1047 => ((spec_SameHunks.f kj48 t1039 t1040).bind fun t1048 => (if (t1047 == t1048) = true then ((impl_SameHunks.f kj48 t1039 t1040).bind fun t1049 => ((laws_sameHunks.f kj48 t1039 t1040).bind fun t1050 => (some (t1049 == t1050)))) else (some false)))) else (some false)) else (some false)) else (some false)) else (some false)) = some r := H
           have A125 := Aside0.mk A1250
           clear A1250
           by_cases c126 : (t1045 == t1046) = true
           ·as_aux_lemma =>
              rw [if_pos c126] at H
              have c126b0 : (t1045 == t1046) = true := c126
              (try (have c126b1 : decide (t1045 = t1046) = true := by simpa using c126))
              (try (have c126b2 : (t1045 == t1046) = true := by simpa using c126))
              clear c126
              by_cases c127 : (t1035 == t1038) = true
              ·as_aux_lemma =>
                 rw [if_pos c127] at H
                 have c127b0 : (t1035 == t1038) = true := c127
                 (try (have c127b1 : decide (t1035 = t1038) = true := by simpa using c127))
                 (try (have c127b2 : (t1035 == t1038) = true := by simpa using c127))
                 clear c127
                 by_cases c128 : t1033 = t1036
                 ·as_aux_lemma =>
                    rw [if_pos c128] at H
                    have c128b0 : (t1033 == t1036) = true := beq_iff_eq.mpr c128
                    have c128b1 : (t1033 != t1036) = false := bne_eq_false_iff_eq.mpr c128
                    clear c128
                    by_cases c129 : t1034 = t1037
                    ·as_aux_lemma =>
                       rw [if_pos c129] at H
                       have c129b0 : (t1034 == t1037) = true := beq_iff_eq.mpr c129
                       have c129b1 : (t1034 != t1037) = false := bne_eq_false_iff_eq.mpr c129
                       clear c129
                       replace H := Option.bind_eq_some_iff.mp H
                       obtain ⟨t1047, A1300, H⟩ := H
                       replace H : ((spec_SameHunks.f kj48 t1039 t1040).bind fun t1048 => (if (t1047 == t1048) = true then ((impl_SameHunks.f kj48 t1039 t1040).bind fun t1049 => ((laws_sameHunks.f kj48 t1039 t1040).bind fun t1050 => (some (t1049 == t1050)))) else (some false))) = some r := H
                       have A130 := Aside0.mk A1300
                       clear A1300
                       replace H := Option.bind_eq_some_iff.mp H
                       obtain ⟨t1048, A1310, H⟩ := H
                       replace H : (if (t1047 == t1048) = true then ((impl_SameHunks.f kj48 t1039 t1040).bind fun t1049 => ((laws_sameHunks.f kj48 t1039 t1040).bind fun t1050 => (some (t1049 == t1050)))) else (some false)) = some r := H
                       have A131 := Aside0.mk A1310
                       clear A1310
                       by_cases c132 : (t1047 == t1048) = true
                       ·as_aux_lemma =>
                          rw [if_pos c132] at H
                          have c132b0 : (t1047 == t1048) = true := c132
                          (try (have c132b1 : decide (t1047 = t1048) = true := by simpa using c132))
                          (try (have c132b2 : (t1047 == t1048) = true := by simpa using c132))
                          clear c132
                          replace H := Option.bind_eq_some_iff.mp H
                          obtain ⟨t1049, A1330, H⟩ := H
                          obtain rfl : t1047 = t1049 := Option.some.inj (A130.out.symm.trans A1330)
                          replace H : ((laws_sameHunks.f kj48 t1039 t1040).bind fun t1050 => (some (t1047 == t1050))) = some r := H
                          have A133 := Aside0.mk A1330
                          clear A1330
                          replace H := Option.bind_eq_some_iff.mp H
                          obtain ⟨t1050, A1340, H⟩ := H
                          replace H : (some (t1047 == t1050)) = some r := H
                          have A134 := Aside0.mk A1340
                          clear A1340
                          first
                          | exact absurd (show false = true from (Option.some.inj H).trans HR_.out) Bool.false_ne_true
                          | obtain rfl := Option.some.inj H
                            go_wp2_with (first | ((with_reducible refine gateC (f := 51) rfl ?_); refine goesL_ (some 162) rfl rfl Try.func51 (by kernel_rfl) rfl #[.slice A1 l1.length c1] rfl zm ?_; (with_reducible refine (spec_DrawGoodHunks.calls kj48 _ _ l1 t1026 t1027 _ ?side1 ?side2 A119.out).mono ?_); (case side1 => exact zq (Kd.C_below HR1.out HB.out)); (case side2 => exact HC1.out); rintro e w135 ⟨v1028, rfl, ho0, hb⟩; refine ⟨_, rfl, ?_⟩; have n0_ := Aside0.mk (Kd.S_lower ho0 (below_size zb)); have n1_ := Aside0.mk (below_step zb hb); clear HB; have HO1029 := n0_; have HB := n1_; clear n0_ n1_; (try clear hb); (try clear hb2); (try clear hk); (try clear hi); (try clear ho0)) | ((with_reducible refine gateC (f := 52) rfl ?_); refine goesL_ (some 166) rfl rfl Try.func52 (by kernel_rfl) rfl #[.slice A1 l1.length c1] rfl zm ?_; (with_reducible refine (spec_DrawCountHunks.calls kj48 _ _ l1 t1030 _ ?side1 ?side2 A120.out).mono ?_); (case side1 => exact zq (Kd.C_below HR1.out HB.out)); (case side2 => exact HC1.out); rintro e w136 ⟨v1031, rfl, ho0, hb⟩; refine ⟨_, rfl, ?_⟩; have n0_ := Aside0.mk (Kd.S_elder' (zs HO1029.out) (Kd.S_base ho0) hb); have n1_ := Aside0.mk (Kd.S_lower (Kd.S_new' ho0 (Kd.S_lt (zs HO1029.out))) (below_size zb)); have n2_ := Aside0.mk (below_step zb hb); clear HO1029; clear HB; have HO1029 := n0_; have HO1032 := n1_; have HB := n2_; clear n0_ n1_ n2_; (try clear hb); (try clear hb2); (try clear hk); (try clear hi); (try clear ho0); obtain ⟨Ao137, co137, eo137⟩ := Kd.S_slice HO1032.out; subst eo137) | ((with_reducible refine gateC (f := 43) rfl ?_); refine goesL_ (some 169) rfl rfl Try.func43 (by kernel_rfl) rfl #[.slice Ao137 t1030.length co137] rfl zm ?_; (with_reducible refine (impl_CountHunks.calls kj48 _ _ t1030 t1033 t1034 t1035 _ ?side1 ?side2 A121.out).mono ?_); (case side1 => repeat (first | exact (Kd.S_reads' HO1032.out).2.2 | (with_reducible refine Kd.C_alloc ?_ _) | (with_reducible refine Kd.C_drewN ?_ _) | (with_reducible refine Kd.C_drew ?_))); (case side2 => exact (Kd.S_reads' HO1032.out).2.1); rintro e w138 ⟨rfl, hb⟩; refine ⟨_, rfl, ?_⟩; have n0_ := Aside0.mk (Kd.S_below (zs HO1029.out) hb); have n1_ := Aside0.mk (Kd.S_below (zs HO1032.out) hb); have n2_ := Aside0.mk (below_step zb hb); clear HO1029; clear HO1032; clear HB; have HO1029 := n0_; have HO1032 := n1_; have HB := n2_; clear n0_ n1_ n2_; (try clear hb); (try clear hb2); (try clear hk); (try clear hi)) | ((with_reducible refine gateC (f := 53) rfl ?_); refine goesL_ (some 175) rfl rfl Try.func53 (by kernel_rfl) rfl #[.slice Ao137 t1030.length co137] rfl zm ?_; (with_reducible refine (spec_CountHunks.calls kj48 _ _ t1030 t1036 t1037 t1038 _ ?side1 ?side2 A122.out).mono ?_); (case side1 => repeat (first | exact (Kd.S_reads' HO1032.out).2.2 | (with_reducible refine Kd.C_alloc ?_ _) | (with_reducible refine Kd.C_drewN ?_ _) | (with_reducible refine Kd.C_drew ?_))); (case side2 => exact (Kd.S_reads' HO1032.out).2.1); rintro e w139 ⟨rfl, hb⟩; refine ⟨_, rfl, ?_⟩; have n0_ := Aside0.mk (Kd.S_below (zs HO1029.out) hb); have n1_ := Aside0.mk (Kd.S_below (zs HO1032.out) hb); have n2_ := Aside0.mk (below_step zb hb); clear HO1029; clear HO1032; clear HB; have HO1029 := n0_; have HO1032 := n1_; have HB := n2_; clear n0_ n1_ n2_; (try clear hb); (try clear hb2); (try clear hk); (try clear hi)) | ((with_reducible refine gateC (f := 54) rfl ?_); refine goesL_ (some 181) rfl rfl Try.func54 (by kernel_rfl) rfl #[.slice A1 l1.length c1] rfl zm ?_; (with_reducible refine (spec_DrawSameHunks.calls kj48 _ _ l1 t1039 t1040 _ ?side1 ?side2 A123.out).mono ?_); (case side1 => exact zq (Kd.C_below HR1.out HB.out)); (case side2 => exact HC1.out); rintro e w140 ⟨v1041, v1043, rfl, ho0, ho1, hb⟩; refine ⟨_, rfl, ?_⟩; have n0_ := Aside0.mk (Kd.S_mono (Kd.S_told (Kd.S_told (Kd.S_old (zs HO1029.out) hb) (Kd.S_base ho0)) (Kd.S_base ho1)) (fun _ h_ => h_.1)); have n1_ := Aside0.mk (Kd.S_mono (Kd.S_told (Kd.S_told (Kd.S_old (zs HO1032.out) hb) (Kd.S_base ho0)) (Kd.S_base ho1)) (fun _ h_ => h_.1)); have n2_ := Aside0.mk (Kd.S_lower (Kd.S_new' (Kd.S_new' ho0 (Kd.S_lt (zs HO1029.out))) (Kd.S_lt (zs HO1032.out))) (below_size zb)); have n3_ := Aside0.mk (Kd.S_lower (Kd.S_new' (Kd.S_new' ho1 (Kd.S_lt (zs HO1029.out))) (Kd.S_lt (zs HO1032.out))) (below_size zb)); have n4_ := Aside0.mk (below_step zb hb); clear HO1029; clear HO1032; clear HB; have HO1029 := n0_; have HO1032 := n1_; have HO1042 := n2_; have HO1044 := n3_; have HB := n4_; clear n0_ n1_ n2_ n3_ n4_; (try clear hb); (try clear hb2); (try clear hk); (try clear hi); (try clear ho0); (try clear ho1); obtain ⟨Ao141, co141, eo141⟩ := Kd.S_slice HO1029.out; subst eo141) | ((with_reducible refine gateC (f := 49) rfl ?_); refine goesL_ (some 186) rfl rfl Try.func49 (by kernel_rfl) rfl #[.int .i64 t1026, .slice Ao141 t1027.length co141] rfl zm ?_; (with_reducible refine (impl_GoodHunks.calls kj48 t1026 _ _ t1027 t1045 _ ?side1 ?side2 A124.out).mono ?_); (case side1 => repeat (first | exact (Kd.S_reads' HO1029.out).2.2 | (with_reducible refine Kd.C_alloc ?_ _) | (with_reducible refine Kd.C_drewN ?_ _) | (with_reducible refine Kd.C_drew ?_))); (case side2 => exact (Kd.S_reads' HO1029.out).2.1); rintro e w142 ⟨rfl, hb⟩; refine ⟨_, rfl, ?_⟩; have n0_ := Aside0.mk (Kd.S_below (zs HO1029.out) hb); have n1_ := Aside0.mk (Kd.S_below (zs HO1032.out) hb); have n2_ := Aside0.mk (Kd.S_below (zs HO1042.out) hb); have n3_ := Aside0.mk (Kd.S_below (zs HO1044.out) hb); have n4_ := Aside0.mk (below_step zb hb); clear HO1029; clear HO1032; clear HO1042; clear HO1044; clear HB; have HO1029 := n0_; have HO1032 := n1_; have HO1042 := n2_; have HO1044 := n3_; have HB := n4_; clear n0_ n1_ n2_ n3_ n4_; (try clear hb); (try clear hb2); (try clear hk); (try clear hi)) | ((with_reducible refine gateC (f := 50) rfl ?_); refine goesL_ (some 189) rfl rfl Try.func50 (by kernel_rfl) rfl #[.int .i64 t1026, .slice Ao141 t1027.length co141] rfl zm ?_; (with_reducible refine (spec_GoodHunks.calls kj48 t1026 _ _ t1027 t1046 _ ?side1 ?side2 A125.out).mono ?_); (case side1 => repeat (first | exact (Kd.S_reads' HO1029.out).2.2 | (with_reducible refine Kd.C_alloc ?_ _) | (with_reducible refine Kd.C_drewN ?_ _) | (with_reducible refine Kd.C_drew ?_))); (case side2 => exact (Kd.S_reads' HO1029.out).2.1); rintro e w143 ⟨rfl, hb⟩; refine ⟨_, rfl, ?_⟩; have n0_ := Aside0.mk (Kd.S_below (zs HO1029.out) hb); have n1_ := Aside0.mk (Kd.S_below (zs HO1032.out) hb); have n2_ := Aside0.mk (Kd.S_below (zs HO1042.out) hb); have n3_ := Aside0.mk (Kd.S_below (zs HO1044.out) hb); have n4_ := Aside0.mk (below_step zb hb); clear HO1029; clear HO1032; clear HO1042; clear HO1044; clear HB; have HO1029 := n0_; have HO1032 := n1_; have HO1042 := n2_; have HO1044 := n3_; have HB := n4_; clear n0_ n1_ n2_ n3_ n4_; (try clear hb); (try clear hb2); (try clear hk); (try clear hi); obtain ⟨Ao144, co144, eo144⟩ := Kd.S_slice HO1042.out; subst eo144; obtain ⟨Ao145, co145, eo145⟩ := Kd.S_slice HO1044.out; subst eo145) | (go_at_call 55; (with_reducible refine (impl_SameHunks.calls kj48 _ _ t1039 _ _ t1040 t1047 _ ?side1 ?side2 ?side3 ?side4 A130.out).mono ?_); (case side1 => repeat (first | exact (Kd.S_reads' HO1042.out).2.2 | (with_reducible refine Kd.C_alloc ?_ _) | (with_reducible refine Kd.C_drewN ?_ _) | (with_reducible refine Kd.C_drew ?_))); (case side2 => exact (Kd.S_reads' HO1042.out).2.1); (case side3 => repeat (first | exact (Kd.S_reads' HO1044.out).2.2 | (with_reducible refine Kd.C_alloc ?_ _) | (with_reducible refine Kd.C_drewN ?_ _) | (with_reducible refine Kd.C_drew ?_))); (case side4 => exact (Kd.S_reads' HO1044.out).2.1); rintro e w146 ⟨rfl, hb⟩; have n0_ := Aside0.mk (Kd.S_below (zs HO1029.out) hb); have n1_ := Aside0.mk (Kd.S_below (zs HO1032.out) hb); have n2_ := Aside0.mk (Kd.S_below (zs HO1042.out) hb); have n3_ := Aside0.mk (Kd.S_below (zs HO1044.out) hb); have n4_ := Aside0.mk (below_step zb hb); clear HO1029; clear HO1032; clear HO1042; clear HO1044; clear HB; have HO1029 := n0_; have HO1032 := n1_; have HO1042 := n2_; have HO1044 := n3_; have HB := n4_; clear n0_ n1_ n2_ n3_ n4_; (try clear hb); (try clear hb2); (try clear hk); (try clear hi)) | (go_at_call 56; (with_reducible refine (spec_SameHunks.calls kj48 _ _ t1039 _ _ t1040 t1048 _ ?side1 ?side2 ?side3 ?side4 A131.out).mono ?_); (case side1 => repeat (first | exact (Kd.S_reads' HO1042.out).2.2 | (with_reducible refine Kd.C_alloc ?_ _) | (with_reducible refine Kd.C_drewN ?_ _) | (with_reducible refine Kd.C_drew ?_))); (case side2 => exact (Kd.S_reads' HO1042.out).2.1); (case side3 => repeat (first | exact (Kd.S_reads' HO1044.out).2.2 | (with_reducible refine Kd.C_alloc ?_ _) | (with_reducible refine Kd.C_drewN ?_ _) | (with_reducible refine Kd.C_drew ?_))); (case side4 => exact (Kd.S_reads' HO1044.out).2.1); rintro e w147 ⟨rfl, hb⟩; have n0_ := Aside0.mk (Kd.S_below (zs HO1029.out) hb); have n1_ := Aside0.mk (Kd.S_below (zs HO1032.out) hb); have n2_ := Aside0.mk (Kd.S_below (zs HO1042.out) hb); have n3_ := Aside0.mk (Kd.S_below (zs HO1044.out) hb); have n4_ := Aside0.mk (below_step zb hb); clear HO1029; clear HO1032; clear HO1042; clear HO1044; clear HB; have HO1029 := n0_; have HO1032 := n1_; have HO1042 := n2_; have HO1044 := n3_; have HB := n4_; clear n0_ n1_ n2_ n3_ n4_; (try clear hb); (try clear hb2); (try clear hk); (try clear hi)) | (go_at_call 55; (with_reducible refine (impl_SameHunks.calls kj48 _ _ t1039 _ _ t1040 t1047 _ ?side1 ?side2 ?side3 ?side4 A133.out).mono ?_); (case side1 => repeat (first | exact (Kd.S_reads' HO1042.out).2.2 | (with_reducible refine Kd.C_alloc ?_ _) | (with_reducible refine Kd.C_drewN ?_ _) | (with_reducible refine Kd.C_drew ?_))); (case side2 => exact (Kd.S_reads' HO1042.out).2.1); (case side3 => repeat (first | exact (Kd.S_reads' HO1044.out).2.2 | (with_reducible refine Kd.C_alloc ?_ _) | (with_reducible refine Kd.C_drewN ?_ _) | (with_reducible refine Kd.C_drew ?_))); (case side4 => exact (Kd.S_reads' HO1044.out).2.1); rintro e w148 ⟨rfl, hb⟩; have n0_ := Aside0.mk (Kd.S_below (zs HO1029.out) hb); have n1_ := Aside0.mk (Kd.S_below (zs HO1032.out) hb); have n2_ := Aside0.mk (Kd.S_below (zs HO1042.out) hb); have n3_ := Aside0.mk (Kd.S_below (zs HO1044.out) hb); have n4_ := Aside0.mk (below_step zb hb); clear HO1029; clear HO1032; clear HO1042; clear HO1044; clear HB; have HO1029 := n0_; have HO1032 := n1_; have HO1042 := n2_; have HO1044 := n3_; have HB := n4_; clear n0_ n1_ n2_ n3_ n4_; (try clear hb); (try clear hb2); (try clear hk); (try clear hi)) | (go_at_call 34; (with_reducible refine (laws_sameHunks.calls kj48 _ _ t1039 _ _ t1040 t1050 _ ?side1 ?side2 ?side3 ?side4 A134.out).mono ?_); (case side1 => repeat (first | exact (Kd.S_reads' HO1042.out).2.2 | (with_reducible refine Kd.C_alloc ?_ _) | (with_reducible refine Kd.C_drewN ?_ _) | (with_reducible refine Kd.C_drew ?_))); (case side2 => exact (Kd.S_reads' HO1042.out).2.1); (case side3 => repeat (first | exact (Kd.S_reads' HO1044.out).2.2 | (with_reducible refine Kd.C_alloc ?_ _) | (with_reducible refine Kd.C_drewN ?_ _) | (with_reducible refine Kd.C_drew ?_))); (case side4 => exact (Kd.S_reads' HO1044.out).2.1); rintro e w149 ⟨rfl, hb⟩; have n0_ := Aside0.mk (Kd.S_below (zs HO1029.out) hb); have n1_ := Aside0.mk (Kd.S_below (zs HO1032.out) hb); have n2_ := Aside0.mk (Kd.S_below (zs HO1042.out) hb); have n3_ := Aside0.mk (Kd.S_below (zs HO1044.out) hb); have n4_ := Aside0.mk (below_step zb hb); clear HO1029; clear HO1032; clear HO1042; clear HO1044; clear HB; have HO1029 := n0_; have HO1032 := n1_; have HO1042 := n2_; have HO1044 := n3_; have HB := n4_; clear n0_ n1_ n2_ n3_ n4_; (try clear hb); (try clear hb2); (try clear hk); (try clear hi)))
                            go_ret
                            exact ⟨by first | rfl | (simp [errW_none, errW_some] <;> rfl) | (simp [*, errW_none, errW_some] <;> rfl), by repeat (first | (with_reducible first | exact HB.out | apply below_alloc | apply pw_below_drewN | apply below_drew1) | exact HB.out)⟩
                       ·as_aux_lemma =>
                          rw [if_neg c132] at H
                          have c132b0 : (t1047 == t1048) = false := by simpa using c132
                          (try (have c132b1 : decide (t1047 = t1048) = false := by simpa using c132))
                          (try (have c132b2 : (t1047 == t1048) = false := by simpa using c132))
                          (try (have c132b3 : ¬ (t1047 = t1048) := by simpa using c132))
                          clear c132
                          first
                          | exact absurd (show false = true from (Option.some.inj H).trans HR_.out) Bool.false_ne_true
                          | obtain rfl := Option.some.inj H
                            go_wp2_with (first | ((with_reducible refine gateC (f := 51) rfl ?_); refine goesL_ (some 162) rfl rfl Try.func51 (by kernel_rfl) rfl #[.slice A1 l1.length c1] rfl zm ?_; (with_reducible refine (spec_DrawGoodHunks.calls kj48 _ _ l1 t1026 t1027 _ ?side1 ?side2 A119.out).mono ?_); (case side1 => exact zq (Kd.C_below HR1.out HB.out)); (case side2 => exact HC1.out); rintro e w150 ⟨v1028, rfl, ho0, hb⟩; refine ⟨_, rfl, ?_⟩; have n0_ := Aside0.mk (Kd.S_lower ho0 (below_size zb)); have n1_ := Aside0.mk (below_step zb hb); clear HB; have HO1029 := n0_; have HB := n1_; clear n0_ n1_; (try clear hb); (try clear hb2); (try clear hk); (try clear hi); (try clear ho0)) | ((with_reducible refine gateC (f := 52) rfl ?_); refine goesL_ (some 166) rfl rfl Try.func52 (by kernel_rfl) rfl #[.slice A1 l1.length c1] rfl zm ?_; (with_reducible refine (spec_DrawCountHunks.calls kj48 _ _ l1 t1030 _ ?side1 ?side2 A120.out).mono ?_); (case side1 => exact zq (Kd.C_below HR1.out HB.out)); (case side2 => exact HC1.out); rintro e w151 ⟨v1031, rfl, ho0, hb⟩; refine ⟨_, rfl, ?_⟩; have n0_ := Aside0.mk (Kd.S_elder' (zs HO1029.out) (Kd.S_base ho0) hb); have n1_ := Aside0.mk (Kd.S_lower (Kd.S_new' ho0 (Kd.S_lt (zs HO1029.out))) (below_size zb)); have n2_ := Aside0.mk (below_step zb hb); clear HO1029; clear HB; have HO1029 := n0_; have HO1032 := n1_; have HB := n2_; clear n0_ n1_ n2_; (try clear hb); (try clear hb2); (try clear hk); (try clear hi); (try clear ho0); obtain ⟨Ao152, co152, eo152⟩ := Kd.S_slice HO1032.out; subst eo152) | ((with_reducible refine gateC (f := 43) rfl ?_); refine goesL_ (some 169) rfl rfl Try.func43 (by kernel_rfl) rfl #[.slice Ao152 t1030.length co152] rfl zm ?_; (with_reducible refine (impl_CountHunks.calls kj48 _ _ t1030 t1033 t1034 t1035 _ ?side1 ?side2 A121.out).mono ?_); (case side1 => repeat (first | exact (Kd.S_reads' HO1032.out).2.2 | (with_reducible refine Kd.C_alloc ?_ _) | (with_reducible refine Kd.C_drewN ?_ _) | (with_reducible refine Kd.C_drew ?_))); (case side2 => exact (Kd.S_reads' HO1032.out).2.1); rintro e w153 ⟨rfl, hb⟩; refine ⟨_, rfl, ?_⟩; have n0_ := Aside0.mk (Kd.S_below (zs HO1029.out) hb); have n1_ := Aside0.mk (Kd.S_below (zs HO1032.out) hb); have n2_ := Aside0.mk (below_step zb hb); clear HO1029; clear HO1032; clear HB; have HO1029 := n0_; have HO1032 := n1_; have HB := n2_; clear n0_ n1_ n2_; (try clear hb); (try clear hb2); (try clear hk); (try clear hi)) | ((with_reducible refine gateC (f := 53) rfl ?_); refine goesL_ (some 175) rfl rfl Try.func53 (by kernel_rfl) rfl #[.slice Ao152 t1030.length co152] rfl zm ?_; (with_reducible refine (spec_CountHunks.calls kj48 _ _ t1030 t1036 t1037 t1038 _ ?side1 ?side2 A122.out).mono ?_); (case side1 => repeat (first | exact (Kd.S_reads' HO1032.out).2.2 | (with_reducible refine Kd.C_alloc ?_ _) | (with_reducible refine Kd.C_drewN ?_ _) | (with_reducible refine Kd.C_drew ?_))); (case side2 => exact (Kd.S_reads' HO1032.out).2.1); rintro e w154 ⟨rfl, hb⟩; refine ⟨_, rfl, ?_⟩; have n0_ := Aside0.mk (Kd.S_below (zs HO1029.out) hb); have n1_ := Aside0.mk (Kd.S_below (zs HO1032.out) hb); have n2_ := Aside0.mk (below_step zb hb); clear HO1029; clear HO1032; clear HB; have HO1029 := n0_; have HO1032 := n1_; have HB := n2_; clear n0_ n1_ n2_; (try clear hb); (try clear hb2); (try clear hk); (try clear hi)) | ((with_reducible refine gateC (f := 54) rfl ?_); refine goesL_ (some 181) rfl rfl Try.func54 (by kernel_rfl) rfl #[.slice A1 l1.length c1] rfl zm ?_; (with_reducible refine (spec_DrawSameHunks.calls kj48 _ _ l1 t1039 t1040 _ ?side1 ?side2 A123.out).mono ?_); (case side1 => exact zq (Kd.C_below HR1.out HB.out)); (case side2 => exact HC1.out); rintro e w155 ⟨v1041, v1043, rfl, ho0, ho1, hb⟩; refine ⟨_, rfl, ?_⟩; have n0_ := Aside0.mk (Kd.S_mono (Kd.S_told (Kd.S_told (Kd.S_old (zs HO1029.out) hb) (Kd.S_base ho0)) (Kd.S_base ho1)) (fun _ h_ => h_.1)); have n1_ := Aside0.mk (Kd.S_mono (Kd.S_told (Kd.S_told (Kd.S_old (zs HO1032.out) hb) (Kd.S_base ho0)) (Kd.S_base ho1)) (fun _ h_ => h_.1)); have n2_ := Aside0.mk (Kd.S_lower (Kd.S_new' (Kd.S_new' ho0 (Kd.S_lt (zs HO1029.out))) (Kd.S_lt (zs HO1032.out))) (below_size zb)); have n3_ := Aside0.mk (Kd.S_lower (Kd.S_new' (Kd.S_new' ho1 (Kd.S_lt (zs HO1029.out))) (Kd.S_lt (zs HO1032.out))) (below_size zb)); have n4_ := Aside0.mk (below_step zb hb); clear HO1029; clear HO1032; clear HB; have HO1029 := n0_; have HO1032 := n1_; have HO1042 := n2_; have HO1044 := n3_; have HB := n4_; clear n0_ n1_ n2_ n3_ n4_; (try clear hb); (try clear hb2); (try clear hk); (try clear hi); (try clear ho0); (try clear ho1); obtain ⟨Ao156, co156, eo156⟩ := Kd.S_slice HO1029.out; subst eo156) | ((with_reducible refine gateC (f := 49) rfl ?_); refine goesL_ (some 186) rfl rfl Try.func49 (by kernel_rfl) rfl #[.int .i64 t1026, .slice Ao156 t1027.length co156] rfl zm ?_; (with_reducible refine (impl_GoodHunks.calls kj48 t1026 _ _ t1027 t1045 _ ?side1 ?side2 A124.out).mono ?_); (case side1 => repeat (first | exact (Kd.S_reads' HO1029.out).2.2 | (with_reducible refine Kd.C_alloc ?_ _) | (with_reducible refine Kd.C_drewN ?_ _) | (with_reducible refine Kd.C_drew ?_))); (case side2 => exact (Kd.S_reads' HO1029.out).2.1); rintro e w157 ⟨rfl, hb⟩; refine ⟨_, rfl, ?_⟩; have n0_ := Aside0.mk (Kd.S_below (zs HO1029.out) hb); have n1_ := Aside0.mk (Kd.S_below (zs HO1032.out) hb); have n2_ := Aside0.mk (Kd.S_below (zs HO1042.out) hb); have n3_ := Aside0.mk (Kd.S_below (zs HO1044.out) hb); have n4_ := Aside0.mk (below_step zb hb); clear HO1029; clear HO1032; clear HO1042; clear HO1044; clear HB; have HO1029 := n0_; have HO1032 := n1_; have HO1042 := n2_; have HO1044 := n3_; have HB := n4_; clear n0_ n1_ n2_ n3_ n4_; (try clear hb); (try clear hb2); (try clear hk); (try clear hi)) | ((with_reducible refine gateC (f := 50) rfl ?_); refine goesL_ (some 189) rfl rfl Try.func50 (by kernel_rfl) rfl #[.int .i64 t1026, .slice Ao156 t1027.length co156] rfl zm ?_; (with_reducible refine (spec_GoodHunks.calls kj48 t1026 _ _ t1027 t1046 _ ?side1 ?side2 A125.out).mono ?_); (case side1 => repeat (first | exact (Kd.S_reads' HO1029.out).2.2 | (with_reducible refine Kd.C_alloc ?_ _) | (with_reducible refine Kd.C_drewN ?_ _) | (with_reducible refine Kd.C_drew ?_))); (case side2 => exact (Kd.S_reads' HO1029.out).2.1); rintro e w158 ⟨rfl, hb⟩; refine ⟨_, rfl, ?_⟩; have n0_ := Aside0.mk (Kd.S_below (zs HO1029.out) hb); have n1_ := Aside0.mk (Kd.S_below (zs HO1032.out) hb); have n2_ := Aside0.mk (Kd.S_below (zs HO1042.out) hb); have n3_ := Aside0.mk (Kd.S_below (zs HO1044.out) hb); have n4_ := Aside0.mk (below_step zb hb); clear HO1029; clear HO1032; clear HO1042; clear HO1044; clear HB; have HO1029 := n0_; have HO1032 := n1_; have HO1042 := n2_; have HO1044 := n3_; have HB := n4_; clear n0_ n1_ n2_ n3_ n4_; (try clear hb); (try clear hb2); (try clear hk); (try clear hi); obtain ⟨Ao159, co159, eo159⟩ := Kd.S_slice HO1042.out; subst eo159; obtain ⟨Ao160, co160, eo160⟩ := Kd.S_slice HO1044.out; subst eo160) | (go_at_call 55; (with_reducible refine (impl_SameHunks.calls kj48 _ _ t1039 _ _ t1040 t1047 _ ?side1 ?side2 ?side3 ?side4 A130.out).mono ?_); (case side1 => repeat (first | exact (Kd.S_reads' HO1042.out).2.2 | (with_reducible refine Kd.C_alloc ?_ _) | (with_reducible refine Kd.C_drewN ?_ _) | (with_reducible refine Kd.C_drew ?_))); (case side2 => exact (Kd.S_reads' HO1042.out).2.1); (case side3 => repeat (first | exact (Kd.S_reads' HO1044.out).2.2 | (with_reducible refine Kd.C_alloc ?_ _) | (with_reducible refine Kd.C_drewN ?_ _) | (with_reducible refine Kd.C_drew ?_))); (case side4 => exact (Kd.S_reads' HO1044.out).2.1); rintro e w161 ⟨rfl, hb⟩; have n0_ := Aside0.mk (Kd.S_below (zs HO1029.out) hb); have n1_ := Aside0.mk (Kd.S_below (zs HO1032.out) hb); have n2_ := Aside0.mk (Kd.S_below (zs HO1042.out) hb); have n3_ := Aside0.mk (Kd.S_below (zs HO1044.out) hb); have n4_ := Aside0.mk (below_step zb hb); clear HO1029; clear HO1032; clear HO1042; clear HO1044; clear HB; have HO1029 := n0_; have HO1032 := n1_; have HO1042 := n2_; have HO1044 := n3_; have HB := n4_; clear n0_ n1_ n2_ n3_ n4_; (try clear hb); (try clear hb2); (try clear hk); (try clear hi)) | (go_at_call 56; (with_reducible refine (spec_SameHunks.calls kj48 _ _ t1039 _ _ t1040 t1048 _ ?side1 ?side2 ?side3 ?side4 A131.out).mono ?_); (case side1 => repeat (first | exact (Kd.S_reads' HO1042.out).2.2 | (with_reducible refine Kd.C_alloc ?_ _) | (with_reducible refine Kd.C_drewN ?_ _) | (with_reducible refine Kd.C_drew ?_))); (case side2 => exact (Kd.S_reads' HO1042.out).2.1); (case side3 => repeat (first | exact (Kd.S_reads' HO1044.out).2.2 | (with_reducible refine Kd.C_alloc ?_ _) | (with_reducible refine Kd.C_drewN ?_ _) | (with_reducible refine Kd.C_drew ?_))); (case side4 => exact (Kd.S_reads' HO1044.out).2.1); rintro e w162 ⟨rfl, hb⟩; have n0_ := Aside0.mk (Kd.S_below (zs HO1029.out) hb); have n1_ := Aside0.mk (Kd.S_below (zs HO1032.out) hb); have n2_ := Aside0.mk (Kd.S_below (zs HO1042.out) hb); have n3_ := Aside0.mk (Kd.S_below (zs HO1044.out) hb); have n4_ := Aside0.mk (below_step zb hb); clear HO1029; clear HO1032; clear HO1042; clear HO1044; clear HB; have HO1029 := n0_; have HO1032 := n1_; have HO1042 := n2_; have HO1044 := n3_; have HB := n4_; clear n0_ n1_ n2_ n3_ n4_; (try clear hb); (try clear hb2); (try clear hk); (try clear hi)))
                            go_ret
                            exact ⟨by first | rfl | (simp [errW_none, errW_some] <;> rfl) | (simp [*, errW_none, errW_some] <;> rfl), by repeat (first | (with_reducible first | exact HB.out | apply below_alloc | apply pw_below_drewN | apply below_drew1) | exact HB.out)⟩
                    ·as_aux_lemma =>
                       rw [if_neg c129] at H
                       have c129b0 : (t1034 == t1037) = false := beq_eq_false_iff_ne.mpr c129
                       have c129b1 : (t1034 != t1037) = true := bne_iff_ne.mpr c129
                       first
                       | exact absurd (show false = true from (Option.some.inj H).trans HR_.out) Bool.false_ne_true
                       | obtain rfl := Option.some.inj H
                         go_wp2_with (first | ((with_reducible refine gateC (f := 51) rfl ?_); refine goesL_ (some 162) rfl rfl Try.func51 (by kernel_rfl) rfl #[.slice A1 l1.length c1] rfl zm ?_; (with_reducible refine (spec_DrawGoodHunks.calls kj48 _ _ l1 t1026 t1027 _ ?side1 ?side2 A119.out).mono ?_); (case side1 => exact zq (Kd.C_below HR1.out HB.out)); (case side2 => exact HC1.out); rintro e w163 ⟨v1028, rfl, ho0, hb⟩; refine ⟨_, rfl, ?_⟩; have n0_ := Aside0.mk (Kd.S_lower ho0 (below_size zb)); have n1_ := Aside0.mk (below_step zb hb); clear HB; have HO1029 := n0_; have HB := n1_; clear n0_ n1_; (try clear hb); (try clear hb2); (try clear hk); (try clear hi); (try clear ho0)) | ((with_reducible refine gateC (f := 52) rfl ?_); refine goesL_ (some 166) rfl rfl Try.func52 (by kernel_rfl) rfl #[.slice A1 l1.length c1] rfl zm ?_; (with_reducible refine (spec_DrawCountHunks.calls kj48 _ _ l1 t1030 _ ?side1 ?side2 A120.out).mono ?_); (case side1 => exact zq (Kd.C_below HR1.out HB.out)); (case side2 => exact HC1.out); rintro e w164 ⟨v1031, rfl, ho0, hb⟩; refine ⟨_, rfl, ?_⟩; have n0_ := Aside0.mk (Kd.S_elder' (zs HO1029.out) (Kd.S_base ho0) hb); have n1_ := Aside0.mk (Kd.S_lower (Kd.S_new' ho0 (Kd.S_lt (zs HO1029.out))) (below_size zb)); have n2_ := Aside0.mk (below_step zb hb); clear HO1029; clear HB; have HO1029 := n0_; have HO1032 := n1_; have HB := n2_; clear n0_ n1_ n2_; (try clear hb); (try clear hb2); (try clear hk); (try clear hi); (try clear ho0); obtain ⟨Ao165, co165, eo165⟩ := Kd.S_slice HO1032.out; subst eo165) | ((with_reducible refine gateC (f := 43) rfl ?_); refine goesL_ (some 169) rfl rfl Try.func43 (by kernel_rfl) rfl #[.slice Ao165 t1030.length co165] rfl zm ?_; (with_reducible refine (impl_CountHunks.calls kj48 _ _ t1030 t1033 t1034 t1035 _ ?side1 ?side2 A121.out).mono ?_); (case side1 => repeat (first | exact (Kd.S_reads' HO1032.out).2.2 | (with_reducible refine Kd.C_alloc ?_ _) | (with_reducible refine Kd.C_drewN ?_ _) | (with_reducible refine Kd.C_drew ?_))); (case side2 => exact (Kd.S_reads' HO1032.out).2.1); rintro e w166 ⟨rfl, hb⟩; refine ⟨_, rfl, ?_⟩; have n0_ := Aside0.mk (Kd.S_below (zs HO1029.out) hb); have n1_ := Aside0.mk (Kd.S_below (zs HO1032.out) hb); have n2_ := Aside0.mk (below_step zb hb); clear HO1029; clear HO1032; clear HB; have HO1029 := n0_; have HO1032 := n1_; have HB := n2_; clear n0_ n1_ n2_; (try clear hb); (try clear hb2); (try clear hk); (try clear hi)) | ((with_reducible refine gateC (f := 53) rfl ?_); refine goesL_ (some 175) rfl rfl Try.func53 (by kernel_rfl) rfl #[.slice Ao165 t1030.length co165] rfl zm ?_; (with_reducible refine (spec_CountHunks.calls kj48 _ _ t1030 t1036 t1037 t1038 _ ?side1 ?side2 A122.out).mono ?_); (case side1 => repeat (first | exact (Kd.S_reads' HO1032.out).2.2 | (with_reducible refine Kd.C_alloc ?_ _) | (with_reducible refine Kd.C_drewN ?_ _) | (with_reducible refine Kd.C_drew ?_))); (case side2 => exact (Kd.S_reads' HO1032.out).2.1); rintro e w167 ⟨rfl, hb⟩; refine ⟨_, rfl, ?_⟩; have n0_ := Aside0.mk (Kd.S_below (zs HO1029.out) hb); have n1_ := Aside0.mk (Kd.S_below (zs HO1032.out) hb); have n2_ := Aside0.mk (below_step zb hb); clear HO1029; clear HO1032; clear HB; have HO1029 := n0_; have HO1032 := n1_; have HB := n2_; clear n0_ n1_ n2_; (try clear hb); (try clear hb2); (try clear hk); (try clear hi)) | ((with_reducible refine gateC (f := 54) rfl ?_); refine goesL_ (some 181) rfl rfl Try.func54 (by kernel_rfl) rfl #[.slice A1 l1.length c1] rfl zm ?_; (with_reducible refine (spec_DrawSameHunks.calls kj48 _ _ l1 t1039 t1040 _ ?side1 ?side2 A123.out).mono ?_); (case side1 => exact zq (Kd.C_below HR1.out HB.out)); (case side2 => exact HC1.out); rintro e w168 ⟨v1041, v1043, rfl, ho0, ho1, hb⟩; refine ⟨_, rfl, ?_⟩; have n0_ := Aside0.mk (Kd.S_mono (Kd.S_told (Kd.S_told (Kd.S_old (zs HO1029.out) hb) (Kd.S_base ho0)) (Kd.S_base ho1)) (fun _ h_ => h_.1)); have n1_ := Aside0.mk (Kd.S_mono (Kd.S_told (Kd.S_told (Kd.S_old (zs HO1032.out) hb) (Kd.S_base ho0)) (Kd.S_base ho1)) (fun _ h_ => h_.1)); have n2_ := Aside0.mk (Kd.S_lower (Kd.S_new' (Kd.S_new' ho0 (Kd.S_lt (zs HO1029.out))) (Kd.S_lt (zs HO1032.out))) (below_size zb)); have n3_ := Aside0.mk (Kd.S_lower (Kd.S_new' (Kd.S_new' ho1 (Kd.S_lt (zs HO1029.out))) (Kd.S_lt (zs HO1032.out))) (below_size zb)); have n4_ := Aside0.mk (below_step zb hb); clear HO1029; clear HO1032; clear HB; have HO1029 := n0_; have HO1032 := n1_; have HO1042 := n2_; have HO1044 := n3_; have HB := n4_; clear n0_ n1_ n2_ n3_ n4_; (try clear hb); (try clear hb2); (try clear hk); (try clear hi); (try clear ho0); (try clear ho1); obtain ⟨Ao169, co169, eo169⟩ := Kd.S_slice HO1029.out; subst eo169) | ((with_reducible refine gateC (f := 49) rfl ?_); refine goesL_ (some 186) rfl rfl Try.func49 (by kernel_rfl) rfl #[.int .i64 t1026, .slice Ao169 t1027.length co169] rfl zm ?_; (with_reducible refine (impl_GoodHunks.calls kj48 t1026 _ _ t1027 t1045 _ ?side1 ?side2 A124.out).mono ?_); (case side1 => repeat (first | exact (Kd.S_reads' HO1029.out).2.2 | (with_reducible refine Kd.C_alloc ?_ _) | (with_reducible refine Kd.C_drewN ?_ _) | (with_reducible refine Kd.C_drew ?_))); (case side2 => exact (Kd.S_reads' HO1029.out).2.1); rintro e w170 ⟨rfl, hb⟩; refine ⟨_, rfl, ?_⟩; have n0_ := Aside0.mk (Kd.S_below (zs HO1029.out) hb); have n1_ := Aside0.mk (Kd.S_below (zs HO1032.out) hb); have n2_ := Aside0.mk (Kd.S_below (zs HO1042.out) hb); have n3_ := Aside0.mk (Kd.S_below (zs HO1044.out) hb); have n4_ := Aside0.mk (below_step zb hb); clear HO1029; clear HO1032; clear HO1042; clear HO1044; clear HB; have HO1029 := n0_; have HO1032 := n1_; have HO1042 := n2_; have HO1044 := n3_; have HB := n4_; clear n0_ n1_ n2_ n3_ n4_; (try clear hb); (try clear hb2); (try clear hk); (try clear hi)) | ((with_reducible refine gateC (f := 50) rfl ?_); refine goesL_ (some 189) rfl rfl Try.func50 (by kernel_rfl) rfl #[.int .i64 t1026, .slice Ao169 t1027.length co169] rfl zm ?_; (with_reducible refine (spec_GoodHunks.calls kj48 t1026 _ _ t1027 t1046 _ ?side1 ?side2 A125.out).mono ?_); (case side1 => repeat (first | exact (Kd.S_reads' HO1029.out).2.2 | (with_reducible refine Kd.C_alloc ?_ _) | (with_reducible refine Kd.C_drewN ?_ _) | (with_reducible refine Kd.C_drew ?_))); (case side2 => exact (Kd.S_reads' HO1029.out).2.1); rintro e w171 ⟨rfl, hb⟩; refine ⟨_, rfl, ?_⟩; have n0_ := Aside0.mk (Kd.S_below (zs HO1029.out) hb); have n1_ := Aside0.mk (Kd.S_below (zs HO1032.out) hb); have n2_ := Aside0.mk (Kd.S_below (zs HO1042.out) hb); have n3_ := Aside0.mk (Kd.S_below (zs HO1044.out) hb); have n4_ := Aside0.mk (below_step zb hb); clear HO1029; clear HO1032; clear HO1042; clear HO1044; clear HB; have HO1029 := n0_; have HO1032 := n1_; have HO1042 := n2_; have HO1044 := n3_; have HB := n4_; clear n0_ n1_ n2_ n3_ n4_; (try clear hb); (try clear hb2); (try clear hk); (try clear hi)))
                         go_ret
                         exact ⟨by first | rfl | (simp [errW_none, errW_some] <;> rfl) | (simp [*, errW_none, errW_some] <;> rfl), by repeat (first | (with_reducible first | exact HB.out | apply below_alloc | apply pw_below_drewN | apply below_drew1) | exact HB.out)⟩
                 ·as_aux_lemma =>
                    rw [if_neg c128] at H
                    have c128b0 : (t1033 == t1036) = false := beq_eq_false_iff_ne.mpr c128
                    have c128b1 : (t1033 != t1036) = true := bne_iff_ne.mpr c128
                    first
                    | exact absurd (show false = true from (Option.some.inj H).trans HR_.out) Bool.false_ne_true
                    | obtain rfl := Option.some.inj H
                      go_wp2_with (first | ((with_reducible refine gateC (f := 51) rfl ?_); refine goesL_ (some 162) rfl rfl Try.func51 (by kernel_rfl) rfl #[.slice A1 l1.length c1] rfl zm ?_; (with_reducible refine (spec_DrawGoodHunks.calls kj48 _ _ l1 t1026 t1027 _ ?side1 ?side2 A119.out).mono ?_); (case side1 => exact zq (Kd.C_below HR1.out HB.out)); (case side2 => exact HC1.out); rintro e w172 ⟨v1028, rfl, ho0, hb⟩; refine ⟨_, rfl, ?_⟩; have n0_ := Aside0.mk (Kd.S_lower ho0 (below_size zb)); have n1_ := Aside0.mk (below_step zb hb); clear HB; have HO1029 := n0_; have HB := n1_; clear n0_ n1_; (try clear hb); (try clear hb2); (try clear hk); (try clear hi); (try clear ho0)) | ((with_reducible refine gateC (f := 52) rfl ?_); refine goesL_ (some 166) rfl rfl Try.func52 (by kernel_rfl) rfl #[.slice A1 l1.length c1] rfl zm ?_; (with_reducible refine (spec_DrawCountHunks.calls kj48 _ _ l1 t1030 _ ?side1 ?side2 A120.out).mono ?_); (case side1 => exact zq (Kd.C_below HR1.out HB.out)); (case side2 => exact HC1.out); rintro e w173 ⟨v1031, rfl, ho0, hb⟩; refine ⟨_, rfl, ?_⟩; have n0_ := Aside0.mk (Kd.S_elder' (zs HO1029.out) (Kd.S_base ho0) hb); have n1_ := Aside0.mk (Kd.S_lower (Kd.S_new' ho0 (Kd.S_lt (zs HO1029.out))) (below_size zb)); have n2_ := Aside0.mk (below_step zb hb); clear HO1029; clear HB; have HO1029 := n0_; have HO1032 := n1_; have HB := n2_; clear n0_ n1_ n2_; (try clear hb); (try clear hb2); (try clear hk); (try clear hi); (try clear ho0); obtain ⟨Ao174, co174, eo174⟩ := Kd.S_slice HO1032.out; subst eo174) | ((with_reducible refine gateC (f := 43) rfl ?_); refine goesL_ (some 169) rfl rfl Try.func43 (by kernel_rfl) rfl #[.slice Ao174 t1030.length co174] rfl zm ?_; (with_reducible refine (impl_CountHunks.calls kj48 _ _ t1030 t1033 t1034 t1035 _ ?side1 ?side2 A121.out).mono ?_); (case side1 => repeat (first | exact (Kd.S_reads' HO1032.out).2.2 | (with_reducible refine Kd.C_alloc ?_ _) | (with_reducible refine Kd.C_drewN ?_ _) | (with_reducible refine Kd.C_drew ?_))); (case side2 => exact (Kd.S_reads' HO1032.out).2.1); rintro e w175 ⟨rfl, hb⟩; refine ⟨_, rfl, ?_⟩; have n0_ := Aside0.mk (Kd.S_below (zs HO1029.out) hb); have n1_ := Aside0.mk (Kd.S_below (zs HO1032.out) hb); have n2_ := Aside0.mk (below_step zb hb); clear HO1029; clear HO1032; clear HB; have HO1029 := n0_; have HO1032 := n1_; have HB := n2_; clear n0_ n1_ n2_; (try clear hb); (try clear hb2); (try clear hk); (try clear hi)) | ((with_reducible refine gateC (f := 53) rfl ?_); refine goesL_ (some 175) rfl rfl Try.func53 (by kernel_rfl) rfl #[.slice Ao174 t1030.length co174] rfl zm ?_; (with_reducible refine (spec_CountHunks.calls kj48 _ _ t1030 t1036 t1037 t1038 _ ?side1 ?side2 A122.out).mono ?_); (case side1 => repeat (first | exact (Kd.S_reads' HO1032.out).2.2 | (with_reducible refine Kd.C_alloc ?_ _) | (with_reducible refine Kd.C_drewN ?_ _) | (with_reducible refine Kd.C_drew ?_))); (case side2 => exact (Kd.S_reads' HO1032.out).2.1); rintro e w176 ⟨rfl, hb⟩; refine ⟨_, rfl, ?_⟩; have n0_ := Aside0.mk (Kd.S_below (zs HO1029.out) hb); have n1_ := Aside0.mk (Kd.S_below (zs HO1032.out) hb); have n2_ := Aside0.mk (below_step zb hb); clear HO1029; clear HO1032; clear HB; have HO1029 := n0_; have HO1032 := n1_; have HB := n2_; clear n0_ n1_ n2_; (try clear hb); (try clear hb2); (try clear hk); (try clear hi)) | ((with_reducible refine gateC (f := 54) rfl ?_); refine goesL_ (some 181) rfl rfl Try.func54 (by kernel_rfl) rfl #[.slice A1 l1.length c1] rfl zm ?_; (with_reducible refine (spec_DrawSameHunks.calls kj48 _ _ l1 t1039 t1040 _ ?side1 ?side2 A123.out).mono ?_); (case side1 => exact zq (Kd.C_below HR1.out HB.out)); (case side2 => exact HC1.out); rintro e w177 ⟨v1041, v1043, rfl, ho0, ho1, hb⟩; refine ⟨_, rfl, ?_⟩; have n0_ := Aside0.mk (Kd.S_mono (Kd.S_told (Kd.S_told (Kd.S_old (zs HO1029.out) hb) (Kd.S_base ho0)) (Kd.S_base ho1)) (fun _ h_ => h_.1)); have n1_ := Aside0.mk (Kd.S_mono (Kd.S_told (Kd.S_told (Kd.S_old (zs HO1032.out) hb) (Kd.S_base ho0)) (Kd.S_base ho1)) (fun _ h_ => h_.1)); have n2_ := Aside0.mk (Kd.S_lower (Kd.S_new' (Kd.S_new' ho0 (Kd.S_lt (zs HO1029.out))) (Kd.S_lt (zs HO1032.out))) (below_size zb)); have n3_ := Aside0.mk (Kd.S_lower (Kd.S_new' (Kd.S_new' ho1 (Kd.S_lt (zs HO1029.out))) (Kd.S_lt (zs HO1032.out))) (below_size zb)); have n4_ := Aside0.mk (below_step zb hb); clear HO1029; clear HO1032; clear HB; have HO1029 := n0_; have HO1032 := n1_; have HO1042 := n2_; have HO1044 := n3_; have HB := n4_; clear n0_ n1_ n2_ n3_ n4_; (try clear hb); (try clear hb2); (try clear hk); (try clear hi); (try clear ho0); (try clear ho1); obtain ⟨Ao178, co178, eo178⟩ := Kd.S_slice HO1029.out; subst eo178) | ((with_reducible refine gateC (f := 49) rfl ?_); refine goesL_ (some 186) rfl rfl Try.func49 (by kernel_rfl) rfl #[.int .i64 t1026, .slice Ao178 t1027.length co178] rfl zm ?_; (with_reducible refine (impl_GoodHunks.calls kj48 t1026 _ _ t1027 t1045 _ ?side1 ?side2 A124.out).mono ?_); (case side1 => repeat (first | exact (Kd.S_reads' HO1029.out).2.2 | (with_reducible refine Kd.C_alloc ?_ _) | (with_reducible refine Kd.C_drewN ?_ _) | (with_reducible refine Kd.C_drew ?_))); (case side2 => exact (Kd.S_reads' HO1029.out).2.1); rintro e w179 ⟨rfl, hb⟩; refine ⟨_, rfl, ?_⟩; have n0_ := Aside0.mk (Kd.S_below (zs HO1029.out) hb); have n1_ := Aside0.mk (Kd.S_below (zs HO1032.out) hb); have n2_ := Aside0.mk (Kd.S_below (zs HO1042.out) hb); have n3_ := Aside0.mk (Kd.S_below (zs HO1044.out) hb); have n4_ := Aside0.mk (below_step zb hb); clear HO1029; clear HO1032; clear HO1042; clear HO1044; clear HB; have HO1029 := n0_; have HO1032 := n1_; have HO1042 := n2_; have HO1044 := n3_; have HB := n4_; clear n0_ n1_ n2_ n3_ n4_; (try clear hb); (try clear hb2); (try clear hk); (try clear hi)) | ((with_reducible refine gateC (f := 50) rfl ?_); refine goesL_ (some 189) rfl rfl Try.func50 (by kernel_rfl) rfl #[.int .i64 t1026, .slice Ao178 t1027.length co178] rfl zm ?_; (with_reducible refine (spec_GoodHunks.calls kj48 t1026 _ _ t1027 t1046 _ ?side1 ?side2 A125.out).mono ?_); (case side1 => repeat (first | exact (Kd.S_reads' HO1029.out).2.2 | (with_reducible refine Kd.C_alloc ?_ _) | (with_reducible refine Kd.C_drewN ?_ _) | (with_reducible refine Kd.C_drew ?_))); (case side2 => exact (Kd.S_reads' HO1029.out).2.1); rintro e w180 ⟨rfl, hb⟩; refine ⟨_, rfl, ?_⟩; have n0_ := Aside0.mk (Kd.S_below (zs HO1029.out) hb); have n1_ := Aside0.mk (Kd.S_below (zs HO1032.out) hb); have n2_ := Aside0.mk (Kd.S_below (zs HO1042.out) hb); have n3_ := Aside0.mk (Kd.S_below (zs HO1044.out) hb); have n4_ := Aside0.mk (below_step zb hb); clear HO1029; clear HO1032; clear HO1042; clear HO1044; clear HB; have HO1029 := n0_; have HO1032 := n1_; have HO1042 := n2_; have HO1044 := n3_; have HB := n4_; clear n0_ n1_ n2_ n3_ n4_; (try clear hb); (try clear hb2); (try clear hk); (try clear hi)))
                      go_ret
                      exact ⟨by first | rfl | (simp [errW_none, errW_some] <;> rfl) | (simp [*, errW_none, errW_some] <;> rfl), by repeat (first | (with_reducible first | exact HB.out | apply below_alloc | apply pw_below_drewN | apply below_drew1) | exact HB.out)⟩
              ·as_aux_lemma =>
                 rw [if_neg c127] at H
                 have c127b0 : (t1035 == t1038) = false := by simpa using c127
                 (try (have c127b1 : decide (t1035 = t1038) = false := by simpa using c127))
                 (try (have c127b2 : (t1035 == t1038) = false := by simpa using c127))
                 (try (have c127b3 : ¬ (t1035 = t1038) := by simpa using c127))
                 clear c127
                 first
                 | exact absurd (show false = true from (Option.some.inj H).trans HR_.out) Bool.false_ne_true
                 | obtain rfl := Option.some.inj H
                   go_wp2_with (first | ((with_reducible refine gateC (f := 51) rfl ?_); refine goesL_ (some 162) rfl rfl Try.func51 (by kernel_rfl) rfl #[.slice A1 l1.length c1] rfl zm ?_; (with_reducible refine (spec_DrawGoodHunks.calls kj48 _ _ l1 t1026 t1027 _ ?side1 ?side2 A119.out).mono ?_); (case side1 => exact zq (Kd.C_below HR1.out HB.out)); (case side2 => exact HC1.out); rintro e w181 ⟨v1028, rfl, ho0, hb⟩; refine ⟨_, rfl, ?_⟩; have n0_ := Aside0.mk (Kd.S_lower ho0 (below_size zb)); have n1_ := Aside0.mk (below_step zb hb); clear HB; have HO1029 := n0_; have HB := n1_; clear n0_ n1_; (try clear hb); (try clear hb2); (try clear hk); (try clear hi); (try clear ho0)) | ((with_reducible refine gateC (f := 52) rfl ?_); refine goesL_ (some 166) rfl rfl Try.func52 (by kernel_rfl) rfl #[.slice A1 l1.length c1] rfl zm ?_; (with_reducible refine (spec_DrawCountHunks.calls kj48 _ _ l1 t1030 _ ?side1 ?side2 A120.out).mono ?_); (case side1 => exact zq (Kd.C_below HR1.out HB.out)); (case side2 => exact HC1.out); rintro e w182 ⟨v1031, rfl, ho0, hb⟩; refine ⟨_, rfl, ?_⟩; have n0_ := Aside0.mk (Kd.S_elder' (zs HO1029.out) (Kd.S_base ho0) hb); have n1_ := Aside0.mk (Kd.S_lower (Kd.S_new' ho0 (Kd.S_lt (zs HO1029.out))) (below_size zb)); have n2_ := Aside0.mk (below_step zb hb); clear HO1029; clear HB; have HO1029 := n0_; have HO1032 := n1_; have HB := n2_; clear n0_ n1_ n2_; (try clear hb); (try clear hb2); (try clear hk); (try clear hi); (try clear ho0); obtain ⟨Ao183, co183, eo183⟩ := Kd.S_slice HO1032.out; subst eo183) | ((with_reducible refine gateC (f := 43) rfl ?_); refine goesL_ (some 169) rfl rfl Try.func43 (by kernel_rfl) rfl #[.slice Ao183 t1030.length co183] rfl zm ?_; (with_reducible refine (impl_CountHunks.calls kj48 _ _ t1030 t1033 t1034 t1035 _ ?side1 ?side2 A121.out).mono ?_); (case side1 => repeat (first | exact (Kd.S_reads' HO1032.out).2.2 | (with_reducible refine Kd.C_alloc ?_ _) | (with_reducible refine Kd.C_drewN ?_ _) | (with_reducible refine Kd.C_drew ?_))); (case side2 => exact (Kd.S_reads' HO1032.out).2.1); rintro e w184 ⟨rfl, hb⟩; refine ⟨_, rfl, ?_⟩; have n0_ := Aside0.mk (Kd.S_below (zs HO1029.out) hb); have n1_ := Aside0.mk (Kd.S_below (zs HO1032.out) hb); have n2_ := Aside0.mk (below_step zb hb); clear HO1029; clear HO1032; clear HB; have HO1029 := n0_; have HO1032 := n1_; have HB := n2_; clear n0_ n1_ n2_; (try clear hb); (try clear hb2); (try clear hk); (try clear hi)) | ((with_reducible refine gateC (f := 53) rfl ?_); refine goesL_ (some 175) rfl rfl Try.func53 (by kernel_rfl) rfl #[.slice Ao183 t1030.length co183] rfl zm ?_; (with_reducible refine (spec_CountHunks.calls kj48 _ _ t1030 t1036 t1037 t1038 _ ?side1 ?side2 A122.out).mono ?_); (case side1 => repeat (first | exact (Kd.S_reads' HO1032.out).2.2 | (with_reducible refine Kd.C_alloc ?_ _) | (with_reducible refine Kd.C_drewN ?_ _) | (with_reducible refine Kd.C_drew ?_))); (case side2 => exact (Kd.S_reads' HO1032.out).2.1); rintro e w185 ⟨rfl, hb⟩; refine ⟨_, rfl, ?_⟩; have n0_ := Aside0.mk (Kd.S_below (zs HO1029.out) hb); have n1_ := Aside0.mk (Kd.S_below (zs HO1032.out) hb); have n2_ := Aside0.mk (below_step zb hb); clear HO1029; clear HO1032; clear HB; have HO1029 := n0_; have HO1032 := n1_; have HB := n2_; clear n0_ n1_ n2_; (try clear hb); (try clear hb2); (try clear hk); (try clear hi)) | ((with_reducible refine gateC (f := 54) rfl ?_); refine goesL_ (some 181) rfl rfl Try.func54 (by kernel_rfl) rfl #[.slice A1 l1.length c1] rfl zm ?_; (with_reducible refine (spec_DrawSameHunks.calls kj48 _ _ l1 t1039 t1040 _ ?side1 ?side2 A123.out).mono ?_); (case side1 => exact zq (Kd.C_below HR1.out HB.out)); (case side2 => exact HC1.out); rintro e w186 ⟨v1041, v1043, rfl, ho0, ho1, hb⟩; refine ⟨_, rfl, ?_⟩; have n0_ := Aside0.mk (Kd.S_mono (Kd.S_told (Kd.S_told (Kd.S_old (zs HO1029.out) hb) (Kd.S_base ho0)) (Kd.S_base ho1)) (fun _ h_ => h_.1)); have n1_ := Aside0.mk (Kd.S_mono (Kd.S_told (Kd.S_told (Kd.S_old (zs HO1032.out) hb) (Kd.S_base ho0)) (Kd.S_base ho1)) (fun _ h_ => h_.1)); have n2_ := Aside0.mk (Kd.S_lower (Kd.S_new' (Kd.S_new' ho0 (Kd.S_lt (zs HO1029.out))) (Kd.S_lt (zs HO1032.out))) (below_size zb)); have n3_ := Aside0.mk (Kd.S_lower (Kd.S_new' (Kd.S_new' ho1 (Kd.S_lt (zs HO1029.out))) (Kd.S_lt (zs HO1032.out))) (below_size zb)); have n4_ := Aside0.mk (below_step zb hb); clear HO1029; clear HO1032; clear HB; have HO1029 := n0_; have HO1032 := n1_; have HO1042 := n2_; have HO1044 := n3_; have HB := n4_; clear n0_ n1_ n2_ n3_ n4_; (try clear hb); (try clear hb2); (try clear hk); (try clear hi); (try clear ho0); (try clear ho1); obtain ⟨Ao187, co187, eo187⟩ := Kd.S_slice HO1029.out; subst eo187) | ((with_reducible refine gateC (f := 49) rfl ?_); refine goesL_ (some 186) rfl rfl Try.func49 (by kernel_rfl) rfl #[.int .i64 t1026, .slice Ao187 t1027.length co187] rfl zm ?_; (with_reducible refine (impl_GoodHunks.calls kj48 t1026 _ _ t1027 t1045 _ ?side1 ?side2 A124.out).mono ?_); (case side1 => repeat (first | exact (Kd.S_reads' HO1029.out).2.2 | (with_reducible refine Kd.C_alloc ?_ _) | (with_reducible refine Kd.C_drewN ?_ _) | (with_reducible refine Kd.C_drew ?_))); (case side2 => exact (Kd.S_reads' HO1029.out).2.1); rintro e w188 ⟨rfl, hb⟩; refine ⟨_, rfl, ?_⟩; have n0_ := Aside0.mk (Kd.S_below (zs HO1029.out) hb); have n1_ := Aside0.mk (Kd.S_below (zs HO1032.out) hb); have n2_ := Aside0.mk (Kd.S_below (zs HO1042.out) hb); have n3_ := Aside0.mk (Kd.S_below (zs HO1044.out) hb); have n4_ := Aside0.mk (below_step zb hb); clear HO1029; clear HO1032; clear HO1042; clear HO1044; clear HB; have HO1029 := n0_; have HO1032 := n1_; have HO1042 := n2_; have HO1044 := n3_; have HB := n4_; clear n0_ n1_ n2_ n3_ n4_; (try clear hb); (try clear hb2); (try clear hk); (try clear hi)) | ((with_reducible refine gateC (f := 50) rfl ?_); refine goesL_ (some 189) rfl rfl Try.func50 (by kernel_rfl) rfl #[.int .i64 t1026, .slice Ao187 t1027.length co187] rfl zm ?_; (with_reducible refine (spec_GoodHunks.calls kj48 t1026 _ _ t1027 t1046 _ ?side1 ?side2 A125.out).mono ?_); (case side1 => repeat (first | exact (Kd.S_reads' HO1029.out).2.2 | (with_reducible refine Kd.C_alloc ?_ _) | (with_reducible refine Kd.C_drewN ?_ _) | (with_reducible refine Kd.C_drew ?_))); (case side2 => exact (Kd.S_reads' HO1029.out).2.1); rintro e w189 ⟨rfl, hb⟩; refine ⟨_, rfl, ?_⟩; have n0_ := Aside0.mk (Kd.S_below (zs HO1029.out) hb); have n1_ := Aside0.mk (Kd.S_below (zs HO1032.out) hb); have n2_ := Aside0.mk (Kd.S_below (zs HO1042.out) hb); have n3_ := Aside0.mk (Kd.S_below (zs HO1044.out) hb); have n4_ := Aside0.mk (below_step zb hb); clear HO1029; clear HO1032; clear HO1042; clear HO1044; clear HB; have HO1029 := n0_; have HO1032 := n1_; have HO1042 := n2_; have HO1044 := n3_; have HB := n4_; clear n0_ n1_ n2_ n3_ n4_; (try clear hb); (try clear hb2); (try clear hk); (try clear hi)))
                   go_ret
                   exact ⟨by first | rfl | (simp [errW_none, errW_some] <;> rfl) | (simp [*, errW_none, errW_some] <;> rfl), by repeat (first | (with_reducible first | exact HB.out | apply below_alloc | apply pw_below_drewN | apply below_drew1) | exact HB.out)⟩
           ·as_aux_lemma =>
              rw [if_neg c126] at H
              have c126b0 : (t1045 == t1046) = false := by simpa using c126
              (try (have c126b1 : decide (t1045 = t1046) = false := by simpa using c126))
              (try (have c126b2 : (t1045 == t1046) = false := by simpa using c126))
              (try (have c126b3 : ¬ (t1045 = t1046) := by simpa using c126))
              clear c126
              first
              | exact absurd (show false = true from (Option.some.inj H).trans HR_.out) Bool.false_ne_true
              | obtain rfl := Option.some.inj H
                go_wp2_with (first | ((with_reducible refine gateC (f := 51) rfl ?_); refine goesL_ (some 162) rfl rfl Try.func51 (by kernel_rfl) rfl #[.slice A1 l1.length c1] rfl zm ?_; (with_reducible refine (spec_DrawGoodHunks.calls kj48 _ _ l1 t1026 t1027 _ ?side1 ?side2 A119.out).mono ?_); (case side1 => exact zq (Kd.C_below HR1.out HB.out)); (case side2 => exact HC1.out); rintro e w190 ⟨v1028, rfl, ho0, hb⟩; refine ⟨_, rfl, ?_⟩; have n0_ := Aside0.mk (Kd.S_lower ho0 (below_size zb)); have n1_ := Aside0.mk (below_step zb hb); clear HB; have HO1029 := n0_; have HB := n1_; clear n0_ n1_; (try clear hb); (try clear hb2); (try clear hk); (try clear hi); (try clear ho0)) | ((with_reducible refine gateC (f := 52) rfl ?_); refine goesL_ (some 166) rfl rfl Try.func52 (by kernel_rfl) rfl #[.slice A1 l1.length c1] rfl zm ?_; (with_reducible refine (spec_DrawCountHunks.calls kj48 _ _ l1 t1030 _ ?side1 ?side2 A120.out).mono ?_); (case side1 => exact zq (Kd.C_below HR1.out HB.out)); (case side2 => exact HC1.out); rintro e w191 ⟨v1031, rfl, ho0, hb⟩; refine ⟨_, rfl, ?_⟩; have n0_ := Aside0.mk (Kd.S_elder' (zs HO1029.out) (Kd.S_base ho0) hb); have n1_ := Aside0.mk (Kd.S_lower (Kd.S_new' ho0 (Kd.S_lt (zs HO1029.out))) (below_size zb)); have n2_ := Aside0.mk (below_step zb hb); clear HO1029; clear HB; have HO1029 := n0_; have HO1032 := n1_; have HB := n2_; clear n0_ n1_ n2_; (try clear hb); (try clear hb2); (try clear hk); (try clear hi); (try clear ho0); obtain ⟨Ao192, co192, eo192⟩ := Kd.S_slice HO1032.out; subst eo192) | ((with_reducible refine gateC (f := 43) rfl ?_); refine goesL_ (some 169) rfl rfl Try.func43 (by kernel_rfl) rfl #[.slice Ao192 t1030.length co192] rfl zm ?_; (with_reducible refine (impl_CountHunks.calls kj48 _ _ t1030 t1033 t1034 t1035 _ ?side1 ?side2 A121.out).mono ?_); (case side1 => repeat (first | exact (Kd.S_reads' HO1032.out).2.2 | (with_reducible refine Kd.C_alloc ?_ _) | (with_reducible refine Kd.C_drewN ?_ _) | (with_reducible refine Kd.C_drew ?_))); (case side2 => exact (Kd.S_reads' HO1032.out).2.1); rintro e w193 ⟨rfl, hb⟩; refine ⟨_, rfl, ?_⟩; have n0_ := Aside0.mk (Kd.S_below (zs HO1029.out) hb); have n1_ := Aside0.mk (Kd.S_below (zs HO1032.out) hb); have n2_ := Aside0.mk (below_step zb hb); clear HO1029; clear HO1032; clear HB; have HO1029 := n0_; have HO1032 := n1_; have HB := n2_; clear n0_ n1_ n2_; (try clear hb); (try clear hb2); (try clear hk); (try clear hi)) | ((with_reducible refine gateC (f := 53) rfl ?_); refine goesL_ (some 175) rfl rfl Try.func53 (by kernel_rfl) rfl #[.slice Ao192 t1030.length co192] rfl zm ?_; (with_reducible refine (spec_CountHunks.calls kj48 _ _ t1030 t1036 t1037 t1038 _ ?side1 ?side2 A122.out).mono ?_); (case side1 => repeat (first | exact (Kd.S_reads' HO1032.out).2.2 | (with_reducible refine Kd.C_alloc ?_ _) | (with_reducible refine Kd.C_drewN ?_ _) | (with_reducible refine Kd.C_drew ?_))); (case side2 => exact (Kd.S_reads' HO1032.out).2.1); rintro e w194 ⟨rfl, hb⟩; refine ⟨_, rfl, ?_⟩; have n0_ := Aside0.mk (Kd.S_below (zs HO1029.out) hb); have n1_ := Aside0.mk (Kd.S_below (zs HO1032.out) hb); have n2_ := Aside0.mk (below_step zb hb); clear HO1029; clear HO1032; clear HB; have HO1029 := n0_; have HO1032 := n1_; have HB := n2_; clear n0_ n1_ n2_; (try clear hb); (try clear hb2); (try clear hk); (try clear hi)) | ((with_reducible refine gateC (f := 54) rfl ?_); refine goesL_ (some 181) rfl rfl Try.func54 (by kernel_rfl) rfl #[.slice A1 l1.length c1] rfl zm ?_; (with_reducible refine (spec_DrawSameHunks.calls kj48 _ _ l1 t1039 t1040 _ ?side1 ?side2 A123.out).mono ?_); (case side1 => exact zq (Kd.C_below HR1.out HB.out)); (case side2 => exact HC1.out); rintro e w195 ⟨v1041, v1043, rfl, ho0, ho1, hb⟩; refine ⟨_, rfl, ?_⟩; have n0_ := Aside0.mk (Kd.S_mono (Kd.S_told (Kd.S_told (Kd.S_old (zs HO1029.out) hb) (Kd.S_base ho0)) (Kd.S_base ho1)) (fun _ h_ => h_.1)); have n1_ := Aside0.mk (Kd.S_mono (Kd.S_told (Kd.S_told (Kd.S_old (zs HO1032.out) hb) (Kd.S_base ho0)) (Kd.S_base ho1)) (fun _ h_ => h_.1)); have n2_ := Aside0.mk (Kd.S_lower (Kd.S_new' (Kd.S_new' ho0 (Kd.S_lt (zs HO1029.out))) (Kd.S_lt (zs HO1032.out))) (below_size zb)); have n3_ := Aside0.mk (Kd.S_lower (Kd.S_new' (Kd.S_new' ho1 (Kd.S_lt (zs HO1029.out))) (Kd.S_lt (zs HO1032.out))) (below_size zb)); have n4_ := Aside0.mk (below_step zb hb); clear HO1029; clear HO1032; clear HB; have HO1029 := n0_; have HO1032 := n1_; have HO1042 := n2_; have HO1044 := n3_; have HB := n4_; clear n0_ n1_ n2_ n3_ n4_; (try clear hb); (try clear hb2); (try clear hk); (try clear hi); (try clear ho0); (try clear ho1); obtain ⟨Ao196, co196, eo196⟩ := Kd.S_slice HO1029.out; subst eo196) | ((with_reducible refine gateC (f := 49) rfl ?_); refine goesL_ (some 186) rfl rfl Try.func49 (by kernel_rfl) rfl #[.int .i64 t1026, .slice Ao196 t1027.length co196] rfl zm ?_; (with_reducible refine (impl_GoodHunks.calls kj48 t1026 _ _ t1027 t1045 _ ?side1 ?side2 A124.out).mono ?_); (case side1 => repeat (first | exact (Kd.S_reads' HO1029.out).2.2 | (with_reducible refine Kd.C_alloc ?_ _) | (with_reducible refine Kd.C_drewN ?_ _) | (with_reducible refine Kd.C_drew ?_))); (case side2 => exact (Kd.S_reads' HO1029.out).2.1); rintro e w197 ⟨rfl, hb⟩; refine ⟨_, rfl, ?_⟩; have n0_ := Aside0.mk (Kd.S_below (zs HO1029.out) hb); have n1_ := Aside0.mk (Kd.S_below (zs HO1032.out) hb); have n2_ := Aside0.mk (Kd.S_below (zs HO1042.out) hb); have n3_ := Aside0.mk (Kd.S_below (zs HO1044.out) hb); have n4_ := Aside0.mk (below_step zb hb); clear HO1029; clear HO1032; clear HO1042; clear HO1044; clear HB; have HO1029 := n0_; have HO1032 := n1_; have HO1042 := n2_; have HO1044 := n3_; have HB := n4_; clear n0_ n1_ n2_ n3_ n4_; (try clear hb); (try clear hb2); (try clear hk); (try clear hi)) | ((with_reducible refine gateC (f := 50) rfl ?_); refine goesL_ (some 189) rfl rfl Try.func50 (by kernel_rfl) rfl #[.int .i64 t1026, .slice Ao196 t1027.length co196] rfl zm ?_; (with_reducible refine (spec_GoodHunks.calls kj48 t1026 _ _ t1027 t1046 _ ?side1 ?side2 A125.out).mono ?_); (case side1 => repeat (first | exact (Kd.S_reads' HO1029.out).2.2 | (with_reducible refine Kd.C_alloc ?_ _) | (with_reducible refine Kd.C_drewN ?_ _) | (with_reducible refine Kd.C_drew ?_))); (case side2 => exact (Kd.S_reads' HO1029.out).2.1); rintro e w198 ⟨rfl, hb⟩; refine ⟨_, rfl, ?_⟩; have n0_ := Aside0.mk (Kd.S_below (zs HO1029.out) hb); have n1_ := Aside0.mk (Kd.S_below (zs HO1032.out) hb); have n2_ := Aside0.mk (Kd.S_below (zs HO1042.out) hb); have n3_ := Aside0.mk (Kd.S_below (zs HO1044.out) hb); have n4_ := Aside0.mk (below_step zb hb); clear HO1029; clear HO1032; clear HO1042; clear HO1044; clear HB; have HO1029 := n0_; have HO1032 := n1_; have HO1042 := n2_; have HO1044 := n3_; have HB := n4_; clear n0_ n1_ n2_ n3_ n4_; (try clear hb); (try clear hb2); (try clear hk); (try clear hi)))
                go_ret
                exact ⟨by first | rfl | (simp [errW_none, errW_some] <;> rfl) | (simp [*, errW_none, errW_some] <;> rfl), by repeat (first | (with_reducible first | exact HB.out | apply below_alloc | apply pw_below_drewN | apply below_drew1) | exact HB.out)⟩

end Go.Proofs.Ytcefenlblnediaa.My

/- Written by this session's program (wip/gen): the law's pure statement. -/
namespace Go.Proofs.Ytcefenlblnediaa.My
open Go.RowKit Go.Proofs.YtcefenlblnediaaW.PrintWords Go.Proofs.YtcefenlblnediaaW.PrintLast Go.Proofs.YtcefenlblnediaaW.PrintMore
attribute [local go_sem] max2_int min2_int max_two min_two max_three min_three max_four min_four
set_option linter.unusedVariables false
set_option linter.unusedSimpArgs false

/-- What is left to prove of laws_FnPatches. -/
def laws_FnPatches.Pure : Prop := ∀ (l0 : List Int) (l1 : List Int), (WL Wu8) l0 → (WL Wu8) l1 → ∃ k, laws_FnPatches.f k l0 l1 = some true
end Go.Proofs.Ytcefenlblnediaa.My

/- Plain Lean, no program in sight: what holds from some number of rounds on, whole numbers that do not wrap, lists by an index. -/
namespace Go.Proofs.Ytcefenlblnediaa.Pl
open Go.RowKit Go.Proofs.YtcefenlblnediaaW.PrintWords Go.Proofs.YtcefenlblnediaaW.PrintLast
set_option linter.unusedVariables false
set_option linter.unusedSimpArgs false

section
variable {α β : Type}
theorem ev_pos {c : Prop} [Decidable c] {g g' : Nat → Option α} {r : α} (hc : c) (h : Ev g r) : Ev (fun k => if c then g k else g' k) r :=
  Ev.congr (fun _ => if_pos hc) h
theorem ev_neg {c : Prop} [Decidable c] {g g' : Nat → Option α} {r : α} (hc : ¬ c) (h : Ev g' r) : Ev (fun k => if c then g k else g' k) r :=
  Ev.congr (fun _ => if_neg hc) h
theorem ev_ite {c : Prop} [Decidable c] {g g' : Nat → Option α} {r : α} (h : c → Ev g r) (h' : ¬ c → Ev g' r) : Ev (fun k => if c then g k else g' k) r := by
  by_cases hc : c
  · exact ev_pos hc (h hc)
  · exact ev_neg hc (h' hc)
theorem ev_some {r r' : α} (h : r = r') : Ev (fun _ => some r) r' := h ▸ Ev.now r
theorem ev_const {o : Option α} {r : α} (h : o = some r) : Ev (fun _ => o) r := ⟨0, fun _ _ => h⟩
theorem ev_to {g : Nat → Option α} {r r' : α} (h : Ev g r) (e : r = r') : Ev g r' := e ▸ h
theorem ev_bind {g : Nat → Option α} {f : Nat → α → Option β} {a : α} {r : β} (h : Ev g a) (k : Ev (fun n => f n a) r) : Ev (fun n => (g n).bind fun t => f n t) r := Ev.bind h k
end

theorem wrap64_id {x : Int} (h : -9223372036854775808 ≤ x) (h' : x ≤ 9223372036854775807) : wrap64 x = x := by
  unfold wrap64
  omega
theorem wrap_succ (i : Nat) (h : i < 9223372036854775807) : wrap64 ((i : Int) + 1) = ((i + 1 : Nat) : Int) := by
  rw [wrap64_id (by omega) (by omega)]
  omega
theorem wrap_pred (n : Nat) (h0 : 0 < n) (h : n ≤ 9223372036854775807) : wrap64 ((n : Int) - 1) = ((n - 1 : Nat) : Int) := by
  rw [wrap64_id (by omega) (by omega)]
  omega
theorem wrap_sub (n m : Nat) (h0 : m ≤ n) (h : n ≤ 9223372036854775807) : wrap64 ((n : Int) - (m : Int)) = ((n - m : Nat) : Int) := by
  rw [wrap64_id (by omega) (by omega)]
  omega
theorem wrap_add (n m : Nat) (h : n + m ≤ 9223372036854775807) : wrap64 ((n : Int) + (m : Int)) = ((n + m : Nat) : Int) := by
  rw [wrap64_id (by omega) (by omega)]
  omega

theorem rdOf_nat {α : Type} (d : α) (xs : List α) (i : Nat) : rdOf d xs (i : Int) = xs.getD i d := rfl
theorem rd_nat (xs : List Int) (i : Nat) : rd xs (i : Int) = xs.getD i 0 := rfl
theorem getD_lt {α : Type} (xs : List α) (d : α) (i : Nat) (h : i < xs.length) : xs.getD i d = xs[i] := by
  simp [List.getD_eq_getElem?_getD, List.getElem?_eq_getElem h]
theorem rdOf_lt {α : Type} (d : α) (xs : List α) (i : Nat) (h : i < xs.length) : rdOf d xs (i : Int) = xs[i] := getD_lt xs d i h
theorem ba_ext {a b : ByteArray} (h : a.toList = b.toList) : a = b := by
  rw [Lib.toList_data, Lib.toList_data] at h
  cases a with | mk a => cases b with | mk b =>
  cases a with | mk a => cases b with | mk b =>
  simp_all
theorem ba_iff {a b : ByteArray} : a.toList = b.toList ↔ a = b := ⟨ba_ext, fun h => by rw [h]⟩
theorem drop_cons {α : Type} (xs : List α) (i : Nat) (h : i < xs.length) : xs.drop i = xs[i] :: xs.drop (i + 1) := List.drop_eq_getElem_cons h
theorem bt_nat (s : ByteArray) (i : Nat) (h : i < s.size) : bt s (i : Int) = ((s.data.toList[i]'(by rw [data_length]; exact h)).toNat : Int) := by
  unfold bt
  rw [dif_pos (by simpa using h)]
  simp [ByteArray.getElem_eq_getElem_data]
theorem u8_eq {b c : UInt8} (h : (b.toNat : Int) = (c.toNat : Int)) : b = c := UInt8.toNat_inj.1 (by omega)
theorem u8_ne {b c : UInt8} (h : ¬ (b.toNat : Int) = (c.toNat : Int)) : ¬ c = b := fun e => h (by rw [e])
end Go.Proofs.Ytcefenlblnediaa.Pl

/- Plain Lean: the reader of choices: what it hands out is small. Asked: a reader that stands below 2^61. -/
namespace Go.Proofs.Ytcefenlblnediaa.Pl
open Go.RowKit Go.Proofs.YtcefenlblnediaaW.PrintWords Go.Proofs.YtcefenlblnediaaW.PrintLast Go.Proofs.Ytcefenlblnediaa.My
set_option linter.unusedVariables false
set_option linter.unusedSimpArgs false

/-- Bytes. -/
def Bytes8 (c : List Int) : Prop := (c.length : Int) ≤ 9223372036854775807 ∧ ∀ x ∈ c, 0 ≤ x ∧ x ≤ 255
theorem u64_wrap_nat (x : Int) : ∃ n : Nat, IntKind.u64.wrap x = (n : Int) ∧ n < 18446744073709551616 := by
  have h : IntKind.u64.wrap x = x % 18446744073709551616 := rfl
  exact ⟨(IntKind.u64.wrap x).toNat, by rw [h]; omega, by rw [h]; omega⟩
theorem low_byte (x : Int) : 0 ≤ wrap64 (Go.bits .and .u64 (IntKind.u64.wrap x / 1099511627776) 255) ∧ wrap64 (Go.bits .and .u64 (IntKind.u64.wrap x / 1099511627776) 255) ≤ 255 := by
  obtain ⟨n, e, hn⟩ := u64_wrap_nat x
  have e2 : IntKind.u64.wrap x / 1099511627776 = ((n / 1099511627776 : Nat) : Int) := by rw [e]; omega
  rw [e2, show (255 : Int) = ((255 : Nat) : Int) from rfl, bits_and_u64_nat _ _ (by omega) (by decide)]
  have h3 : n / 1099511627776 &&& 255 = n / 1099511627776 % 256 := Nat.and_two_pow_sub_one_eq_mod (n := 8) _
  rw [h3, wrap64_id (by omega) (by omega)]
  omega
/-- Where the reader stands. -/
def At (B a : Int) : Prop := 0 ≤ a ∧ a ≤ B
theorem next_some (c : List Int) (hc : Bytes8 c) (a s : Int) (ha : At 2305843009213693952 a) : ∃ b s2, spec_l1Cur_next.f c a s = some (b, a + 1, s2) ∧ 0 ≤ b ∧ b ≤ 255 := by
  obtain ⟨h0, h1⟩ := ha
  unfold spec_l1Cur_next.f
  have e1 : wrap64 (a + 1) = a + 1 := wrap64_id (by omega) (by omega)
  rw [e1]
  by_cases h : a < (c.length : Int)
  · rw [if_pos h, if_pos h0, if_pos (by omega)]
    have hm : rd c a ∈ c := by
      have e2 : rd c a = c[a.toNat]'(by omega) := by
        have := getD_lt c 0 a.toNat (by omega)
        exact this
      rw [e2]
      exact List.getElem_mem _
    have hb := hc.2 _ hm
    rw [wrap64_id (x := rd c a) (by omega) (by omega)]
    exact ⟨_, _, rfl, hb.1, hb.2⟩
  · rw [if_neg h]
    by_cases h2 : a + 1 ≤ (c.length : Int)
    · rw [if_pos h2]
      exact ⟨_, _, rfl, by decide, by decide⟩
    · rw [if_neg h2]
      have := low_byte ((IntKind.u64.wrap ((IntKind.u64.wrap (s * 6364136223846793005)) + 0)) + 1442695040888963407)
      exact ⟨_, _, rfl, this.1, this.2⟩
theorem tmod_range (x n : Int) (hx : 0 ≤ x) (hn : 0 < n) : 0 ≤ Int.tmod x n ∧ Int.tmod x n < n := by
  rw [Int.tmod_eq_emod_of_nonneg hx]
  exact ⟨Int.emod_nonneg _ (by omega), Int.emod_lt_of_pos _ hn⟩
/-- A number below n (0 where n is none). -/
theorem pick_some (c : List Int) (hc : Bytes8 c) (a s n : Int) (ha : At 2305843009213693951 a) : ∃ v a2 s2, spec_l1Cur_pick.f c a s n = some (v, a2, s2) ∧ 0 ≤ v ∧ (v = 0 ∨ v < n) ∧ v ≤ 65535 ∧ a ≤ a2 ∧ a2 ≤ a + 2 := by
  obtain ⟨h0, h1⟩ := ha
  unfold spec_l1Cur_pick.f
  by_cases h : n ≤ 1
  · rw [if_pos h]
    exact ⟨0, a, s, rfl, by omega, .inl rfl, by omega, by omega, by omega⟩
  · rw [if_neg h]
    obtain ⟨b, s2, e, hb0, hb1⟩ := next_some c hc a s ⟨h0, by omega⟩
    rw [e]
    simp only [Option.bind_some]
    by_cases h2 : n > 200
    · obtain ⟨b2, s3, e2, hc0, hc1⟩ := next_some c hc (a + 1) s2 ⟨by omega, by omega⟩
      rw [if_pos h2, e2]
      simp only [Option.bind_some]
      rw [if_neg (by omega), wrap64_id (x := b * 256) (by omega) (by omega), wrap64_id (by omega) (by omega)]
      have ht := tmod_range (b * 256 + b2) n (by omega) (by omega)
      refine ⟨_, _, _, rfl, ht.1, .inr ht.2, ?_, by omega, by omega⟩
      rw [Int.tmod_eq_emod_of_nonneg (by omega)]
      have h5 : (b * 256 + b2) % n ≤ b * 256 + b2 := by
        have h6 := Int.mul_ediv_add_emod (b * 256 + b2) n
        have h7 : 0 ≤ (b * 256 + b2) / n := Int.ediv_nonneg (by omega) (by omega)
        have h8 : 0 ≤ n * ((b * 256 + b2) / n) := Int.mul_nonneg (by omega) h7
        omega
      omega
    · rw [if_neg h2, if_neg (by omega)]
      have ht := tmod_range b n hb0 (by omega)
      exact ⟨_, _, _, rfl, ht.1, .inr ht.2, by omega, by omega, by omega⟩
end Go.Proofs.Ytcefenlblnediaa.Pl

/- Plain Lean: the reader of choices: yes or no, and one of a list of texts. Asked: a reader that stands below 2^61. -/
namespace Go.Proofs.Ytcefenlblnediaa.Pl
open Go.RowKit Go.Proofs.YtcefenlblnediaaW.PrintWords Go.Proofs.YtcefenlblnediaaW.PrintLast Go.Proofs.Ytcefenlblnediaa.My
set_option linter.unusedVariables false
theorem one_some (c : List Int) (hc : Bytes8 c) (a s n : Int) (ha : At 2305843009213693951 a) : ∃ v a2 s2, spec_l1Cur_one.f c a s n = some (v, a2, s2) ∧ a ≤ a2 ∧ a2 ≤ a + 2 := by
  unfold spec_l1Cur_one.f
  obtain ⟨v, a2, s2, e, h⟩ := pick_some c hc a s n ha
  rw [e]
  exact ⟨_, _, _, rfl, h.2.2.2.1, h.2.2.2.2⟩
theorem of_some (c : List Int) (hc : Bytes8 c) (a s : Int) (ha : At 2305843009213693951 a) (l : List ByteArray) (hl : 0 < l.length) : ∃ v a2 s2, spec_l1Cur_of.f c a s l = some (v, a2, s2) ∧ v ∈ l ∧ a ≤ a2 ∧ a2 ≤ a + 2 := by
  unfold spec_l1Cur_of.f
  obtain ⟨v, a2, s2, e, h⟩ := pick_some c hc a s (l.length : Int) ha
  rw [e]
  simp only [Option.bind_some]
  have hv : v < (l.length : Int) := by rcases h.2.1 with h | h <;> omega
  rw [if_pos h.1, if_pos hv]
  refine ⟨_, _, _, rfl, ?_, h.2.2.2.1, h.2.2.2.2⟩
  have e2 : rdOf ByteArray.empty l v = l[v.toNat]'(by omega) := getD_lt l _ v.toNat (by omega)
  rw [e2]
  exact List.getElem_mem _
end Go.Proofs.Ytcefenlblnediaa.Pl

/- Plain Lean: the reader of choices: lines and texts. Asked: a reader that stands below 10^15. -/
namespace Go.Proofs.Ytcefenlblnediaa.Pl
open Go.RowKit Go.Proofs.YtcefenlblnediaaW.PrintWords Go.Proofs.YtcefenlblnediaaW.PrintLast Go.Proofs.Ytcefenlblnediaa.My
set_option linter.unusedVariables false
set_option linter.unusedSimpArgs false
theorem at_of {a : Int} (h0 : 0 ≤ a) (h1 : a ≤ 1000000000001000) : At 2305843009213693951 a := ⟨h0, by omega⟩
theorem line_some (c : List Int) (hc : Bytes8 c) (a s : Int) (h0 : 0 ≤ a) (h1 : a ≤ 1000000000001000) : ∃ v a2 s2, spec_l1Cur_line.f c a s = some (v, a2, s2) ∧ v.size ≤ 7 ∧ a ≤ a2 ∧ a2 ≤ a + 2 := by
  unfold spec_l1Cur_line.f
  obtain ⟨v, a2, s2, e, hv, h⟩ := of_some c hc a s (at_of h0 h1) [(⟨#[97]⟩ : ByteArray), (⟨#[98]⟩ : ByteArray), (⟨#[99]⟩ : ByteArray), (⟨#[100]⟩ : ByteArray), (⟨#[]⟩ : ByteArray), (⟨#[46]⟩ : ByteArray), (⟨#[46, 46]⟩ : ByteArray), (⟨#[111, 110, 101, 32, 116, 119, 111]⟩ : ByteArray), (⟨#[43, 120]⟩ : ByteArray), (⟨#[45, 121]⟩ : ByteArray), (⟨#[92, 32, 122]⟩ : ByteArray), (⟨#[64, 64]⟩ : ByteArray)] (by simp)
  rw [e]
  refine ⟨v, a2, s2, rfl, ?_, h⟩
  simp only [List.mem_cons, List.not_mem_nil, or_false] at hv
  rcases hv with rfl | rfl | rfl | rfl | rfl | rfl | rfl | rfl | rfl | rfl | rfl | rfl <;> decide
/-- Lines as they are drawn: few, short, none empty. -/
def Sm1 (l : List ByteArray) : Prop := ∀ s ∈ l, 1 ≤ s.size ∧ s.size ≤ 8
/-- A drawn text: few lines, short, the last one not empty. -/
def SmT (l : List ByteArray) : Prop := l.length ≤ 9 ∧ (∀ s ∈ l, s.size ≤ 8) ∧ ∀ x, l.getLast? = some x → 1 ≤ x.size
theorem sm1_snoc {l : List ByteArray} {x : ByteArray} (h : Sm1 l) (h1 : 1 ≤ x.size) (h2 : x.size ≤ 8) : Sm1 (l ++ [x]) := by
  intro s hs
  rcases List.mem_append.1 hs with hs | hs
  · exact h s hs
  · rw [List.mem_singleton.1 hs]; exact ⟨h1, h2⟩
theorem nl_size (v : ByteArray) (h : v.size ≤ 7) : 1 ≤ (v ++ (⟨#[10]⟩ : ByteArray)).size ∧ (v ++ (⟨#[10]⟩ : ByteArray)).size ≤ 8 := by
  rw [ByteArray.size_append, show (⟨#[10]⟩ : ByteArray).size = 1 from rfl]
  omega
theorem text_l0 (c : List Int) (hc : Bytes8 c) : ∀ (n : Nat) (acc : List ByteArray) (a s : Int), 0 ≤ a → a + 2 * n ≤ 1000000000000500 → acc.length + n ≤ 8 → Sm1 acc → ∃ r a2 s2, Ev (fun k => spec_l1Cur_text.l0 k acc (n : Int) c a s) (r, a2, s2) ∧ r.length ≤ 9 ∧ Sm1 r ∧ a ≤ a2 ∧ a2 ≤ a + 2 * n + 4 := by
  intro n
  induction n with
  | zero =>
    intro acc a s h0 h1 hl hs
    obtain ⟨v, a2, s2, e, h2⟩ := one_some c hc a s 5 (at_of h0 (by omega))
    cases v with
    | true =>
      obtain ⟨w, a3, s3, e2, hw, h3⟩ := of_some c hc a2 s2 (at_of (by omega) (by omega)) [(⟨#[97]⟩ : ByteArray), (⟨#[101, 110, 100]⟩ : ByteArray), (⟨#[46]⟩ : ByteArray)] (by simp)
      refine ⟨acc ++ [w], a3, s3, Ev.step (fun k => spec_l1Cur_text.l0.eq_2 ..) (ev_neg (by omega) ?_), by rw [List.length_append, List.length_singleton]; omega, ?_, by omega, by omega⟩
      · refine ev_bind (ev_const e) (ev_pos rfl (ev_bind (ev_const e2) (ev_pos (by omega) (ev_some rfl))))
      · simp only [List.mem_cons, List.not_mem_nil, or_false] at hw
        rcases hw with rfl | rfl | rfl <;> exact sm1_snoc hs (by decide) (by decide)
    | false =>
      refine ⟨acc, a2, s2, Ev.step (fun k => spec_l1Cur_text.l0.eq_2 ..) (ev_neg (by omega) ?_), by omega, hs, by omega, by omega⟩
      exact ev_bind (ev_const e) (ev_neg (by simp) (ev_some rfl))
  | succ n ih =>
    intro acc a s h0 h1 hl hs
    obtain ⟨v, a2, s2, e, h2⟩ := line_some c hc a s h0 (by omega)
    have hz := nl_size v h2.1
    obtain ⟨r, a3, s3, e3, h3⟩ := ih (acc ++ [v ++ (⟨#[10]⟩ : ByteArray)]) a2 s2 (by omega) (by omega) (by rw [List.length_append, List.length_singleton]; omega) (sm1_snoc hs hz.1 hz.2)
    refine ⟨r, a3, s3, Ev.step (fun k => spec_l1Cur_text.l0.eq_2 ..) (ev_pos (by omega) ?_), h3.1, h3.2.1, by omega, by omega⟩
    refine ev_bind (ev_const e) (ev_pos (by dsimp only; omega) (ev_pos (by omega) ?_))
    rw [wrap64_id (x := ((n + 1 : Nat) : Int) - 1) (by omega) (by omega), show ((n + 1 : Nat) : Int) - 1 = (n : Int) from by omega]
    exact e3
theorem text_some (c : List Int) (hc : Bytes8 c) (a s : Int) (h0 : 0 ≤ a) (h1 : a ≤ 1000000000000400) : ∃ r a2 s2, Ev (fun k => spec_l1Cur_text.f k c a s) (r, a2, s2) ∧ r.length ≤ 9 ∧ Sm1 r ∧ a ≤ a2 ∧ a2 ≤ a + 22 := by
  simp only [spec_l1Cur_text.f]
  obtain ⟨v, a2, s2, e, h2⟩ := pick_some c hc a s 9 (at_of h0 (by omega))
  have hv : v = ((v.toNat : Nat) : Int) := by omega
  have hn : v.toNat ≤ 8 := by rcases h2.2.1 with h | h <;> omega
  obtain ⟨r, a3, s3, e3, h3⟩ := text_l0 c hc v.toNat [] a2 s2 (by omega) (by omega) (by simpa using hn) (fun s hs => by cases hs)
  rw [← hv] at e3
  exact ⟨r, a3, s3, ev_bind (ev_const e) e3, h3.1, h3.2.1, by omega, by omega⟩
theorem smT_of {l : List ByteArray} (hl : l.length ≤ 9) (h : Sm1 l) : SmT l :=
  ⟨hl, fun s hs => (h s hs).2, fun x hx => (h x (List.mem_of_getLast? hx)).1⟩
theorem smT_set {l : List ByteArray} (hl : 1 < l.length) (h : SmT l) (v : ByteArray) (hv : v.size ≤ 8) : SmT (l.set 0 v) := by
  refine ⟨by rw [List.length_set]; exact h.1, fun s hs => ?_, fun x hx => h.2.2 x ?_⟩
  · rcases List.mem_or_eq_of_mem_set hs with hs | rfl
    · exact h.2.1 s hs
    · exact hv
  · rw [List.getLast?_eq_getElem?, List.length_set, List.getElem?_set_ne (by omega)] at hx
    rw [List.getLast?_eq_getElem?]
    exact hx
theorem anyText_some (c : List Int) (hc : Bytes8 c) (a s : Int) (h0 : 0 ≤ a) (h1 : a ≤ 1000000000000300) : ∃ r a2 s2, Ev (fun k => spec_l1Cur_anyText.f k c a s) (r, a2, s2) ∧ SmT r ∧ a ≤ a2 ∧ a2 ≤ a + 24 := by
  simp only [spec_l1Cur_anyText.f]
  obtain ⟨l, a2, s2, e, h2⟩ := text_some c hc a s h0 (by omega)
  have hT := smT_of h2.1 h2.2.1
  by_cases hl : (l.length : Int) > 1
  · obtain ⟨v, a3, s3, e3, h3⟩ := pick_some c hc a2 s2 25 (at_of (by omega) (by omega))
    have st : ∀ (w : ByteArray), w.size ≤ 8 → SmT (l.set (0 : Int).toNat w) := fun w hw => smT_set (by omega) hT w hw
    by_cases c0 : v = 0
    · exact ⟨_, a3, s3, ev_bind e (ev_pos hl (ev_bind (ev_const e3) (ev_pos c0 (ev_pos (by dsimp only; omega) (ev_some rfl))))), st _ (by decide), by omega, by omega⟩
    · by_cases c1 : v = 1
      · exact ⟨_, a3, s3, ev_bind e (ev_pos hl (ev_bind (ev_const e3) (ev_neg c0 (ev_pos c1 (ev_pos (by dsimp only; omega) (ev_some rfl)))))), st _ (by decide), by omega, by omega⟩
      · by_cases c2 : v = 2
        · exact ⟨_, a3, s3, ev_bind e (ev_pos hl (ev_bind (ev_const e3) (ev_neg c0 (ev_neg c1 (ev_pos c2 (ev_pos (by dsimp only; omega) (ev_some rfl))))))), st _ (by decide), by omega, by omega⟩
        · exact ⟨_, a3, s3, ev_bind e (ev_pos hl (ev_bind (ev_const e3) (ev_neg c0 (ev_neg c1 (ev_neg c2 (ev_some rfl)))))), hT, by omega, by omega⟩
  · exact ⟨l, a2, s2, ev_bind e (ev_neg hl (ev_some rfl)), hT, by omega, by omega⟩
end Go.Proofs.Ytcefenlblnediaa.Pl

/- Plain Lean: the reader of choices: one of a list of numbers. Asked: a reader that stands below 2^61. -/
namespace Go.Proofs.Ytcefenlblnediaa.Pl
open Go.RowKit Go.Proofs.YtcefenlblnediaaW.PrintWords Go.Proofs.YtcefenlblnediaaW.PrintLast Go.Proofs.Ytcefenlblnediaa.My
set_option linter.unusedVariables false
theorem among_some (c : List Int) (hc : Bytes8 c) (a s : Int) (ha : At 2305843009213693951 a) (l : List Int) (hl : 0 < l.length) : ∃ v a2 s2, spec_l1Cur_among.f c a s l = some (v, a2, s2) ∧ v ∈ l ∧ a ≤ a2 ∧ a2 ≤ a + 2 := by
  unfold spec_l1Cur_among.f
  obtain ⟨v, a2, s2, e, h⟩ := pick_some c hc a s (l.length : Int) ha
  rw [e]
  simp only [Option.bind_some]
  have hv : v < (l.length : Int) := by rcases h.2.1 with h | h <;> omega
  rw [if_pos h.1, if_pos hv]
  refine ⟨_, _, _, rfl, ?_, h.2.2.2.1, h.2.2.2.2⟩
  have e2 : rd l v = l[v.toNat]'(by omega) := getD_lt l 0 v.toNat (by omega)
  rw [e2]
  exact List.getElem_mem _
end Go.Proofs.Ytcefenlblnediaa.Pl

/- Plain Lean: whether a number lies between two. No condition. -/
namespace Go.Proofs.Ytcefenlblnediaa.Pl
open Go.RowKit Go.Proofs.YtcefenlblnediaaW.PrintWords Go.Proofs.YtcefenlblnediaaW.PrintLast Go.Proofs.Ytcefenlblnediaa.My
set_option linter.unusedVariables false
set_option linter.unusedSimpArgs false

def inB (n lo hi : Int) : Bool := decide (lo ≤ n) && decide (n ≤ hi)
theorem inB_iff (a b c : Int) : inB a b c = true ↔ b ≤ a ∧ a ≤ c := by
  unfold inB
  rw [Bool.and_eq_true, decide_eq_true_eq, decide_eq_true_eq]
theorem impl_in_eq (a b c : Int) : impl_in.f a b c = some (inB a b c) := by
  unfold impl_in.f inB
  by_cases h : b ≤ a
  · rw [if_pos h]; simp [h]
  · rw [if_neg (by omega)]; simp [h]
theorem spec_l1In_eq (a b c : Int) : spec_l1In.f a b c = some (inB a b c) := by
  unfold spec_l1In.f inB
  by_cases h : b ≤ a
  · rw [if_pos h]; simp [h]
  · rw [if_neg (by omega)]; simp [h]
end Go.Proofs.Ytcefenlblnediaa.Pl

/- Plain Lean: texts that fit. No condition. -/
namespace Go.Proofs.Ytcefenlblnediaa.Pl
open Go.RowKit Go.Proofs.YtcefenlblnediaaW.PrintWords Go.Proofs.YtcefenlblnediaaW.PrintLast
set_option linter.unusedVariables false
set_option linter.unusedSimpArgs false
/-- What came in fits. -/
def FitS (l : List ByteArray) : Prop := l.length ≤ 9223372036854775807 ∧ ∀ s ∈ l, s.size ≤ 9223372036854775807
end Go.Proofs.Ytcefenlblnediaa.Pl

/- Plain Lean: chapter 1: what a line and good lines are, for the program and the reference. Conditions: lengths and sizes below 2^63. -/
namespace Go.Proofs.Ytcefenlblnediaa.Pl
open Go.RowKit Go.Proofs.YtcefenlblnediaaW.PrintWords Go.Proofs.YtcefenlblnediaaW.PrintLast Go.Proofs.Ytcefenlblnediaa.My
set_option linter.unusedVariables false
set_option linter.unusedSimpArgs false

/-- A line. -/
def isLn (s : ByteArray) : Bool := !(s.data.toList.dropLast.contains 10) && inB s.size 1 30
/-- Its last byte is 10. -/
def ends (s : ByteArray) : Bool := s.data.toList.getLast? == some 10
def good (l : List ByteArray) : Bool := decide (l.length ≤ 40) && (l.all isLn && l.dropLast.all ends)

theorem toList_one (c : UInt8) : (⟨#[c]⟩ : ByteArray).toList = [c] := by rw [Lib.toList_data]
theorem size_one (c : UInt8) : (⟨#[c]⟩ : ByteArray).size = 1 := rfl
theorem bt_one (c : UInt8) : bt ⟨#[c]⟩ 0 = (c.toNat : Int) := rfl

theorem index_ev (s : ByteArray) (c : UInt8) : Ev (fun k => strings_Index.f k s ⟨#[c]⟩) (Lib.indexByte s.data.toList c) := by
  have hj : ∀ b : Bool, (b = true → Lib.indexByte s.data.toList c = 0) → Ev (fun k => stringslite_Index.j0 k s ⟨#[c]⟩ 1 b) (Lib.indexByte s.data.toList c) := by
    intro b hb
    refine Ev.step (fun k => stringslite_Index.j0.eq_2 ..) ?_
    refine ev_ite (fun h => ev_some (hb h).symm) (fun _ => ?_)
    refine ev_pos rfl (ev_pos (by rw [size_one]; decide) ?_)
    refine ev_const ?_
    rw [bt_one]
    simp [stringslite_IndexByte.f]
  have h2 : Ev (fun k => stringslite_Index.f k s ⟨#[c]⟩) (Lib.indexByte s.data.toList c) := by
    simp only [stringslite_Index.f]
    refine ev_neg (by rw [size_one]; decide) ?_
    refine hj _ (fun h => ?_)
    have e : s.data.toList = [c] := by
      have := beq_iff_eq.1 h
      rw [toList_one, Lib.toList_data] at this
      exact this.symm
    rw [e]
    simp [Lib.indexByte]
  simp only [strings_Index.f]
  exact ev_bind h2 (ev_some rfl)

theorem indexByte_nonneg (l : List UInt8) (c : UInt8) : decide (Lib.indexByte l c ≥ 0) = l.contains c := by
  induction l with
  | nil => simp [Lib.indexByte]
  | cons b l ih =>
    have hge := Lib.indexByte_ge l c
    unfold Lib.indexByte
    by_cases h : (b == c) = true
    · have : b = c := beq_iff_eq.1 h
      simp [this]
    · have hb : (b == c) = false := by simpa using h
      have hne : ¬ c = b := fun e => h (by simp [e])
      rw [List.contains_cons, ← ih]
      simp only [hb]
      by_cases h2 : Lib.indexByte l c = -1
      · simp [h2, hne]
      · have h3 : (Lib.indexByte l c == -1) = false := by simpa using h2
        simp only [h3]
        have : Lib.indexByte l c ≥ 0 := by omega
        simp [hne, this]
        omega

theorem contains_ev (s : ByteArray) (c : UInt8) : Ev (fun k => strings_Contains.f k s ⟨#[c]⟩) (s.data.toList.contains c) := by
  simp only [strings_Contains.f]
  exact ev_bind (index_ev s c) (ev_some (indexByte_nonneg _ _))

theorem extract_data (s : ByteArray) (a b : Nat) : (s.extract a b).data.toList = (s.data.toList.take b).drop a := by
  rw [ByteArray.data_extract, Array.toList_extract, List.extract_eq_take_drop, ← List.drop_take]

theorem isLine_ev (s : ByteArray) (hs : s.size ≤ 9223372036854775807) : Ev (fun k => impl_isLine.f k s) (isLn s) := by
  simp only [impl_isLine.f, impl_in_eq, Option.bind_some]
  refine ev_ite (fun h => ?_) (fun h => ev_some (by unfold isLn; simp at h; simp [h]))
  have h1 : 1 ≤ s.size ∧ s.size ≤ 30 := by
    simp [inB] at h
    omega
  rw [wrap_pred s.size (by omega) hs]
  refine ev_pos (by omega) (ev_pos (by omega) ?_)
  refine ev_bind (contains_ev _ 10) (ev_some ?_)
  rw [Int.toNat_natCast, extract_data, List.drop_zero, ← data_length, ← List.dropLast_eq_take]
  unfold isLn
  rw [h]
  simp

theorem l1Line_l0 (s : ByteArray) (hs : s.size ≤ 9223372036854775807) : ∀ d i, i + d = s.size - 1 → Ev (fun k => spec_l1Line.l0 k s (i : Int)) (!((s.data.toList.dropLast.drop i).contains 10) && inB s.size 1 30) := by
  intro d
  have hl : s.data.toList.length = s.size := data_length s
  induction d with
  | zero =>
    intro i hi
    refine Ev.step (fun k => spec_l1Line.l0.eq_2 ..) ?_
    refine ev_neg (by rw [wrap64_id (by omega) (by omega)]; omega) ?_
    refine ev_const ?_
    rw [spec_l1In_eq, List.drop_of_length_le (by rw [List.length_dropLast]; omega)]
    rfl
  | succ d ih =>
    intro i hi
    refine Ev.step (fun k => spec_l1Line.l0.eq_2 ..) ?_
    refine ev_pos (by rw [wrap64_id (by omega) (by omega)]; omega) (ev_pos (by omega) (ev_pos (by omega) ?_))
    have hd : s.data.toList.dropLast.drop i = s.data.toList[i] :: s.data.toList.dropLast.drop (i + 1) := by
      rw [List.drop_eq_getElem_cons (by rw [List.length_dropLast]; omega), List.getElem_dropLast]
    rw [hd, List.contains_cons, bt_nat s i (by omega)]
    refine ev_ite (fun h => ev_some ?_) (fun h => ?_)
    · have : s.data.toList[i] = 10 := u8_eq h
      rw [this]
      simp
    · rw [wrap_succ i (by omega)]
      refine ev_to (ih (i + 1) (by omega)) ?_
      have : ((10 : UInt8) == s.data.toList[i]) = false := by
        rw [beq_eq_false_iff_ne]
        exact u8_ne h
      rw [this, Bool.false_or]

theorem l1Line_ev (s : ByteArray) (hs : s.size ≤ 9223372036854775807) : Ev (fun k => spec_l1Line.f k s) (isLn s) := by
  simp only [spec_l1Line.f]
  exact l1Line_l0 s hs (s.size - 1) 0 (by omega)

theorem isLn_size {s : ByteArray} (h : isLn s = true) : 1 ≤ s.size ∧ s.size ≤ 30 := by
  simp [isLn, inB] at h
  omega

theorem ends_last {s : ByteArray} (h : 1 ≤ s.size) : ends s = (bt s ((s.size - 1 : Nat) : Int) == 10) := by
  have hl : s.data.toList.length = s.size := data_length s
  have hq : s.data.toList.getLast? = some (s.data.toList[s.size - 1]'(by omega)) := by
    rw [List.getLast?_eq_getElem?, List.getElem?_eq_getElem (by omega)]
    simp only [hl]
  unfold ends
  rw [bt_nat s _ (by omega), hq]
  rw [Bool.eq_iff_iff]
  simp only [beq_iff_eq, Option.some.injEq]
  constructor
  · intro e; rw [e]; rfl
  · intro e; exact u8_eq e

theorem l1Ends_eq (s : ByteArray) (h : 1 ≤ s.size) (hs : s.size ≤ 9223372036854775807) : spec_l1Ends.f s = some (ends s) := by
  unfold spec_l1Ends.f
  rw [wrap_pred s.size (by omega) hs, if_pos (by omega), if_pos (by omega), ends_last h]

theorem hasSuffix_eq (s : ByteArray) (c : UInt8) (hs : s.size ≤ 9223372036854775807) : strings_HasSuffix.f s ⟨#[c]⟩ = some (s.data.toList.getLast? == some c) := by
  have hl : s.data.toList.length = s.size := data_length s
  unfold strings_HasSuffix.f stringslite_HasSuffix.f
  rw [size_one]
  by_cases h : 1 ≤ s.size
  · rw [if_pos (by omega), show ((1 : Nat) : Int) = 1 from rfl, wrap_pred s.size (by omega) hs, if_pos (by omega), if_pos (by omega), Option.bind_some, toList_one, Lib.toList_data, Int.toNat_natCast, extract_data, ← hl, List.take_length]
    have e : s.data.toList.drop (s.data.toList.length - 1) = [s.data.toList[s.data.toList.length - 1]'(by omega)] := by
      rw [List.drop_eq_getElem_cons (by omega), List.drop_of_length_le (by omega)]
    rw [e, List.getLast?_eq_getElem?, List.getElem?_eq_getElem (by omega)]
    congr 1
    rw [Bool.eq_iff_iff]
    simp
  · rw [if_neg (by omega), Option.bind_some]
    have : s.data.toList = [] := List.eq_nil_of_length_eq_zero (by omega)
    simp [this]

theorem isEnded_eq (s : ByteArray) (hs : s.size ≤ 9223372036854775807) : impl_isEnded.f s = some (ends s) := by
  unfold impl_isEnded.f
  rw [hasSuffix_eq s 10 hs]
  rfl

theorem areLines_l0 (l : List ByteArray) (hf : FitS l) : ∀ d i, i + d = l.length → ∃ j : Int, Ev (fun k => slices_IndexFunc_string_string__impl_areLines_1.l0 k l (l.length : Int) (i : Int)) j ∧ decide (j ≥ 0) = !((l.drop i).all isLn) := by
  intro d
  induction d with
  | zero =>
    intro i hi
    refine ⟨-1, Ev.step (fun k => slices_IndexFunc_string_string__impl_areLines_1.l0.eq_2 ..) (ev_neg (by omega) (ev_some rfl)), ?_⟩
    rw [List.drop_of_length_le (by omega)]
    rfl
  | succ d ih =>
    intro i hi
    have hlt : i < l.length := by omega
    have hev : Ev (fun k => impl_areLines_1.f k (rdOf ByteArray.empty l (i : Int))) (!isLn l[i]) := by
      rw [rdOf_lt _ _ _ hlt]
      simp only [impl_areLines_1.f]
      exact ev_bind (isLine_ev _ (hf.2 _ (List.getElem_mem _))) (ev_some rfl)
    obtain ⟨j, hj, hjj⟩ := ih (i + 1) (by omega)
    rw [drop_cons l i hlt, List.all_cons]
    by_cases h : isLn l[i] = true
    · refine ⟨j, Ev.step (fun k => slices_IndexFunc_string_string__impl_areLines_1.l0.eq_2 ..) (ev_pos (by omega) (ev_pos (by omega) (ev_pos (by omega) (ev_bind hev (ev_neg (by simp [h]) ?_))))), by rw [hjj, h]; simp⟩
      rw [wrap_succ i (by have := hf.1; omega)]
      exact hj
    · refine ⟨(i : Int), Ev.step (fun k => slices_IndexFunc_string_string__impl_areLines_1.l0.eq_2 ..) (ev_pos (by omega) (ev_pos (by omega) (ev_pos (by omega) (ev_bind hev (ev_pos (by simp [h]) (ev_some rfl)))))), ?_⟩
      simp [h]

theorem areLines_ev (l : List ByteArray) (hf : FitS l) : Ev (fun k => impl_areLines.f k l) (decide (l.length ≤ 40) && l.all isLn) := by
  simp only [impl_areLines.f]
  refine ev_ite (fun h => ?_) (fun h => ev_some ?_)
  · obtain ⟨j, hj, hjj⟩ := areLines_l0 l hf l.length 0 (by omega)
    simp only [slices_ContainsFunc_string_string__impl_areLines_1.f, slices_IndexFunc_string_string__impl_areLines_1.f]
    refine ev_bind (ev_bind hj (ev_some rfl)) (ev_some ?_)
    have : l.length ≤ 40 := by omega
    rw [hjj]
    simp [this]
  · have : ¬ l.length ≤ 40 := by omega
    simp [this]

theorem goodLines_l0 (l : List ByteArray) (hf : FitS l) : ∀ d i, i + d = l.length → Ev (fun k => impl_goodLines.l0 k l l (l.length : Int) (i : Int)) ((l.dropLast.drop i).all ends) := by
  intro d
  have hL := hf.1
  induction d with
  | zero =>
    intro i hi
    refine Ev.step (fun k => impl_goodLines.l0.eq_2 ..) (ev_neg (by omega) (ev_some ?_))
    rw [List.drop_of_length_le (by rw [List.length_dropLast]; omega)]
    rfl
  | succ d ih =>
    intro i hi
    have hlt : i < l.length := by omega
    refine Ev.step (fun k => impl_goodLines.l0.eq_2 ..) (ev_pos (by omega) (ev_pos (by omega) (ev_pos (by omega) ?_)))
    rw [wrap_pred l.length (by omega) hL, rdOf_lt _ _ _ hlt, isEnded_eq _ (hf.2 _ (List.getElem_mem _)), wrap_succ i (by omega)]
    simp only [Option.bind_some]
    refine ev_ite (fun h => ?_) (fun h => ?_)
    · have hd : l.dropLast.drop i = l[i] :: l.dropLast.drop (i + 1) := by
        rw [List.drop_eq_getElem_cons (by rw [List.length_dropLast]; omega), List.getElem_dropLast]
      rw [hd, List.all_cons]
      refine ev_ite (fun h => ?_) (fun h => ev_some (by simp [h]))
      rw [h, Bool.true_and]
      exact ih (i + 1) (by omega)
    · have e1 : l.dropLast.drop i = [] := List.drop_of_length_le (by rw [List.length_dropLast]; omega)
      have e2 : l.dropLast.drop (i + 1) = [] := List.drop_of_length_le (by rw [List.length_dropLast]; omega)
      have := ih (i + 1) (by omega)
      rw [e2] at this
      rw [e1]
      exact this

theorem goodLines_ev (l : List ByteArray) (hf : FitS l) : Ev (fun k => impl_goodLines.f k l) (good l) := by
  simp only [impl_goodLines.f]
  refine ev_bind (areLines_ev l hf) (ev_ite (fun h => ?_) (fun h => ev_some ?_))
  · refine ev_to (goodLines_l0 l hf l.length 0 (by omega)) ?_
    rw [List.drop_zero]
    unfold good
    rw [← Bool.and_assoc, h, Bool.true_and]
  · unfold good
    rw [← Bool.and_assoc]
    simp at h
    simp
    intro h1 h2
    exact absurd (h h1) (by simpa using h2)

theorem l1Good_l0 (l : List ByteArray) (hf : FitS l) : ∀ d i, i + d = l.length → Ev (fun k => spec_l1Good.l0 k l l (l.length : Int) (i : Int)) ((l.drop i).all isLn && (l.dropLast.drop i).all ends && decide (l.length ≤ 40)) := by
  intro d
  have hL := hf.1
  induction d with
  | zero =>
    intro i hi
    refine Ev.step (fun k => spec_l1Good.l0.eq_2 ..) (ev_neg (by omega) (ev_some ?_))
    rw [List.drop_of_length_le (by omega), List.drop_of_length_le (by rw [List.length_dropLast]; omega)]
    simp
    omega
  | succ d ih =>
    intro i hi
    have hlt : i < l.length := by omega
    refine Ev.step (fun k => spec_l1Good.l0.eq_2 ..) (ev_pos (by omega) (ev_pos (by omega) (ev_pos (by omega) ?_)))
    simp only [rdOf_lt _ _ _ hlt]
    rw [wrap_pred l.length (by omega) hL, wrap_succ i (by omega), drop_cons l i hlt, List.all_cons]
    refine ev_bind (l1Line_ev _ (hf.2 _ (List.getElem_mem _))) (ev_ite (fun h => ?_) (fun h => ev_some (by simp [h])))
    rw [h, Bool.true_and, l1Ends_eq _ (isLn_size h).1 (hf.2 _ (List.getElem_mem _))]
    simp only [Option.bind_some]
    refine ev_ite (fun h => ?_) (fun h => ?_)
    · have hd : l.dropLast.drop i = l[i] :: l.dropLast.drop (i + 1) := by
        rw [List.drop_eq_getElem_cons (by rw [List.length_dropLast]; omega), List.getElem_dropLast]
      rw [hd, List.all_cons]
      refine ev_ite (fun h => ?_) (fun h => ev_some (by simp [h]))
      rw [h, Bool.true_and]
      exact ih (i + 1) (by omega)
    · have e1 : l.dropLast.drop i = [] := List.drop_of_length_le (by rw [List.length_dropLast]; omega)
      have e2 : l.dropLast.drop (i + 1) = [] := List.drop_of_length_le (by rw [List.length_dropLast]; omega)
      have := ih (i + 1) (by omega)
      rw [e2] at this
      rw [e1]
      exact this

theorem l1Good_ev (l : List ByteArray) (hf : FitS l) : Ev (fun k => spec_l1Good.f k l) (good l) := by
  simp only [spec_l1Good.f]
  refine ev_to (l1Good_l0 l hf l.length 0 (by omega)) ?_
  rw [List.drop_zero, List.drop_zero]
  unfold good
  rw [Bool.and_comm]
end Go.Proofs.Ytcefenlblnediaa.Pl

/- Plain Lean: hunks that fit. No condition. -/
namespace Go.Proofs.Ytcefenlblnediaa.Pl
open Go.RowKit Go.Proofs.YtcefenlblnediaaW.PrintWords Go.Proofs.YtcefenlblnediaaW.PrintLast Go.Proofs.Ytcefenlblnediaa.My
set_option linter.unusedVariables false
set_option linter.unusedSimpArgs false
abbrev IH := S111
theorem rdIH (l : List IH) (i : Nat) (h : i < l.length) : rd_T111 l (i : Int) = l[i] := getD_lt l _ i h

theorem ih_ext {x y : IH} (h0 : x.f0 = y.f0) (h1 : x.f1 = y.f1) (h2 : x.f2 = y.f2) : x = y := by
  cases x; cases y; simp_all

/-- Hunks that came in fit. -/
def FitI (l : List IH) : Prop := l.length ≤ 9223372036854775807 ∧ ∀ x ∈ l, (-9223372036854775808 ≤ x.f0 ∧ x.f0 ≤ 9223372036854775807) ∧ (-9223372036854775808 ≤ x.f1 ∧ x.f1 ≤ 9223372036854775807) ∧ FitS x.f2

instance : DecidableEq IH := fun x y => decidable_of_iff (x.f0 = y.f0 ∧ x.f1 = y.f1 ∧ x.f2 = y.f2) ⟨fun ⟨a, b, c⟩ => ih_ext a b c, fun h => by rw [h]; exact ⟨rfl, rfl, rfl⟩⟩

end Go.Proofs.Ytcefenlblnediaa.Pl

/- Plain Lean: the reader of choices: hunks over a text. Asked: a reader that stands below 10^15, a text of at most 40 lines whose last one is not empty. -/
namespace Go.Proofs.Ytcefenlblnediaa.Pl
open Go.RowKit Go.Proofs.YtcefenlblnediaaW.PrintWords Go.Proofs.YtcefenlblnediaaW.PrintLast Go.Proofs.Ytcefenlblnediaa.My
set_option linter.unusedVariables false
set_option linter.unusedSimpArgs false
/-- One drawn hunk is small. -/
def SmX (x : IH) : Prop := (-1 ≤ x.f0 ∧ x.f0 ≤ 100) ∧ (0 ≤ x.f1 ∧ x.f1 ≤ 100) ∧ x.f2.length ≤ 2 ∧ ∀ s ∈ x.f2, s.size ≤ 8
def SmH (h : List IH) : Prop := h.length ≤ 6 ∧ ∀ x ∈ h, SmX x
/-- Drawn hunks, one of them spoilt at most. -/
def SmA (h : List IH) : Prop := h.length ≤ 6 ∧ ∀ x ∈ h, (-1 ≤ x.f0 ∧ x.f0 ≤ 100) ∧ (0 ≤ x.f1 ∧ x.f1 ≤ 103) ∧ x.f2.length ≤ 3 ∧ ∀ s ∈ x.f2, s.size ≤ 8
theorem smA_of {h : List IH} (q : SmH h) : SmA h := ⟨q.1, fun x hx => by
  have := q.2 x hx
  exact ⟨this.1, ⟨this.2.1.1, by have := this.2.1.2; omega⟩, by have := this.2.2.1; omega, this.2.2.2⟩⟩
theorem whole_some (l : List ByteArray) (hl : l.length ≤ 100) (hs : ∀ s ∈ l, s.size ≤ 9223372036854775807) (hx : ∀ x, l.getLast? = some x → 1 ≤ x.size) : ∃ b, spec_l1Whole.f l = some b := by
  unfold spec_l1Whole.f
  by_cases h : l.length = 0
  · exact ⟨true, by rw [if_pos (by omega)]⟩
  · have hm := List.getElem_mem (l := l) (n := l.length - 1) (by omega)
    have h1 : 1 ≤ (l[l.length - 1]'(by omega)).size := hx _ (by rw [List.getLast?_eq_getElem?, List.getElem?_eq_getElem (by omega)])
    refine ⟨ends (l[l.length - 1]'(by omega)), ?_⟩
    rw [if_neg (by omega), wrap_pred l.length (by omega) (by omega), if_pos (by omega), if_pos (by omega), rdOf_lt _ _ _ (by omega), l1Ends_eq _ h1 (hs _ hm)]
    rfl
theorem smH_snoc {h : List IH} (q : SmH h) (hl : h.length < 6) {x : IH} (hx : SmX x) : SmH (h ++ [x]) := by
  refine ⟨by rw [List.length_append, List.length_singleton]; omega, fun y hy => ?_⟩
  rcases List.mem_append.1 hy with hy | hy
  · exact q.2 y hy
  · rw [List.mem_singleton.1 hy]; exact hx
section
variable (c : List Int) (hc : Bytes8 c) (l : List ByteArray)
include hc
theorem hunks_l1 (h : List IH) (i at_ gone : Int) : ∀ (n : Nat) (acc : List ByteArray) (a s : Int), 0 ≤ a → a + 2 * n ≤ 1000000000000500 → acc.length + n ≤ 2 → (∀ s ∈ acc, s.size ≤ 8) →
    ∃ acc' a2 s2, (acc'.length ≤ 2 ∧ (∀ s ∈ acc', s.size ≤ 8) ∧ a ≤ a2 ∧ a2 ≤ a + 2 * n) ∧ ∀ R, Ev (fun k => spec_l1Cur_hunks.l1 k l h i 0 c a2 s2 at_ gone acc') R → Ev (fun k => spec_l1Cur_hunks.l1 k l h i (n : Int) c a s at_ gone acc) R := by
  intro n
  induction n with
  | zero => intro acc a s h0 h1 hl hs; exact ⟨acc, a, s, ⟨by omega, hs, by omega, by omega⟩, fun R h => h⟩
  | succ n ih =>
    intro acc a s h0 h1 hl hs
    obtain ⟨v, a2, s2, e, h2⟩ := line_some c hc a s h0 (by omega)
    have hz := nl_size v h2.1
    obtain ⟨acc', a3, s3, h3, hR⟩ := ih (acc ++ [v ++ (⟨#[10]⟩ : ByteArray)]) a2 s2 (by omega) (by omega) (by rw [List.length_append, List.length_singleton]; omega) (fun s hs' => by
      rcases List.mem_append.1 hs' with hs' | hs'
      · exact hs s hs'
      · rw [List.mem_singleton.1 hs']; exact hz.2)
    refine ⟨acc', a3, s3, ⟨h3.1, h3.2.1, by omega, by omega⟩, fun R hr => ?_⟩
    refine Ev.step (fun k => spec_l1Cur_hunks.l1.eq_2 ..) (ev_pos (by omega) (ev_bind (ev_const e) (ev_pos (by dsimp only; omega) (ev_pos (by omega) ?_))))
    rw [wrap64_id (x := ((n + 1 : Nat) : Int) - 1) (by omega) (by omega), show ((n + 1 : Nat) : Int) - 1 = (n : Int) from by omega]
    exact hR R hr
theorem hunks_l0 (hl : l.length ≤ 40) (hsz : ∀ s ∈ l, s.size ≤ 9223372036854775807) (hx : ∀ x, l.getLast? = some x → 1 ≤ x.size) : ∀ (d i : Nat) (h : List IH) (a s : Int), l.length + 1 ≤ i + d → i ≤ 100 → SmH h → 0 ≤ a → a + 20 * d ≤ 1000000000000300 →
    ∃ r a2 s2, Ev (fun k => spec_l1Cur_hunks.l0 k l h (i : Int) c a s) (r, a2, s2) ∧ SmH r ∧ a ≤ a2 ∧ a2 ≤ a + 20 * d := by
  intro d
  induction d with
  | zero =>
    intro i h a s hi hi2 hh h0 h1
    exact ⟨h, a, s, Ev.step (fun k => spec_l1Cur_hunks.l0.eq_2 ..) (ev_neg (by omega) (Ev.step (fun k => spec_l1Cur_hunks.j1.eq_2 ..) (ev_neg (by simp) (ev_some rfl)))), hh, by omega, by omega⟩
  | succ d ih =>
    intro i h a s hi hi2 hh h0 h1
    by_cases c1 : i ≤ l.length
    · by_cases c2 : h.length < 6
      · have hd : decide ((h.length : Int) < 6) = true := decide_eq_true (by omega)
        -- how many lines go
        have hle : ∃ m : Int, spec_l1Least.f 3 (wrap64 ((l.length : Int) - (i : Int))) = some m ∧ 0 ≤ m ∧ m ≤ 3 ∧ (i : Int) + m ≤ l.length := by
          unfold spec_l1Least.f
          rw [wrap64_id (by omega) (by omega)]
          by_cases c3 : (3 : Int) < (l.length : Int) - i
          · exact ⟨3, by rw [if_pos c3], by omega, by omega, by omega⟩
          · exact ⟨_, by rw [if_neg c3], by omega, by omega, by omega⟩
        obtain ⟨m, em, m0, m3, ml⟩ := hle
        obtain ⟨g, a2, s2, eg, hg⟩ := pick_some c hc a s (wrap64 (m + 1)) (at_of h0 (by omega))
        have hgm : g ≤ m := by
          have := hg.2.1
          rw [wrap64_id (by omega) (by omega)] at this
          omega
        obtain ⟨n, a3, s3, en, hn⟩ := pick_some c hc a2 s2 3 (at_of (by omega) (by omega))
        have hn2 : n = ((n.toNat : Nat) : Int) := by omega
        have hn3 : n.toNat ≤ 2 := by rcases hn.2.1 with q | q <;> omega
        obtain ⟨acc, a4, s4, hacc, hR⟩ := hunks_l1 c hc l h (i : Int) (i : Int) g n.toNat [] a3 s3 (by omega) (by omega) (by simpa using hn3) (fun s hs => by cases hs)
        obtain ⟨p, a5, s5, ep, hp⟩ := pick_some c hc a4 s4 3 (at_of (by omega) (by omega))
        have hp3 : p ≤ 2 := by rcases hp.2.1 with q | q <;> omega
        have ew : wrap64 ((i : Int) + (wrap64 ((wrap64 (g + 1)) + p))) = (((i + (g.toNat + 1 + p.toNat)) : Nat) : Int) := by
          rw [wrap64_id (x := g + 1) (by omega) (by omega), wrap64_id (x := g + 1 + p) (by omega) (by omega), wrap64_id (by omega) (by omega)]
          omega
        have fin : ∀ h2, SmH h2 → ∃ r a2 s2, Ev (fun k => (spec_l1Cur_pick.f c a4 s4 3).bind fun bt => spec_l1Cur_hunks.l0 k l h2 (wrap64 ((i : Int) + (wrap64 ((wrap64 (g + 1)) + bt.1)))) c bt.2.1 bt.2.2) (r, a2, s2) ∧ SmH r ∧ a ≤ a2 ∧ a2 ≤ a + 20 * (d + 1 : Nat) := by
          intro h2 hh2
          obtain ⟨r, a6, s6, er, hr⟩ := ih (i + (g.toNat + 1 + p.toNat)) h2 a5 s5 (by omega) (by omega) hh2 (by omega) (by omega)
          refine ⟨r, a6, s6, ev_bind (ev_const ep) ?_, hr.1, by omega, by omega⟩
          dsimp only
          rw [ew]
          exact er
        have hX : SmX (⟨(i : Int), g, acc⟩ : IH) := ⟨⟨by dsimp only; omega, by dsimp only; omega⟩, ⟨by dsimp only; omega, by dsimp only; omega⟩, hacc.1, hacc.2.1⟩
        have hh3 := smH_snoc hh c2 hX
        have top : ∀ R, Ev (fun k => spec_l1Cur_hunks.l1 k l h (i : Int) 0 c a4 s4 (i : Int) g acc) R → Ev (fun k => spec_l1Cur_hunks.l0 k l h (i : Int) c a s) R := by
          intro R hr
          refine Ev.step (fun k => spec_l1Cur_hunks.l0.eq_2 ..) (ev_pos (by omega) ?_)
          rw [hd]
          refine Ev.step (fun k => spec_l1Cur_hunks.j1.eq_2 ..) (ev_pos rfl (ev_bind (ev_const em) (ev_bind (ev_const eg) (ev_bind (ev_const en) ?_))))
          dsimp only
          rw [hn2]
          exact hR R hr
        have e1 : wrap64 (g + (acc.length : Int)) = g + acc.length := by have := hacc.1; rw [wrap64_id (by omega) (by omega)]
        have e2 : wrap64 ((i : Int) + g) = i + g := by rw [wrap64_id (by omega) (by omega)]
        have hl6 : h.length < 3518437208883 := by omega
        by_cases c4 : g + (acc.length : Int) > 0
        · obtain ⟨r, a6, s6, er, hr⟩ := fin _ hh3
          by_cases c5 : (i : Int) + g < (l.length : Int)
          · exact ⟨r, a6, s6, top _ (Ev.step (fun k => spec_l1Cur_hunks.l1.eq_2 ..) (ev_neg (by omega) (ev_pos (by rw [e1]; exact c4) (ev_pos (by rw [e2]; exact c5) (ev_pos hl6 er))))), hr⟩
          · obtain ⟨b, eb⟩ := whole_some l (by omega) hsz hx
            cases b with
            | true => exact ⟨r, a6, s6, top _ (Ev.step (fun k => spec_l1Cur_hunks.l1.eq_2 ..) (ev_neg (by omega) (ev_pos (by rw [e1]; exact c4) (ev_neg (by rw [e2]; exact c5) (ev_bind (ev_const eb) (ev_pos rfl (ev_pos hl6 er))))))), hr⟩
            | false =>
              by_cases c6 : g > 0
              · exact ⟨r, a6, s6, top _ (Ev.step (fun k => spec_l1Cur_hunks.l1.eq_2 ..) (ev_neg (by omega) (ev_pos (by rw [e1]; exact c4) (ev_neg (by rw [e2]; exact c5) (ev_bind (ev_const eb) (ev_neg (by simp) (ev_pos c6 (ev_pos hl6 er)))))))), hr⟩
              · obtain ⟨r2, a7, s7, er2, hr2⟩ := fin _ hh
                exact ⟨r2, a7, s7, top _ (Ev.step (fun k => spec_l1Cur_hunks.l1.eq_2 ..) (ev_neg (by omega) (ev_pos (by rw [e1]; exact c4) (ev_neg (by rw [e2]; exact c5) (ev_bind (ev_const eb) (ev_neg (by simp) (ev_neg c6 er2))))))), hr2⟩
        · obtain ⟨r, a6, s6, er, hr⟩ := fin _ hh
          exact ⟨r, a6, s6, top _ (Ev.step (fun k => spec_l1Cur_hunks.l1.eq_2 ..) (ev_neg (by omega) (ev_neg (by rw [e1]; exact c4) er))), hr⟩
      · exact ⟨h, a, s, Ev.step (fun k => spec_l1Cur_hunks.l0.eq_2 ..) (ev_pos (by omega) (by
          rw [decide_eq_false (by omega)]
          exact Ev.step (fun k => spec_l1Cur_hunks.j1.eq_2 ..) (ev_neg (by simp) (ev_some rfl)))), hh, by omega, by omega⟩
    · exact ⟨h, a, s, Ev.step (fun k => spec_l1Cur_hunks.l0.eq_2 ..) (ev_neg (by omega) (Ev.step (fun k => spec_l1Cur_hunks.j1.eq_2 ..) (ev_neg (by simp) (ev_some rfl)))), hh, by omega, by omega⟩
theorem hunks_some (hl : l.length ≤ 40) (hsz : ∀ s ∈ l, s.size ≤ 9223372036854775807) (hx : ∀ x, l.getLast? = some x → 1 ≤ x.size) (a s : Int) (h0 : 0 ≤ a) (h1 : a ≤ 999999999999000) :
    ∃ r a2 s2, Ev (fun k => spec_l1Cur_hunks.f k c a s l) (r, a2, s2) ∧ SmH r ∧ a ≤ a2 ∧ a2 ≤ a + 830 := by
  simp only [spec_l1Cur_hunks.f]
  obtain ⟨v, a2, s2, e, h2⟩ := pick_some c hc a s 3 (at_of h0 (by omega))
  have hv : v = ((v.toNat : Nat) : Int) := by omega
  have hv3 : v ≤ 2 := by rcases h2.2.1 with q | q <;> omega
  obtain ⟨r, a3, s3, er, hr⟩ := hunks_l0 c hc l hl hsz hx 41 v.toNat [] a2 s2 (by omega) (by omega) ⟨Nat.zero_le _, fun x hx => by cases hx⟩ (by omega) (by omega)
  rw [← hv] at er
  exact ⟨r, a3, s3, ev_bind (ev_const e) er, hr.1, by omega, by omega⟩
omit hc in
theorem rdIHm (h : List IH) (k : Int) (h0 : 0 ≤ k) (h1 : k < (h.length : Int)) : rd_T111 h k ∈ h := by
  have e : rd_T111 h k = h[k.toNat]'(by omega) := getD_lt h _ k.toNat (by omega)
  rw [e]
  exact List.getElem_mem _
omit hc in
theorem smA_set {h : List IH} (q : SmH h) (k : Nat) (x : IH) (hx : (-1 ≤ x.f0 ∧ x.f0 ≤ 100) ∧ (0 ≤ x.f1 ∧ x.f1 ≤ 103) ∧ x.f2.length ≤ 3 ∧ ∀ s ∈ x.f2, s.size ≤ 8) : SmA (h.set k x) := by
  refine ⟨by rw [List.length_set]; exact q.1, fun y hy => ?_⟩
  rcases List.mem_or_eq_of_mem_set hy with hy | rfl
  · exact (smA_of q).2 y hy
  · exact hx
theorem anyHunks_some (hl : l.length ≤ 40) (hsz : ∀ s ∈ l, s.size ≤ 9223372036854775807) (hx : ∀ x, l.getLast? = some x → 1 ≤ x.size) (a s : Int) (h0 : 0 ≤ a) (h1 : a ≤ 999999999998000) :
    ∃ r a2 s2, Ev (fun k => spec_l1Cur_anyHunks.f k c a s l) (r, a2, s2) ∧ SmA r ∧ a ≤ a2 ∧ a2 ≤ a + 840 := by
  simp only [spec_l1Cur_anyHunks.f]
  obtain ⟨h, a2, s2, e, h2⟩ := hunks_some c hc l hl hsz hx a s h0 (by omega)
  by_cases c1 : (h.length : Int) > 0
  · obtain ⟨k, a3, s3, ek, hk⟩ := pick_some c hc a2 s2 (h.length : Int) (at_of (by omega) (by omega))
    have k1 : k < (h.length : Int) := by rcases hk.2.1 with q | q <;> omega
    have hm := h2.1.2 _ (rdIHm h k hk.1 k1)
    have hl6 := h2.1.1
    obtain ⟨v, a4, s4, ev, hv⟩ := pick_some c hc a3 s3 25 (at_of (by omega) (by omega))
    by_cases v0 : v = 0
    · obtain ⟨z, a5, s5, ez, hz, hz2⟩ := among_some c hc a4 s4 (at_of (by omega) (by omega)) [(-1), 40, 3] (by simp)
      refine ⟨_, a5, s5, ev_bind e (ev_pos c1 (ev_bind (ev_const ek) (ev_bind (ev_const ev) (ev_pos v0 (ev_bind (ev_const ez) (ev_pos hk.1 (ev_pos k1 (ev_some rfl)))))))), smA_set h2.1 _ _ ⟨?_, ⟨hm.2.1.1, by have := hm.2.1.2; dsimp only; omega⟩, by have := hm.2.2.1; dsimp only; omega, hm.2.2.2⟩, by omega, by omega⟩
      simp only [List.mem_cons, List.not_mem_nil, or_false] at hz
      dsimp only
      omega
    · by_cases v1 : v = 1
      · refine ⟨_, a4, s4, ev_bind e (ev_pos c1 (ev_bind (ev_const ek) (ev_bind (ev_const ev) (ev_neg v0 (ev_pos v1 (ev_pos hk.1 (ev_pos k1 (ev_some rfl)))))))), smA_set h2.1 _ _ ⟨hm.1, ?_, by have := hm.2.2.1; dsimp only; omega, hm.2.2.2⟩, by omega, by omega⟩
        have := hm.2.1
        dsimp only
        rw [wrap64_id (by omega) (by omega)]
        omega
      · by_cases v2 : v = 2
        · refine ⟨_, a4, s4, ev_bind e (ev_pos c1 (ev_bind (ev_const ek) (ev_bind (ev_const ev) (ev_neg v0 (ev_neg v1 (ev_pos v2 (ev_pos hk.1 (ev_pos k1 (ev_some rfl))))))))), smA_set h2.1 _ _ ⟨hm.1, ⟨hm.2.1.1, by have := hm.2.1.2; dsimp only; omega⟩, (show ([(⟨#[]⟩ : ByteArray)] : List ByteArray).length ≤ 3 by decide), fun s hs => ?_⟩, by omega, by omega⟩
          rw [List.mem_singleton.1 hs]
          decide
        · by_cases v3 : v = 3
          · refine ⟨_, a4, s4, ev_bind e (ev_pos c1 (ev_bind (ev_const ek) (ev_bind (ev_const ev) (ev_neg v0 (ev_neg v1 (ev_neg v2 (ev_pos v3 (ev_pos hk.1 (ev_pos k1 (ev_pos (by have := hm.2.2.1; dsimp only; omega) (ev_some rfl))))))))))), smA_set h2.1 _ _ ⟨hm.1, ⟨hm.2.1.1, by have := hm.2.1.2; dsimp only; omega⟩, by have := hm.2.2.1; dsimp only; rw [List.length_append, List.length_singleton]; omega, fun s hs => ?_⟩, by omega, by omega⟩
            rcases List.mem_append.1 hs with hs | hs
            · exact hm.2.2.2 s hs
            · rw [List.mem_singleton.1 hs]
              decide
          · exact ⟨h, a4, s4, ev_bind e (ev_pos c1 (ev_bind (ev_const ek) (ev_bind (ev_const ev) (ev_neg v0 (ev_neg v1 (ev_neg v2 (ev_neg v3 (ev_some rfl)))))))), smA_of h2.1, by omega, by omega⟩
  · exact ⟨h, a2, s2, ev_bind e (ev_neg c1 (ev_some rfl)), smA_of h2.1, by omega, by omega⟩
end
theorem hunked_some (c : List Int) (hc : Bytes8 c) (a s : Int) (h0 : 0 ≤ a) (h1 : a ≤ 999999999997000) :
    ∃ l h a2 s2, Ev (fun k => spec_l1Cur_hunked.f k c a s) (l, h, a2, s2) ∧ SmT l ∧ SmA h ∧ a ≤ a2 ∧ a2 ≤ a + 870 := by
  simp only [spec_l1Cur_hunked.f]
  obtain ⟨l, a2, s2, e, h2⟩ := anyText_some c hc a s h0 (by omega)
  obtain ⟨h, a3, s3, e3, h3⟩ := anyHunks_some c hc l (by have := h2.1.1; omega) (fun s hs => by have := h2.1.2.1 s hs; omega) h2.1.2.2 a2 s2 (by omega) (by omega)
  exact ⟨l, h, a3, s3, ev_bind e (ev_bind e3 (ev_some rfl)), h2.1, h3.1, by omega, by omega⟩
theorem fitS_smT {l : List ByteArray} (h : SmT l) : FitS l := ⟨by have := h.1; omega, fun s hs => by have := h.2.1 s hs; omega⟩
theorem fitI_smA {h : List IH} (q : SmA h) : FitI h := ⟨by have := q.1; omega, fun x hx => by
  have := q.2 x hx
  exact ⟨⟨by omega, by omega⟩, ⟨by omega, by omega⟩, by omega, fun s hs => by have := this.2.2.2 s hs; omega⟩⟩
end Go.Proofs.Ytcefenlblnediaa.Pl

/- Plain Lean: a list of texts is the same as itself, and so is a list of hunks. Asked: lengths below 2^62. -/
namespace Go.Proofs.Ytcefenlblnediaa.Pl
open Go.RowKit Go.Proofs.YtcefenlblnediaaW.PrintWords Go.Proofs.YtcefenlblnediaaW.PrintLast Go.Proofs.Ytcefenlblnediaa.My
set_option linter.unusedVariables false
theorem sameTexts_l0 (l : List ByteArray) (hl : l.length ≤ 4611686018427387904) : ∀ d i, i + d = l.length → Ev (fun k => laws_sameTexts.l0 k l l (l.length : Int) (i : Int)) true := by
  intro d
  induction d with
  | zero => intro i hi; exact Ev.step (fun k => laws_sameTexts.l0.eq_2 ..) (ev_neg (by omega) (ev_some rfl))
  | succ d ih =>
    intro i hi
    refine Ev.step (fun k => laws_sameTexts.l0.eq_2 ..) (ev_pos (by omega) (ev_pos (by omega) (ev_pos (by omega) (ev_pos (by omega) (ev_pos rfl ?_)))))
    rw [wrap_succ i (by omega)]
    exact ih (i + 1) (by omega)
theorem sameTexts_self (l : List ByteArray) (hl : l.length ≤ 4611686018427387904) : Ev (fun k => laws_sameTexts.f k l l) true := by
  unfold laws_sameTexts.f
  exact ev_pos rfl (sameTexts_l0 l hl l.length 0 (by omega))
end Go.Proofs.Ytcefenlblnediaa.Pl

/- Plain Lean: a list of hunks is the same as itself. Asked: lengths below 2^62. -/
namespace Go.Proofs.Ytcefenlblnediaa.Pl
open Go.RowKit Go.Proofs.YtcefenlblnediaaW.PrintWords Go.Proofs.YtcefenlblnediaaW.PrintLast Go.Proofs.Ytcefenlblnediaa.My
set_option linter.unusedVariables false
theorem sameHunks_l0 (h : List IH) (hl : h.length ≤ 4611686018427387904) (hs : ∀ x ∈ h, x.f2.length ≤ 4611686018427387904) : ∀ d i, i + d = h.length → Ev (fun k => laws_sameHunks.l0 k h h (h.length : Int) (i : Int)) true := by
  intro d
  induction d with
  | zero => intro i hi; exact Ev.step (fun k => laws_sameHunks.l0.eq_2 ..) (ev_neg (by omega) (ev_some rfl))
  | succ d ih =>
    intro i hi
    have hlt : i < h.length := by omega
    have hr : rd_T111 h (i : Int) = h[i] := getD_lt h _ i hlt
    refine Ev.step (fun k => laws_sameHunks.l0.eq_2 ..) (ev_pos (by omega) (ev_pos (by omega) (ev_pos (by omega) (ev_pos (by omega) (ev_pos rfl (ev_pos rfl ?_))))))
    rw [wrap_succ i (by omega), hr]
    exact ev_bind (sameTexts_self _ (hs _ (List.getElem_mem _))) (ev_pos rfl (ih (i + 1) (by omega)))
theorem sameHunks_self (h : List IH) (hl : h.length ≤ 4611686018427387904) (hs : ∀ x ∈ h, x.f2.length ≤ 4611686018427387904) : Ev (fun k => laws_sameHunks.f k h h) true := by
  unfold laws_sameHunks.f
  exact ev_pos rfl (sameHunks_l0 h hl hs h.length 0 (by omega))
end Go.Proofs.Ytcefenlblnediaa.Pl

/- Plain Lean: chapter 2: when hunks are good, for the program and the reference. Conditions: lengths and sizes below 2^63. -/
namespace Go.Proofs.Ytcefenlblnediaa.Pl
open Go.RowKit Go.Proofs.YtcefenlblnediaaW.PrintWords Go.Proofs.YtcefenlblnediaaW.PrintLast Go.Proofs.Ytcefenlblnediaa.My
set_option linter.unusedVariables false
set_option linter.unusedSimpArgs false

/-- What one hunk must be, the last one having ended at p. -/
def hNum (n p : Int) (x : IH) : Prop := 0 ≤ x.f0 ∧ 0 ≤ x.f1 ∧ x.f0 + x.f1 ≤ n ∧ ¬ (x.f1 = 0 ∧ x.f2.length = 0) ∧ x.f2.length ≤ 40 ∧ p < x.f0
instance (n p : Int) (x : IH) : Decidable (hNum n p x) := by unfold hNum; infer_instance
def hOK (n p : Int) (x : IH) : Bool := decide (hNum n p x) && x.f2.all isLn
/-- Each starts past the last one's end. -/
def chain (n : Int) : Int → List IH → Bool
  | _, [] => true
  | p, x :: t => hOK n p x && chain n (x.f0 + x.f1) t
def goodH (n : Int) (h : List IH) : Bool := inB n 0 40 && (decide (h.length ≤ 20) && chain n (-1) h)

/-- Where the last one before place i ended. -/
def before (n : Int) (h : List IH) (i : Nat) (p : Int) : Prop := (i = 0 ∧ p = -1) ∨ ∃ (j : Nat) (hj : j < h.length), i = j + 1 ∧ p = h[j].f0 + h[j].f1 ∧ 0 ≤ h[j].f0 ∧ 0 ≤ h[j].f1 ∧ p ≤ n

theorem chain_cons (n p : Int) (h : List IH) (i : Nat) (hi : i < h.length) : chain n p (h.drop i) = (hOK n p h[i] && chain n (h[i].f0 + h[i].f1) (h.drop (i + 1))) := by
  rw [List.drop_eq_getElem_cons hi]
  rfl

theorem goodHunks_l0 (n : Int) (h : List IH) (hf : FitI h) (h0 : 0 ≤ n) (h1 : n ≤ 40) : ∀ d i p, i + d = h.length → before n h i p → Ev (fun k => impl_goodHunks.l0 k n h h (h.length : Int) (i : Int)) (chain n p (h.drop i)) := by
  intro d
  have hL := hf.1
  induction d with
  | zero =>
    intro i p hi hp
    refine Ev.step (fun k => impl_goodHunks.l0.eq_2 ..) (ev_neg (by omega) (ev_some ?_))
    rw [List.drop_of_length_le (by omega)]
    rfl
  | succ d ih =>
    intro i p hi hp
    have hlt : i < h.length := by omega
    obtain ⟨b0, b1, b2⟩ := hf.2 _ (List.getElem_mem hlt)
    refine Ev.step (fun k => impl_goodHunks.l0.eq_2 ..) ?_
    simp only [rdIH h i hlt, impl_in_eq, Option.bind_some, chain_cons n p h i hlt]
    generalize hx : h[i] = x at *
    have bad : ¬ (hNum n (-1) x ∧ x.f2.all isLn = true) → Ev (fun k => impl_goodHunks.j2 k n h (i : Int) h (h.length : Int) (i : Int) true x.f0 x.f1 x.f2) (hOK n p x && chain n (x.f0 + x.f1) (h.drop (i + 1))) := by
      intro hb
      refine Ev.step (fun k => impl_goodHunks.j2.eq_2 ..) (ev_pos rfl (ev_some ?_))
      have : hOK n p x = false := by
        rw [Bool.eq_false_iff]
        intro ht
        unfold hOK at ht
        rw [Bool.and_eq_true, decide_eq_true_eq] at ht
        obtain ⟨⟨q0, q1, q2, q3, q4, q5⟩, q6⟩ := ht
        exact hb ⟨⟨q0, q1, q2, q3, q4, by omega⟩, q6⟩
      rw [this]
      rfl
    have ok : hNum n (-1) x → x.f2.all isLn = true → Ev (fun k => impl_goodHunks.j2 k n h (i : Int) h (h.length : Int) (i : Int) false x.f0 x.f1 x.f2) (hOK n p x && chain n (x.f0 + x.f1) (h.drop (i + 1))) := by
      intro hb hl
      obtain ⟨q0, q1, q2, q3, q4, q5⟩ := hb
      have nx : before n h (i + 1) (x.f0 + x.f1) := .inr ⟨i, hlt, rfl, by rw [hx], by rw [hx]; exact q0, by rw [hx]; exact q1, q2⟩
      have go : p < x.f0 → Ev (fun k => impl_goodHunks.l0 k n h h (h.length : Int) (wrap64 ((i : Int) + 1))) (hOK n p x && chain n (x.f0 + x.f1) (h.drop (i + 1))) := by
        intro hp
        rw [wrap_succ i (by omega)]
        refine ev_to (ih (i + 1) _ (by omega) nx) ?_
        have : hOK n p x = true := by
          unfold hOK
          rw [Bool.and_eq_true, decide_eq_true_eq]
          exact ⟨⟨q0, q1, q2, q3, q4, hp⟩, hl⟩
        rw [this, Bool.true_and]
      refine Ev.step (fun k => impl_goodHunks.j2.eq_2 ..) (ev_neg (by simp) (ev_ite (fun hi0 => ?_) (fun hi0 => go ?_)))
      · rcases hp with ⟨e, _⟩ | ⟨j, hj, rfl, rfl, r0, r1, r2⟩
        · omega
        · have ew : wrap64 (((j + 1 : Nat) : Int) - 1) = (j : Int) := by rw [wrap64_id (by omega) (by omega)]; omega
          simp only [ew, rdIH h j hj]
          rw [wrap64_id (by omega) (by omega)]
          refine ev_pos (by omega) (ev_pos (by omega) (ev_ite (fun hc => ev_some ?_) (fun hc => go (by omega))))
          have : hOK n (h[j].f0 + h[j].f1) x = false := by
            rw [Bool.eq_false_iff]
            intro ht
            unfold hOK at ht
            rw [Bool.and_eq_true, decide_eq_true_eq] at ht
            have := ht.1.2.2.2.2.2
            omega
          rw [this]
          rfl
      · rcases hp with ⟨_, e⟩ | ⟨j, hj, e, _⟩ <;> omega
    refine ev_pos (by omega) (ev_pos (by omega) (ev_pos (by omega) (ev_ite (fun c0 => ?_) (fun c0 => bad (fun hb => c0 ?_)))))
    · rw [inB_iff] at c0
      rw [wrap64_id (by omega) (by omega)]
      refine ev_ite (fun c1 => ?_) (fun c1 => bad (fun hb => c1 ?_))
      · rw [inB_iff] at c1
        refine ev_bind (areLines_ev x.f2 b2) (ev_ite (fun c2 => ?_) (fun c2 => bad (fun hb => c2 ?_)))
        · rw [Bool.and_eq_true, decide_eq_true_eq] at c2
          refine ev_ite (fun c3 => ?_) (fun c3 => ok ⟨c0.1, c1.1, by omega, fun e => c3 e.1, c2.1, by omega⟩ c2.2)
          by_cases c4 : x.f2.length = 0
          · rw [show (((x.f2.length : Int) == 0) = true) from by rw [c4]; rfl]
            exact bad (fun hb => hb.1.2.2.2.1 ⟨c3, c4⟩)
          · rw [show (((x.f2.length : Int) == 0) = false) from by rw [beq_eq_false_iff_ne]; omega]
            exact ok ⟨c0.1, c1.1, by omega, fun e => c4 e.2, c2.1, by omega⟩ c2.2
        · rw [Bool.and_eq_true, decide_eq_true_eq]
          exact ⟨hb.1.2.2.2.2.1, hb.2⟩
      · rw [inB_iff]
        obtain ⟨⟨q0, q1, q2, q3, q4, q5⟩, q6⟩ := hb
        omega
    · rw [inB_iff]
      obtain ⟨⟨q0, q1, q2, q3, q4, q5⟩, q6⟩ := hb
      omega

theorem goodHunks_ev (n : Int) (h : List IH) (hf : FitI h) : Ev (fun k => impl_goodHunks.f k n h) (goodH n h) := by
  simp only [impl_goodHunks.f, impl_in_eq, Option.bind_some]
  unfold goodH
  refine ev_ite (fun c => ?_) (fun c => ?_)
  · rw [c, Bool.true_and]
    rw [inB_iff] at c
    refine Ev.step (fun k => impl_goodHunks.j0.eq_2 ..) (ev_ite (fun e => ev_some ?_) (fun e => ?_))
    · rw [decide_eq_true_eq] at e
      rw [decide_eq_false (by omega), Bool.false_and]
    · rw [decide_eq_true_eq] at e
      rw [decide_eq_true (by omega), Bool.true_and]
      exact goodHunks_l0 n h hf c.1 c.2 h.length 0 (-1) (by omega) (.inl ⟨rfl, rfl⟩)
  · refine Ev.step (fun k => impl_goodHunks.j0.eq_2 ..) (ev_pos rfl (ev_some ?_))
    rw [Bool.not_eq_true] at c
    rw [c, Bool.false_and]
end Go.Proofs.Ytcefenlblnediaa.Pl

/- Plain Lean: chapter 2: when hunks are good for the reference: as for the program. Conditions: lengths and sizes below 2^63. -/
namespace Go.Proofs.Ytcefenlblnediaa.Pl
open Go.RowKit Go.Proofs.YtcefenlblnediaaW.PrintWords Go.Proofs.YtcefenlblnediaaW.PrintLast Go.Proofs.Ytcefenlblnediaa.My
set_option linter.unusedVariables false
set_option linter.unusedSimpArgs false

theorem wrap_zero (a : Int) (m : Nat) (h0 : 0 ≤ a) (h1 : a ≤ 9223372036854775807) (h2 : m ≤ 9223372036854775807) : wrap64 (a + (m : Int)) = 0 ↔ a = 0 ∧ m = 0 := by
  unfold wrap64
  omega

theorem l2Hunks_l0 (n : Int) (h : List IH) (hf : FitI h) (hn0 : -9223372036854775808 ≤ n) (hn : n ≤ 9223372036854775807) : ∀ d i p, i + d = h.length → before n h i p → Ev (fun k => spec_l2Hunks.l0 k n h h (h.length : Int) (i : Int)) (chain n p (h.drop i) && (decide (h.length ≤ 20) && inB n 0 40)) := by
  intro d
  have hL := hf.1
  induction d with
  | zero =>
    intro i p hi hp
    refine Ev.step (fun k => spec_l2Hunks.l0.eq_2 ..) (ev_neg (by omega) ?_)
    rw [List.drop_of_length_le (by omega)]
    simp only [spec_l1In_eq, Option.bind_some]
    refine ev_ite (fun c => ev_some ?_) (fun c => ev_some ?_)
    · rw [decide_eq_true (by omega)]
      rfl
    · rw [decide_eq_false (by omega)]
      rfl
  | succ d ih =>
    intro i p hi hp
    have hlt : i < h.length := by omega
    obtain ⟨b0, b1, b2⟩ := hf.2 _ (List.getElem_mem hlt)
    refine Ev.step (fun k => spec_l2Hunks.l0.eq_2 ..) ?_
    simp only [rdIH h i hlt, chain_cons n p h i hlt]
    generalize hx : h[i] = x at *
    have no : ¬ (hNum n p x ∧ x.f2.all isLn = true) → hOK n p x = false := by
      intro hb
      rw [Bool.eq_false_iff]
      intro ht
      unfold hOK at ht
      rw [Bool.and_eq_true, decide_eq_true_eq] at ht
      exact hb ht
    have bad : ¬ hNum n p x → Ev (fun k => spec_l2Hunks.j1 k n h h (h.length : Int) (i : Int) true x.f0 x.f1 x.f2) (hOK n p x && chain n (x.f0 + x.f1) (h.drop (i + 1)) && (decide (h.length ≤ 20) && inB n 0 40)) := by
      intro hb
      refine Ev.step (fun k => spec_l2Hunks.j1.eq_2 ..) (ev_pos rfl (ev_some ?_))
      rw [no (fun c => hb c.1)]
      rfl
    have ok : hNum n p x → Ev (fun k => spec_l2Hunks.j1 k n h h (h.length : Int) (i : Int) false x.f0 x.f1 x.f2) (hOK n p x && chain n (x.f0 + x.f1) (h.drop (i + 1)) && (decide (h.length ≤ 20) && inB n 0 40)) := by
      intro hb
      have nx : before n h (i + 1) (x.f0 + x.f1) := .inr ⟨i, hlt, rfl, by rw [hx], by rw [hx]; exact hb.1, by rw [hx]; exact hb.2.1, hb.2.2.1⟩
      have lp : ∀ e r, r + e = x.f2.length → Ev (fun k => spec_l2Hunks.l1 k n h h (h.length : Int) (i : Int) x.f2 (x.f2.length : Int) (r : Int)) (((x.f2.drop r).all isLn && chain n (x.f0 + x.f1) (h.drop (i + 1))) && (decide (h.length ≤ 20) && inB n 0 40)) := by
        intro e
        have hT := b2.1
        induction e with
        | zero =>
          intro r hr
          refine Ev.step (fun k => spec_l2Hunks.l1.eq_2 ..) (ev_neg (by omega) ?_)
          rw [List.drop_of_length_le (l := x.f2) (by omega), wrap_succ i (by omega), List.all_nil, Bool.true_and]
          exact ih (i + 1) _ (by omega) nx
        | succ e ihe =>
          intro r hr
          have hrt : r < x.f2.length := by omega
          refine Ev.step (fun k => spec_l2Hunks.l1.eq_2 ..) (ev_pos (by omega) (ev_pos (by omega) (ev_pos (by omega) ?_)))
          rw [rdOf_lt _ _ _ hrt, drop_cons x.f2 r hrt, List.all_cons]
          refine ev_bind (l1Line_ev _ (b2.2 _ (List.getElem_mem hrt))) (ev_ite (fun c => ?_) (fun c => ev_some ?_))
          · rw [wrap_succ r (by omega), c, Bool.true_and]
            exact ihe (r + 1) (by omega)
          · rw [Bool.not_eq_true] at c
            rw [c]
            rfl
      refine Ev.step (fun k => spec_l2Hunks.j1.eq_2 ..) (ev_neg (by simp) (ev_to (lp x.f2.length 0 (by omega)) ?_))
      unfold hOK
      rw [decide_eq_true hb, Bool.true_and, List.drop_zero]
    refine ev_pos (by omega) (ev_pos (by omega) (ev_pos (by omega) (ev_ite (fun c => bad (fun hb => ?_)) (fun c0 => ev_ite (fun c => bad (fun hb => ?_)) (fun c1 => ev_ite (fun c => bad (fun hb => ?_)) (fun c2 => ?_))))))
    · have := hb.1
      omega
    · have := hb.2.1
      omega
    · obtain ⟨q0, q1, q2, q3, q4, q5⟩ := hb
      omega
    rw [wrap64_id (x := n - x.f1) (by omega) (by omega)]
    refine ev_ite (fun c => bad (fun hb => ?_)) (fun c3 => ev_ite (fun c => bad (fun hb => ?_)) (fun c4 => ev_ite (fun c => bad (fun hb => ?_)) (fun c5 => ?_)))
    · have := hb.2.2.1
      omega
    · rw [wrap_zero _ _ (by omega) (by omega) b2.1] at c
      exact hb.2.2.2.1 c
    · have := hb.2.2.2.2.1
      omega
    rw [wrap_zero _ _ (by omega) (by omega) b2.1] at c4
    rcases hp with ⟨rfl, rfl⟩ | ⟨j, hj, rfl, rfl, r0, r1, r2⟩
    · refine ev_neg (by omega) (ok ⟨by omega, by omega, by omega, c4, by omega, by omega⟩)
    · have ew : wrap64 (((j + 1 : Nat) : Int) - 1) = (j : Int) := by rw [wrap64_id (by omega) (by omega)]; omega
      simp only [ew, rdIH h j hj]
      rw [wrap64_id (x := h[j].f0 + h[j].f1) (by omega) (by omega)]
      refine ev_pos (by omega) (ev_pos (by omega) (ev_pos (by omega) ?_))
      by_cases c : x.f0 ≤ h[j].f0 + h[j].f1
      · rw [decide_eq_true c]
        refine bad (fun hb => ?_)
        have := hb.2.2.2.2.2
        omega
      · rw [decide_eq_false c]
        exact ok ⟨by omega, by omega, by omega, c4, by omega, by omega⟩

theorem l2Hunks_ev (n : Int) (h : List IH) (hf : FitI h) (hn0 : -9223372036854775808 ≤ n) (hn : n ≤ 9223372036854775807) : Ev (fun k => spec_l2Hunks.f k n h) (goodH n h) := by
  simp only [spec_l2Hunks.f]
  refine ev_to (l2Hunks_l0 n h hf hn0 hn h.length 0 (-1) (by omega) (.inl ⟨rfl, rfl⟩)) ?_
  unfold goodH
  rw [List.drop_zero]
  cases inB n 0 40 <;> cases chain n (-1) h <;> cases decide (h.length ≤ 20) <;> rfl
end Go.Proofs.Ytcefenlblnediaa.Pl

/- Plain Lean: chapter 2: good hunks' numbers are small. No condition. -/
namespace Go.Proofs.Ytcefenlblnediaa.Pl
open Go.RowKit Go.Proofs.YtcefenlblnediaaW.PrintWords Go.Proofs.YtcefenlblnediaaW.PrintLast Go.Proofs.Ytcefenlblnediaa.My
set_option linter.unusedVariables false
set_option linter.unusedSimpArgs false

/-- All numbers small. -/
def near (h : List IH) : Prop := ∀ x ∈ h, 0 ≤ x.f0 ∧ x.f0 ≤ 40 ∧ 0 ≤ x.f1 ∧ x.f1 ≤ 40 ∧ x.f2.length ≤ 40

theorem near_of_chain {n : Int} (hn : n ≤ 40) : ∀ (h : List IH) (p : Int), chain n p h = true → near h := by
  intro h
  induction h with
  | nil => intro p _ x hx; simp at hx
  | cons y t ih =>
    intro p hc x hx
    simp only [chain, Bool.and_eq_true, hOK, decide_eq_true_eq] at hc
    rcases List.mem_cons.1 hx with rfl | hx
    · obtain ⟨⟨⟨q0, q1, q2, q3, q4, q5⟩, _⟩, _⟩ := hc
      omega
    · exact ih _ hc.2 x hx
theorem near_of_good {n : Int} {h : List IH} (g : goodH n h = true) : near h ∧ h.length ≤ 20 ∧ 0 ≤ n ∧ n ≤ 40 := by
  unfold goodH at g
  rw [Bool.and_eq_true, Bool.and_eq_true, inB_iff, decide_eq_true_eq] at g
  exact ⟨near_of_chain g.1.2 h _ g.2.2, g.2.1, g.1.1, g.1.2⟩

end Go.Proofs.Ytcefenlblnediaa.Pl

/- Plain Lean: answers where both are good lines. No condition. -/
namespace Go.Proofs.Ytcefenlblnediaa.Pl
open Go.RowKit Go.Proofs.YtcefenlblnediaaW.PrintWords Go.Proofs.YtcefenlblnediaaW.PrintLast Go.Proofs.Ytcefenlblnediaa.My
set_option linter.unusedVariables false
set_option linter.unusedSimpArgs false

/-- Where both are good lines. -/
def both {α : Type} (a b : List ByteArray) (z v : α) : α × Bool := if good a = true then (if good b = true then (v, true) else (z, false)) else (z, false)

theorem good_len {l : List ByteArray} (h : good l = true) : l.length ≤ 40 := by
  unfold good at h
  rw [Bool.and_eq_true] at h
  exact of_decide_eq_true h.1

theorem both_ev {α : Type} {G : Nat → List ByteArray → Option Bool} {F : Nat → Option α} {a b : List ByteArray} {z v : α} (hg : ∀ l, FitS l → Ev (fun k => G k l) (good l)) (fa : FitS a) (fb : FitS b) (hF : good a = true → good b = true → Ev F v) :
    Ev (fun k => (G k a).bind fun t => (if t = true then ((G k b).bind fun t' => (if t' = true then ((F k).bind fun x => (some (x, true))) else (some (z, false)))) else (some (z, false)))) (both a b z v) := by
  unfold both
  refine ev_bind (hg a fa) (ev_ite (fun h => ?_) (fun h => ev_some (by rw [if_neg h])))
  rw [if_pos h]
  refine ev_bind (hg b fb) (ev_ite (fun h' => ?_) (fun h' => ev_some (by rw [if_neg h'])))
  rw [if_pos h']
  exact ev_bind (hF h h') (ev_some rfl)
end Go.Proofs.Ytcefenlblnediaa.Pl

/- Plain Lean: chapter 2: hunks carried out, for the program and the reference. Conditions: lengths and sizes below 2^62. -/
namespace Go.Proofs.Ytcefenlblnediaa.Pl
open Go.RowKit Go.Proofs.YtcefenlblnediaaW.PrintWords Go.Proofs.YtcefenlblnediaaW.PrintLast Go.Proofs.Ytcefenlblnediaa.My
set_option linter.unusedVariables false
set_option linter.unusedSimpArgs false

/-- What is left of the lines from p on, the hunks carried out. -/
def patchFrom (a : List ByteArray) : Nat → List IH → List ByteArray
  | p, [] => a.drop p
  | p, x :: t => (a.take x.f0.toNat).drop p ++ (x.f2 ++ patchFrom a (x.f0 + x.f1).toNat t)
theorem patchFrom_mem (a : List ByteArray) (s : ByteArray) : ∀ (h : List IH) (p : Nat), s ∈ patchFrom a p h → s ∈ a ∨ ∃ x ∈ h, s ∈ x.f2 := by
  intro h
  induction h with
  | nil => intro p hs; exact .inl (List.mem_of_mem_drop hs)
  | cons y t ih =>
    intro p hs
    simp only [patchFrom, List.mem_append] at hs
    rcases hs with hs | hs | hs
    · exact .inl (List.mem_of_mem_take (List.mem_of_mem_drop hs))
    · exact .inr ⟨y, List.mem_cons_self .., hs⟩
    · rcases ih _ hs with hs | ⟨x, hx, hs⟩
      · exact .inl hs
      · exact .inr ⟨x, List.mem_cons_of_mem _ hx, hs⟩
theorem patchFrom_len (a : List ByteArray) (ha : a.length ≤ 40) : ∀ (h : List IH) (p : Nat), near h → (patchFrom a p h).length ≤ 40 + 80 * h.length := by
  intro h
  induction h with
  | nil => intro p _; simp only [patchFrom, List.length_drop, List.length_nil]; omega
  | cons y t ih =>
    intro p hn
    have h1 := ih (y.f0 + y.f1).toNat (fun x hx => hn x (List.mem_cons_of_mem _ hx))
    have h2 := hn y (List.mem_cons_self ..)
    simp only [patchFrom, List.length_append, List.length_drop, List.length_take, List.length_cons]
    omega
theorem patchFrom_fit {a : List ByteArray} {h : List IH} (fa : FitS a) (fh : FitI h) (ha : a.length ≤ 40) (hn : near h) (hl : h.length ≤ 20) (p : Nat) : FitS (patchFrom a p h) := by
  have := patchFrom_len a ha h p hn
  refine ⟨by omega, fun s hs => ?_⟩
  rcases patchFrom_mem a s h p hs with hs | ⟨x, hx, hs⟩
  · exact fa.2 s hs
  · exact (fh.2 x hx).2.2.2 s hs

theorem patched_l0 (a : List ByteArray) (h : List IH) (hn : a.length ≤ 40) (hl : h.length ≤ 20) : ∀ d i (q : Int) (p : Nat) (acc : List ByteArray), i + d = h.length → chain a.length q (h.drop i) = true → (p : Int) ≤ q + 1 → p ≤ a.length → acc.length ≤ 40 * i + p →
    Ev (fun k => impl_patched.l0 k a acc (p : Int) h (h.length : Int) (i : Int)) (acc ++ patchFrom a p (h.drop i)) := by
  intro d
  induction d with
  | zero =>
    intro i q p acc hi hc hpq hp hacc
    refine Ev.step (fun k => impl_patched.l0.eq_2 ..) (ev_neg (by omega) (ev_pos (by omega) (ev_pos (by omega) (ev_pos ?_ (ev_some ?_)))))
    · rw [List.length_drop]
      omega
    · rw [List.drop_of_length_le (l := h) (by omega), Int.toNat_natCast]
      rfl
  | succ d ih =>
    intro i q p acc hi hc hpq hp hacc
    have hlt : i < h.length := by omega
    rw [List.drop_eq_getElem_cons hlt] at hc
    rw [List.drop_eq_getElem_cons hlt]
    simp only [chain, Bool.and_eq_true, hOK, decide_eq_true_eq] at hc
    obtain ⟨⟨⟨q0, q1, q2, q3, q4, q5⟩, _⟩, hc'⟩ := hc
    refine Ev.step (fun k => impl_patched.l0.eq_2 ..) ?_
    simp only [rdIH h i hlt, Option.bind_some]
    have e1 : wrap64 (h[i].f0 + h[i].f1) = (((h[i].f0 + h[i].f1).toNat : Nat) : Int) := by rw [wrap64_id (by omega) (by omega)]; omega
    rw [e1, wrap_succ i (by omega), Int.toNat_natCast]
    have e2 : ((a.take h[i].f0.toNat).drop p).length = h[i].f0.toNat - p := by rw [List.length_drop, List.length_take]; omega
    refine ev_pos (by omega) (ev_pos (by omega) (ev_pos (by omega) (ev_pos (by omega) (ev_pos (by omega) (ev_pos (by omega) (ev_pos (by rw [e2]; omega) (ev_pos (by rw [List.length_append, e2]; omega) ?_)))))))
    refine ev_to (ih (i + 1) _ _ _ (by omega) hc' (by omega) (by omega) (by rw [List.length_append, List.length_append, e2]; omega)) ?_
    simp only [patchFrom, List.append_assoc]

theorem l2Patch_l0 (a : List ByteArray) (h : List IH) (hn : a.length ≤ 40) (hl : h.length ≤ 20) : ∀ d i (q : Int) (p : Nat) (acc : List ByteArray), i + d = h.length → chain a.length q (h.drop i) = true → (p : Int) ≤ q + 1 → p ≤ a.length → acc.length ≤ 40 * i + p →
    Ev (fun k => spec_l2Patch.l0 k a acc (p : Int) h (h.length : Int) (i : Int)) (acc ++ patchFrom a p (h.drop i)) := by
  intro d
  induction d with
  | zero =>
    intro i q p acc hi hc hpq hp hacc
    refine Ev.step (fun k => spec_l2Patch.l0.eq_2 ..) (ev_neg (by omega) (ev_pos (by omega) (ev_pos (by omega) (ev_pos ?_ (ev_some ?_)))))
    · rw [List.length_drop]
      omega
    · rw [List.drop_of_length_le (l := h) (by omega), Int.toNat_natCast]
      rfl
  | succ d ih =>
    intro i q p acc hi hc hpq hp hacc
    have hlt : i < h.length := by omega
    rw [List.drop_eq_getElem_cons hlt] at hc
    rw [List.drop_eq_getElem_cons hlt]
    simp only [chain, Bool.and_eq_true, hOK, decide_eq_true_eq] at hc
    obtain ⟨⟨⟨q0, q1, q2, q3, q4, q5⟩, _⟩, hc'⟩ := hc
    refine Ev.step (fun k => spec_l2Patch.l0.eq_2 ..) ?_
    simp only [rdIH h i hlt, Option.bind_some]
    have e1 : wrap64 (h[i].f0 + h[i].f1) = (((h[i].f0 + h[i].f1).toNat : Nat) : Int) := by rw [wrap64_id (by omega) (by omega)]; omega
    rw [e1, wrap_succ i (by omega), Int.toNat_natCast]
    have e2 : ((a.take h[i].f0.toNat).drop p).length = h[i].f0.toNat - p := by rw [List.length_drop, List.length_take]; omega
    refine ev_pos (by omega) (ev_pos (by omega) (ev_pos (by omega) (ev_pos (by omega) (ev_pos (by omega) (ev_pos (by omega) (ev_pos (by rw [e2]; omega) (ev_pos (by rw [List.length_append, e2]; omega) ?_)))))))
    refine ev_to (ih (i + 1) _ _ _ (by omega) hc' (by omega) (by omega) (by rw [List.length_append, List.length_append, e2]; omega)) ?_
    simp only [patchFrom, List.append_assoc]

def asked (a : List ByteArray) (h : List IH) : Bool := good a && goodH a.length h
def patchH (a : List ByteArray) (h : List IH) : List ByteArray := patchFrom a 0 h
def patchR (a : List ByteArray) (h : List IH) : List ByteArray × Bool := if asked a h = true ∧ good (patchH a h) = true then (patchH a h, true) else ([], false)
theorem asked_of {a : List ByteArray} {h : List IH} (c : asked a h = true) : a.length ≤ 40 ∧ h.length ≤ 20 ∧ near h ∧ chain a.length (-1) h = true := by
  unfold asked at c
  rw [Bool.and_eq_true] at c
  obtain ⟨g1, g2, g3, g4⟩ := near_of_good c.2
  have := c.2
  unfold goodH at this
  rw [Bool.and_eq_true, Bool.and_eq_true] at this
  exact ⟨good_len c.1, g2, g1, this.2.2⟩
theorem patched_ev {a : List ByteArray} {h : List IH} (c : asked a h = true) : Ev (fun k => impl_patched.f k a h) (patchH a h) := by
  obtain ⟨c1, c2, c3, c4⟩ := asked_of c
  simp only [impl_patched.f]
  exact patched_l0 a h c1 c2 h.length 0 (-1) 0 [] (by omega) c4 (by omega) (by omega) (Nat.zero_le _)
theorem l2Patch_ev {a : List ByteArray} {h : List IH} (c : asked a h = true) : Ev (fun k => spec_l2Patch.f k a h) (patchH a h) := by
  obtain ⟨c1, c2, c3, c4⟩ := asked_of c
  simp only [spec_l2Patch.f]
  exact l2Patch_l0 a h c1 c2 h.length 0 (-1) 0 [] (by omega) c4 (by omega) (by omega) (Nat.zero_le _)
theorem l2Asked_ev (a : List ByteArray) (h : List IH) (fa : FitS a) (fh : FitI h) : Ev (fun k => spec_l2Asked.f k a h) (asked a h) := by
  simp only [spec_l2Asked.f]
  unfold asked
  have hL := fa.1
  refine ev_bind (l1Good_ev a fa) (ev_ite (fun c => ?_) (fun c => ev_some ?_))
  · rw [c, Bool.true_and]
    exact ev_bind (l2Hunks_ev _ h fh (by omega) (by omega)) (ev_some rfl)
  · rw [Bool.not_eq_true] at c
    rw [c, Bool.false_and]
theorem patchR_small (a : List ByteArray) (h : List IH) : (patchR a h).1.length ≤ 40 := by
  unfold patchR
  split
  · rename_i c
    exact good_len c.2
  · exact Nat.zero_le _
theorem impl_Patch_ev (a : List ByteArray) (h : List IH) (fa : FitS a) (fh : FitI h) : Ev (fun k => impl_Patch.f k a h) (patchR a h) := by
  simp only [impl_Patch.f]
  unfold patchR
  have fin : asked a h = false → Ev (fun k => impl_Patch.j0 k a h true) (if asked a h = true ∧ good (patchH a h) = true then (patchH a h, true) else (([] : List ByteArray), false)) := by
    intro c
    rw [if_neg (fun e => by rw [c] at e; cases e.1)]
    exact Ev.step (fun k => impl_Patch.j0.eq_2 ..) (ev_pos rfl (ev_some rfl))
  refine ev_bind (goodLines_ev a fa) (ev_ite (fun c => ?_) (fun c => ?_))
  · refine ev_bind (goodHunks_ev _ h fh) ?_
    cases g : goodH a.length h with
    | false =>
      refine fin ?_
      unfold asked
      rw [g, Bool.and_false]
    | true =>
      have ca : asked a h = true := by unfold asked; rw [c, g]; rfl
      obtain ⟨c1, c2, c3, c4⟩ := asked_of ca
      refine Ev.step (fun k => impl_Patch.j0.eq_2 ..) (ev_neg (by simp) (ev_bind (patched_ev ca) (ev_bind (goodLines_ev _ (patchFrom_fit fa fh c1 c3 c2 0)) (ev_ite (fun c5 => ev_some ?_) (fun c5 => ev_some ?_)))))
      · rw [if_pos ⟨ca, c5⟩]
      · rw [if_neg (fun e => c5 e.2)]
  · refine fin ?_
    unfold asked
    rw [Bool.not_eq_true] at c
    rw [c, Bool.false_and]
theorem spec_Patch_ev (a : List ByteArray) (h : List IH) (fa : FitS a) (fh : FitI h) : Ev (fun k => spec_Patch.f k a h) (patchR a h) := by
  simp only [spec_Patch.f]
  unfold patchR
  refine ev_bind (l2Asked_ev a h fa fh) (ev_ite (fun ca => ?_) (fun ca => ev_some ?_))
  · obtain ⟨c1, c2, c3, c4⟩ := asked_of ca
    refine ev_bind (l2Patch_ev ca) (ev_bind (l1Good_ev _ (patchFrom_fit fa fh c1 c3 c2 0)) (ev_ite (fun c5 => ev_some ?_) (fun c5 => ev_some ?_)))
    · rw [if_pos (show asked a h = true ∧ good (patchH a h) = true from ⟨ca, c5⟩)]
    · rw [if_neg (show ¬ (asked a h = true ∧ good (patchH a h) = true) from fun e => c5 e.2)]
  · rw [if_neg (show ¬ (asked a h = true ∧ good (patchH a h) = true) from fun e => ca e.1)]
theorem patchR_asked {a : List ByteArray} {h : List IH} (c : (patchR a h).2 = true) : asked a h = true := by
  unfold patchR at c
  split at c
  · rename_i e
    exact e.1
  · cases c
end Go.Proofs.Ytcefenlblnediaa.Pl

/- Plain Lean: chapter 2: how far a line is moved. No condition. -/
namespace Go.Proofs.Ytcefenlblnediaa.Pl
open Go.RowKit Go.Proofs.YtcefenlblnediaaW.PrintWords Go.Proofs.YtcefenlblnediaaW.PrintLast Go.Proofs.Ytcefenlblnediaa.My
set_option linter.unusedVariables false
set_option linter.unusedSimpArgs false

/-- How far line i is moved by the hunks ahead of it; none where it is gone. -/
def moved (i : Int) : List IH → Option Int
  | [] => some 0
  | x :: t => if x.f0 + x.f1 ≤ i then (moved i t).map (fun m => ((x.f2.length : Int) - x.f1) + m) else if x.f0 ≤ i then none else moved i t
theorem moved_bounds (i : Int) : ∀ (h : List IH), near h → ∀ m, moved i h = some m → -40 * (h.length : Int) ≤ m ∧ m ≤ 40 * (h.length : Int) := by
  intro h
  induction h with
  | nil => intro _ m hm; simp only [moved, Option.some.injEq] at hm; simp only [List.length_nil]; omega
  | cons y t ih =>
    intro hn m hm
    obtain ⟨q0, q1, q2, q3, q4⟩ := hn y (List.mem_cons_self ..)
    have ht := ih (fun x hx => hn x (List.mem_cons_of_mem _ hx))
    simp only [moved] at hm
    simp only [List.length_cons]
    split at hm
    · obtain ⟨m', h1, h2⟩ := Option.map_eq_some_iff.1 hm
      have := ht m' h1
      omega
    · split at hm
      · simp at hm
      · have := ht m hm
        omega

end Go.Proofs.Ytcefenlblnediaa.Pl

/- Plain Lean: lines that stay, told by where they stood or by where they come to lie, are the same; two tellings in turn, too. Asked: hunks in order. -/
namespace Go.Proofs.Ytcefenlblnediaa.Pl
open Go.RowKit Go.Proofs.YtcefenlblnediaaW.PrintWords Go.Proofs.YtcefenlblnediaaW.PrintLast Go.Proofs.Ytcefenlblnediaa.My
set_option linter.unusedVariables false
set_option linter.unusedSimpArgs false

/-- Hunks in order, behind p. -/
def chain' (n : Int) : Int → List IH → Prop
  | _, [] => True
  | p, x :: t => (0 ≤ x.f0 ∧ 0 ≤ x.f1 ∧ x.f0 + x.f1 ≤ n ∧ p < x.f0) ∧ chain' n (x.f0 + x.f1) t
/-- Of each line behind hunks where it stood, -1 of a new one; from place p of so many on. -/
def keptFrom (n : Nat) : Nat → List IH → List Int
  | p, [] => (List.range' p (n - p)).map (fun k : Nat => (k : Int))
  | p, x :: t => (List.range' p (x.f0.toNat - p)).map (fun k : Nat => (k : Int)) ++ (List.replicate x.f2.length (-1) ++ keptFrom n (x.f0 + x.f1).toNat t)
/-- The lines that stay, with their places behind hunks, those being q on. -/
def staysK : Nat → List Int → List (Nat × Nat)
  | _, [] => []
  | q, k :: t => if 0 ≤ k then (k.toNat, q) :: staysK (q + 1) t else staysK (q + 1) t
def staysP (h : List IH) : List Nat → List (Nat × Nat)
  | [] => []
  | k :: t => match moved (k : Int) h with
    | some m => if 0 ≤ (k : Int) + m then (k, ((k : Int) + m).toNat) :: staysP h t else staysP h t
    | none => staysP h t
theorem staysK_append : ∀ (l l' : List Int) (q : Nat), staysK q (l ++ l') = staysK q l ++ staysK (q + l.length) l'
  | [], l', q => by simp [staysK]
  | k :: t, l', q => by
    simp only [List.cons_append, staysK, List.length_cons, staysK_append t l' (q + 1)]
    rw [show q + (t.length + 1) = q + 1 + t.length from by omega]
    split <;> simp
theorem staysP_append (h : List IH) : ∀ (l l' : List Nat), staysP h (l ++ l') = staysP h l ++ staysP h l'
  | [], l' => rfl
  | k :: t, l' => by
    simp only [List.cons_append, staysP, staysP_append h t l']
    cases moved (k : Int) h with
    | none => rfl
    | some m => simp only; split <;> simp
theorem staysK_new (q : Nat) : ∀ n, staysK q (List.replicate n (-1)) = []
  | 0 => rfl
  | n + 1 => by simp only [List.replicate_succ, staysK]; rw [if_neg (by omega)]; exact staysK_new (q + 1) n
theorem staysK_range : ∀ (d p q : Nat), staysK q ((List.range' p d).map (fun k : Nat => (k : Int))) = (List.range d).map fun i => (p + i, q + i)
  | 0, _, _ => rfl
  | d + 1, p, q => by
    rw [List.range'_succ, List.map_cons, staysK, if_pos (Int.natCast_nonneg _), staysK_range d (p + 1) (q + 1), List.range_succ_eq_map, List.map_cons, List.map_map]
    simp only [Int.toNat_natCast, Nat.add_zero, List.cons.injEq, true_and]
    refine List.map_congr_left (fun i _ => ?_)
    simp only [Function.comp_apply, Prod.mk.injEq]
    omega
theorem staysP_shift (h : List IH) (m : Int) : ∀ (d p q : Nat), (∀ k, p ≤ k → k < p + d → moved (k : Int) h = some m) → (p : Int) + m = (q : Int) → staysP h (List.range' p d) = (List.range d).map fun i => (p + i, q + i)
  | 0, _, _, _, _ => rfl
  | d + 1, p, q, hm, hq => by
    rw [List.range'_succ, staysP, hm p (Nat.le_refl _) (by omega)]
    simp only
    rw [if_pos (by omega), staysP_shift h m d (p + 1) (q + 1) (fun k h1 h2 => hm k (by omega) (by omega)) (by omega), List.range_succ_eq_map, List.map_cons, List.map_map]
    have e : ((p : Int) + m).toNat = q := by omega
    rw [e]
    simp only [Nat.add_zero, List.cons.injEq, true_and]
    refine List.map_congr_left (fun i _ => ?_)
    simp only [Function.comp_apply, Prod.mk.injEq]
    omega
theorem staysP_none (h : List IH) : ∀ (d p : Nat), (∀ k, p ≤ k → k < p + d → moved (k : Int) h = none) → staysP h (List.range' p d) = []
  | 0, _, _ => rfl
  | d + 1, p, hm => by
    rw [List.range'_succ, staysP, hm p (Nat.le_refl _) (by omega)]
    exact staysP_none h d (p + 1) (fun k h1 h2 => hm k (by omega) (by omega))
theorem moved_ahead {n : Int} (i : Int) : ∀ (h : List IH) (p : Int), chain' n p h → i ≤ p → moved i h = some 0
  | [], _, _, _ => rfl
  | x :: t, p, hc, hi => by
    simp only [chain'] at hc
    simp only [moved]
    rw [if_neg (by omega), if_neg (by omega)]
    exact moved_ahead i t _ hc.2 (by omega)
theorem moved_first {n : Int} (i : Int) (x : IH) (t : List IH) (hc : chain' n (x.f0 + x.f1) t) (h1 : 0 ≤ x.f1) (hi : i < x.f0) : moved i (x :: t) = some 0 := by
  simp only [moved]
  rw [if_neg (by omega), if_neg (by omega)]
  exact moved_ahead i t _ hc (by omega)
theorem staysP_tail (x : IH) (t : List IH) (s : Int) (hs : s = (x.f2.length : Int) - x.f1) : ∀ (l : List Nat), (∀ k ∈ l, x.f0 + x.f1 ≤ (k : Int)) → (∀ k ∈ l, ∀ m, moved (k : Int) t = some m → 0 ≤ (k : Int) + m ∧ 0 ≤ (k : Int) + m + s) →
    staysP (x :: t) l = (staysP t l).map fun z => (z.1, ((z.2 : Int) + s).toNat)
  | [], _, _ => rfl
  | k :: l, hk, hm => by
    have e : moved (k : Int) (x :: t) = (moved (k : Int) t).map (fun m => s + m) := by
      simp only [moved]
      rw [if_pos (hk k (List.mem_cons_self ..)), hs]
    have ih := staysP_tail x t s hs l (fun j hj => hk j (List.mem_cons_of_mem _ hj)) (fun j hj => hm j (List.mem_cons_of_mem _ hj))
    simp only [staysP, e]
    cases h : moved (k : Int) t with
    | none => exact ih
    | some m =>
      obtain ⟨h1, h2⟩ := hm k (List.mem_cons_self ..) m h
      simp only [Option.map_some]
      rw [if_pos (by omega), if_pos (by omega), ih]
      simp only [List.map_cons, List.cons.injEq, Prod.mk.injEq, true_and, and_true]
      omega
theorem staysK_shift : ∀ (l : List Int) (q : Nat) (q' : Nat) (s : Int), (q : Int) + s = (q' : Int) → staysK q' l = (staysK q l).map fun z => (z.1, ((z.2 : Int) + s).toNat)
  | [], _, _, _, _ => rfl
  | k :: t, q, q', s, h => by
    have ih := staysK_shift t (q + 1) (q' + 1) s (by omega)
    simp only [staysK]
    split
    · rw [ih]
      simp only [List.map_cons, List.cons.injEq, Prod.mk.injEq, true_and, and_true]
      omega
    · exact ih
/-- A line behind p doesn't come to lie ahead of p. -/
theorem moved_low {n : Int} (i : Int) : ∀ (h : List IH) (p : Int), chain' n p h → p ≤ i → -1 ≤ p → ∀ m, moved i h = some m → p ≤ i + m ∧ (0 ≤ i → 0 ≤ i + m)
  | [], p, _, hi, _, m, hm => by simp only [moved, Option.some.injEq] at hm; omega
  | x :: t, p, hc, hi, hp, m, hm => by
    simp only [chain'] at hc
    simp only [moved] at hm
    split at hm
    · rename_i c
      obtain ⟨m', h1, h2⟩ := Option.map_eq_some_iff.1 hm
      have := (moved_low i t _ hc.2 c (by omega) m' h1).1
      omega
    · split at hm
      · cases hm
      · rename_i c1 c2
        rw [moved_ahead i t _ hc.2 (by omega)] at hm
        injection hm with hm
        omega
theorem stays_eq (n : Nat) : ∀ (h : List IH) (p : Nat) (a : Int), chain' (n : Int) a h → a ≤ (p : Int) → -1 ≤ a → (∀ x ∈ h, (p : Int) ≤ x.f0) → staysK p (keptFrom n p h) = staysP h (List.range' p (n - p))
  | [], p, a, _, _, _, _ => by
    simp only [keptFrom]
    rw [staysK_range, staysP_shift [] 0 (n - p) p p (fun k _ _ => rfl) (by omega)]
  | x :: t, p, a, hc, ha, ha1, hf => by
    simp only [chain'] at hc
    obtain ⟨⟨c0, c1, c2, c3⟩, hc'⟩ := hc
    have hp : (p : Int) ≤ x.f0 := hf x (List.mem_cons_self ..)
    have hsp : List.range' p (n - p) = List.range' p (x.f0.toNat - p) ++ (List.range' x.f0.toNat x.f1.toNat ++ List.range' (x.f0 + x.f1).toNat (n - (x.f0 + x.f1).toNat)) := by
      have e1 : (x.f0 + x.f1).toNat = x.f0.toNat + x.f1.toNat := by omega
      have e2 : x.f0.toNat + x.f1.toNat ≤ n := by omega
      have e3 : p ≤ x.f0.toNat := by omega
      rw [e1]
      generalize x.f0.toNat = u at *
      generalize x.f1.toNat = v at *
      obtain ⟨g, rfl⟩ : ∃ g, u = p + g := ⟨u - p, by omega⟩
      obtain ⟨r, rfl⟩ : ∃ r, n = p + g + v + r := ⟨n - (p + g + v), by omega⟩
      rw [show p + g + v + r - (p + g + v) = r from by omega, show p + g - p = g from by omega, List.range'_append_1, List.range'_append_1]
      congr 1
      omega
    rw [hsp, staysP_append, staysP_append, keptFrom, staysK_append, staysK_append, staysK_new, List.nil_append]
    rw [staysK_range, staysP_shift (x :: t) 0 (x.f0.toNat - p) p p (fun k h1 h2 => moved_first k x t hc' c1 (by omega)) (by omega)]
    rw [staysP_none (x :: t) x.f1.toNat x.f0.toNat (fun k h1 h2 => by
      simp only [moved]
      rw [if_neg (by omega), if_pos (by omega)]), List.nil_append]
    congr 1
    have ht : ∀ y ∈ t, ((x.f0 + x.f1).toNat : Int) ≤ y.f0 := by
      intro y hy
      have : ∀ (l : List IH) (q : Int), chain' (n : Int) q l → ∀ z ∈ l, q ≤ z.f0 := by
        intro l
        induction l with
        | nil => intro q _ z hz; cases hz
        | cons u l ih =>
          intro q hq z hz
          simp only [chain'] at hq
          rcases List.mem_cons.1 hz with rfl | hz
          · omega
          · have := ih _ hq.2 z hz
            omega
      have := this t _ hc' y hy
      omega
    have ih := stays_eq n t (x.f0 + x.f1).toNat (x.f0 + x.f1) hc' (by omega) (by omega) ht
    rw [staysP_tail x t _ rfl _ (fun k hk => by have := (List.mem_range'_1.1 hk).1; omega) (fun k hk m hm => by
      have h1 := (List.mem_range'_1.1 hk).1
      have h2 := (moved_low (k : Int) t _ hc' (by omega) (by omega) m hm).1
      omega), ← ih]
    refine staysK_shift _ _ _ _ ?_
    simp only [List.length_map, List.length_range', List.length_replicate]
    omega
/-- Pairs that follow one another by way of a middle place. -/
def joinA (B : List (Nat × Nat)) : List (Nat × Nat) → List (Nat × Nat)
  | [] => []
  | z :: t => match B.find? (fun y => y.1 == z.2) with
    | some y => (z.1, y.2) :: joinA B t
    | none => joinA B t
def joinB (A : List (Nat × Nat)) : List (Nat × Nat) → List (Nat × Nat)
  | [] => []
  | y :: t => match A.find? (fun z => z.2 == y.1) with
    | some z => (z.1, y.2) :: joinB A t
    | none => joinB A t
theorem joinA_skip (y : Nat × Nat) (B : List (Nat × Nat)) : ∀ A : List (Nat × Nat), (∀ z ∈ A, y.1 ≠ z.2) → joinA (y :: B) A = joinA B A
  | [], _ => rfl
  | z :: t, h => by
    simp only [joinA, List.find?_cons]
    rw [show (y.1 == z.2) = false from by simp [h z (List.mem_cons_self ..)], joinA_skip y B t (fun w hw => h w (List.mem_cons_of_mem _ hw))]
theorem joinB_skip (z : Nat × Nat) (A : List (Nat × Nat)) : ∀ B : List (Nat × Nat), (∀ y ∈ B, z.2 ≠ y.1) → joinB (z :: A) B = joinB A B
  | [], _ => rfl
  | y :: t, h => by
    simp only [joinB, List.find?_cons]
    rw [show (z.2 == y.1) = false from by simp [h y (List.mem_cons_self ..)], joinB_skip z A t (fun w hw => h w (List.mem_cons_of_mem _ hw))]
theorem joinA_nil : ∀ A : List (Nat × Nat), joinA [] A = []
  | [] => rfl
  | z :: t => by simp only [joinA, List.find?_nil]; exact joinA_nil t
theorem joinB_nil : ∀ B : List (Nat × Nat), joinB [] B = []
  | [] => rfl
  | z :: t => by simp only [joinB, List.find?_nil]; exact joinB_nil t
theorem join_eq : ∀ (n : Nat) (A B : List (Nat × Nat)), A.length + B.length = n → A.Pairwise (fun u v => u.2 < v.2) → B.Pairwise (fun u v => u.1 < v.1) → joinA B A = joinB A B := by
  intro n
  induction n using Nat.strongRecOn with
  | _ n ih =>
    intro A B hn hA hB
    cases A with
    | nil => rw [joinB_nil]; rfl
    | cons z A =>
      cases B with
      | nil => rw [joinA_nil]; rfl
      | cons y B =>
        simp only [List.length_cons] at hn
        have hA' := List.pairwise_cons.1 hA
        have hB' := List.pairwise_cons.1 hB
        by_cases h1 : z.2 = y.1
        · have e1 : joinA (y :: B) (z :: A) = (z.1, y.2) :: joinA (y :: B) A := by
            simp only [joinA, List.find?_cons]
            rw [show (y.1 == z.2) = true from by simp [h1]]
          have e2 : joinB (z :: A) (y :: B) = (z.1, y.2) :: joinB (z :: A) B := by
            simp only [joinB, List.find?_cons]
            rw [show (z.2 == y.1) = true from by simp [h1]]
          rw [e1, e2, joinA_skip y B A (fun w hw => by have := hA'.1 w hw; omega), joinB_skip z A B (fun w hw => by have := hB'.1 w hw; omega), ih (A.length + B.length) (by omega) A B rfl hA'.2 hB'.2]
        · by_cases h2 : z.2 < y.1
          · have e1 : joinA (y :: B) (z :: A) = joinA (y :: B) A := by
              simp only [joinA]
              rw [List.find?_eq_none.2 (fun w hw => by
                rcases List.mem_cons.1 hw with rfl | hw
                · simp; omega
                · have := hB'.1 w hw; simp; omega)]
            rw [e1, joinB_skip z A (y :: B) (fun w hw => by
              rcases List.mem_cons.1 hw with rfl | hw
              · omega
              · have := hB'.1 w hw; omega)]
            exact ih (A.length + (B.length + 1)) (by omega) A (y :: B) (by simp only [List.length_cons]) hA'.2 hB
          · have e2 : joinB (z :: A) (y :: B) = joinB (z :: A) B := by
              simp only [joinB]
              rw [List.find?_eq_none.2 (fun w hw => by
                rcases List.mem_cons.1 hw with rfl | hw
                · simp; omega
                · have := hA'.1 w hw; simp; omega)]
            rw [e2, joinA_skip y B (z :: A) (fun w hw => by
              rcases List.mem_cons.1 hw with rfl | hw
              · omega
              · have := hA'.1 w hw; omega)]
            exact ih (A.length + 1 + B.length) (by omega) (z :: A) B (by simp only [List.length_cons]) hA hB'.2
end Go.Proofs.Ytcefenlblnediaa.Pl
