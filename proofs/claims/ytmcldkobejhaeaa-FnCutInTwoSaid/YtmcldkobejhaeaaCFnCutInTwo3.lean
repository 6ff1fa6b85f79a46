/- Part 3 of 3 of a proof of this sentence: The Go function loop.example/g00825/laws.FnCutInTwo returns true for every input, and each argument reads afterwards as it read before. No condition. -/
import Derived.Laws.RangeAny
import Derived.Laws.Bits64b
import Derived.Lib.Bytealg
import Derived.Test.YtmcldkobejhaeaaRows
import Derived.WalkKit
import Derived.ProofKit
import Derived.OpenShut
import Derived.ShutString
import Derived.ChangeOld
import Derived.Below
import Derived.SizedLaws
import Derived.Lib.SmallJoins
import Derived.Test.YtmcldkobejhaeaaCFnCutInTwo2
/- Written by this session's program (wip/gen): a plain function with the same answers as the Go function, and the proof that the Go code comes to them. Asked: that the plain function has an answer. -/
namespace Go.Proofs.Ytmcldkobejhaeaa.My
open Go.RowKit Go.Proofs.YtmcldkobejhaeaaW.PrintWords Go.Proofs.YtmcldkobejhaeaaW.PrintLast
set_option linter.unusedVariables false
set_option linter.unusedSimpArgs false
theorem no_nl (s : ByteArray) (pos : Nat) (h : pos < s.size) (hn : ¬ s.data.toList.contains 10 = true) : ((((s[pos]'h).toNat : Nat) : Int) == 10) = false := by
 refine beq_eq_false_iff_ne.mpr (fun e => hn ?_)
 rw [List.contains_iff_mem]
 have e2 : s.data.toList[pos]'(by rw [data_length]; exact h) = s[pos]'h := by simp [ByteArray.getElem_eq_getElem_data]
 have e3 : (s[pos]'h) = 10 := Pl.u8_eq (by rw [e]; rfl)
 rw [← e3, ← e2]
 exact List.getElem_mem _
theorem rune_wide (s : ByteArray) (pos : Nat) (h : pos < s.size) : 1 ≤ (Utf8.decode s pos).2 := by
 by_cases ha : (s[pos]'h).toNat < 128
 · rw [decode_ascii s pos h ha]
   exact Nat.le_refl _
 · exact (decode_high s pos h (by omega)).2
mutual
def laws_FnCutInTwo.j0 : Nat → List Int → List ByteArray → Int → Int → List ByteArray → Bool → Bool → Option (Bool)
 | 0, _, _, _, _, _, _, _ => none
 | k + 1, x1, x5, x6, x7, x8, x9, x57 => if x57 = true then (some false) else (if x9 = true then ((impl_PartOf.f k x5 0 x6).bind fun bt224 => ((impl_PartOf.f k x5 x7 (x5.length : Int)).bind fun bt228 => (if bt224.2 = true then (if bt228.2 = true then ((some (([] : List ByteArray) : List ByteArray)).bind fun y232 => (if y232.length + bt224.1.length < 8796093022208 then ((some (y232 ++ bt224.1 : List ByteArray)).bind fun y235 => (if y235.length + x8.length < 8796093022208 then ((some (y235 ++ x8 : List ByteArray)).bind fun y238 => (if y238.length + bt228.1.length < 8796093022208 then ((laws_sameTexts.f k (y238 ++ bt228.1) x5).bind fun t244 => (laws_FnCutInTwo.j1 k x1 x8 (!t244))) else (none))) else (none))) else (none))) else (laws_FnCutInTwo.j1 k x1 x8 true)) else (laws_FnCutInTwo.j1 k x1 x8 true)))) else ((spec_DrawPlainOf.f x1).bind fun t253 => ((impl_PlainOf.f k t253).bind fun bt254 => ((spec_PlainOf.f k t253).bind fun bt256 => (if (bt254.2 == bt256.2) = true then (some (bt254.1.toList == bt256.1.toList)) else (some false))))))
def laws_FnCutInTwo.j1 : Nat → List Int → List ByteArray → Bool → Option (Bool)
 | 0, _, _, _ => none
 | k + 1, x1, x8, x90 => if x90 = true then (some false) else (laws_FnCutInTwo.l0 k x1 x8 (x8.length : Int) 0)
def laws_FnCutInTwo.l0 : Nat → List Int → List ByteArray → Int → Int → Option (Bool)
 | 0, _, _, _, _ => none
 | k + 1, x1, x91, x92, x93 => if x93 < x92 then (if 0 ≤ x93 then (if x93 < (x91.length : Int) then ((impl_PlainOf.f k (rdOf ByteArray.empty x91 x93)).bind fun bt246 => (if bt246.2 = true then (if bt246.1.toList = (rdOf ByteArray.empty x91 x93).toList then (if bt246.1.data.toList.contains 10 = true then (none) else (laws_FnCutInTwo.l0 k x1 x91 x92 (wrap64 (x93 + 1)))) else (if bt246.1.size + 1 ≤ 9223372036854775807 then (if (bt246.1 ++ (⟨#[10]⟩ : ByteArray)).toList = (rdOf ByteArray.empty x91 x93).toList then (if bt246.1.data.toList.contains 10 = true then (none) else (laws_FnCutInTwo.l0 k x1 x91 x92 (wrap64 (x93 + 1)))) else (some false)) else (none))) else (some false))) else (none)) else (none)) else ((spec_DrawPlainOf.f x1).bind fun t248 => ((impl_PlainOf.f k t248).bind fun bt249 => ((spec_PlainOf.f k t248).bind fun bt251 => (if (bt249.2 == bt251.2) = true then (some (bt249.1.toList == bt251.1.toList)) else (some false)))))
end
def laws_FnCutInTwo.f (k : Nat) (l0 : List Int) (l1 : List Int) : Option (Bool) := (laws_big.f l0 l1).bind fun t209 => (if t209 = true then (some true) else ((spec_DrawPartOf.f k l0).bind fun bt210 => ((impl_PartOf.f k bt210.1 bt210.2.1 bt210.2.2).bind fun bt215 => ((spec_PartOf.f k bt210.1 bt210.2.1 bt210.2.2).bind fun bt219 => (if (bt215.2 != bt219.2) = true then (laws_FnCutInTwo.j0 k l1 bt210.1 bt210.2.1 bt210.2.2 bt215.1 bt215.2 true) else ((laws_sameTexts.f k bt215.1 bt219.1).bind fun t223 => (laws_FnCutInTwo.j0 k l1 bt210.1 bt210.2.1 bt210.2.2 bt215.1 bt215.2 (!t223))))))))
set_option maxHeartbeats 8000000 in
set_option maxRecDepth 100000 in
theorem laws_FnCutInTwo.calls (k : Nat) (A0 : Option Addr) (c0 : Nat) (l0 : List Int) (A1 : Option Addr) (c1 : Nat) (l1 : List Int) (r : Bool) (w : World) (hr0 : Kd.C (Kd.int .u8) w A0 l0.length l0) (hc0 : l0.length ≤ c0) (hr1 : Kd.C (Kd.int .u8) w A1 l1.length l1) (hc1 : l1.length ≤ c1) (h : laws_FnCutInTwo.f k l0 l1 = some r) (hr_ : r = true) :
  Calls Try.prog 3 #[.slice A0 l0.length c0, .slice A1 l1.length c1] w fun e w' => e = .returned (.bool r) ∧ Below w.heap.size w w' := by
 have HR_ := am hr_
 clear hr_
 have HR0 := am hr0
 have HC0 := am hc0
 clear hr0 hc0
 have HR1 := am hr1
 have HC1 := am hc1
 clear hr1 hc1
 have HB := am (Below.refl w.heap.size w)
 have H : ((laws_big.f l0 l1).bind fun t209 => (if t209 = true then (some true) else ((spec_DrawPartOf.f k l0).bind fun bt210 => ((impl_PartOf.f k bt210.1 bt210.2.1 bt210.2.2).bind fun bt215 => ((spec_PartOf.f k bt210.1 bt210.2.1 bt210.2.2).bind fun bt219 => (if (bt215.2 != bt219.2) = true then (laws_FnCutInTwo.j0 k l1 bt210.1 bt210.2.1 bt210.2.2 bt215.1 bt215.2 true) else ((laws_sameTexts.f k bt215.1 bt219.1).bind fun t223 => (laws_FnCutInTwo.j0 k l1 bt210.1 bt210.2.1 bt210.2.2 bt215.1 bt215.2 (!t223))))))))) = some r := h
 clear h
 replace H := Option.bind_eq_some_iff.mp H
 obtain ⟨t209, A30, H⟩ := H
 replace H : (if t209 = true then (some true) else ((spec_DrawPartOf.f k l0).bind fun bt210 => ((impl_PartOf.f k bt210.1 bt210.2.1 bt210.2.2).bind fun bt215 => ((spec_PartOf.f k bt210.1 bt210.2.1 bt210.2.2).bind fun bt219 => (if (bt215.2 != bt219.2) = true then (laws_FnCutInTwo.j0 k l1 bt210.1 bt210.2.1 bt210.2.2 bt215.1 bt215.2 true) else ((laws_sameTexts.f k bt215.1 bt219.1).bind fun t223 => (laws_FnCutInTwo.j0 k l1 bt210.1 bt210.2.1 bt210.2.2 bt215.1 bt215.2 (!t223)))))))) = some r := H
 have A3 := am A30
 clear A30
 by_cases c4 : t209 = true
 ·as_aux_lemma =>
    subst c4
    have H1 : (some true) = some r := by rw [if_pos rfl] at H; exact H
    clear H
    have H := H1
    clear H1
    first
    | exact absurd (show false = true from (Option.some.inj H).trans HR_.out) Bool.false_ne_true
    | obtain rfl := Option.some.inj H
      go_enter Try.func3, Try.ntmps3
      go_wp2_with (first | ((with_reducible refine gateC (f := 9) rfl ?_); refine goesL_ (some 28) rfl rfl Try.func9 (by kernel_rfl) rfl #[.slice A0 l0.length c0, .slice A1 l1.length c1] rfl zm ?_; (with_reducible refine (laws_big.calls _ _ l0 _ _ l1 true _ ?side1 ?side2 ?side3 ?side4 A3.out).mono ?_); (case side1 => exact zq HR0.out); (case side2 => exact HC0.out); (case side3 => exact zq HR1.out); (case side4 => exact HC1.out); rintro e w' ⟨rfl, ⟨nd, rfl⟩⟩; refine ⟨_, rfl, ?_⟩))
      go_ret
      exact ⟨by first | rfl | (simp [errW_none, errW_some] <;> rfl) | (simp [*, errW_none, errW_some] <;> rfl), by repeat (first | (with_reducible first | exact HB.out | apply below_alloc | apply pw_below_drewN | apply below_drew1) | exact HB.out)⟩
 ·as_aux_lemma =>
    replace c4 := Bool.eq_false_iff.mpr c4
    subst c4
    have H1 : ((spec_DrawPartOf.f k l0).bind fun bt210 => ((impl_PartOf.f k bt210.1 bt210.2.1 bt210.2.2).bind fun bt215 => ((spec_PartOf.f k bt210.1 bt210.2.1 bt210.2.2).bind fun bt219 => (if (bt215.2 != bt219.2) = true then (laws_FnCutInTwo.j0 k l1 bt210.1 bt210.2.1 bt210.2.2 bt215.1 bt215.2 true) else ((laws_sameTexts.f k bt215.1 bt219.1).bind fun t223 => (laws_FnCutInTwo.j0 k l1 bt210.1 bt210.2.1 bt210.2.2 bt215.1 bt215.2 (!t223))))))) = some r := by rw [if_neg (show ¬ (false = true) by decide)] at H; exact H
    clear H
    have H := H1
    clear H1
    replace H := Option.bind_eq_some_iff.mp H
    obtain ⟨⟨t210, t211, t212⟩, A50, H⟩ := H
    replace H : ((impl_PartOf.f k t210 t211 t212).bind fun bt215 => ((spec_PartOf.f k t210 t211 t212).bind fun bt219 => (if (bt215.2 != bt219.2) = true then (laws_FnCutInTwo.j0 k l1 t210 t211 t212 bt215.1 bt215.2 true) else ((laws_sameTexts.f k bt215.1 bt219.1).bind fun t223 => (laws_FnCutInTwo.j0 k l1 t210 t211 t212 bt215.1 bt215.2 (!t223)))))) = some r := H
    have A5 := am A50
    clear A50
    replace H := Option.bind_eq_some_iff.mp H
    obtain ⟨⟨t215, t216⟩, A60, H⟩ := H
    replace H : ((spec_PartOf.f k t210 t211 t212).bind fun bt219 => (if (t216 != bt219.2) = true then (laws_FnCutInTwo.j0 k l1 t210 t211 t212 t215 t216 true) else ((laws_sameTexts.f k t215 bt219.1).bind fun t223 => (laws_FnCutInTwo.j0 k l1 t210 t211 t212 t215 t216 (!t223))))) = some r := H
    have A6 := am A60
    clear A60
    replace H := Option.bind_eq_some_iff.mp H
    obtain ⟨⟨t219, t220⟩, A70, H⟩ := H
    replace H : (if (t216 != t220) = true then (laws_FnCutInTwo.j0 k l1 t210 t211 t212 t215 t216 true) else ((laws_sameTexts.f k t215 t219).bind fun t223 => (laws_FnCutInTwo.j0 k l1 t210 t211 t212 t215 t216 (!t223)))) = some r := H
    have A7 := am A70
    clear A70
    have HC8 := am H
    clear H
    go_enter Try.func3, Try.ntmps3
    go_upto_region 6 with (first | ((with_reducible refine gateC (f := 9) rfl ?_); refine goesL_ (some 28) rfl rfl Try.func9 (by kernel_rfl) rfl #[.slice A0 l0.length c0, .slice A1 l1.length c1] rfl zm ?_; (with_reducible refine (laws_big.calls _ _ l0 _ _ l1 false _ ?side1 ?side2 ?side3 ?side4 A3.out).mono ?_); (case side1 => exact zq HR0.out); (case side2 => exact HC0.out); (case side3 => exact zq HR1.out); (case side4 => exact HC1.out); rintro e w' ⟨rfl, ⟨nd, rfl⟩⟩; refine ⟨_, rfl, ?_⟩) | ((with_reducible refine gateC (f := 10) rfl ?_); refine goesL_ (some 31) rfl rfl Try.func10 (by kernel_rfl) rfl #[.slice A0 l0.length c0] rfl zm ?_; (with_reducible refine (spec_DrawPartOf.calls k _ _ l0 t210 t211 t212 _ ?side1 ?side2 A5.out).mono ?_); (case side1 => exact zq HR0.out); (case side2 => exact HC0.out); rintro e w9 ⟨v213, rfl, ho0, hb⟩; refine ⟨_, rfl, ?_⟩; have n0_ := am (Kd.R_lower ho0 (below_size zb)); have n1_ := am (below_step zb hb); clear HB; have HO214 := n0_; have HB := n1_; clear n0_ n1_; (try clear hb); (try clear ho0); obtain ⟨Ao10, co10, eo10⟩ := Kd.R_slice HO214.out; subst eo10) | ((with_reducible refine gateC (f := 11) rfl ?_); refine goesL_ (some 39) rfl rfl Try.func11 (by kernel_rfl) rfl #[.slice Ao10 t210.length co10, .int .i64 t211, .int .i64 t212] rfl zm ?_; (with_reducible refine (impl_PartOf.calls k _ _ t210 t211 t212 t215 t216 _ ?side1 ?side2 A6.out).mono ?_); (case side1 => repeat (first | exact (Kd.R_reads' HO214.out).2.2 | (with_reducible refine Kd.C_alloc ?_ _) | (with_reducible refine Kd.C_drewN ?_ _) | (with_reducible refine Kd.C_drew ?_))); (case side2 => exact (Kd.R_reads' HO214.out).2.1); rintro e w11 ⟨v217, rfl, ho0, hb⟩; refine ⟨_, rfl, ?_⟩; have n0_ := am (Kd.R_elder' (zr HO214.out) (Kd.R_base ho0) hb); have n1_ := am (Kd.R_lower (Kd.R_new' ho0 (Kd.R_lt (zr HO214.out))) (below_size zb)); have n2_ := am (below_step zb hb); clear HO214; clear HB; have HO214 := n0_; have HO218 := n1_; have HB := n2_; clear n0_ n1_ n2_; (try clear hb); (try clear ho0)) | ((with_reducible refine gateC (f := 12) rfl ?_); refine goesL_ (some 46) rfl rfl Try.func12 (by kernel_rfl) rfl #[.slice Ao10 t210.length co10, .int .i64 t211, .int .i64 t212] rfl zm ?_; (with_reducible refine (spec_PartOf.calls k _ _ t210 t211 t212 t219 t220 _ ?side1 ?side2 A7.out).mono ?_); (case side1 => repeat (first | exact (Kd.R_reads' HO214.out).2.2 | (with_reducible refine Kd.C_alloc ?_ _) | (with_reducible refine Kd.C_drewN ?_ _) | (with_reducible refine Kd.C_drew ?_))); (case side2 => exact (Kd.R_reads' HO214.out).2.1); rintro e w12 ⟨v221, rfl, ho0, hb⟩; refine ⟨_, rfl, ?_⟩; have n0_ := am (Kd.R_elder' (zr HO214.out) (Kd.R_base ho0) hb); have n1_ := am (Kd.R_elder' (zr HO218.out) (Kd.R_base ho0) hb); have n2_ := am (Kd.R_lower (Kd.R_new' (Kd.R_new' ho0 (Kd.R_lt (zr HO214.out))) (Kd.R_lt (zr HO218.out))) (below_size zb)); have n3_ := am (below_step zb hb); clear HO214; clear HO218; clear HB; have HO214 := n0_; have HO218 := n1_; have HO222 := n2_; have HB := n3_; clear n0_ n1_ n2_ n3_; (try clear hb); (try clear ho0)))
    (try simp only [Act.put, List.setIfInBounds_toArray, List.set_cons_zero, List.set_cons_succ])
    go_cut [57] (fun v57 wc => ∃ (kq : Nat) (x57_7 : Bool), v57 = .bool x57_7 ∧ Aside0 (laws_FnCutInTwo.j0 kq l1 t210 t211 t212 t215 t216 x57_7 = some r) ∧ Aside0 (kq ≤ k) ∧ Aside0 (Kd.R Kd.string 9 wc w.heap.size (fun k_ => some k_ ≠ (v217 : Value).ownBlock) (.slice Ao10 t210.length co10) t210) ∧ Aside0 (Kd.R Kd.string 9 wc w.heap.size (fun k_ => some k_ ≠ ((.slice Ao10 t210.length co10) : Value).ownBlock) v217 t215) ∧ Aside0 (Below w.heap.size w wc))
    case first =>
     have H := HC8.out
     clear HC8
     by_cases c13 : (t216 != t220) = true
     ·as_aux_lemma =>
        rw [if_pos c13] at H
        have c13b0 : (t216 != t220) = true := c13
        (try (have c13b1 : decide (t216 = t220) = false := by simpa using c13))
        (try (have c13b2 : (t216 == t220) = false := by simpa using c13))
        (try (have c13b3 : ¬ (t216 = t220) := by simpa using c13))
        clear c13
        (first | rw [c13b0] | (simp only [i64_w, i32_w]; rw [c13b0]) | skip)
        have H' := am H
        clear H
        go_wp2
        go_meet
        case rel => exact ⟨_, (true), zf, H', ⟨by first | omega | exact Nat.le_refl _⟩, ⟨by (with_reducible repeat (first | apply Kd.R_alloc | apply Kd.R_drewN | apply Kd.R_drew)); exact Kd.R_mono HO214.out (fun _ hk => hk.1.2)⟩, ⟨by (with_reducible repeat (first | apply Kd.R_alloc | apply Kd.R_drewN | apply Kd.R_drew)); exact Kd.R_mono HO218.out (fun _ hk => hk.1.2)⟩, ⟨by repeat (first | (with_reducible first | exact HB.out | apply below_alloc | apply pw_below_drewN | apply below_drew1) | exact HB.out)⟩⟩
     ·as_aux_lemma =>
        rw [if_neg c13] at H
        have c13b0 : (t216 != t220) = false := by simpa using c13
        (try (have c13b1 : decide (t216 = t220) = true := by simpa using c13))
        (try (have c13b2 : (t216 == t220) = true := by simpa using c13))
        clear c13
        (first | rw [c13b0] | (simp only [i64_w, i32_w]; rw [c13b0]) | skip)
        replace H := Option.bind_eq_some_iff.mp H
        obtain ⟨t223, A140, H⟩ := H
        replace H : (laws_FnCutInTwo.j0 k l1 t210 t211 t212 t215 t216 (!t223)) = some r := H
        have A14 := am A140
        clear A140
        have H' := am H
        clear H
        obtain ⟨Ao15, co15, eo15⟩ := Kd.R_slice HO218.out
        subst eo15
        obtain ⟨Ao16, co16, eo16⟩ := Kd.R_slice HO222.out
        subst eo16
        go_wp2_with (first | (go_at_call 13; (with_reducible refine (laws_sameTexts.calls k _ _ t215 _ _ t219 t223 _ ?side1 ?side2 ?side3 ?side4 A14.out).mono ?_); (case side1 => repeat (first | exact (Kd.R_reads' HO218.out).2.2 | (with_reducible refine Kd.C_alloc ?_ _) | (with_reducible refine Kd.C_drewN ?_ _) | (with_reducible refine Kd.C_drew ?_))); (case side2 => exact (Kd.R_reads' HO218.out).2.1); (case side3 => repeat (first | exact (Kd.R_reads' HO222.out).2.2 | (with_reducible refine Kd.C_alloc ?_ _) | (with_reducible refine Kd.C_drewN ?_ _) | (with_reducible refine Kd.C_drew ?_))); (case side4 => exact (Kd.R_reads' HO222.out).2.1); rintro e w' ⟨rfl, ⟨nd, rfl⟩⟩))
        go_meet
        case rel => exact ⟨_, (!t223), zf, H', ⟨by first | omega | exact Nat.le_refl _⟩, ⟨by (with_reducible repeat (first | apply Kd.R_alloc | apply Kd.R_drewN | apply Kd.R_drew)); exact Kd.R_mono HO214.out (fun _ hk => hk.1.2)⟩, ⟨by (with_reducible repeat (first | apply Kd.R_alloc | apply Kd.R_drewN | apply Kd.R_drew)); exact Kd.R_mono HO218.out (fun _ hk => hk.1.2)⟩, ⟨by repeat (first | (with_reducible first | exact HB.out | apply below_alloc | apply pw_below_drewN | apply below_drew1) | exact HB.out)⟩⟩
    case rest =>
     clear HC8
     try clear c1
     try clear p2
     try clear c3
     try clear c4
     try clear c9
     try clear c10
     try clear c11
     try clear c12
     try clear c13
     try clear c13b0
     try clear c13b1
     try clear c13b2
     obtain ⟨kq, x57_7, rfl, HA, HJ7, HO_5, HO_8, HB⟩ := hcut
     cases kq with
     | zero => exact absurd HA.out (by simp [laws_FnCutInTwo.j0])
     | succ kj7 =>
      have H := HA.out
      clear HA
      simp only [laws_FnCutInTwo.j0] at H
      by_cases c17 : x57_7 = true
      ·as_aux_lemma =>
         subst c17
         have H1 : (some false) = some r := by rw [if_pos rfl] at H; exact H
         clear H
         have H := H1
         clear H1
         exact absurd (show false = true from (Option.some.inj H).trans HR_.out) Bool.false_ne_true
      ·as_aux_lemma =>
         replace c17 := Bool.eq_false_iff.mpr c17
         subst c17
         have H1 : (if t216 = true then ((impl_PartOf.f kj7 t210 0 t211).bind fun bt224 => ((impl_PartOf.f kj7 t210 t212 (t210.length : Int)).bind fun bt228 => (if bt224.2 = true then (if bt228.2 = true then ((some (([] : List ByteArray) : List ByteArray)).bind fun y232 => (if y232.length + bt224.1.length < 8796093022208 then ((some (y232 ++ bt224.1 : List ByteArray)).bind fun y235 => (if y235.length + t215.length < 8796093022208 then ((some (y235 ++ t215 : List ByteArray)).bind fun y238 => (if y238.length + bt228.1.length < 8796093022208 then ((laws_sameTexts.f kj7 (y238 ++ bt228.1) t210).bind fun t244 => (laws_FnCutInTwo.j1 kj7 l1 t215 (!t244))) else (none))) else (none))) else (none))) else (laws_FnCutInTwo.j1 kj7 l1 t215 true)) else (laws_FnCutInTwo.j1 kj7 l1 t215 true)))) else ((spec_DrawPlainOf.f l1).bind fun t253 => ((impl_PlainOf.f kj7 t253).bind fun bt254 => ((spec_PlainOf.f kj7 t253).bind fun bt256 => (if (bt254.2 == bt256.2) = true then (some (bt254.1.toList == bt256.1.toList)) else (some false)))))) = some r := by rw [if_neg (show ¬ (false = true) by decide)] at H; exact H
         clear H
         have H := H1
         clear H1
         by_cases c18 : t216 = true
         ·as_aux_lemma =>
            subst c18
            have H1 : ((impl_PartOf.f kj7 t210 0 t211).bind fun bt224 => ((impl_PartOf.f kj7 t210 t212 (t210.length : Int)).bind fun bt228 => (if bt224.2 = true then (if bt228.2 = true then ((some (([] : List ByteArray) : List ByteArray)).bind fun y232 => (if y232.length + bt224.1.length < 8796093022208 then ((some (y232 ++ bt224.1 : List ByteArray)).bind fun y235 => (if y235.length + t215.length < 8796093022208 then ((some (y235 ++ t215 : List ByteArray)).bind fun y238 => (if y238.length + bt228.1.length < 8796093022208 then ((laws_sameTexts.f kj7 (y238 ++ bt228.1) t210).bind fun t244 => (laws_FnCutInTwo.j1 kj7 l1 t215 (!t244))) else (none))) else (none))) else (none))) else (laws_FnCutInTwo.j1 kj7 l1 t215 true)) else (laws_FnCutInTwo.j1 kj7 l1 t215 true)))) = some r := by rw [if_pos rfl] at H; exact H
            clear H
            have H := H1
            clear H1
            replace H := Option.bind_eq_some_iff.mp H
            obtain ⟨⟨t224, t225⟩, A190, H⟩ := H
            replace H : ((impl_PartOf.f kj7 t210 t212 (t210.length : Int)).bind fun bt228 => (if t225 = true then (if bt228.2 = true then ((some (([] : List ByteArray) : List ByteArray)).bind fun y232 => (if y232.length + t224.length < 8796093022208 then ((some (y232 ++ t224 : List ByteArray)).bind fun y235 => (if y235.length + t215.length < 8796093022208 then ((some (y235 ++ t215 : List ByteArray)).bind fun y238 => (if y238.length + bt228.1.length < 8796093022208 then ((laws_sameTexts.f kj7 (y238 ++ bt228.1) t210).bind fun t244 => (laws_FnCutInTwo.j1 kj7 l1 t215 (!t244))) else (none))) else (none))) else (none))) else (laws_FnCutInTwo.j1 kj7 l1 t215 true)) else (laws_FnCutInTwo.j1 kj7 l1 t215 true))) = some r := H
            have A19 := am A190
            clear A190
            replace H := Option.bind_eq_some_iff.mp H
            obtain ⟨⟨t228, t229⟩, A200, H⟩ := H
            replace H : (if t225 = true then (if t229 = true then ((some (([] : List ByteArray) : List ByteArray)).bind fun y232 => (if y232.length + t224.length < 8796093022208 then ((some (y232 ++ t224 : List ByteArray)).bind fun y235 => (if y235.length + t215.length < 8796093022208 then ((some (y235 ++ t215 : List ByteArray)).bind fun y238 => (if y238.length + t228.length < 8796093022208 then ((laws_sameTexts.f kj7 (y238 ++ t228) t210).bind fun t244 => (laws_FnCutInTwo.j1 kj7 l1 t215 (!t244))) else (none))) else (none))) else (none))) else (laws_FnCutInTwo.j1 kj7 l1 t215 true)) else (laws_FnCutInTwo.j1 kj7 l1 t215 true)) = some r := H
            have A20 := am A200
            clear A200
            have HC21 := am H
            clear H
            go_upto_region 11 with (first | ((with_reducible refine gateC (f := 11) rfl ?_); refine goesL_ (some 62) rfl rfl Try.func11 (by kernel_rfl) rfl #[.slice Ao10 t210.length co10, .int .i64 0, .int .i64 t211] rfl zm ?_; (with_reducible refine (impl_PartOf.calls kj7 _ _ t210 0 t211 t224 t225 _ ?side1 ?side2 A19.out).mono ?_); (case side1 => repeat (first | exact (Kd.R_reads' HO_5.out).2.2 | (with_reducible refine Kd.C_alloc ?_ _) | (with_reducible refine Kd.C_drewN ?_ _) | (with_reducible refine Kd.C_drew ?_))); (case side2 => exact (Kd.R_reads' HO_5.out).2.1); rintro e w22 ⟨v226, rfl, ho0, hb⟩; refine ⟨_, rfl, ?_⟩; have n0_ := am (Kd.R_elder' (zr HO_5.out) (Kd.R_base ho0) hb); have n1_ := am (Kd.R_elder' (zr HO_8.out) (Kd.R_base ho0) hb); have n2_ := am (Kd.R_lower (Kd.R_new' (Kd.R_new' ho0 (Kd.R_lt (zr HO_5.out))) (Kd.R_lt (zr HO_8.out))) (below_size zb)); have n3_ := am (below_step zb hb); clear HO_5; clear HO_8; clear HB; have HO_5 := n0_; have HO_8 := n1_; have HO227 := n2_; have HB := n3_; clear n0_ n1_ n2_ n3_; (try clear hb); (try clear ho0)) | ((with_reducible refine gateC (f := 11) rfl ?_); refine goesL_ (some 70) rfl rfl Try.func11 (by kernel_rfl) rfl #[.slice Ao10 t210.length co10, .int .i64 t212, .int .i64 (t210.length : Int)] rfl zm ?_; (with_reducible refine (impl_PartOf.calls kj7 _ _ t210 t212 (t210.length : Int) t228 t229 _ ?side1 ?side2 A20.out).mono ?_); (case side1 => repeat (first | exact (Kd.R_reads' HO_5.out).2.2 | (with_reducible refine Kd.C_alloc ?_ _) | (with_reducible refine Kd.C_drewN ?_ _) | (with_reducible refine Kd.C_drew ?_))); (case side2 => exact (Kd.R_reads' HO_5.out).2.1); rintro e w23 ⟨v230, rfl, ho0, hb⟩; refine ⟨_, rfl, ?_⟩; have n0_ := am (Kd.R_elder' (zr HO_5.out) (Kd.R_base ho0) hb); have n1_ := am (Kd.R_elder' (zr HO_8.out) (Kd.R_base ho0) hb); have n2_ := am (Kd.R_elder' (zr HO227.out) (Kd.R_base ho0) hb); have n3_ := am (Kd.R_lower (Kd.R_new' (Kd.R_new' (Kd.R_new' ho0 (Kd.R_lt (zr HO_5.out))) (Kd.R_lt (zr HO_8.out))) (Kd.R_lt (zr HO227.out))) (below_size zb)); have n4_ := am (below_step zb hb); clear HO_5; clear HO_8; clear HO227; clear HB; have HO_5 := n0_; have HO_8 := n1_; have HO227 := n2_; have HO231 := n3_; have HB := n4_; clear n0_ n1_ n2_ n3_ n4_; (try clear hb); (try clear ho0)))
            (try simp only [Act.put, List.setIfInBounds_toArray, List.set_cons_zero, List.set_cons_succ])
            go_cut [90] (fun v90 wc => ∃ (kq : Nat) (x90_20 : Bool), v90 = .bool x90_20 ∧ Aside0 (laws_FnCutInTwo.j1 kq l1 t215 x90_20 = some r) ∧ Aside0 (kq ≤ kj7) ∧ Aside0 (Kd.R Kd.string 9 wc w.heap.size (fun _ => True) v217 t215) ∧ Aside0 (Below w.heap.size w wc))
            case first =>
             have H := HC21.out
             clear HC21
             by_cases c24 : t225 = true
             ·as_aux_lemma =>
                subst c24
                have H1 : (if t229 = true then ((some (([] : List ByteArray) : List ByteArray)).bind fun y232 => (if y232.length + t224.length < 8796093022208 then ((some (y232 ++ t224 : List ByteArray)).bind fun y235 => (if y235.length + t215.length < 8796093022208 then ((some (y235 ++ t215 : List ByteArray)).bind fun y238 => (if y238.length + t228.length < 8796093022208 then ((laws_sameTexts.f kj7 (y238 ++ t228) t210).bind fun t244 => (laws_FnCutInTwo.j1 kj7 l1 t215 (!t244))) else (none))) else (none))) else (none))) else (laws_FnCutInTwo.j1 kj7 l1 t215 true)) = some r := by rw [if_pos rfl] at H; exact H
                clear H
                have H := H1
                clear H1
                by_cases c25 : t229 = true
                ·as_aux_lemma =>
                   subst c25
                   have H1 : ((some (([] : List ByteArray) : List ByteArray)).bind fun y232 => (if y232.length + t224.length < 8796093022208 then ((some (y232 ++ t224 : List ByteArray)).bind fun y235 => (if y235.length + t215.length < 8796093022208 then ((some (y235 ++ t215 : List ByteArray)).bind fun y238 => (if y238.length + t228.length < 8796093022208 then ((laws_sameTexts.f kj7 (y238 ++ t228) t210).bind fun t244 => (laws_FnCutInTwo.j1 kj7 l1 t215 (!t244))) else (none))) else (none))) else (none))) = some r := by rw [if_pos rfl] at H; exact H
                   clear H
                   have H := H1
                   clear H1
                   obtain ⟨y232, hy232⟩ : ∃ y_ : List ByteArray, y_ = (([] : List ByteArray)) := ⟨_, rfl⟩
                   replace H : (if y232.length + t224.length < 8796093022208 then ((some (y232 ++ t224 : List ByteArray)).bind fun y235 => (if y235.length + t215.length < 8796093022208 then ((some (y235 ++ t215 : List ByteArray)).bind fun y238 => (if y238.length + t228.length < 8796093022208 then ((laws_sameTexts.f kj7 (y238 ++ t228) t210).bind fun t244 => (laws_FnCutInTwo.j1 kj7 l1 t215 (!t244))) else (none))) else (none))) else (none)) = some r := by first | (rw [hy232]; with_reducible exact H) | (have H2_ := (Option.bind_some _ _).symm.trans H; rw [hy232]; with_reducible exact H2_) | (have H2_ := (Option.bind_some _ _).symm.trans H; with_reducible exact H2_) | with_reducible exact H | (rw [hy232]; exact H) | exact H
                   have Ny232 := am hy232
                   clear hy232
                   by_cases c26 : y232.length + t224.length < 8796093022208
                   ·as_aux_lemma =>
                      rw [if_pos c26] at H
                      have LMc26 := am c26
                      clear c26
                      obtain ⟨y235, hy235⟩ : ∃ y_ : List ByteArray, y_ = (y232 ++ t224) := ⟨_, rfl⟩
                      replace H : (if y235.length + t215.length < 8796093022208 then ((some (y235 ++ t215 : List ByteArray)).bind fun y238 => (if y238.length + t228.length < 8796093022208 then ((laws_sameTexts.f kj7 (y238 ++ t228) t210).bind fun t244 => (laws_FnCutInTwo.j1 kj7 l1 t215 (!t244))) else (none))) else (none)) = some r := by first | (rw [hy235]; with_reducible exact H) | (have H2_ := (Option.bind_some _ _).symm.trans H; rw [hy235]; with_reducible exact H2_) | (have H2_ := (Option.bind_some _ _).symm.trans H; with_reducible exact H2_) | with_reducible exact H | (rw [hy235]; exact H) | exact H
                      have Ny235 := am hy235
                      clear hy235
                      by_cases c27 : y235.length + t215.length < 8796093022208
                      ·as_aux_lemma =>
                         rw [if_pos c27] at H
                         have LMc27 := am c27
                         clear c27
                         obtain ⟨y238, hy238⟩ : ∃ y_ : List ByteArray, y_ = (y235 ++ t215) := ⟨_, rfl⟩
                         replace H : (if y238.length + t228.length < 8796093022208 then ((laws_sameTexts.f kj7 (y238 ++ t228) t210).bind fun t244 => (laws_FnCutInTwo.j1 kj7 l1 t215 (!t244))) else (none)) = some r := by first | (rw [hy238]; with_reducible exact H) | (have H2_ := (Option.bind_some _ _).symm.trans H; rw [hy238]; with_reducible exact H2_) | (have H2_ := (Option.bind_some _ _).symm.trans H; with_reducible exact H2_) | with_reducible exact H | (rw [hy238]; exact H) | exact H
                         have Ny238 := am hy238
                         clear hy238
                         by_cases c28 : y238.length + t228.length < 8796093022208
                         ·as_aux_lemma =>
                            rw [if_pos c28] at H
                            have LMc28 := am c28
                            clear c28
                            obtain ⟨y241, hy241⟩ : ∃ y_ : List ByteArray, y_ = (y238 ++ t228) := ⟨_, rfl⟩
                            replace H : ((laws_sameTexts.f kj7 y241 t210).bind fun t244 => (laws_FnCutInTwo.j1 kj7 l1 t215 (!t244))) = some r := by first | (rw [hy241]; with_reducible exact H) | (have H2_ := (Option.bind_some _ _).symm.trans H; rw [hy241]; with_reducible exact H2_) | (have H2_ := (Option.bind_some _ _).symm.trans H; with_reducible exact H2_) | with_reducible exact H | (rw [hy241]; exact H) | exact H
                            have Ny241 := am hy241
                            clear hy241
                            replace H := Option.bind_eq_some_iff.mp H
                            obtain ⟨t244, A290, H⟩ := H
                            replace H : (laws_FnCutInTwo.j1 kj7 l1 t215 (!t244)) = some r := H
                            have A29 := am A290
                            clear A290
                            have H' := am H
                            clear H
                            go_wp2_with (first | ((with_reducible refine gate_dst (N := 80) rfl ?_); (try (refine gate_guard (by rfl) ?_; dsimp only)); refine Kd.R_lit Kd.string _ 9 ?hg (N := 80) ?hd (xs := ([] : List ByteArray)) (inner := []) (ok := fun _ => True) (okp := fun _ => True) ?hr ?hp (fun _ hk => hk) trivial (Below.refl _ _) (Nat.le_refl _) (by simp) ?_; (case hd => rfl); (case hg => rfl); (case hr => first | (go_simp; done) | (go_simp; rfl)); (case hp => exact (Reps.none _ _)); intro v233 w30 ho31 hb hg_ hnew_; clear hg_ hnew_; (first | rw [← Ny232.out] at ho31 | (simp only [Int.reduceToNat] at ho31; rw [← Ny232.out] at ho31)); have n0_ := am (Kd.R_elder' (zr HO_5.out) (Kd.R_base ho31) hb); have n1_ := am (Kd.R_elder' (zr HO_8.out) (Kd.R_base ho31) hb); have n2_ := am (Kd.R_elder' (zr HO227.out) (Kd.R_base ho31) hb); have n3_ := am (Kd.R_elder' (zr HO231.out) (Kd.R_base ho31) hb); have n4_ := am (Kd.R_lower (Kd.R_new' (Kd.R_new' (Kd.R_new' (Kd.R_new' ho31 (Kd.R_lt (zr HO_5.out))) (Kd.R_lt (zr HO_8.out))) (Kd.R_lt (zr HO227.out))) (Kd.R_lt (zr HO231.out))) (below_size zb)); have n5_ := am (below_step zb hb); clear HO_5; clear HO_8; clear HO227; clear HO231; clear HB; have HO_5 := n0_; have HO_8 := n1_; have HO227 := n2_; have HO231 := n3_; have HO234 := n4_; have HB := n5_; clear n0_ n1_ n2_ n3_ n4_ n5_; clear hb ho31; obtain ⟨Ao33, co33, eo33⟩ := Kd.R_slice HO227.out; subst eo33) | ((with_reducible refine gateB (b := .append) (xs := #[.tmp 80, .tmp 81]) rfl ?_); (try (refine gate_guard (by rfl) ?_; dsimp only)); at_builtin; refine Kd.R_append_rows Kd.string (w0 := w) w.heap.size rfl (.tmp 80) (.tmp 81) 24 9 (.string ⟨#[]⟩) 16 rfl Try.underlying24 info9 rfl (by decide) (by omega) v233 y232 t224 _ _ _ (fun k_ => some k_ ≠ (.slice Ao10 t210.length co10 : Value).ownBlock ∧ some k_ ≠ (v217 : Value).ownBlock ∧ some k_ ≠ (.slice Ao33 t224.length co33 : Value).ownBlock ∧ some k_ ≠ (v230 : Value).ownBlock) (fun _ => False) rfl rfl ?aO ?aR (fun _ _ h => h) (fun _ h => h.elim) ?aF ?aB ?aS ?aL ?_; (case aR => repeat (first | exact (Kd.R_reads' HO227.out).2.2 | (with_reducible refine Kd.C_alloc ?_ _) | (with_reducible refine Kd.C_drewN ?_ _) | (with_reducible refine Kd.C_drew ?_))); (case aB => exact zb); (case aF => exact (fun k_ hk => ⟨Kd.fresh' (Kd.R_lt (zr HO_5.out)) k_ hk, Kd.fresh' (Kd.R_lt (zr HO_8.out)) k_ hk, Kd.fresh' (Kd.R_lt (zr HO227.out)) k_ hk, Kd.fresh' (Kd.R_lt (zr HO231.out)) k_ hk⟩)); (case aO => exact (by (with_reducible repeat (first | apply Kd.R_alloc | apply Kd.R_drewN | apply Kd.R_drew)); exact Kd.R_mono HO234.out (fun _ hk => ⟨hk.1.1.1.2, ⟨hk.1.1.2, ⟨hk.1.2, hk.2⟩⟩⟩))); (case aS => exact (below_size zb)); (case aL => have := LMc26.out; omega); intro v236 w32 ho hb hg hat; rw [← Ny235.out] at ho; have n0_ := am (Kd.R_after (ok := (fun k_ => some k_ ≠ (v217 : Value).ownBlock ∧ some k_ ≠ (.slice Ao33 t224.length co33 : Value).ownBlock ∧ some k_ ≠ (v230 : Value).ownBlock)) (by (with_reducible repeat (first | apply Kd.R_alloc | apply Kd.R_drewN | apply Kd.R_drew)); exact Kd.R_mono HO_5.out (fun _ hk => ⟨⟨hk.1.1.1, ⟨hk.1.1.2, hk.1.2⟩⟩, hk.2⟩)) hg hat); have n1_ := am (Kd.R_after (ok := (fun k_ => some k_ ≠ (.slice Ao10 t210.length co10 : Value).ownBlock ∧ some k_ ≠ (.slice Ao33 t224.length co33 : Value).ownBlock ∧ some k_ ≠ (v230 : Value).ownBlock)) (by (with_reducible repeat (first | apply Kd.R_alloc | apply Kd.R_drewN | apply Kd.R_drew)); exact Kd.R_mono HO_8.out (fun _ hk => ⟨⟨hk.1.1.1, ⟨hk.1.1.2, hk.1.2⟩⟩, hk.2⟩)) hg hat); have n2_ := am (Kd.R_after (ok := (fun k_ => some k_ ≠ (.slice Ao10 t210.length co10 : Value).ownBlock ∧ some k_ ≠ (v217 : Value).ownBlock ∧ some k_ ≠ (v230 : Value).ownBlock)) (by (with_reducible repeat (first | apply Kd.R_alloc | apply Kd.R_drewN | apply Kd.R_drew)); exact Kd.R_mono HO227.out (fun _ hk => ⟨⟨hk.1.1.1.2, ⟨hk.1.1.2, hk.1.2⟩⟩, hk.2⟩)) hg hat); have n3_ := am (Kd.R_after (ok := (fun k_ => some k_ ≠ (.slice Ao10 t210.length co10 : Value).ownBlock ∧ some k_ ≠ (v217 : Value).ownBlock ∧ some k_ ≠ (.slice Ao33 t224.length co33 : Value).ownBlock)) (by (with_reducible repeat (first | apply Kd.R_alloc | apply Kd.R_drewN | apply Kd.R_drew)); exact Kd.R_mono HO231.out (fun _ hk => ⟨⟨hk.1.1.1.2, ⟨hk.1.1.2, hk.1.2⟩⟩, hk.2⟩)) hg hat); have n4_ := am (hb); have n5_ := am (ho); clear HO_5; clear HO_8; clear HO227; clear HO231; clear HB; clear HO234; have HO_5 := n0_; have HO_8 := n1_; have HO227 := n2_; have HO231 := n3_; have HB := n4_; have HO237 := n5_; clear n0_ n1_ n2_ n3_ n4_ n5_; clear ho hb hg hat; obtain ⟨Ao35, co35, eo35⟩ := Kd.R_slice HO_8.out; subst eo35) | ((with_reducible refine gateB (b := .append) (xs := #[.tmp 82, .tmp 83]) rfl ?_); (try (refine gate_guard (by rfl) ?_; dsimp only)); at_builtin; refine Kd.R_append_rows Kd.string (w0 := w) w.heap.size rfl (.tmp 82) (.tmp 83) 24 9 (.string ⟨#[]⟩) 16 rfl Try.underlying24 info9 rfl (by decide) (by omega) v236 y235 t215 _ _ _ (fun k_ => some k_ ≠ (.slice Ao10 t210.length co10 : Value).ownBlock ∧ some k_ ≠ (.slice Ao35 t215.length co35 : Value).ownBlock ∧ some k_ ≠ (.slice Ao33 t224.length co33 : Value).ownBlock ∧ some k_ ≠ (v230 : Value).ownBlock) (fun _ => False) rfl rfl ?aO ?aR (fun _ _ h => h) (fun _ h => h.elim) ?aF ?aB ?aS ?aL ?_; (case aR => repeat (first | exact (Kd.R_reads' HO_8.out).2.2 | (with_reducible refine Kd.C_alloc ?_ _) | (with_reducible refine Kd.C_drewN ?_ _) | (with_reducible refine Kd.C_drew ?_))); (case aB => exact zb); (case aF => exact (fun k_ hk => ⟨Kd.fresh' (Kd.R_lt (zr HO_5.out)) k_ hk, Kd.fresh' (Kd.R_lt (zr HO_8.out)) k_ hk, Kd.fresh' (Kd.R_lt (zr HO227.out)) k_ hk, Kd.fresh' (Kd.R_lt (zr HO231.out)) k_ hk⟩)); (case aO => exact (zr HO237.out)); (case aS => exact (below_size zb)); (case aL => have := LMc27.out; omega); intro v239 w34 ho hb hg hat; rw [← Ny238.out] at ho; have n0_ := am (Kd.R_after (ok := (fun k_ => some k_ ≠ (.slice Ao35 t215.length co35 : Value).ownBlock ∧ some k_ ≠ (.slice Ao33 t224.length co33 : Value).ownBlock ∧ some k_ ≠ (v230 : Value).ownBlock)) (zr HO_5.out) hg hat); have n1_ := am (Kd.R_after (ok := (fun k_ => some k_ ≠ (.slice Ao10 t210.length co10 : Value).ownBlock ∧ some k_ ≠ (.slice Ao33 t224.length co33 : Value).ownBlock ∧ some k_ ≠ (v230 : Value).ownBlock)) (zr HO_8.out) hg hat); have n2_ := am (Kd.R_after (ok := (fun k_ => some k_ ≠ (.slice Ao10 t210.length co10 : Value).ownBlock ∧ some k_ ≠ (.slice Ao35 t215.length co35 : Value).ownBlock ∧ some k_ ≠ (v230 : Value).ownBlock)) (zr HO227.out) hg hat); have n3_ := am (Kd.R_after (ok := (fun k_ => some k_ ≠ (.slice Ao10 t210.length co10 : Value).ownBlock ∧ some k_ ≠ (.slice Ao35 t215.length co35 : Value).ownBlock ∧ some k_ ≠ (.slice Ao33 t224.length co33 : Value).ownBlock)) (zr HO231.out) hg hat); have n4_ := am (hb); have n5_ := am (ho); clear HO_5; clear HO_8; clear HO227; clear HO231; clear HB; clear HO237; have HO_5 := n0_; have HO_8 := n1_; have HO227 := n2_; have HO231 := n3_; have HB := n4_; have HO240 := n5_; clear n0_ n1_ n2_ n3_ n4_ n5_; clear ho hb hg hat; obtain ⟨Ao37, co37, eo37⟩ := Kd.R_slice HO231.out; subst eo37) | ((with_reducible refine gateB (b := .append) (xs := #[.tmp 84, .tmp 85]) rfl ?_); (try (refine gate_guard (by rfl) ?_; dsimp only)); at_builtin; refine Kd.R_append_rows Kd.string (w0 := w) w.heap.size rfl (.tmp 84) (.tmp 85) 24 9 (.string ⟨#[]⟩) 16 rfl Try.underlying24 info9 rfl (by decide) (by omega) v239 y238 t228 _ _ _ (fun k_ => some k_ ≠ (.slice Ao10 t210.length co10 : Value).ownBlock ∧ some k_ ≠ (.slice Ao35 t215.length co35 : Value).ownBlock ∧ some k_ ≠ (.slice Ao33 t224.length co33 : Value).ownBlock ∧ some k_ ≠ (.slice Ao37 t228.length co37 : Value).ownBlock) (fun _ => False) rfl rfl ?aO ?aR (fun _ _ h => h) (fun _ h => h.elim) ?aF ?aB ?aS ?aL ?_; (case aR => repeat (first | exact (Kd.R_reads' HO231.out).2.2 | (with_reducible refine Kd.C_alloc ?_ _) | (with_reducible refine Kd.C_drewN ?_ _) | (with_reducible refine Kd.C_drew ?_))); (case aB => exact zb); (case aF => exact (fun k_ hk => ⟨Kd.fresh' (Kd.R_lt (zr HO_5.out)) k_ hk, Kd.fresh' (Kd.R_lt (zr HO_8.out)) k_ hk, Kd.fresh' (Kd.R_lt (zr HO227.out)) k_ hk, Kd.fresh' (Kd.R_lt (zr HO231.out)) k_ hk⟩)); (case aO => exact (zr HO240.out)); (case aS => exact (below_size zb)); (case aL => have := LMc28.out; omega); intro v242 w36 ho hb hg hat; rw [← Ny241.out] at ho; have n0_ := am (Kd.R_after (ok := (fun k_ => some k_ ≠ (.slice Ao35 t215.length co35 : Value).ownBlock ∧ some k_ ≠ (.slice Ao33 t224.length co33 : Value).ownBlock ∧ some k_ ≠ (.slice Ao37 t228.length co37 : Value).ownBlock)) (zr HO_5.out) hg hat); have n1_ := am (Kd.R_after (ok := (fun k_ => some k_ ≠ (.slice Ao10 t210.length co10 : Value).ownBlock ∧ some k_ ≠ (.slice Ao33 t224.length co33 : Value).ownBlock ∧ some k_ ≠ (.slice Ao37 t228.length co37 : Value).ownBlock)) (zr HO_8.out) hg hat); have n2_ := am (Kd.R_after (ok := (fun k_ => some k_ ≠ (.slice Ao10 t210.length co10 : Value).ownBlock ∧ some k_ ≠ (.slice Ao35 t215.length co35 : Value).ownBlock ∧ some k_ ≠ (.slice Ao37 t228.length co37 : Value).ownBlock)) (zr HO227.out) hg hat); have n3_ := am (Kd.R_after (ok := (fun k_ => some k_ ≠ (.slice Ao10 t210.length co10 : Value).ownBlock ∧ some k_ ≠ (.slice Ao35 t215.length co35 : Value).ownBlock ∧ some k_ ≠ (.slice Ao33 t224.length co33 : Value).ownBlock)) (zr HO231.out) hg hat); have n4_ := am (hb); have n5_ := am (ho); clear HO_5; clear HO_8; clear HO227; clear HO231; clear HB; clear HO240; have HO_5 := n0_; have HO_8 := n1_; have HO227 := n2_; have HO231 := n3_; have HB := n4_; have HO243 := n5_; clear n0_ n1_ n2_ n3_ n4_ n5_; clear ho hb hg hat; obtain ⟨Ao38, co38, eo38⟩ := Kd.R_slice HO243.out; subst eo38) | (go_at_call 13; (with_reducible refine (laws_sameTexts.calls kj7 _ _ y241 _ _ t210 t244 _ ?side1 ?side2 ?side3 ?side4 A29.out).mono ?_); (case side1 => repeat (first | exact (Kd.R_reads' HO243.out).2.2 | (with_reducible refine Kd.C_alloc ?_ _) | (with_reducible refine Kd.C_drewN ?_ _) | (with_reducible refine Kd.C_drew ?_))); (case side2 => exact (Kd.R_reads' HO243.out).2.1); (case side3 => repeat (first | exact (Kd.R_reads' HO_5.out).2.2 | (with_reducible refine Kd.C_alloc ?_ _) | (with_reducible refine Kd.C_drewN ?_ _) | (with_reducible refine Kd.C_drew ?_))); (case side4 => exact (Kd.R_reads' HO_5.out).2.1); rintro e w' ⟨rfl, ⟨nd, rfl⟩⟩))
                            go_meet
                            case rel => exact ⟨_, (!t244), zf, H', ⟨by have := HJ7.out; first | omega | exact Nat.le_refl _⟩, ⟨by (with_reducible repeat (first | apply Kd.R_alloc | apply Kd.R_drewN | apply Kd.R_drew)); exact Kd.R_mono HO_8.out (fun _ hk => trivial)⟩, ⟨by repeat (first | (with_reducible first | exact HB.out | apply below_alloc | apply pw_below_drewN | apply below_drew1) | exact HB.out)⟩⟩
                         ·rw [if_neg c28] at H
                          exact absurd H (by simp)
                      ·rw [if_neg c27] at H
                       exact absurd H (by simp)
                   ·rw [if_neg c26] at H
                    exact absurd H (by simp)
                ·as_aux_lemma =>
                   replace c25 := Bool.eq_false_iff.mpr c25
                   subst c25
                   have H1 : (laws_FnCutInTwo.j1 kj7 l1 t215 true) = some r := by rw [if_neg (show ¬ (false = true) by decide)] at H; exact H
                   clear H
                   have H := H1
                   clear H1
                   have H' := am H
                   clear H
                   go_wp2
                   go_meet
                   case rel => exact ⟨_, (true), zf, H', ⟨by have := HJ7.out; first | omega | exact Nat.le_refl _⟩, ⟨by (with_reducible repeat (first | apply Kd.R_alloc | apply Kd.R_drewN | apply Kd.R_drew)); exact Kd.R_mono HO_8.out (fun _ hk => trivial)⟩, ⟨by repeat (first | (with_reducible first | exact HB.out | apply below_alloc | apply pw_below_drewN | apply below_drew1) | exact HB.out)⟩⟩
             ·as_aux_lemma =>
                replace c24 := Bool.eq_false_iff.mpr c24
                subst c24
                have H1 : (laws_FnCutInTwo.j1 kj7 l1 t215 true) = some r := by rw [if_neg (show ¬ (false = true) by decide)] at H; exact H
                clear H
                have H := H1
                clear H1
                have H' := am H
                clear H
                go_wp2
                go_meet
                case rel => exact ⟨_, (true), zf, H', ⟨by have := HJ7.out; first | omega | exact Nat.le_refl _⟩, ⟨by (with_reducible repeat (first | apply Kd.R_alloc | apply Kd.R_drewN | apply Kd.R_drew)); exact Kd.R_mono HO_8.out (fun _ hk => trivial)⟩, ⟨by repeat (first | (with_reducible first | exact HB.out | apply below_alloc | apply pw_below_drewN | apply below_drew1) | exact HB.out)⟩⟩
            case rest =>
             clear HC21
             try clear c1
             try clear c2
             try clear p2
             try clear c3
             try clear c4
             try clear c9
             try clear c10
             try clear c11
             try clear c12
             try clear c13
             try clear c13b0
             try clear c13b1
             try clear c13b2
             try clear c17
             try clear c18
             try clear c24
             try clear c25
             try clear c26
             try clear c27
             try clear c28
             try clear p2
             obtain ⟨kq, x90_20, rfl, HA, HJ20, HO_8, HB⟩ := hcut
             cases kq with
             | zero => exact absurd HA.out (by simp [laws_FnCutInTwo.j1])
             | succ kj20 =>
              have H := HA.out
              clear HA
              simp only [laws_FnCutInTwo.j1] at H
              by_cases c39 : x90_20 = true
              ·as_aux_lemma =>
                 subst c39
                 have H1 : (some false) = some r := by rw [if_pos rfl] at H; exact H
                 clear H
                 have H := H1
                 clear H1
                 exact absurd (show false = true from (Option.some.inj H).trans HR_.out) Bool.false_ne_true
              ·as_aux_lemma =>
                 replace c39 := Bool.eq_false_iff.mpr c39
                 subst c39
                 have H1 : (laws_FnCutInTwo.l0 kj20 l1 t215 (t215.length : Int) 0) = some r := by rw [if_neg (show ¬ (false = true) by decide)] at H; exact H
                 clear H
                 have H := H1
                 clear H1
                 have H' := am H
                 clear H
                 obtain ⟨Ao40, co40, eo40⟩ := Kd.R_slice HO_8.out
                 subst eo40
                 go_wp2
                 go_loopg [93] kj20 (fun kq v93 w' => ∃ (x93_3 : Int), v93 = .int .i64 x93_3 ∧ Aside0 (laws_FnCutInTwo.l0 kq l1 t215 (t215.length : Int) x93_3 = some r) ∧ Aside0 (kq ≤ kj20) ∧ Aside0 (Kd.R Kd.string 9 w' w.heap.size (fun _ => True) (.slice Ao40 t215.length co40) t215) ∧ Aside0 (Below w.heap.size w w'))
                 case atStart => exact ⟨(0), zf, H', ⟨Nat.le_refl _⟩, ⟨by (with_reducible repeat (first | apply Kd.R_alloc | apply Kd.R_drewN | apply Kd.R_drew)); exact HO_8.out⟩, ⟨by repeat (first | (with_reducible first | exact HB.out | apply below_alloc | apply pw_below_drewN | apply below_drew1) | exact HB.out)⟩⟩
                 case round =>
                  clear H'
                  try clear c1
                  try clear c2
                  try clear p2
                  try clear c3
                  try clear c4
                  try clear c9
                  try clear c10
                  try clear c11
                  try clear c12
                  try clear c13
                  try clear c13b0
                  try clear c13b1
                  try clear c13b2
                  try clear c17
                  try clear c18
                  try clear c24
                  try clear c25
                  try clear c26
                  try clear c27
                  try clear c28
                  try clear c39
                  try clear p2
                  obtain ⟨x93_3, rfl, HA, HK3, HO_91, HB⟩ := hrel
                  cases gk with
                  | zero => exact absurd HA.out (by simp [laws_FnCutInTwo.l0])
                  | succ k3 =>
                   have H := HA.out
                   clear HA
                   simp only [laws_FnCutInTwo.l0] at H
                   by_cases c41 : x93_3 < (t215.length : Int)
                   ·as_aux_lemma =>
                      rw [if_pos c41] at H
                      have c41b0 : decide (x93_3 < (t215.length : Int)) = true := decide_eq_true c41
                      clear c41
                      by_cases c42 : 0 ≤ x93_3
                      ·as_aux_lemma =>
                         rw [if_pos c42] at H
                         have c42b0 : decide (0 ≤ x93_3) = true := decide_eq_true c42
                         clear c42
                         by_cases c43 : x93_3 < (t215.length : Int)
                         ·as_aux_lemma =>
                            rw [if_pos c43] at H
                            have c43b0 : decide (x93_3 < (t215.length : Int)) = true := decide_eq_true c43
                            clear c43
                            replace H := Option.bind_eq_some_iff.mp H
                            obtain ⟨⟨t246, t247⟩, A440, H⟩ := H
                            replace H : (if t247 = true then (if t246.toList = (rdOf ByteArray.empty t215 x93_3).toList then (if t246.data.toList.contains 10 = true then (none) else (laws_FnCutInTwo.l0 k3 l1 t215 (t215.length : Int) (wrap64 (x93_3 + 1)))) else (if t246.size + 1 ≤ 9223372036854775807 then (if (t246 ++ (⟨#[10]⟩ : ByteArray)).toList = (rdOf ByteArray.empty t215 x93_3).toList then (if t246.data.toList.contains 10 = true then (none) else (laws_FnCutInTwo.l0 k3 l1 t215 (t215.length : Int) (wrap64 (x93_3 + 1)))) else (some false)) else (none))) else (some false)) = some r := H
                            have A44 := am A440
                            clear A440
                            by_cases c45 : t247 = true
                            ·as_aux_lemma =>
                               subst c45
                               have H1 : (if t246.toList = (rdOf ByteArray.empty t215 x93_3).toList then (if t246.data.toList.contains 10 = true then (none) else (laws_FnCutInTwo.l0 k3 l1 t215 (t215.length : Int) (wrap64 (x93_3 + 1)))) else (if t246.size + 1 ≤ 9223372036854775807 then (if (t246 ++ (⟨#[10]⟩ : ByteArray)).toList = (rdOf ByteArray.empty t215 x93_3).toList then (if t246.data.toList.contains 10 = true then (none) else (laws_FnCutInTwo.l0 k3 l1 t215 (t215.length : Int) (wrap64 (x93_3 + 1)))) else (some false)) else (none))) = some r := by rw [if_pos rfl] at H; exact H
                               clear H
                               have H := H1
                               clear H1
                               by_cases c46 : t246.toList = (rdOf ByteArray.empty t215 x93_3).toList
                               ·as_aux_lemma =>
                                  rw [if_pos c46] at H
                                  by_cases cN : t246.data.toList.contains 10 = true
                                  case pos => rw [if_pos cN] at H; cases H
                                  rw [if_neg cN] at H
                                  have HN := am cN
                                  clear cN
                                  have c46b0 : (t246.toList == (rdOf ByteArray.empty t215 x93_3).toList) = true := beq_iff_eq.mpr c46
                                  have c46b1 : (t246.toList != (rdOf ByteArray.empty t215 x93_3).toList) = false := bne_eq_false_iff_eq.mpr c46
                                  clear c46
                                  have H' := am H
                                  clear H
                                  have p245 : 0 ≤ (x93_3 : Int) := oa
                                  have q245 : x93_3 < (t215.length : Int) := oa
                                  obtain ⟨ad245, e245, hx245_0⟩ := Kd.at_string (Kd.R_reads' HO_91.out).2.2 x93_3 p245 q245
                                  cases e245
                                  replace p245 := eq_true p245
                                  replace q245 := eq_true q245
                                  go_wp2_with (first | ((with_reducible refine gateC (f := 14) rfl ?_); refine goesL_ (some 99) rfl rfl Try.func14 (by kernel_rfl) rfl #[.string (rdOf ByteArray.empty t215 x93_3)] rfl zm ?_; (with_reducible refine (impl_PlainOf.calls k3 (rdOf ByteArray.empty t215 x93_3) t246 true _ A44.out).mono ?_); rintro e w' ⟨rfl, ⟨nd, rfl⟩⟩; refine ⟨_, rfl, ?_⟩))
                                  have HOx := am (show Kd.R Kd.string 9 (wr.drewN nd) w.heap.size (fun _ => True) _ t215 from Kd.R_drewN HO_91.out nd)
                                  have HBx := am (show Below w.heap.size w (wr.drewN nd) from pw_below_drewN HB.out nd)
                                  clear HO_91 HB
                                  (try clear hx245_0)
                                  have hS : (wr.drewN nd).heap.size = wr.heap.size := rfl
                                  generalize wr.drewN nd = wx at hS HOx HBx ⊢
                                  rw [← hS]
                                  clear hS
                                  go_loopg [] t246.size (fun kq w' => ∃ (pos : Nat), w' = wx.iter t246 pos ∧ Aside0 (t246.size ≤ pos + kq))
                                  case atStart => exact ⟨0, rfl, ⟨by omega⟩⟩
                                  case round =>
                                   obtain ⟨pos, rfl, hm⟩ := hrel
                                   by_cases hp : pos < t246.size
                                   · have hnx : ∀ ty, (Instr.next (.pointer (some ⟨wx.heap.size, 0, none⟩)) true ty).run Try.prog (wx.iter t246 pos) = _ := fun ty => run_next_any wx t246 pos ty hp
                                     have hne := fun h_ => no_nl t246 pos h_ HN.out
                                     have hwd := (am (rune_wide t246 pos hp))
                                     have HP := am hp
                                     have pZ : (0 ≤ (pos : Int)) = True := eq_true (by omega)
                                     have qZ : ((pos : Int) < (t246.size : Int)) = True := eq_true (by omega)
                                     clear hp
                                     go_wp2
                                     go_roundg (gk - (Utf8.decode t246 pos).2)
                                     case measure => have := HP.out; have := hm.out; have := hwd.out; omega
                                     case rel => exact ⟨pos + (Utf8.decode t246 pos).2, rfl, ⟨by have := hm.out; omega⟩⟩
                                   · have hnx : ∀ ty, (Instr.next (.pointer (some ⟨wx.heap.size, 0, none⟩)) true ty).run Try.prog (wx.iter t246 pos) = _ := fun ty => run_next_end wx t246 pos ty hp
                                     clear hp
                                     go_wp2
                                     go_roundg k3
                                     case measure => have := HJ7.out; have := HJ20.out; have := HK3.out; omega
                                     case rel => exact ⟨(wrap64 (x93_3 + 1)), zf, H', ⟨by have := HJ7.out; have := HJ20.out; have := HK3.out; omega⟩, ⟨Kd.R_alloc HOx.out _⟩, ⟨below_alloc HBx.out _⟩⟩
                               ·as_aux_lemma =>
                                  rw [if_neg c46] at H
                                  have c46b0 : (t246.toList == (rdOf ByteArray.empty t215 x93_3).toList) = false := beq_eq_false_iff_ne.mpr c46
                                  have c46b1 : (t246.toList != (rdOf ByteArray.empty t215 x93_3).toList) = true := bne_iff_ne.mpr c46
                                  by_cases c47 : t246.size + 1 ≤ 9223372036854775807
                                  ·as_aux_lemma =>
                                     rw [if_pos c47] at H
                                     have c47b0 := eq_true c47
                                     have c47b1 : decide (t246.size + 1 ≤ 9223372036854775807) = true := decide_eq_true c47
                                     try have c47b2 : (9223372036854775807 < t246.size + 1) = False := eq_false (Nat.not_lt.2 c47)
                                     by_cases c48 : (t246 ++ (⟨#[10]⟩ : ByteArray)).toList = (rdOf ByteArray.empty t215 x93_3).toList
                                     ·as_aux_lemma =>
                                        rw [if_pos c48] at H
                                        by_cases cN : t246.data.toList.contains 10 = true
                                        case pos => rw [if_pos cN] at H; cases H
                                        rw [if_neg cN] at H
                                        have HN := am cN
                                        clear cN
                                        have c48b0 : ((t246 ++ (⟨#[10]⟩ : ByteArray)).toList == (rdOf ByteArray.empty t215 x93_3).toList) = true := beq_iff_eq.mpr c48
                                        have c48b1 : ((t246 ++ (⟨#[10]⟩ : ByteArray)).toList != (rdOf ByteArray.empty t215 x93_3).toList) = false := bne_eq_false_iff_eq.mpr c48
                                        clear c48
                                        have H' := am H
                                        clear H
                                        have p245 : 0 ≤ (x93_3 : Int) := oa
                                        have q245 : x93_3 < (t215.length : Int) := oa
                                        obtain ⟨ad245, e245, hx245_0⟩ := Kd.at_string (Kd.R_reads' HO_91.out).2.2 x93_3 p245 q245
                                        cases e245
                                        replace p245 := eq_true p245
                                        replace q245 := eq_true q245
                                        go_wp2_with (first | ((with_reducible refine gateC (f := 14) rfl ?_); refine goesL_ (some 99) rfl rfl Try.func14 (by kernel_rfl) rfl #[.string (rdOf ByteArray.empty t215 x93_3)] rfl zm ?_; (with_reducible refine (impl_PlainOf.calls k3 (rdOf ByteArray.empty t215 x93_3) t246 true _ A44.out).mono ?_); rintro e w' ⟨rfl, ⟨nd, rfl⟩⟩; refine ⟨_, rfl, ?_⟩))
                                        have HOx := am (show Kd.R Kd.string 9 (wr.drewN nd) w.heap.size (fun _ => True) _ t215 from Kd.R_drewN HO_91.out nd)
                                        have HBx := am (show Below w.heap.size w (wr.drewN nd) from pw_below_drewN HB.out nd)
                                        clear HO_91 HB
                                        (try clear hx245_0)
                                        have hS : (wr.drewN nd).heap.size = wr.heap.size := rfl
                                        generalize wr.drewN nd = wx at hS HOx HBx ⊢
                                        rw [← hS]
                                        clear hS
                                        go_loopg [] t246.size (fun kq w' => ∃ (pos : Nat), w' = wx.iter t246 pos ∧ Aside0 (t246.size ≤ pos + kq))
                                        case atStart => exact ⟨0, rfl, ⟨by omega⟩⟩
                                        case round =>
                                         obtain ⟨pos, rfl, hm⟩ := hrel
                                         by_cases hp : pos < t246.size
                                         · have hnx : ∀ ty, (Instr.next (.pointer (some ⟨wx.heap.size, 0, none⟩)) true ty).run Try.prog (wx.iter t246 pos) = _ := fun ty => run_next_any wx t246 pos ty hp
                                           have hne := fun h_ => no_nl t246 pos h_ HN.out
                                           have hwd := (am (rune_wide t246 pos hp))
                                           have HP := am hp
                                           have pZ : (0 ≤ (pos : Int)) = True := eq_true (by omega)
                                           have qZ : ((pos : Int) < (t246.size : Int)) = True := eq_true (by omega)
                                           clear hp
                                           go_wp2
                                           go_roundg (gk - (Utf8.decode t246 pos).2)
                                           case measure => have := HP.out; have := hm.out; have := hwd.out; omega
                                           case rel => exact ⟨pos + (Utf8.decode t246 pos).2, rfl, ⟨by have := hm.out; omega⟩⟩
                                         · have hnx : ∀ ty, (Instr.next (.pointer (some ⟨wx.heap.size, 0, none⟩)) true ty).run Try.prog (wx.iter t246 pos) = _ := fun ty => run_next_end wx t246 pos ty hp
                                           clear hp
                                           go_wp2
                                           go_roundg k3
                                           case measure => have := HJ7.out; have := HJ20.out; have := HK3.out; omega
                                           case rel => exact ⟨(wrap64 (x93_3 + 1)), zf, H', ⟨by have := HJ7.out; have := HJ20.out; have := HK3.out; omega⟩, ⟨Kd.R_alloc HOx.out _⟩, ⟨below_alloc HBx.out _⟩⟩
                                     ·as_aux_lemma =>
                                        rw [if_neg c48] at H
                                        have c48b0 : ((t246 ++ (⟨#[10]⟩ : ByteArray)).toList == (rdOf ByteArray.empty t215 x93_3).toList) = false := beq_eq_false_iff_ne.mpr c48
                                        have c48b1 : ((t246 ++ (⟨#[10]⟩ : ByteArray)).toList != (rdOf ByteArray.empty t215 x93_3).toList) = true := bne_iff_ne.mpr c48
                                        exact absurd (show false = true from (Option.some.inj H).trans HR_.out) Bool.false_ne_true
                                  ·rw [if_neg c47] at H
                                   exact absurd H (by simp)
                            ·as_aux_lemma =>
                               replace c45 := Bool.eq_false_iff.mpr c45
                               subst c45
                               have H1 : (some false) = some r := by rw [if_neg (show ¬ (false = true) by decide)] at H; exact H
                               clear H
                               have H := H1
                               clear H1
                               exact absurd (show false = true from (Option.some.inj H).trans HR_.out) Bool.false_ne_true
                         ·rw [if_neg c43] at H
                          exact absurd H (by simp)
                      ·rw [if_neg c42] at H
                       exact absurd H (by simp)
                   ·as_aux_lemma =>
                      rw [if_neg c41] at H
                      have c41b0 : decide (x93_3 < (t215.length : Int)) = false := decide_eq_false c41
                      clear c41
                      replace H := Option.bind_eq_some_iff.mp H
                      obtain ⟨t248, A490, H⟩ := H
                      replace H : ((impl_PlainOf.f k3 t248).bind fun bt249 => ((spec_PlainOf.f k3 t248).bind fun bt251 => (if (bt249.2 == bt251.2) = true then (some (bt249.1.toList == bt251.1.toList)) else (some false)))) = some r := H
                      have A49 := am A490
                      clear A490
                      replace H := Option.bind_eq_some_iff.mp H
                      obtain ⟨⟨t249, t250⟩, A500, H⟩ := H
                      replace H : ((spec_PlainOf.f k3 t248).bind fun bt251 => (if (t250 == bt251.2) = true then (some (t249.toList == bt251.1.toList)) else (some false))) = some r := H
                      have A50 := am A500
                      clear A500
                      replace H := Option.bind_eq_some_iff.mp H
                      obtain ⟨⟨t251, t252⟩, A510, H⟩ := H
                      replace H : (if (t250 == t252) = true then (some (t249.toList == t251.toList)) else (some false)) = some r := H
                      have A51 := am A510
                      clear A510
                      by_cases c52 : (t250 == t252) = true
                      ·as_aux_lemma =>
                         rw [if_pos c52] at H
                         have c52b0 : (t250 == t252) = true := c52
                         (try (have c52b1 : decide (t250 = t252) = true := by simpa using c52))
                         (try (have c52b2 : (t250 == t252) = true := by simpa using c52))
                         clear c52
                         first
                         | exact absurd (show false = true from (Option.some.inj H).trans HR_.out) Bool.false_ne_true
                         | obtain rfl := Option.some.inj H
                           go_wp2_with (first | ((with_reducible refine gateC (f := 15) rfl ?_); refine goesL_ (some 126) rfl rfl Try.func15 (by kernel_rfl) rfl #[.slice A1 l1.length c1] rfl zm ?_; (with_reducible refine (spec_DrawPlainOf.calls _ _ l1 t248 _ ?side1 ?side2 A49.out).mono ?_); (case side1 => exact zq (Kd.C_below HR1.out HB.out)); (case side2 => exact HC1.out); rintro e w53 ⟨rfl, hb⟩; refine ⟨_, rfl, ?_⟩; have n0_ := am (Kd.R_below (zr HO_91.out) hb); have n1_ := am (below_step zb hb); clear HO_91; clear HB; have HO_91 := n0_; have HB := n1_; clear n0_ n1_; (try clear hb)) | ((with_reducible refine gateC (f := 14) rfl ?_); refine goesL_ (some 129) rfl rfl Try.func14 (by kernel_rfl) rfl #[.string t248] rfl zm ?_; (with_reducible refine (impl_PlainOf.calls k3 t248 t249 t250 _ A50.out).mono ?_); rintro e w' ⟨rfl, ⟨nd, rfl⟩⟩; refine ⟨_, rfl, ?_⟩) | ((with_reducible refine gateC (f := 16) rfl ?_); refine goesL_ (some 134) rfl rfl Try.func16 (by kernel_rfl) rfl #[.string t248] rfl zm ?_; (with_reducible refine (spec_PlainOf.calls k3 t248 t251 t252 _ A51.out).mono ?_); rintro e w' ⟨rfl, ⟨nd, rfl⟩⟩; refine ⟨_, rfl, ?_⟩))
                           go_ret
                           exact ⟨by first | rfl | (simp [errW_none, errW_some] <;> rfl) | (simp [*, errW_none, errW_some] <;> rfl), by repeat (first | (with_reducible first | exact HB.out | apply below_alloc | apply pw_below_drewN | apply below_drew1) | exact HB.out)⟩
                      ·as_aux_lemma =>
                         rw [if_neg c52] at H
                         have c52b0 : (t250 == t252) = false := by simpa using c52
                         (try (have c52b1 : decide (t250 = t252) = false := by simpa using c52))
                         (try (have c52b2 : (t250 == t252) = false := by simpa using c52))
                         (try (have c52b3 : ¬ (t250 = t252) := by simpa using c52))
                         clear c52
                         exact absurd (show false = true from (Option.some.inj H).trans HR_.out) Bool.false_ne_true
         ·as_aux_lemma =>
            replace c18 := Bool.eq_false_iff.mpr c18
            subst c18
            have H1 : ((spec_DrawPlainOf.f l1).bind fun t253 => ((impl_PlainOf.f kj7 t253).bind fun bt254 => ((spec_PlainOf.f kj7 t253).bind fun bt256 => (if (bt254.2 == bt256.2) = true then (some (bt254.1.toList == bt256.1.toList)) else (some false))))) = some r := by rw [if_neg (show ¬ (false = true) by decide)] at H; exact H
            clear H
            have H := H1
            clear H1
            replace H := Option.bind_eq_some_iff.mp H
            obtain ⟨t253, A550, H⟩ := H
            replace H : ((impl_PlainOf.f kj7 t253).bind fun bt254 => ((spec_PlainOf.f kj7 t253).bind fun bt256 => (if (bt254.2 == bt256.2) = true then (some (bt254.1.toList == bt256.1.toList)) else (some false)))) = some r := H
            have A55 := am A550
            clear A550
            replace H := Option.bind_eq_some_iff.mp H
            obtain ⟨⟨t254, t255⟩, A560, H⟩ := H
            replace H : ((spec_PlainOf.f kj7 t253).bind fun bt256 => (if (t255 == bt256.2) = true then (some (t254.toList == bt256.1.toList)) else (some false))) = some r := H
            have A56 := am A560
            clear A560
            replace H := Option.bind_eq_some_iff.mp H
            obtain ⟨⟨t256, t257⟩, A570, H⟩ := H
            replace H : (if (t255 == t257) = true then (some (t254.toList == t256.toList)) else (some false)) = some r := H
            have A57 := am A570
            clear A570
            by_cases c58 : (t255 == t257) = true
            ·as_aux_lemma =>
               rw [if_pos c58] at H
               have c58b0 : (t255 == t257) = true := c58
               (try (have c58b1 : decide (t255 = t257) = true := by simpa using c58))
               (try (have c58b2 : (t255 == t257) = true := by simpa using c58))
               clear c58
               first
               | exact absurd (show false = true from (Option.some.inj H).trans HR_.out) Bool.false_ne_true
               | obtain rfl := Option.some.inj H
                 go_wp2_with (first | ((with_reducible refine gateC (f := 15) rfl ?_); refine goesL_ (some 126) rfl rfl Try.func15 (by kernel_rfl) rfl #[.slice A1 l1.length c1] rfl zm ?_; (with_reducible refine (spec_DrawPlainOf.calls _ _ l1 t253 _ ?side1 ?side2 A55.out).mono ?_); (case side1 => exact zq (Kd.C_below HR1.out HB.out)); (case side2 => exact HC1.out); rintro e w59 ⟨rfl, hb⟩; refine ⟨_, rfl, ?_⟩; have n0_ := am (Kd.R_below (zr HO_5.out) hb); have n1_ := am (Kd.R_below (zr HO_8.out) hb); have n2_ := am (below_step zb hb); clear HO_5; clear HO_8; clear HB; have HO_5 := n0_; have HO_8 := n1_; have HB := n2_; clear n0_ n1_ n2_; (try clear hb)) | ((with_reducible refine gateC (f := 14) rfl ?_); refine goesL_ (some 129) rfl rfl Try.func14 (by kernel_rfl) rfl #[.string t253] rfl zm ?_; (with_reducible refine (impl_PlainOf.calls kj7 t253 t254 t255 _ A56.out).mono ?_); rintro e w' ⟨rfl, ⟨nd, rfl⟩⟩; refine ⟨_, rfl, ?_⟩) | ((with_reducible refine gateC (f := 16) rfl ?_); refine goesL_ (some 134) rfl rfl Try.func16 (by kernel_rfl) rfl #[.string t253] rfl zm ?_; (with_reducible refine (spec_PlainOf.calls kj7 t253 t256 t257 _ A57.out).mono ?_); rintro e w' ⟨rfl, ⟨nd, rfl⟩⟩; refine ⟨_, rfl, ?_⟩))
                 go_ret
                 exact ⟨by first | rfl | (simp [errW_none, errW_some] <;> rfl) | (simp [*, errW_none, errW_some] <;> rfl), by repeat (first | (with_reducible first | exact HB.out | apply below_alloc | apply pw_below_drewN | apply below_drew1) | exact HB.out)⟩
            ·as_aux_lemma =>
               rw [if_neg c58] at H
               have c58b0 : (t255 == t257) = false := by simpa using c58
               (try (have c58b1 : decide (t255 = t257) = false := by simpa using c58))
               (try (have c58b2 : (t255 == t257) = false := by simpa using c58))
               (try (have c58b3 : ¬ (t255 = t257) := by simpa using c58))
               clear c58
               exact absurd (show false = true from (Option.some.inj H).trans HR_.out) Bool.false_ne_true
end Go.Proofs.Ytmcldkobejhaeaa.My
/- Written by this session's program (wip/gen): the law's pure statement. -/
namespace Go.Proofs.Ytmcldkobejhaeaa.My
open Go.RowKit Go.Proofs.YtmcldkobejhaeaaW.PrintWords Go.Proofs.YtmcldkobejhaeaaW.PrintLast
set_option linter.unusedVariables false
set_option linter.unusedSimpArgs false
def laws_FnCutInTwo.Pure : Prop := ∀ (l0 : List Int) (l1 : List Int), (WL Wu8) l0 → (WL Wu8) l1 → ∃ k, laws_FnCutInTwo.f k l0 l1 = some true
end Go.Proofs.Ytmcldkobejhaeaa.My
/- Plain Lean: the reader of choices: what it hands out is small. Asked: a reader that stands below 2^61. -/
namespace Go.Proofs.Ytmcldkobejhaeaa.Pl
open Go.RowKit Go.Proofs.YtmcldkobejhaeaaW.PrintWords Go.Proofs.YtmcldkobejhaeaaW.PrintLast Go.Proofs.Ytmcldkobejhaeaa.My
set_option linter.unusedVariables false
set_option linter.unusedSimpArgs false
def Bytes8 (c : List Int) : Prop := (c.length : Int) ≤ 9223372036854775807 ∧ ∀ x ∈ c, 0 ≤ x ∧ x ≤ 255
theorem u64_wrap_nat (x : Int) : ∃ n : Nat, IntKind.u64.wrap x = (n : Int) ∧ n < 18446744073709551616 := by
  have h : IntKind.u64.wrap x = x % 18446744073709551616 := rfl
  exact ⟨(IntKind.u64.wrap x).toNat, by rw [h]; omega, by rw [h]; omega⟩
theorem low_byte (x : Int) : 0 ≤ wrap64 (Go.bits .and .u64 (IntKind.u64.wrap x / 1099511627776) 255) ∧ wrap64 (Go.bits .and .u64 (IntKind.u64.wrap x / 1099511627776) 255) ≤ 255 := by
  obtain ⟨n, e, hn⟩ := u64_wrap_nat x
  have e2 : IntKind.u64.wrap x / 1099511627776 = ((n / 1099511627776 : Nat) : Int) := by rw [e]; omega
  rw [e2, show (255 : Int) = ((255 : Nat) : Int) from rfl, bits_and_u64_nat _ _ (by omega) (by decide)]
  have h3 : n / 1099511627776 &&& 255 = n / 1099511627776 % 256 := Nat.and_two_pow_sub_one_eq_mod (n := 8) _
  rw [h3, wrap64_id (by omega) (by omega)]
  omega
def At (B a : Int) : Prop := 0 ≤ a ∧ a ≤ B
theorem next_some (c : List Int) (hc : Bytes8 c) (a s : Int) (ha : At 2305843009213693952 a) : ∃ b s2, spec_l1Cur_next.f c a s = some (b, a + 1, s2) ∧ 0 ≤ b ∧ b ≤ 255 := by
  obtain ⟨h0, h1⟩ := ha
  unfold spec_l1Cur_next.f
  have e1 : wrap64 (a + 1) = a + 1 := wrap64_id (by omega) (by omega)
  rw [e1]
  by_cases h : a < (c.length : Int)
  · rw [if_pos h, if_pos h0, if_pos (by omega)]
    have hm : rd c a ∈ c := by
      have e2 : rd c a = c[a.toNat]'(by omega) := by
        have := getD_lt c 0 a.toNat (by omega)
        exact this
      rw [e2]
      exact List.getElem_mem _
    have hb := hc.2 _ hm
    rw [wrap64_id (x := rd c a) (by omega) (by omega)]
    exact ⟨_, _, rfl, hb.1, hb.2⟩
  · rw [if_neg h]
    by_cases h2 : a + 1 ≤ (c.length : Int)
    · rw [if_pos h2]
      exact ⟨_, _, rfl, by decide, by decide⟩
    · rw [if_neg h2]
      have := low_byte ((IntKind.u64.wrap ((IntKind.u64.wrap (s * 6364136223846793005)) + 0)) + 1442695040888963407)
      exact ⟨_, _, rfl, this.1, this.2⟩
theorem tmod_range (x n : Int) (hx : 0 ≤ x) (hn : 0 < n) : 0 ≤ Int.tmod x n ∧ Int.tmod x n < n := by
  rw [Int.tmod_eq_emod_of_nonneg hx]
  exact ⟨Int.emod_nonneg _ (by omega), Int.emod_lt_of_pos _ hn⟩
theorem pick_some (c : List Int) (hc : Bytes8 c) (a s n : Int) (ha : At 2305843009213693951 a) : ∃ v a2 s2, spec_l1Cur_pick.f c a s n = some (v, a2, s2) ∧ 0 ≤ v ∧ (v = 0 ∨ v < n) ∧ v ≤ 65535 ∧ a ≤ a2 ∧ a2 ≤ a + 2 := by
  obtain ⟨h0, h1⟩ := ha
  unfold spec_l1Cur_pick.f
  by_cases h : n ≤ 1
  · rw [if_pos h]
    exact ⟨0, a, s, rfl, by omega, .inl rfl, by omega, by omega, by omega⟩
  · rw [if_neg h]
    obtain ⟨b, s2, e, hb0, hb1⟩ := next_some c hc a s ⟨h0, by omega⟩
    rw [e]
    simp only [Option.bind_some]
    by_cases h2 : n > 200
    · obtain ⟨b2, s3, e2, hc0, hc1⟩ := next_some c hc (a + 1) s2 ⟨by omega, by omega⟩
      rw [if_pos h2, e2]
      simp only [Option.bind_some]
      rw [if_neg (by omega), wrap64_id (x := b * 256) (by omega) (by omega), wrap64_id (by omega) (by omega)]
      have ht := tmod_range (b * 256 + b2) n (by omega) (by omega)
      refine ⟨_, _, _, rfl, ht.1, .inr ht.2, ?_, by omega, by omega⟩
      rw [Int.tmod_eq_emod_of_nonneg (by omega)]
      have h5 : (b * 256 + b2) % n ≤ b * 256 + b2 := by
        have h6 := Int.mul_ediv_add_emod (b * 256 + b2) n
        have h7 : 0 ≤ (b * 256 + b2) / n := Int.ediv_nonneg (by omega) (by omega)
        have h8 : 0 ≤ n * ((b * 256 + b2) / n) := Int.mul_nonneg (by omega) h7
        omega
      omega
    · rw [if_neg h2, if_neg (by omega)]
      have ht := tmod_range b n hb0 (by omega)
      exact ⟨_, _, _, rfl, ht.1, .inr ht.2, by omega, by omega, by omega⟩
end Go.Proofs.Ytmcldkobejhaeaa.Pl
/- Plain Lean: the reader of choices: yes or no, and one of a list of texts. Asked: a reader that stands below 2^61. -/
namespace Go.Proofs.Ytmcldkobejhaeaa.Pl
open Go.RowKit Go.Proofs.YtmcldkobejhaeaaW.PrintWords Go.Proofs.YtmcldkobejhaeaaW.PrintLast Go.Proofs.Ytmcldkobejhaeaa.My
set_option linter.unusedVariables false
theorem one_some (c : List Int) (hc : Bytes8 c) (a s n : Int) (ha : At 2305843009213693951 a) : ∃ v a2 s2, spec_l1Cur_one.f c a s n = some (v, a2, s2) ∧ a ≤ a2 ∧ a2 ≤ a + 2 := by
  unfold spec_l1Cur_one.f
  obtain ⟨v, a2, s2, e, h⟩ := pick_some c hc a s n ha
  rw [e]
  exact ⟨_, _, _, rfl, h.2.2.2.1, h.2.2.2.2⟩
theorem of_some (c : List Int) (hc : Bytes8 c) (a s : Int) (ha : At 2305843009213693951 a) (l : List ByteArray) (hl : 0 < l.length) : ∃ v a2 s2, spec_l1Cur_of.f c a s l = some (v, a2, s2) ∧ v ∈ l ∧ a ≤ a2 ∧ a2 ≤ a + 2 := by
  unfold spec_l1Cur_of.f
  obtain ⟨v, a2, s2, e, h⟩ := pick_some c hc a s (l.length : Int) ha
  rw [e]
  simp only [Option.bind_some]
  have hv : v < (l.length : Int) := by rcases h.2.1 with h | h <;> omega
  rw [if_pos h.1, if_pos hv]
  refine ⟨_, _, _, rfl, ?_, h.2.2.2.1, h.2.2.2.2⟩
  have e2 : rdOf ByteArray.empty l v = l[v.toNat]'(by omega) := getD_lt l _ v.toNat (by omega)
  rw [e2]
  exact List.getElem_mem _
end Go.Proofs.Ytmcldkobejhaeaa.Pl
/- Plain Lean: the reader of choices: lines and texts. Asked: a reader that stands below 10^15. -/
namespace Go.Proofs.Ytmcldkobejhaeaa.Pl
open Go.RowKit Go.Proofs.YtmcldkobejhaeaaW.PrintWords Go.Proofs.YtmcldkobejhaeaaW.PrintLast Go.Proofs.Ytmcldkobejhaeaa.My
set_option linter.unusedVariables false
set_option linter.unusedSimpArgs false
theorem at_of {a : Int} (h0 : 0 ≤ a) (h1 : a ≤ 1000000000001000) : At 2305843009213693951 a := ⟨h0, by omega⟩
theorem line_some (c : List Int) (hc : Bytes8 c) (a s : Int) (h0 : 0 ≤ a) (h1 : a ≤ 1000000000001000) : ∃ v a2 s2, spec_l1Cur_line.f c a s = some (v, a2, s2) ∧ v.size ≤ 7 ∧ a ≤ a2 ∧ a2 ≤ a + 2 := by
  unfold spec_l1Cur_line.f
  obtain ⟨v, a2, s2, e, hv, h⟩ := of_some c hc a s (at_of h0 h1) [(⟨#[97]⟩ : ByteArray), (⟨#[98]⟩ : ByteArray), (⟨#[99]⟩ : ByteArray), (⟨#[100]⟩ : ByteArray), (⟨#[]⟩ : ByteArray), (⟨#[46]⟩ : ByteArray), (⟨#[46, 46]⟩ : ByteArray), (⟨#[111, 110, 101, 32, 116, 119, 111]⟩ : ByteArray), (⟨#[43, 120]⟩ : ByteArray), (⟨#[45, 121]⟩ : ByteArray), (⟨#[92, 32, 122]⟩ : ByteArray), (⟨#[64, 64]⟩ : ByteArray)] (by simp)
  rw [e]
  refine ⟨v, a2, s2, rfl, ?_, h⟩
  simp only [List.mem_cons, List.not_mem_nil, or_false] at hv
  rcases hv with rfl | rfl | rfl | rfl | rfl | rfl | rfl | rfl | rfl | rfl | rfl | rfl <;> decide
def Sm1 (l : List ByteArray) : Prop := ∀ s ∈ l, 1 ≤ s.size ∧ s.size ≤ 8
def SmT (l : List ByteArray) : Prop := l.length ≤ 9 ∧ (∀ s ∈ l, s.size ≤ 8) ∧ ∀ x, l.getLast? = some x → 1 ≤ x.size
theorem sm1_snoc {l : List ByteArray} {x : ByteArray} (h : Sm1 l) (h1 : 1 ≤ x.size) (h2 : x.size ≤ 8) : Sm1 (l ++ [x]) := by
  intro s hs
  rcases List.mem_append.1 hs with hs | hs
  · exact h s hs
  · rw [List.mem_singleton.1 hs]; exact ⟨h1, h2⟩
theorem nl_size (v : ByteArray) (h : v.size ≤ 7) : 1 ≤ (v ++ (⟨#[10]⟩ : ByteArray)).size ∧ (v ++ (⟨#[10]⟩ : ByteArray)).size ≤ 8 := by
  rw [ByteArray.size_append, show (⟨#[10]⟩ : ByteArray).size = 1 from rfl]
  omega
theorem text_l0 (c : List Int) (hc : Bytes8 c) : ∀ (n : Nat) (acc : List ByteArray) (a s : Int), 0 ≤ a → a + 2 * n ≤ 1000000000000500 → acc.length + n ≤ 8 → Sm1 acc → ∃ r a2 s2, Ev (fun k => spec_l1Cur_text.l0 k acc (n : Int) c a s) (r, a2, s2) ∧ r.length ≤ 9 ∧ Sm1 r ∧ a ≤ a2 ∧ a2 ≤ a + 2 * n + 4 := by
  intro n
  induction n with
  | zero =>
    intro acc a s h0 h1 hl hs
    obtain ⟨v, a2, s2, e, h2⟩ := one_some c hc a s 5 (at_of h0 (by omega))
    cases v with
    | true =>
      obtain ⟨w, a3, s3, e2, hw, h3⟩ := of_some c hc a2 s2 (at_of (by omega) (by omega)) [(⟨#[97]⟩ : ByteArray), (⟨#[101, 110, 100]⟩ : ByteArray), (⟨#[46]⟩ : ByteArray)] (by simp)
      refine ⟨acc ++ [w], a3, s3, Ev.step (fun k => spec_l1Cur_text.l0.eq_2 ..) (ev_neg (by omega) ?_), by rw [List.length_append, List.length_singleton]; omega, ?_, by omega, by omega⟩
      · refine ev_bind (ev_const e) (ev_pos rfl (ev_bind (ev_const e2) (ev_pos (by omega) (ev_some rfl))))
      · simp only [List.mem_cons, List.not_mem_nil, or_false] at hw
        rcases hw with rfl | rfl | rfl <;> exact sm1_snoc hs (by decide) (by decide)
    | false =>
      refine ⟨acc, a2, s2, Ev.step (fun k => spec_l1Cur_text.l0.eq_2 ..) (ev_neg (by omega) ?_), by omega, hs, by omega, by omega⟩
      exact ev_bind (ev_const e) (ev_neg (by simp) (ev_some rfl))
  | succ n ih =>
    intro acc a s h0 h1 hl hs
    obtain ⟨v, a2, s2, e, h2⟩ := line_some c hc a s h0 (by omega)
    have hz := nl_size v h2.1
    obtain ⟨r, a3, s3, e3, h3⟩ := ih (acc ++ [v ++ (⟨#[10]⟩ : ByteArray)]) a2 s2 (by omega) (by omega) (by rw [List.length_append, List.length_singleton]; omega) (sm1_snoc hs hz.1 hz.2)
    refine ⟨r, a3, s3, Ev.step (fun k => spec_l1Cur_text.l0.eq_2 ..) (ev_pos (by omega) ?_), h3.1, h3.2.1, by omega, by omega⟩
    refine ev_bind (ev_const e) (ev_pos (by dsimp only; omega) (ev_pos (by omega) ?_))
    rw [wrap64_id (x := ((n + 1 : Nat) : Int) - 1) (by omega) (by omega), show ((n + 1 : Nat) : Int) - 1 = (n : Int) from by omega]
    exact e3
theorem text_some (c : List Int) (hc : Bytes8 c) (a s : Int) (h0 : 0 ≤ a) (h1 : a ≤ 1000000000000400) : ∃ r a2 s2, Ev (fun k => spec_l1Cur_text.f k c a s) (r, a2, s2) ∧ r.length ≤ 9 ∧ Sm1 r ∧ a ≤ a2 ∧ a2 ≤ a + 22 := by
  simp only [spec_l1Cur_text.f]
  obtain ⟨v, a2, s2, e, h2⟩ := pick_some c hc a s 9 (at_of h0 (by omega))
  have hv : v = ((v.toNat : Nat) : Int) := by omega
  have hn : v.toNat ≤ 8 := by rcases h2.2.1 with h | h <;> omega
  obtain ⟨r, a3, s3, e3, h3⟩ := text_l0 c hc v.toNat [] a2 s2 (by omega) (by omega) (by simpa using hn) (fun s hs => by cases hs)
  rw [← hv] at e3
  exact ⟨r, a3, s3, ev_bind (ev_const e) e3, h3.1, h3.2.1, by omega, by omega⟩
theorem smT_of {l : List ByteArray} (hl : l.length ≤ 9) (h : Sm1 l) : SmT l :=
  ⟨hl, fun s hs => (h s hs).2, fun x hx => (h x (List.mem_of_getLast? hx)).1⟩
theorem smT_set {l : List ByteArray} (hl : 1 < l.length) (h : SmT l) (v : ByteArray) (hv : v.size ≤ 8) : SmT (l.set 0 v) := by
  refine ⟨by rw [List.length_set]; exact h.1, fun s hs => ?_, fun x hx => h.2.2 x ?_⟩
  · rcases List.mem_or_eq_of_mem_set hs with hs | rfl
    · exact h.2.1 s hs
    · exact hv
  · rw [List.getLast?_eq_getElem?, List.length_set, List.getElem?_set_ne (by omega)] at hx
    rw [List.getLast?_eq_getElem?]
    exact hx
theorem anyText_some (c : List Int) (hc : Bytes8 c) (a s : Int) (h0 : 0 ≤ a) (h1 : a ≤ 1000000000000300) : ∃ r a2 s2, Ev (fun k => spec_l1Cur_anyText.f k c a s) (r, a2, s2) ∧ SmT r ∧ a ≤ a2 ∧ a2 ≤ a + 24 := by
  simp only [spec_l1Cur_anyText.f]
  obtain ⟨l, a2, s2, e, h2⟩ := text_some c hc a s h0 (by omega)
  have hT := smT_of h2.1 h2.2.1
  by_cases hl : (l.length : Int) > 1
  · obtain ⟨v, a3, s3, e3, h3⟩ := pick_some c hc a2 s2 25 (at_of (by omega) (by omega))
    have st : ∀ (w : ByteArray), w.size ≤ 8 → SmT (l.set (0 : Int).toNat w) := fun w hw => smT_set (by omega) hT w hw
    by_cases c0 : v = 0
    · exact ⟨_, a3, s3, ev_bind e (ev_pos hl (ev_bind (ev_const e3) (ev_pos c0 (ev_pos (by dsimp only; omega) (ev_some rfl))))), st _ (by decide), by omega, by omega⟩
    · by_cases c1 : v = 1
      · exact ⟨_, a3, s3, ev_bind e (ev_pos hl (ev_bind (ev_const e3) (ev_neg c0 (ev_pos c1 (ev_pos (by dsimp only; omega) (ev_some rfl)))))), st _ (by decide), by omega, by omega⟩
      · by_cases c2 : v = 2
        · exact ⟨_, a3, s3, ev_bind e (ev_pos hl (ev_bind (ev_const e3) (ev_neg c0 (ev_neg c1 (ev_pos c2 (ev_pos (by dsimp only; omega) (ev_some rfl))))))), st _ (by decide), by omega, by omega⟩
        · exact ⟨_, a3, s3, ev_bind e (ev_pos hl (ev_bind (ev_const e3) (ev_neg c0 (ev_neg c1 (ev_neg c2 (ev_some rfl)))))), hT, by omega, by omega⟩
  · exact ⟨l, a2, s2, ev_bind e (ev_neg hl (ev_some rfl)), hT, by omega, by omega⟩
end Go.Proofs.Ytmcldkobejhaeaa.Pl
/- Plain Lean: texts that fit. No condition. -/
namespace Go.Proofs.Ytmcldkobejhaeaa.Pl
open Go.RowKit Go.Proofs.YtmcldkobejhaeaaW.PrintWords Go.Proofs.YtmcldkobejhaeaaW.PrintLast
set_option linter.unusedVariables false
set_option linter.unusedSimpArgs false
def FitS (l : List ByteArray) : Prop := l.length ≤ 9223372036854775807 ∧ ∀ s ∈ l, s.size ≤ 9223372036854775807
end Go.Proofs.Ytmcldkobejhaeaa.Pl
/- Plain Lean: drawn lines with a part of them, and a drawn line. No condition. -/
namespace Go.Proofs.Ytmcldkobejhaeaa.Pl
open Go.RowKit Go.Proofs.YtmcldkobejhaeaaW.PrintWords Go.Proofs.YtmcldkobejhaeaaW.PrintLast Go.Proofs.Ytmcldkobejhaeaa.My
set_option linter.unusedVariables false
set_option linter.unusedSimpArgs false
theorem drawPart_some (c : List Int) (hc : Bytes8 c) : ∃ l a b, Ev (fun k => spec_DrawPartOf.f k c) (l, a, b) ∧ SmT l := by
  simp only [spec_DrawPartOf.f, spec_DrawPartOf.g]
  obtain ⟨l, a2, s2, e, hl, h2⟩ := anyText_some c hc 0 0 (by omega) (by omega)
  obtain ⟨v3, a3, s3, e3, h3⟩ := pick_some c hc a2 s2 (wrap64 ((l.length : Int) + 1)) (at_of (by omega) (by omega))
  obtain ⟨v4, a4, s4, e4, h4⟩ := pick_some c hc a3 s3 20 (at_of (by omega) (by omega))
  obtain ⟨v5, a5, s5, e5, h5⟩ := pick_some c hc a4 s4 4 (at_of (by omega) (by omega))
  obtain ⟨v6, a6, s6, e6, h6⟩ := pick_some c hc a5 s5 20 (at_of (by omega) (by omega))
  exact ⟨l, _, _, ev_bind (ev_bind e (ev_bind (ev_const e3) (ev_bind (ev_const e4) (ev_bind (ev_const e5) (ev_bind (ev_const e6) (ev_some rfl)))))) (ev_some rfl), hl⟩
theorem drawPlain_some (c : List Int) (hc : Bytes8 c) : ∃ s, spec_DrawPlainOf.f c = some s ∧ s.size ≤ 9 := by
  unfold spec_DrawPlainOf.f spec_DrawPlainOf.g
  obtain ⟨v, a2, s2, e, hv, h2⟩ := line_some c hc 0 0 (by omega) (by omega)
  obtain ⟨u, a3, s3, e3, hu, h3⟩ := of_some c hc a2 s2 (at_of (by omega) (by omega)) [(⟨#[10]⟩ : ByteArray), (⟨#[]⟩ : ByteArray), (⟨#[10, 10]⟩ : ByteArray)] (by simp)
  have hz : u.size ≤ 2 := by
    simp only [List.mem_cons, List.not_mem_nil, or_false] at hu
    rcases hu with rfl | rfl | rfl <;> decide
  refine ⟨v ++ u, ?_, by rw [ByteArray.size_append]; omega⟩
  rw [e, Option.bind_some]
  dsimp only
  rw [e3, Option.bind_some]
  dsimp only
  rw [if_pos (by omega)]
  rfl
end Go.Proofs.Ytmcldkobejhaeaa.Pl
/- Plain Lean: whether a number lies between two. No condition. -/
namespace Go.Proofs.Ytmcldkobejhaeaa.Pl
open Go.RowKit Go.Proofs.YtmcldkobejhaeaaW.PrintWords Go.Proofs.YtmcldkobejhaeaaW.PrintLast Go.Proofs.Ytmcldkobejhaeaa.My
set_option linter.unusedVariables false
set_option linter.unusedSimpArgs false
def inB (n lo hi : Int) : Bool := decide (lo ≤ n) && decide (n ≤ hi)
theorem impl_in_eq (a b c : Int) : impl_in.f a b c = some (inB a b c) := by
  unfold impl_in.f inB
  by_cases h : b ≤ a
  · rw [if_pos h]; simp [h]
  · rw [if_neg (by omega)]; simp [h]
theorem spec_l1In_eq (a b c : Int) : spec_l1In.f a b c = some (inB a b c) := by
  unfold spec_l1In.f inB
  by_cases h : b ≤ a
  · rw [if_pos h]; simp [h]
  · rw [if_neg (by omega)]; simp [h]
end Go.Proofs.Ytmcldkobejhaeaa.Pl
/- Plain Lean: chapter 1: what a line and good lines are, for the program and the reference. Conditions: lengths and sizes below 2^63. -/
namespace Go.Proofs.Ytmcldkobejhaeaa.Pl
open Go.RowKit Go.Proofs.YtmcldkobejhaeaaW.PrintWords Go.Proofs.YtmcldkobejhaeaaW.PrintLast Go.Proofs.Ytmcldkobejhaeaa.My
set_option linter.unusedVariables false
set_option linter.unusedSimpArgs false
def isLn (s : ByteArray) : Bool := !(s.data.toList.dropLast.contains 10) && inB s.size 1 30
def ends (s : ByteArray) : Bool := s.data.toList.getLast? == some 10
def good (l : List ByteArray) : Bool := decide (l.length ≤ 40) && (l.all isLn && l.dropLast.all ends)
theorem toList_one (c : UInt8) : (⟨#[c]⟩ : ByteArray).toList = [c] := by rw [Lib.toList_data]
theorem size_one (c : UInt8) : (⟨#[c]⟩ : ByteArray).size = 1 := rfl
theorem bt_one (c : UInt8) : bt ⟨#[c]⟩ 0 = (c.toNat : Int) := rfl
theorem index_ev (s : ByteArray) (c : UInt8) : Ev (fun k => strings_Index.f k s ⟨#[c]⟩) (Lib.indexByte s.data.toList c) := by
  have hj : ∀ b : Bool, (b = true → Lib.indexByte s.data.toList c = 0) → Ev (fun k => stringslite_Index.j0 k s ⟨#[c]⟩ 1 b) (Lib.indexByte s.data.toList c) := by
    intro b hb
    refine Ev.step (fun k => stringslite_Index.j0.eq_2 ..) ?_
    refine ev_ite (fun h => ev_some (hb h).symm) (fun _ => ?_)
    refine ev_pos rfl (ev_pos (by rw [size_one]; decide) ?_)
    refine ev_const ?_
    rw [bt_one]
    simp [stringslite_IndexByte.f]
  have h2 : Ev (fun k => stringslite_Index.f k s ⟨#[c]⟩) (Lib.indexByte s.data.toList c) := by
    simp only [stringslite_Index.f]
    refine ev_neg (by rw [size_one]; decide) ?_
    refine hj _ (fun h => ?_)
    have e : s.data.toList = [c] := by
      have := beq_iff_eq.1 h
      rw [toList_one, Lib.toList_data] at this
      exact this.symm
    rw [e]
    simp [Lib.indexByte]
  simp only [strings_Index.f]
  exact ev_bind h2 (ev_some rfl)
theorem indexByte_nonneg (l : List UInt8) (c : UInt8) : decide (Lib.indexByte l c ≥ 0) = l.contains c := by
  induction l with
  | nil => simp [Lib.indexByte]
  | cons b l ih =>
    have hge := Lib.indexByte_ge l c
    unfold Lib.indexByte
    by_cases h : (b == c) = true
    · have : b = c := beq_iff_eq.1 h
      simp [this]
    · have hb : (b == c) = false := by simpa using h
      have hne : ¬ c = b := fun e => h (by simp [e])
      rw [List.contains_cons, ← ih]
      simp only [hb]
      by_cases h2 : Lib.indexByte l c = -1
      · simp [h2, hne]
      · have h3 : (Lib.indexByte l c == -1) = false := by simpa using h2
        simp only [h3]
        have : Lib.indexByte l c ≥ 0 := by omega
        simp [hne, this]
        omega
theorem contains_ev (s : ByteArray) (c : UInt8) : Ev (fun k => strings_Contains.f k s ⟨#[c]⟩) (s.data.toList.contains c) := by
  simp only [strings_Contains.f]
  exact ev_bind (index_ev s c) (ev_some (indexByte_nonneg _ _))
theorem extract_data (s : ByteArray) (a b : Nat) : (s.extract a b).data.toList = (s.data.toList.take b).drop a := by
  rw [ByteArray.data_extract, Array.toList_extract, List.extract_eq_take_drop, ← List.drop_take]
theorem isLine_ev (s : ByteArray) (hs : s.size ≤ 9223372036854775807) : Ev (fun k => impl_isLine.f k s) (isLn s) := by
  simp only [impl_isLine.f, impl_in_eq, Option.bind_some]
  refine ev_ite (fun h => ?_) (fun h => ev_some (by unfold isLn; simp at h; simp [h]))
  have h1 : 1 ≤ s.size ∧ s.size ≤ 30 := by
    simp [inB] at h
    omega
  rw [wrap_pred s.size (by omega) hs]
  refine ev_pos (by omega) (ev_pos (by omega) ?_)
  refine ev_bind (contains_ev _ 10) (ev_some ?_)
  rw [Int.toNat_natCast, extract_data, List.drop_zero, ← data_length, ← List.dropLast_eq_take]
  unfold isLn
  rw [h]
  simp
theorem l1Line_l0 (s : ByteArray) (hs : s.size ≤ 9223372036854775807) : ∀ d i, i + d = s.size - 1 → Ev (fun k => spec_l1Line.l0 k s (i : Int)) (!((s.data.toList.dropLast.drop i).contains 10) && inB s.size 1 30) := by
  intro d
  have hl : s.data.toList.length = s.size := data_length s
  induction d with
  | zero =>
    intro i hi
    refine Ev.step (fun k => spec_l1Line.l0.eq_2 ..) ?_
    refine ev_neg (by rw [wrap64_id (by omega) (by omega)]; omega) ?_
    refine ev_const ?_
    rw [spec_l1In_eq, List.drop_of_length_le (by rw [List.length_dropLast]; omega)]
    rfl
  | succ d ih =>
    intro i hi
    refine Ev.step (fun k => spec_l1Line.l0.eq_2 ..) ?_
    refine ev_pos (by rw [wrap64_id (by omega) (by omega)]; omega) (ev_pos (by omega) (ev_pos (by omega) ?_))
    have hd : s.data.toList.dropLast.drop i = s.data.toList[i] :: s.data.toList.dropLast.drop (i + 1) := by
      rw [List.drop_eq_getElem_cons (by rw [List.length_dropLast]; omega), List.getElem_dropLast]
    rw [hd, List.contains_cons, bt_nat s i (by omega)]
    refine ev_ite (fun h => ev_some ?_) (fun h => ?_)
    · have : s.data.toList[i] = 10 := u8_eq h
      rw [this]
      simp
    · rw [wrap_succ i (by omega)]
      refine ev_to (ih (i + 1) (by omega)) ?_
      have : ((10 : UInt8) == s.data.toList[i]) = false := by
        rw [beq_eq_false_iff_ne]
        exact u8_ne h
      rw [this, Bool.false_or]
theorem l1Line_ev (s : ByteArray) (hs : s.size ≤ 9223372036854775807) : Ev (fun k => spec_l1Line.f k s) (isLn s) := by
  simp only [spec_l1Line.f]
  exact l1Line_l0 s hs (s.size - 1) 0 (by omega)
theorem isLn_size {s : ByteArray} (h : isLn s = true) : 1 ≤ s.size ∧ s.size ≤ 30 := by
  simp [isLn, inB] at h
  omega
theorem ends_last {s : ByteArray} (h : 1 ≤ s.size) : ends s = (bt s ((s.size - 1 : Nat) : Int) == 10) := by
  have hl : s.data.toList.length = s.size := data_length s
  have hq : s.data.toList.getLast? = some (s.data.toList[s.size - 1]'(by omega)) := by
    rw [List.getLast?_eq_getElem?, List.getElem?_eq_getElem (by omega)]
    simp only [hl]
  unfold ends
  rw [bt_nat s _ (by omega), hq]
  rw [Bool.eq_iff_iff]
  simp only [beq_iff_eq, Option.some.injEq]
  constructor
  · intro e; rw [e]; rfl
  · intro e; exact u8_eq e
theorem l1Ends_eq (s : ByteArray) (h : 1 ≤ s.size) (hs : s.size ≤ 9223372036854775807) : spec_l1Ends.f s = some (ends s) := by
  unfold spec_l1Ends.f
  rw [wrap_pred s.size (by omega) hs, if_pos (by omega), if_pos (by omega), ends_last h]
theorem hasSuffix_eq (s : ByteArray) (c : UInt8) (hs : s.size ≤ 9223372036854775807) : strings_HasSuffix.f s ⟨#[c]⟩ = some (s.data.toList.getLast? == some c) := by
  have hl : s.data.toList.length = s.size := data_length s
  unfold strings_HasSuffix.f stringslite_HasSuffix.f
  rw [size_one]
  by_cases h : 1 ≤ s.size
  · rw [if_pos (by omega), show ((1 : Nat) : Int) = 1 from rfl, wrap_pred s.size (by omega) hs, if_pos (by omega), if_pos (by omega), Option.bind_some, toList_one, Lib.toList_data, Int.toNat_natCast, extract_data, ← hl, List.take_length]
    have e : s.data.toList.drop (s.data.toList.length - 1) = [s.data.toList[s.data.toList.length - 1]'(by omega)] := by
      rw [List.drop_eq_getElem_cons (by omega), List.drop_of_length_le (by omega)]
    rw [e, List.getLast?_eq_getElem?, List.getElem?_eq_getElem (by omega)]
    congr 1
    rw [Bool.eq_iff_iff]
    simp
  · rw [if_neg (by omega), Option.bind_some]
    have : s.data.toList = [] := List.eq_nil_of_length_eq_zero (by omega)
    simp [this]
theorem isEnded_eq (s : ByteArray) (hs : s.size ≤ 9223372036854775807) : impl_isEnded.f s = some (ends s) := by
  unfold impl_isEnded.f
  rw [hasSuffix_eq s 10 hs]
  rfl
theorem areLines_l0 (l : List ByteArray) (hf : FitS l) : ∀ d i, i + d = l.length → ∃ j : Int, Ev (fun k => slices_IndexFunc_string_string__impl_areLines_1.l0 k l (l.length : Int) (i : Int)) j ∧ decide (j ≥ 0) = !((l.drop i).all isLn) := by
  intro d
  induction d with
  | zero =>
    intro i hi
    refine ⟨-1, Ev.step (fun k => slices_IndexFunc_string_string__impl_areLines_1.l0.eq_2 ..) (ev_neg (by omega) (ev_some rfl)), ?_⟩
    rw [List.drop_of_length_le (by omega)]
    rfl
  | succ d ih =>
    intro i hi
    have hlt : i < l.length := by omega
    have hev : Ev (fun k => impl_areLines_1.f k (rdOf ByteArray.empty l (i : Int))) (!isLn l[i]) := by
      rw [rdOf_lt _ _ _ hlt]
      simp only [impl_areLines_1.f]
      exact ev_bind (isLine_ev _ (hf.2 _ (List.getElem_mem _))) (ev_some rfl)
    obtain ⟨j, hj, hjj⟩ := ih (i + 1) (by omega)
    rw [drop_cons l i hlt, List.all_cons]
    by_cases h : isLn l[i] = true
    · refine ⟨j, Ev.step (fun k => slices_IndexFunc_string_string__impl_areLines_1.l0.eq_2 ..) (ev_pos (by omega) (ev_pos (by omega) (ev_pos (by omega) (ev_bind hev (ev_neg (by simp [h]) ?_))))), by rw [hjj, h]; simp⟩
      rw [wrap_succ i (by have := hf.1; omega)]
      exact hj
    · refine ⟨(i : Int), Ev.step (fun k => slices_IndexFunc_string_string__impl_areLines_1.l0.eq_2 ..) (ev_pos (by omega) (ev_pos (by omega) (ev_pos (by omega) (ev_bind hev (ev_pos (by simp [h]) (ev_some rfl)))))), ?_⟩
      simp [h]
theorem areLines_ev (l : List ByteArray) (hf : FitS l) : Ev (fun k => impl_areLines.f k l) (decide (l.length ≤ 40) && l.all isLn) := by
  simp only [impl_areLines.f]
  refine ev_ite (fun h => ?_) (fun h => ev_some ?_)
  · obtain ⟨j, hj, hjj⟩ := areLines_l0 l hf l.length 0 (by omega)
    simp only [slices_ContainsFunc_string_string__impl_areLines_1.f, slices_IndexFunc_string_string__impl_areLines_1.f]
    refine ev_bind (ev_bind hj (ev_some rfl)) (ev_some ?_)
    have : l.length ≤ 40 := by omega
    rw [hjj]
    simp [this]
  · have : ¬ l.length ≤ 40 := by omega
    simp [this]
theorem goodLines_l0 (l : List ByteArray) (hf : FitS l) : ∀ d i, i + d = l.length → Ev (fun k => impl_goodLines.l0 k l l (l.length : Int) (i : Int)) ((l.dropLast.drop i).all ends) := by
  intro d
  have hL := hf.1
  induction d with
  | zero =>
    intro i hi
    refine Ev.step (fun k => impl_goodLines.l0.eq_2 ..) (ev_neg (by omega) (ev_some ?_))
    rw [List.drop_of_length_le (by rw [List.length_dropLast]; omega)]
    rfl
  | succ d ih =>
    intro i hi
    have hlt : i < l.length := by omega
    refine Ev.step (fun k => impl_goodLines.l0.eq_2 ..) (ev_pos (by omega) (ev_pos (by omega) (ev_pos (by omega) ?_)))
    rw [wrap_pred l.length (by omega) hL, rdOf_lt _ _ _ hlt, isEnded_eq _ (hf.2 _ (List.getElem_mem _)), wrap_succ i (by omega)]
    simp only [Option.bind_some]
    refine ev_ite (fun h => ?_) (fun h => ?_)
    · have hd : l.dropLast.drop i = l[i] :: l.dropLast.drop (i + 1) := by
        rw [List.drop_eq_getElem_cons (by rw [List.length_dropLast]; omega), List.getElem_dropLast]
      rw [hd, List.all_cons]
      refine ev_ite (fun h => ?_) (fun h => ev_some (by simp [h]))
      rw [h, Bool.true_and]
      exact ih (i + 1) (by omega)
    · have e1 : l.dropLast.drop i = [] := List.drop_of_length_le (by rw [List.length_dropLast]; omega)
      have e2 : l.dropLast.drop (i + 1) = [] := List.drop_of_length_le (by rw [List.length_dropLast]; omega)
      have := ih (i + 1) (by omega)
      rw [e2] at this
      rw [e1]
      exact this
theorem goodLines_ev (l : List ByteArray) (hf : FitS l) : Ev (fun k => impl_goodLines.f k l) (good l) := by
  simp only [impl_goodLines.f]
  refine ev_bind (areLines_ev l hf) (ev_ite (fun h => ?_) (fun h => ev_some ?_))
  · refine ev_to (goodLines_l0 l hf l.length 0 (by omega)) ?_
    rw [List.drop_zero]
    unfold good
    rw [← Bool.and_assoc, h, Bool.true_and]
  · unfold good
    rw [← Bool.and_assoc]
    simp at h
    simp
    intro h1 h2
    exact absurd (h h1) (by simpa using h2)
theorem l1Good_l0 (l : List ByteArray) (hf : FitS l) : ∀ d i, i + d = l.length → Ev (fun k => spec_l1Good.l0 k l l (l.length : Int) (i : Int)) ((l.drop i).all isLn && (l.dropLast.drop i).all ends && decide (l.length ≤ 40)) := by
  intro d
  have hL := hf.1
  induction d with
  | zero =>
    intro i hi
    refine Ev.step (fun k => spec_l1Good.l0.eq_2 ..) (ev_neg (by omega) (ev_some ?_))
    rw [List.drop_of_length_le (by omega), List.drop_of_length_le (by rw [List.length_dropLast]; omega)]
    simp
    omega
  | succ d ih =>
    intro i hi
    have hlt : i < l.length := by omega
    refine Ev.step (fun k => spec_l1Good.l0.eq_2 ..) (ev_pos (by omega) (ev_pos (by omega) (ev_pos (by omega) ?_)))
    simp only [rdOf_lt _ _ _ hlt]
    rw [wrap_pred l.length (by omega) hL, wrap_succ i (by omega), drop_cons l i hlt, List.all_cons]
    refine ev_bind (l1Line_ev _ (hf.2 _ (List.getElem_mem _))) (ev_ite (fun h => ?_) (fun h => ev_some (by simp [h])))
    rw [h, Bool.true_and, l1Ends_eq _ (isLn_size h).1 (hf.2 _ (List.getElem_mem _))]
    simp only [Option.bind_some]
    refine ev_ite (fun h => ?_) (fun h => ?_)
    · have hd : l.dropLast.drop i = l[i] :: l.dropLast.drop (i + 1) := by
        rw [List.drop_eq_getElem_cons (by rw [List.length_dropLast]; omega), List.getElem_dropLast]
      rw [hd, List.all_cons]
      refine ev_ite (fun h => ?_) (fun h => ev_some (by simp [h]))
      rw [h, Bool.true_and]
      exact ih (i + 1) (by omega)
    · have e1 : l.dropLast.drop i = [] := List.drop_of_length_le (by rw [List.length_dropLast]; omega)
      have e2 : l.dropLast.drop (i + 1) = [] := List.drop_of_length_le (by rw [List.length_dropLast]; omega)
      have := ih (i + 1) (by omega)
      rw [e2] at this
      rw [e1]
      exact this
theorem l1Good_ev (l : List ByteArray) (hf : FitS l) : Ev (fun k => spec_l1Good.f k l) (good l) := by
  simp only [spec_l1Good.f]
  refine ev_to (l1Good_l0 l hf l.length 0 (by omega)) ?_
  rw [List.drop_zero, List.drop_zero]
  unfold good
  rw [Bool.and_comm]
end Go.Proofs.Ytmcldkobejhaeaa.Pl
/- Plain Lean: copies of lists of strings. Condition: lengths below 2^43. -/
namespace Go.Proofs.Ytmcldkobejhaeaa.Pl
open Go.RowKit Go.Proofs.YtmcldkobejhaeaaW.PrintWords Go.Proofs.YtmcldkobejhaeaaW.PrintLast Go.Proofs.Ytmcldkobejhaeaa.My
set_option linter.unusedVariables false
set_option linter.unusedSimpArgs false
theorem cloneT_eq (l : List ByteArray) (h : l.length < 8796093022208) : slices_Clone_string_string.f l = some l := by
  unfold slices_Clone_string_string.f
  simp [h]
theorem ownT_eq (l : List ByteArray) (h : l.length < 8796093022208) : spec_l1OwnT.f l = some l := by
  unfold spec_l1OwnT.f
  simp [h]
end Go.Proofs.Ytmcldkobejhaeaa.Pl
/- Plain Lean: a part of lines, the program's and the reference's. Conditions: lengths and sizes below 2^43. -/
namespace Go.Proofs.Ytmcldkobejhaeaa.Pl
open Go.RowKit Go.Proofs.YtmcldkobejhaeaaW.PrintWords Go.Proofs.YtmcldkobejhaeaaW.PrintLast Go.Proofs.Ytmcldkobejhaeaa.My
set_option linter.unusedVariables false
set_option linter.unusedSimpArgs false
def PartOf' (l : List ByteArray) (a b : Int) : List ByteArray × Bool :=
  if good l = true then (if 0 ≤ a ∧ a ≤ b ∧ b ≤ (l.length : Int) then ((l.take b.toNat).drop a.toNat, true) else ([], false)) else ([], false)
theorem impl_PartOf_ev (l : List ByteArray) (a b : Int) (hf : FitS l) (hL : l.length < 8796093022208) : Ev (fun k => impl_PartOf.f k l a b) (PartOf' l a b) := by
  simp only [impl_PartOf.f, impl_in_eq, Option.bind_some, PartOf']
  refine ev_bind (goodLines_ev l hf) (ev_ite (fun h => ?_) (fun h => ev_some (by rw [if_neg h])))
  rw [if_pos h]
  refine ev_ite (fun h1 => ev_ite (fun h2 => ?_) (fun h2 => ev_some ?_)) (fun h1 => ev_some ?_)
  · simp only [inB, Bool.and_eq_true, decide_eq_true_eq] at h1 h2
    have hc : 0 ≤ a ∧ a ≤ b ∧ b ≤ (l.length : Int) := ⟨by omega, by omega, by omega⟩
    refine ev_pos hc.1 (ev_pos hc.2.1 (ev_pos hc.2.2 ?_))
    rw [cloneT_eq _ (by rw [List.length_drop, List.length_take]; omega)]
    exact ev_some (by rw [if_pos hc])
  · simp only [inB, Bool.and_eq_true, decide_eq_true_eq] at h1 h2
    rw [if_neg (by omega)]
  · simp only [inB, Bool.and_eq_true, decide_eq_true_eq] at h1
    rw [if_neg (by omega)]
theorem spec_PartOf_ev (l : List ByteArray) (a b : Int) (hf : FitS l) (hL : l.length < 8796093022208) : Ev (fun k => spec_PartOf.f k l a b) (PartOf' l a b) := by
  simp only [spec_PartOf.f, spec_l1In_eq, Option.bind_some, PartOf']
  refine ev_bind (l1Good_ev l hf) (ev_ite (fun h => ?_) (fun h => ev_some (by rw [if_neg h])))
  rw [if_pos h]
  refine ev_ite (fun h1 => ev_ite (fun h2 => ev_some ?_) (fun h2 => ?_)) (fun h1 => ev_some ?_)
  · rw [if_neg (by omega)]
  · simp only [inB, Bool.and_eq_true, decide_eq_true_eq] at h1
    have hc : 0 ≤ a ∧ a ≤ b ∧ b ≤ (l.length : Int) := ⟨by omega, by omega, by omega⟩
    refine ev_pos hc.1 (ev_pos hc.2.1 (ev_pos hc.2.2 ?_))
    rw [ownT_eq _ (by rw [List.length_drop, List.length_take]; omega)]
    exact ev_some (by rw [if_pos hc])
  · simp only [inB, Bool.and_eq_true, decide_eq_true_eq] at h1
    rw [if_neg (by omega)]
end Go.Proofs.Ytmcldkobejhaeaa.Pl
/- Plain Lean: chapter 1: a line without its end, for the program and the reference. Conditions: sizes below 2^63. -/
namespace Go.Proofs.Ytmcldkobejhaeaa.Pl
open Go.RowKit Go.Proofs.YtmcldkobejhaeaaW.PrintWords Go.Proofs.YtmcldkobejhaeaaW.PrintLast Go.Proofs.Ytmcldkobejhaeaa.My
set_option linter.unusedVariables false
set_option linter.unusedSimpArgs false
def plainB (s : ByteArray) : ByteArray := if ends s = true then s.extract 0 (s.size - 1) else s
theorem plain_eq (s : ByteArray) (hs : s.size ≤ 9223372036854775807) : impl_plain.f s = some (plainB s) := by
  unfold impl_plain.f strings_TrimSuffix.f stringslite_TrimSuffix.f
  have h1 : stringslite_HasSuffix.f s ⟨#[10]⟩ = some (ends s) := by
    have := hasSuffix_eq s 10 hs
    unfold strings_HasSuffix.f at this
    obtain ⟨b, hb, e⟩ := Option.bind_eq_some_iff.1 this
    rw [hb, e]
    rfl
  rw [h1, Option.bind_some]
  unfold plainB
  by_cases h : ends s = true
  · have hz : 1 ≤ s.size := by
      rcases Nat.eq_zero_or_pos s.size with h0 | h0
      · have : s.data.toList = [] := List.eq_nil_of_length_eq_zero (by rw [data_length]; exact h0)
        simp [ends, this] at h
      · exact h0
    rw [if_pos h, if_pos h, size_one, show ((1 : Nat) : Int) = 1 from rfl, wrap_pred s.size (by omega) hs, if_pos (by omega), if_pos (by omega)]
    rfl
  · rw [if_neg h, if_neg h]
    rfl
theorem l1Plain_eq (s : ByteArray) (h : 1 ≤ s.size) (hs : s.size ≤ 9223372036854775807) : spec_l1Plain.f s = some (plainB s) := by
  unfold spec_l1Plain.f plainB
  rw [l1Ends_eq s h hs, Option.bind_some]
  by_cases h1 : ends s = true
  · rw [if_pos h1, if_pos h1, wrap_pred s.size (by omega) hs, if_pos (by omega), if_pos (by omega)]
    rfl
  · rw [if_neg h1, if_neg h1]
end Go.Proofs.Ytmcldkobejhaeaa.Pl
/- Plain Lean: what PlainOf comes to, the program's and the reference's. Conditions: sizes below 2^63. -/
namespace Go.Proofs.Ytmcldkobejhaeaa.Pl
open Go.RowKit Go.Proofs.YtmcldkobejhaeaaW.PrintWords Go.Proofs.YtmcldkobejhaeaaW.PrintLast Go.Proofs.Ytmcldkobejhaeaa.My
set_option linter.unusedVariables false
set_option linter.unusedSimpArgs false
def PlainOf' (s : ByteArray) : ByteArray × Bool := if isLn s = true then (plainB s, true) else (⟨#[]⟩, false)
theorem impl_PlainOf_ev (s : ByteArray) (hs : s.size ≤ 9223372036854775807) : Ev (fun k => impl_PlainOf.f k s) (PlainOf' s) := by
  simp only [impl_PlainOf.f, plain_eq s hs, Option.bind_some, PlainOf']
  exact ev_bind (isLine_ev s hs) (ev_ite (fun h => ev_some (by rw [if_pos h])) (fun h => ev_some (by rw [if_neg h])))
theorem spec_PlainOf_ev (s : ByteArray) (hs : s.size ≤ 9223372036854775807) : Ev (fun k => spec_PlainOf.f k s) (PlainOf' s) := by
  simp only [spec_PlainOf.f, PlainOf']
  refine ev_bind (l1Line_ev s hs) (ev_ite (fun h => ?_) (fun h => ev_some (by rw [if_neg h])))
  rw [l1Plain_eq s (isLn_size h).1 hs]
  exact ev_some (by rw [if_pos h])
end Go.Proofs.Ytmcldkobejhaeaa.Pl
/- Plain Lean: a line without its byte 10 has none, and is the line with it put back. Asked: a line. -/
namespace Go.Proofs.Ytmcldkobejhaeaa.Pl
open Go.RowKit Go.Proofs.YtmcldkobejhaeaaW.PrintWords Go.Proofs.YtmcldkobejhaeaaW.PrintLast Go.Proofs.Ytmcldkobejhaeaa.My
set_option linter.unusedVariables false
set_option linter.unusedSimpArgs false
theorem bytes_ext {a b : ByteArray} (h : a.data.toList = b.data.toList) : a = b := ba_ext (by rw [Lib.toList_data, Lib.toList_data]; exact h)
theorem plainB_list (s : ByteArray) (h : ends s = true) : (plainB s).data.toList = s.data.toList.dropLast := by
  unfold plainB
  rw [if_pos h, List.dropLast_eq_take, data_length, ByteArray.data_extract, Array.toList_extract, List.extract_eq_take_drop, List.drop_zero, Nat.sub_zero]
theorem endsL_ {s : ByteArray} (h : ends s = true) : s.data.toList.getLast? = some 10 := by
  unfold ends at h
  exact beq_iff_eq.mp h
theorem plainB_back (s : ByteArray) (h : ends s = true) : plainB s ++ (⟨#[10]⟩ : ByteArray) = s := by
  refine bytes_ext ?_
  have hl := endsL_ h
  rw [ByteArray.data_append, Array.toList_append, plainB_list s h]
  have hn : s.data.toList ≠ [] := by rintro e; rw [e] at hl; simp at hl
  have e := List.dropLast_concat_getLast hn
  rw [List.getLast?_eq_some_getLast hn] at hl
  injection hl with hl
  rw [hl] at e
  exact e
theorem plainB_none (s : ByteArray) (h : isLn s = true) : ¬ (plainB s).data.toList.contains 10 = true := by
  unfold isLn at h
  simp only [Bool.and_eq_true, Bool.not_eq_true'] at h
  intro c
  by_cases he : ends s = true
  · rw [plainB_list s he, h.1] at c
    cases c
  · have e : plainB s = s := by unfold plainB; rw [if_neg he]
    rw [e, List.contains_iff_mem] at c
    have hn : s.data.toList ≠ [] := fun e => by rw [e] at c; simp at c
    rw [← List.dropLast_concat_getLast hn] at c
    rcases List.mem_append.1 c with c | c
    · rw [← List.contains_iff_mem, h.1] at c
      cases c
    · refine he ?_
      unfold ends
      rw [beq_iff_eq, List.getLast?_eq_some_getLast hn, ← List.mem_singleton.1 c]
end Go.Proofs.Ytmcldkobejhaeaa.Pl
/- Plain Lean: a list of texts is the same as itself, and so is a list of hunks. Asked: lengths below 2^62. -/
namespace Go.Proofs.Ytmcldkobejhaeaa.Pl
open Go.RowKit Go.Proofs.YtmcldkobejhaeaaW.PrintWords Go.Proofs.YtmcldkobejhaeaaW.PrintLast Go.Proofs.Ytmcldkobejhaeaa.My
set_option linter.unusedVariables false
theorem sameTexts_l0 (l : List ByteArray) (hl : l.length ≤ 4611686018427387904) : ∀ d i, i + d = l.length → Ev (fun k => laws_sameTexts.l0 k l l (l.length : Int) (i : Int)) true := by
  intro d
  induction d with
  | zero => intro i hi; exact Ev.step (fun k => laws_sameTexts.l0.eq_2 ..) (ev_neg (by omega) (ev_some rfl))
  | succ d ih =>
    intro i hi
    refine Ev.step (fun k => laws_sameTexts.l0.eq_2 ..) (ev_pos (by omega) (ev_pos (by omega) (ev_pos (by omega) (ev_pos (by omega) (ev_pos rfl ?_)))))
    rw [wrap_succ i (by omega)]
    exact ih (i + 1) (by omega)
theorem sameTexts_self (l : List ByteArray) (hl : l.length ≤ 4611686018427387904) : Ev (fun k => laws_sameTexts.f k l l) true := by
  unfold laws_sameTexts.f
  exact ev_pos rfl (sameTexts_l0 l hl l.length 0 (by omega))
end Go.Proofs.Ytmcldkobejhaeaa.Pl
/- Plain Lean: the drawn laws' bytes, and the test of their number. No condition. -/
namespace Go.Proofs.Ytmcldkobejhaeaa.Pl
open Go.RowKit Go.Proofs.YtmcldkobejhaeaaW.PrintWords Go.Proofs.YtmcldkobejhaeaaW.PrintLast Go.Proofs.Ytmcldkobejhaeaa.My
set_option linter.unusedVariables false
set_option linter.unusedSimpArgs false
theorem wu8_bounds {z : Int} (h : Wu8 z) : 0 ≤ z ∧ z ≤ 255 := by
  have h' : (Lit.int .u8 z).wf = true := h
  simp [Lit.wf, show IntKind.u8.min = 0 from rfl, show IntKind.u8.max = 255 from rfl] at h'
  omega
theorem bytes8_of {l : List Int} (h : (WL Wu8) l) : Bytes8 l := by
  refine ⟨?_, fun x hx => wu8_bounds (h.2 x hx)⟩
  have h1 := h.1
  have h2 : maxLen ≤ 9223372036854775807 := by decide
  omega
def bigB (a b : List Int) : Bool := if (a.length : Int) > 1048576 then true else decide ((b.length : Int) > 1048576 - (a.length : Int))
theorem big_eq (a b : List Int) (ha : Bytes8 a) (hb : Bytes8 b) : laws_big.f a b = some (bigB a b) := by
  unfold laws_big.f bigB
  have h1 := ha.1
  by_cases h : (a.length : Int) > 1048576
  · rw [if_pos h, if_pos h]
  · rw [if_neg h, if_neg h, wrap64_id (by omega) (by omega)]
end Go.Proofs.Ytmcldkobejhaeaa.Pl
/- FnCutInTwo, in plain Lean: lines cut in two are they, one behind the other, and plain lines have no end. No condition. -/
namespace Go.Proofs.Ytmcldkobejhaeaa.Pure
open Go.RowKit Go.Proofs.Ytmcldkobejhaeaa.My Go.Proofs.Ytmcldkobejhaeaa.Pl Go.Proofs.YtmcldkobejhaeaaW.PrintWords Go.Proofs.YtmcldkobejhaeaaW.PrintLast
set_option linter.unusedVariables false
set_option linter.unusedSimpArgs false
theorem plain_ev (c : List Int) (hc : Bytes8 c) : Ev (fun k => (spec_DrawPlainOf.f c).bind fun t248 => ((impl_PlainOf.f k t248).bind fun bt249 => ((spec_PlainOf.f k t248).bind fun bt251 => (if (bt249.2 == bt251.2) = true then (some (bt249.1.toList == bt251.1.toList)) else (some false))))) true := by
  obtain ⟨s, e, hs⟩ := drawPlain_some c hc
  exact ev_bind (ev_const e) (ev_bind (impl_PlainOf_ev s (by omega)) (ev_bind (spec_PlainOf_ev s (by omega)) (ev_pos (by simp) (ev_some (by simp)))))
theorem cut_l0 (c : List Int) (hc : Bytes8 c) (p : List ByteArray) (hp : p.length ≤ 100) (hl : ∀ s ∈ p, isLn s = true) : ∀ d i, i + d = p.length → Ev (fun k => laws_FnCutInTwo.l0 k c p (p.length : Int) (i : Int)) true := by
  intro d
  induction d with
  | zero => intro i hi; exact Ev.step (fun k => laws_FnCutInTwo.l0.eq_2 ..) (ev_neg (by omega) (plain_ev c hc))
  | succ d ih =>
    intro i hi
    have hlt : i < p.length := by omega
    have h := hl _ (List.getElem_mem hlt)
    have hz := isLn_size h
    have nx := ih (i + 1) (by omega)
    refine Ev.step (fun k => laws_FnCutInTwo.l0.eq_2 ..) (ev_pos (by omega) (ev_pos (by omega) (ev_pos (by omega) ?_)))
    rw [rdOf_lt _ _ _ hlt, wrap_succ i (by omega)]
    have e := impl_PlainOf_ev p[i] (by omega)
    have ep : PlainOf' p[i] = (plainB p[i], true) := by unfold PlainOf'; rw [if_pos h]
    rw [ep] at e
    refine ev_bind e (ev_pos rfl (ev_ite (fun c1 => ev_neg (plainB_none _ h) nx) (fun c1 => ?_)))
    dsimp only at c1 ⊢
    have he : ends p[i] = true := by
      rcases Bool.eq_false_or_eq_true (ends p[i]) with q | q
      · exact q
      · exact absurd (by unfold plainB; rw [if_neg (by rw [q]; simp)]) c1
    have hb := plainB_back p[i] he
    have hsz : (plainB p[i]).size + 1 = p[i].size := by
      have := congrArg ByteArray.size hb
      rw [ByteArray.size_append, show (⟨#[10]⟩ : ByteArray).size = 1 from rfl] at this
      exact this
    exact ev_pos (by omega) (ev_pos (by rw [hb]) (ev_neg (plainB_none _ h) nx))
theorem FnCutInTwo : laws_FnCutInTwo.Pure := by
  intro l0 l1 w0 w1
  have b0 := bytes8_of w0
  have b1 := bytes8_of w1
  have key : Ev (fun k => laws_FnCutInTwo.f k l0 l1) true := by
    simp only [laws_FnCutInTwo.f]
    refine ev_bind (ev_const (big_eq l0 l1 b0 b1)) (ev_ite (fun _ => ev_some rfl) (fun _ => ?_))
    obtain ⟨l, a, b, e, hl⟩ := drawPart_some l0 b0
    have fl : FitS l := ⟨by have := hl.1; omega, fun s hs => by have := hl.2.1 s hs; omega⟩
    have hL := hl.1
    refine ev_bind e (ev_bind (impl_PartOf_ev l a b fl (by omega)) (ev_bind (spec_PartOf_ev l a b fl (by omega)) ?_))
    have hpl : (PartOf' l a b).1.length ≤ 100 := by
      unfold PartOf'
      split
      · split
        · rw [List.length_drop, List.length_take]; omega
        · simp
      · simp
    refine ev_neg (by simp) (ev_bind (sameTexts_self _ (by omega)) ?_)
    refine Ev.step (fun k => laws_FnCutInTwo.j0.eq_2 ..) (ev_neg (by simp) (ev_ite (fun c => ?_) (fun c => plain_ev l1 b1)))
    have hc : good l = true ∧ 0 ≤ a ∧ a ≤ b ∧ b ≤ (l.length : Int) := by
      unfold PartOf' at c
      split at c
      · split at c
        · exact ⟨by assumption, by assumption⟩
        · cases c
      · cases c
    obtain ⟨g, q1, q2, q3⟩ := hc
    have e0 : PartOf' l a b = ((l.take b.toNat).drop a.toNat, true) := by unfold PartOf'; rw [if_pos g, if_pos ⟨q1, q2, q3⟩]
    have e1 := impl_PartOf_ev l 0 a fl (by omega)
    have e2 := impl_PartOf_ev l b (l.length : Int) fl (by omega)
    rw [show PartOf' l 0 a = ((l.take a.toNat).drop (0 : Int).toNat, true) from by unfold PartOf'; rw [if_pos g, if_pos ⟨by omega, by omega, by omega⟩]] at e1
    rw [show PartOf' l b (l.length : Int) = ((l.take (l.length : Int).toNat).drop b.toNat, true) from by unfold PartOf'; rw [if_pos g, if_pos ⟨by omega, by omega, by omega⟩]] at e2
    rw [e0]
    refine ev_bind e1 (ev_bind e2 (ev_pos rfl (ev_pos rfl (ev_bind (ev_some rfl) (ev_pos ?_ (ev_bind (ev_some rfl) (ev_pos ?_ (ev_bind (ev_some rfl) (ev_pos ?_ ?_)))))))))
    · simp only [List.length_nil, List.length_drop, List.length_take]; omega
    · simp only [List.nil_append, List.length_drop, List.length_take]; omega
    · simp only [List.nil_append, List.length_append, List.length_drop, List.length_take]; omega
    · have hw : (([] ++ (l.take a.toNat).drop (0 : Int).toNat) ++ (l.take b.toNat).drop a.toNat) ++ (l.take (l.length : Int).toNat).drop b.toNat = l := by
        rw [show (0 : Int).toNat = 0 from rfl, List.drop_zero, List.nil_append, Int.toNat_natCast, List.take_length]
        have h1 : l.take a.toNat ++ (l.take b.toNat).drop a.toNat = l.take b.toNat := by
          have := List.take_append_drop a.toNat (l.take b.toNat)
          rwa [List.take_take, Nat.min_eq_left (by omega)] at this
        rw [h1, List.take_append_drop]
      dsimp only
      rw [hw]
      refine ev_bind (sameTexts_self l (by omega)) (Ev.step (fun k => laws_FnCutInTwo.j1.eq_2 ..) (ev_neg (by simp) ?_))
      have hlen : ((l.take b.toNat).drop a.toNat).length ≤ 100 := by rw [List.length_drop, List.length_take]; omega
      have hg : ∀ s ∈ (l.take b.toNat).drop a.toNat, isLn s = true := fun s hs => by
        have hm := List.mem_of_mem_take (List.mem_of_mem_drop hs)
        unfold good at g
        simp only [Bool.and_eq_true, List.all_eq_true] at g
        exact g.2.1 s hm
      exact cut_l0 l1 b1 _ hlen hg ((l.take b.toNat).drop a.toNat).length 0 (by omega)
  obtain ⟨n, hn⟩ := key
  exact ⟨n, hn n (Nat.le_refl _)⟩
end Go.Proofs.Ytmcldkobejhaeaa.Pure
/- The Go function loop.example/g00825/laws.FnCutInTwo returns true for every input, and each argument reads afterwards as it read before. No condition. -/
namespace Go.Proofs.Ytmcldkobejhaeaa.fnCutInTwo
open Go.ChangeShapes Go.WideShapes Go.ChangeAt Go.RowKit Go.Joins Go.Proofs.Ytmcldkobejhaeaa.Opens Go.Proofs.Ytmcldkobejhaeaa.My
open Go.ChangeMaps (open_string shut_string)
set_option linter.unusedVariables false
set_option linter.unusedSimpArgs false
theorem own : ownKnob Try.prog.godebug = none := by kernel_rfl
theorem laidOut : laidOutB Try.prog = true := by kernel_rfl
set_option maxRecDepth 100000 in
theorem lifted (os : Os) (started : os.Started) (H : Type) (enc : TypeId × Value → H) :
    ReturnsInHanded {} Try.checked os 3 .any (Rows.fnCutInTwoSpec.pre6 enc Try.prog Try.f3 Rows.fnCutInTwoRow.domain false) (Rows.fnCutInTwoSpec.post enc Try.prog Try.f3 false true false false) := by
  refine returnsInHanded_of_change_sized (C := Try.checked) own started (by kernel_rfl) Try.func3
    (ChangeSpec.witness6 (enc := enc) (C := Try.checked) false ⟨#[], #[.slice none 0 0, .slice none 0 0], []⟩ 8 (by kernel_rfl) (by kernel_rfl) (by kernel_rfl) (by kernel_rfl)) ?_
  intro W base args ds gs before hval0 hW hcnd hsz0 _
  have hval : ∀ (j : Nat) t v, Try.f3.params[j]? = some t → args[j]? = some v → Value.okWide Try.prog W .any base t v := hval0
  have hW' := hW
  obtain ⟨p, q, hA0, hV, rfl, hfz, hnd⟩ := hW
  have hA : DataW.TrodAll enc Try.prog W 0 (fun _ => true) true Try.f3.params.toList args.toList ds p := hA0
  rw [Try.params3] at hA hval
  obtain ⟨v0, vs0, d0, ds0, p0, q0, hargs, rfl, rfl, h0, r0⟩ := trodAll_cons hA
  obtain ⟨v1, vs1, d1, ds1, p1, q1, rfl, rfl, rfl, h1, r1⟩ := trodAll_cons r0
  obtain ⟨rfl, rfl, rfl⟩ := trodAll_nil r1
  obtain rfl : args = #[v0, v1] := by cases args; simp_all
  obtain ⟨rfl, rfl⟩ := trodVars_none hV
  obtain ⟨A0, n0, c0, rfl⟩ := okWide_slice Try.underlying22 (hval 0 22 v0 rfl rfl)
  have k0 := h0
  have lt0 : ∀ x ∈ p0, x.block < W.heap.size := by obtain ⟨m, hm⟩ := k0; exact DataW.trod_lt m _ _ _ hm
  obtain ⟨l0, rfl, hc0, hr0, q0_⟩ := Opens.row (opens_slice Try.underlying22 (by kernel_rfl) (opens_int .u8 Try.underlying5)) h0
  obtain ⟨A1, n1, c1, rfl⟩ := okWide_slice Try.underlying22 (hval 1 22 v1 rfl rfl)
  have k1 := h1
  have lt1 : ∀ x ∈ p1, x.block < W.heap.size := by obtain ⟨m, hm⟩ := k1; exact DataW.trod_lt m _ _ _ hm
  obtain ⟨l1, rfl, hc1, hr1, q1_⟩ := Opens.row (opens_slice Try.underlying22 (by kernel_rfl) (opens_int .u8 Try.underlying5)) h1
  clear hA0 hval0 hsz0
  obtain ⟨kr, hk⟩ := Pure.FnCutInTwo l0 l1 q0_ q1_
  refine (laws_FnCutInTwo.calls kr _ _ l0 _ _ l1 true W hr0 hc0 hr1 hc1 hk rfl).mono fun e W' hh => ?_
  obtain ⟨rfl, hd⟩ := hh
  have bel : Below W.heap.size W W' := hd
  exact ⟨_, rfl, _, _, _, [], _, [], hW', trodAll_mk1 (shut_bool Try.underlying4 _), (trodAll_cons_mk (Below.trod laidOut (by kernel_rfl) (of_decide_eq_true (by kernel_rfl)) k0 bel lt0) (trodAll_cons_mk (Below.trod laidOut (by kernel_rfl) (of_decide_eq_true (by kernel_rfl)) k1 bel lt1) trodAll_mk0)), rfl, bel.frame _, fun h => by cases h⟩
theorem over : Rows.fnCutInTwoRow.holds Try.pinned (OpenSpec.ofChange Rows.fnCutInTwoSpec) :=
  OpenClaim.holds_of_wide 3 Try.f3 rfl rfl rfl rfl rfl rfl rfl ⟨rfl, rfl, rfl, rfl, rfl⟩ rfl rfl rfl rfl rfl (by kernel_rfl) Try.func3 (by kernel_rfl)
    (of_decide_eq_true (by kernel_rfl)) (by unfold Func.isWrapper; first | (rw [if_pos (by decide +kernel)]; kernel_rfl) | (rw [if_neg (by decide +kernel)]; exact ⟨rfl, rfl⟩))
    (fun os started H enc _ => lifted os started H enc)
theorem proved : Rows.FnCutInTwoSaid := over
#print axioms proved
end Go.Proofs.Ytmcldkobejhaeaa.fnCutInTwo
namespace Go.Proofs.Ytmcldkobejhaeaa
/-- The row, under a short name, for the claim. -/
theorem fnCutInTwo_holds : Rows.FnCutInTwoSaid := fnCutInTwo.proved
end Go.Proofs.Ytmcldkobejhaeaa
