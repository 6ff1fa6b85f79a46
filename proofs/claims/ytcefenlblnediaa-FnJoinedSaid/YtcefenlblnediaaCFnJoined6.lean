/- Part 6 of 6 of a proof of this sentence: The Go function loop.example/g00825/laws.FnJoined returns true for every input, and each argument reads afterwards as it read before. No condition. -/
import Derived.Laws.Bits64b
import Derived.Test.YtcefenlblnediaaRows
import Derived.WalkKit
import Derived.ProofKit
import Derived.OpenShut
import Derived.ShutString
import Derived.ChangeOld
import Derived.Below
import Derived.SizedLaws
import Derived.Lib.SmallJoins
import Derived.Test.YtcefenlblnediaaCFnJoined5
/- Written by this session's program (wip/gen): a plain function with the same answers as the Go function, and the proof that the Go code comes to them. Asked: that the plain function has an answer. -/
namespace Go.Proofs.Ytcefenlblnediaa.My
open Go.RowKit Go.Proofs.YtcefenlblnediaaW.PrintWords Go.Proofs.YtcefenlblnediaaW.PrintLast Go.Proofs.YtcefenlblnediaaW.PrintMore
attribute [local go_sem] max2_int min2_int max_two min_two max_three min_three max_four min_four
set_option linter.unusedVariables false
set_option linter.unusedSimpArgs false

/-! ### laws_FnJoined: function 6 -/
mutual
def laws_FnJoined.j0 : Nat → List Int → List ByteArray → List (S111) → List (S111) → List (S111) → Bool → Bool → Option (Bool)
 | 0, _, _, _, _, _, _, _ => none
 | k + 1, x1, x5, x6, x7, x8, x9, x61 => if x61 = true then (some false) else (if x9 = true then ((impl_Patch.f k x5 x6).bind fun bt794 => ((impl_Patch.f k bt794.1 x7).bind fun bt798 => ((impl_Patch.f k x5 x8).bind fun bt802 => (if bt794.2 = true then (if bt798.2 = true then (if bt802.2 = true then ((laws_sameTexts.f k bt798.1 bt802.1).bind fun t806 => (laws_FnJoined.j1 k x1 x5 x6 x8 bt794.1 bt802.1 (!t806))) else (laws_FnJoined.j1 k x1 x5 x6 x8 bt794.1 bt802.1 true)) else (laws_FnJoined.j1 k x1 x5 x6 x8 bt794.1 bt802.1 true)) else (laws_FnJoined.j1 k x1 x5 x6 x8 bt794.1 bt802.1 true))))) else (laws_FnJoined.j4 k x1))
def laws_FnJoined.j4 : Nat → List Int → Option (Bool)
 | 0, _ => none
 | k + 1, x1 => (spec_DrawPatch.f k x1).bind fun bt814 => ((impl_Patch.f k bt814.1 bt814.2).bind fun bt820 => ((spec_Patch.f k bt814.1 bt814.2).bind fun bt824 => (if (bt820.2 == bt824.2) = true then ((laws_sameTexts.f k bt820.1 bt824.1).bind fun t828 => (some t828)) else (some false))))
def laws_FnJoined.j1 : Nat → List Int → List ByteArray → List (S111) → List (S111) → List ByteArray → List ByteArray → Bool → Option (Bool)
 | 0, _, _, _, _, _, _, _ => none
 | k + 1, x1, x5, x6, x8, x12, x16, x96 => if x96 = true then (some false) else (laws_FnJoined.l0 k x1 x5 x6 x8 x12 x16 x5 (x5.length : Int) 0)
def laws_FnJoined.l0 : Nat → List Int → List ByteArray → List (S111) → List (S111) → List ByteArray → List ByteArray → List ByteArray → Int → Int → Option (Bool)
 | 0, _, _, _, _, _, _, _, _, _ => none
 | k + 1, x1, x5, x6, x8, x12, x16, x97, x98, x99 => if x99 < x98 then (if 0 ≤ x99 then (if x99 < (x97.length : Int) then ((impl_PlaceOf.f k x6 (x5.length : Int) x99).bind fun bt808 => (if bt808.2 = true then (if bt808.1 < 0 then (laws_FnJoined.j3 k x1 x5 x6 x8 x12 x16 x99 (rdOf ByteArray.empty x97 x99) x97 x98 x99 true) else (if bt808.1 ≥ (x12.length : Int) then (laws_FnJoined.j3 k x1 x5 x6 x8 x12 x16 x99 (rdOf ByteArray.empty x97 x99) x97 x98 x99 true) else (if 0 ≤ bt808.1 then (if bt808.1 < (x12.length : Int) then (laws_FnJoined.j3 k x1 x5 x6 x8 x12 x16 x99 (rdOf ByteArray.empty x97 x99) x97 x98 x99 ((rdOf ByteArray.empty x12 bt808.1).toList != (rdOf ByteArray.empty x97 x99).toList)) else (none)) else (none)))) else (laws_FnJoined.j3 k x1 x5 x6 x8 x12 x16 x99 (rdOf ByteArray.empty x97 x99) x97 x98 x99 false))) else (none)) else (none)) else (laws_FnJoined.j4 k x1)
def laws_FnJoined.j3 : Nat → List Int → List ByteArray → List (S111) → List (S111) → List ByteArray → List ByteArray → Int → ByteArray → List ByteArray → Int → Int → Bool → Option (Bool)
 | 0, _, _, _, _, _, _, _, _, _, _, _, _ => none
 | k + 1, x1, x5, x6, x8, x12, x16, x18, x19, x97, x98, x99, x130 => if x130 = true then (some false) else ((impl_PlaceOf.f k x8 (x5.length : Int) x18).bind fun bt811 => (if bt811.2 = true then (if bt811.1 < 0 then (some false) else (if bt811.1 ≥ (x16.length : Int) then (some false) else (if 0 ≤ bt811.1 then (if bt811.1 < (x16.length : Int) then (if (rdOf ByteArray.empty x16 bt811.1).toList = x19.toList then (laws_FnJoined.l0 k x1 x5 x6 x8 x12 x16 x97 x98 (wrap64 (x99 + 1))) else (some false)) else (none)) else (none)))) else (laws_FnJoined.l0 k x1 x5 x6 x8 x12 x16 x97 x98 (wrap64 (x99 + 1)))))
end
def laws_FnJoined.f (k : Nat) (l0 : List Int) (l1 : List Int) : Option (Bool) := (laws_big.f l0 l1).bind fun t775 => (if t775 = true then (some true) else ((spec_DrawJoinHunks.f k l0).bind fun bt776 => ((impl_JoinHunks.f k bt776.1 bt776.2.1 bt776.2.2).bind fun bt785 => ((spec_JoinHunks.f k bt776.1 bt776.2.1 bt776.2.2).bind fun bt789 => (if (bt785.2 != bt789.2) = true then (laws_FnJoined.j0 k l1 bt776.1 bt776.2.1 bt776.2.2 bt785.1 bt785.2 true) else ((laws_sameHunks.f k bt785.1 bt789.1).bind fun t793 => (laws_FnJoined.j0 k l1 bt776.1 bt776.2.1 bt776.2.2 bt785.1 bt785.2 (!t793))))))))
set_option maxHeartbeats 8000000 in
set_option maxRecDepth 100000 in
theorem laws_FnJoined.calls (k : Nat) (A0 : Option Addr) (c0 : Nat) (l0 : List Int) (A1 : Option Addr) (c1 : Nat) (l1 : List Int) (r : Bool) (w : World) (hr0 : Kd.C (Kd.int .u8) w A0 l0.length l0) (hc0 : l0.length ≤ c0) (hr1 : Kd.C (Kd.int .u8) w A1 l1.length l1) (hc1 : l1.length ≤ c1) (h : laws_FnJoined.f k l0 l1 = some r) (hr_ : r = true) :
  Calls Try.prog 6 #[.slice A0 l0.length c0, .slice A1 l1.length c1] w fun e w' => e = .returned (.bool r) ∧ Below w.heap.size w w' := by
 have HR_ := Aside0.mk hr_
 clear hr_
 have HR0 := Aside0.mk hr0
 have HC0 := Aside0.mk hc0
 clear hr0 hc0
 have HR1 := Aside0.mk hr1
 have HC1 := Aside0.mk hc1
 clear hr1 hc1
 have HB := Aside0.mk (Below.refl w.heap.size w)
 have H : ((laws_big.f l0 l1).bind fun t775 => (if t775 = true then (some true) else ((spec_DrawJoinHunks.f k l0).bind fun bt776 => ((impl_JoinHunks.f k bt776.1 bt776.2.1 bt776.2.2).bind fun bt785 => ((spec_JoinHunks.f k bt776.1 bt776.2.1 bt776.2.2).bind fun bt789 => (if (bt785.2 != bt789.2) = true then (laws_FnJoined.j0 k l1 bt776.1 bt776.2.1 bt776.2.2 bt785.1 bt785.2 true) else ((laws_sameHunks.f k bt785.1 bt789.1).bind fun t793 => (laws_FnJoined.j0 k l1 bt776.1 bt776.2.1 bt776.2.2 bt785.1 bt785.2 (!t793))))))))) = some r := h
 clear h
 replace H := Option.bind_eq_some_iff.mp H
 obtain ⟨t775, A30, H⟩ := H
 replace H : (if t775 = true then (some true) else ((spec_DrawJoinHunks.f k l0).bind fun bt776 => ((impl_JoinHunks.f k bt776.1 bt776.2.1 bt776.2.2).bind fun bt785 => ((spec_JoinHunks.f k bt776.1 bt776.2.1 bt776.2.2).bind fun bt789 => (if (bt785.2 != bt789.2) = true then (laws_FnJoined.j0 k l1 bt776.1 bt776.2.1 bt776.2.2 bt785.1 bt785.2 true) else ((laws_sameHunks.f k bt785.1 bt789.1).bind fun t793 => (laws_FnJoined.j0 k l1 bt776.1 bt776.2.1 bt776.2.2 bt785.1 bt785.2 (!t793)))))))) = some r := H
 have A3 := Aside0.mk A30
 clear A30
 by_cases c4 : t775 = true
 ·as_aux_lemma =>
    subst c4
    have H1 : (some true) = some r := by rw [if_pos rfl] at H; exact H
    clear H
    have H := H1
    clear H1
    first
    | exact absurd (show false = true from (Option.some.inj H).trans HR_.out) Bool.false_ne_true
    | obtain rfl := Option.some.inj H
      go_enter Try.func6, Try.ntmps6
      go_wp2_with (first | ((with_reducible refine gateC (f := 32) rfl ?_); refine goesL_ (some 32) rfl rfl Try.func32 (by kernel_rfl) rfl #[.slice A0 l0.length c0, .slice A1 l1.length c1] rfl zm ?_; (with_reducible refine (laws_big.calls _ _ l0 _ _ l1 true _ ?side1 ?side2 ?side3 ?side4 A3.out).mono ?_); (case side1 => exact zq HR0.out); (case side2 => exact HC0.out); (case side3 => exact zq HR1.out); (case side4 => exact HC1.out); rintro e w' ⟨rfl, ⟨nd, rfl⟩⟩; refine ⟨_, rfl, ?_⟩))
      go_ret
      exact ⟨by first | rfl | (simp [errW_none, errW_some] <;> rfl) | (simp [*, errW_none, errW_some] <;> rfl), by repeat (first | (with_reducible first | exact HB.out | apply below_alloc | apply pw_below_drewN | apply below_drew1) | exact HB.out)⟩
 ·as_aux_lemma =>
    replace c4 := Bool.eq_false_iff.mpr c4
    subst c4
    have H1 : ((spec_DrawJoinHunks.f k l0).bind fun bt776 => ((impl_JoinHunks.f k bt776.1 bt776.2.1 bt776.2.2).bind fun bt785 => ((spec_JoinHunks.f k bt776.1 bt776.2.1 bt776.2.2).bind fun bt789 => (if (bt785.2 != bt789.2) = true then (laws_FnJoined.j0 k l1 bt776.1 bt776.2.1 bt776.2.2 bt785.1 bt785.2 true) else ((laws_sameHunks.f k bt785.1 bt789.1).bind fun t793 => (laws_FnJoined.j0 k l1 bt776.1 bt776.2.1 bt776.2.2 bt785.1 bt785.2 (!t793))))))) = some r := by rw [if_neg (show ¬ (false = true) by decide)] at H; exact H
    clear H
    have H := H1
    clear H1
    replace H := Option.bind_eq_some_iff.mp H
    obtain ⟨⟨t776, t777, t778⟩, A50, H⟩ := H
    replace H : ((impl_JoinHunks.f k t776 t777 t778).bind fun bt785 => ((spec_JoinHunks.f k t776 t777 t778).bind fun bt789 => (if (bt785.2 != bt789.2) = true then (laws_FnJoined.j0 k l1 t776 t777 t778 bt785.1 bt785.2 true) else ((laws_sameHunks.f k bt785.1 bt789.1).bind fun t793 => (laws_FnJoined.j0 k l1 t776 t777 t778 bt785.1 bt785.2 (!t793)))))) = some r := H
    have A5 := Aside0.mk A50
    clear A50
    replace H := Option.bind_eq_some_iff.mp H
    obtain ⟨⟨t785, t788⟩, A60, H⟩ := H
    replace H : ((spec_JoinHunks.f k t776 t777 t778).bind fun bt789 => (if (t788 != bt789.2) = true then (laws_FnJoined.j0 k l1 t776 t777 t778 t785 t788 true) else ((laws_sameHunks.f k t785 bt789.1).bind fun t793 => (laws_FnJoined.j0 k l1 t776 t777 t778 t785 t788 (!t793))))) = some r := H
    have A6 := Aside0.mk A60
    clear A60
    replace H := Option.bind_eq_some_iff.mp H
    obtain ⟨⟨t789, t790⟩, A70, H⟩ := H
    replace H : (if (t788 != t790) = true then (laws_FnJoined.j0 k l1 t776 t777 t778 t785 t788 true) else ((laws_sameHunks.f k t785 t789).bind fun t793 => (laws_FnJoined.j0 k l1 t776 t777 t778 t785 t788 (!t793)))) = some r := H
    have A7 := Aside0.mk A70
    clear A70
    have HC8 := Aside0.mk H
    clear H
    go_enter Try.func6, Try.ntmps6
    go_upto_region 6 with (first | ((with_reducible refine gateC (f := 32) rfl ?_); refine goesL_ (some 32) rfl rfl Try.func32 (by kernel_rfl) rfl #[.slice A0 l0.length c0, .slice A1 l1.length c1] rfl zm ?_; (with_reducible refine (laws_big.calls _ _ l0 _ _ l1 false _ ?side1 ?side2 ?side3 ?side4 A3.out).mono ?_); (case side1 => exact zq HR0.out); (case side2 => exact HC0.out); (case side3 => exact zq HR1.out); (case side4 => exact HC1.out); rintro e w' ⟨rfl, ⟨nd, rfl⟩⟩; refine ⟨_, rfl, ?_⟩) | ((with_reducible refine gateC (f := 33) rfl ?_); refine goesL_ (some 35) rfl rfl Try.func33 (by kernel_rfl) rfl #[.slice A0 l0.length c0] rfl zm ?_; (with_reducible refine (spec_DrawJoinHunks.calls k _ _ l0 t776 t777 t778 _ ?side1 ?side2 A5.out).mono ?_); (case side1 => exact zq HR0.out); (case side2 => exact HC0.out); rintro e w9 ⟨v779, v781, v783, rfl, ho0, ho1, ho2, hb⟩; refine ⟨_, rfl, ?_⟩; have n0_ := Aside0.mk (Kd.R_lower ho0 (below_size zb)); have n1_ := Aside0.mk (Kd.N_lower (Kd.N_mono (ok' := fun k_ => some k_ ≠ (v779 : Value).ownBlock ∧ some k_ ≠ (v783 : Value).ownBlock) (Kd.S_N (Kd.S_bound ho1)) (fun k_ hk_ => ⟨hk_.1.1, hk_.1.2⟩)) (below_size zb)); have n2_ := Aside0.mk (Kd.N_lower (Kd.N_mono (ok' := fun k_ => some k_ ≠ (v779 : Value).ownBlock ∧ some k_ ≠ (v781 : Value).ownBlock) (Kd.S_N (Kd.S_bound ho2)) (fun k_ hk_ => ⟨hk_.1.1, hk_.1.2⟩)) (below_size zb)); have n3_ := Aside0.mk (below_step zb hb); clear HB; have HO780 := n0_; have HO782 := n1_; have HO784 := n2_; have HB := n3_; clear n0_ n1_ n2_ n3_; (try clear hb); (try clear hb2); (try clear hk); (try clear hi); (try clear ho0); (try clear ho1); (try clear ho2); obtain ⟨Ao10, co10, eo10⟩ := Kd.R_slice HO780.out; subst eo10; obtain ⟨Ao11, co11, eo11⟩ := Kd.N_slice HO782.out; subst eo11; obtain ⟨Ao12, co12, eo12⟩ := Kd.N_slice HO784.out; subst eo12) | ((with_reducible refine gateC (f := 27) rfl ?_); refine goesL_ (some 43) rfl rfl Try.func27 (by kernel_rfl) rfl #[.slice Ao10 t776.length co10, .slice Ao11 t777.length co11, .slice Ao12 t778.length co12] rfl zm ?_; (with_reducible refine (impl_JoinHunks.callsN k _ _ t776 _ _ t777 _ _ t778 t785 t788 _ ?side1 ?side2 ?side3 ?side4 ?side5 ?side6 A6.out).mono ?_); (case side1 => repeat (first | exact (Kd.R_reads' HO780.out).2.2 | (with_reducible refine Kd.C_alloc ?_ _) | (with_reducible refine Kd.C_drewN ?_ _) | (with_reducible refine Kd.C_drew ?_))); (case side2 => exact (Kd.R_reads' HO780.out).2.1); (case side3 => repeat (first | exact (Kd.N_reads' HO782.out).2.2 | (with_reducible refine Kd.C_alloc ?_ _) | (with_reducible refine Kd.C_drewN ?_ _) | (with_reducible refine Kd.C_drew ?_))); (case side4 => exact (Kd.N_reads' HO782.out).2.1); (case side5 => repeat (first | exact (Kd.N_reads' HO784.out).2.2 | (with_reducible refine Kd.C_alloc ?_ _) | (with_reducible refine Kd.C_drewN ?_ _) | (with_reducible refine Kd.C_drew ?_))); (case side6 => exact (Kd.N_reads' HO784.out).2.1); rintro e w13 ⟨v786, rfl, ho0, hb⟩; refine ⟨_, rfl, ?_⟩; have n0_ := Aside0.mk (Kd.R_below (zr HO780.out) hb); have n1_ := Aside0.mk (Kd.N_elder' (by (with_reducible repeat (first | apply Kd.N_alloc | apply Kd.N_drewN | apply Kd.N_drew)); exact HO782.out) (Kd.N_base ho0) hb); have n2_ := Aside0.mk (Kd.N_elder' (by (with_reducible repeat (first | apply Kd.N_alloc | apply Kd.N_drewN | apply Kd.N_drew)); exact HO784.out) (Kd.N_base ho0) hb); have n3_ := Aside0.mk (Kd.N_lower (Kd.N_mono (ok' := fun k_ => some k_ ≠ (.slice Ao10 t776.length co10 : Value).ownBlock ∧ some k_ ≠ (.slice Ao11 t777.length co11 : Value).ownBlock ∧ some k_ ≠ (.slice Ao12 t778.length co12 : Value).ownBlock) ho0 (fun k_ hk_ => ⟨(Kd.fresh' (Kd.R_lt (zr HO780.out)) k_ hk_), (Kd.fresh' (Kd.N_lt (by (with_reducible repeat (first | apply Kd.N_alloc | apply Kd.N_drewN | apply Kd.N_drew)); exact HO782.out)) k_ hk_), (Kd.fresh' (Kd.N_lt (by (with_reducible repeat (first | apply Kd.N_alloc | apply Kd.N_drewN | apply Kd.N_drew)); exact HO784.out)) k_ hk_)⟩)) (below_size zb)); have n4_ := Aside0.mk (below_step zb hb); clear HO780; clear HO782; clear HO784; clear HB; have HO780 := n0_; have HO782 := n1_; have HO784 := n2_; have HO787 := n3_; have HB := n4_; clear n0_ n1_ n2_ n3_ n4_; (try clear hb); (try clear hb2); (try clear hk); (try clear hi); (try clear ho0)) | ((with_reducible refine gateC (f := 25) rfl ?_); refine goesL_ (some 50) rfl rfl Try.func25 (by kernel_rfl) rfl #[.slice Ao10 t776.length co10, .slice Ao11 t777.length co11, .slice Ao12 t778.length co12] rfl zm ?_; (with_reducible refine (spec_JoinHunks.calls k _ _ t776 _ _ t777 _ _ t778 t789 t790 _ ?side1 ?side2 ?side3 ?side4 ?side5 ?side6 A7.out).mono ?_); (case side1 => repeat (first | exact (Kd.R_reads' HO780.out).2.2 | (with_reducible refine Kd.C_alloc ?_ _) | (with_reducible refine Kd.C_drewN ?_ _) | (with_reducible refine Kd.C_drew ?_))); (case side2 => exact (Kd.R_reads' HO780.out).2.1); (case side3 => repeat (first | exact (Kd.N_reads' HO782.out).2.2 | (with_reducible refine Kd.C_alloc ?_ _) | (with_reducible refine Kd.C_drewN ?_ _) | (with_reducible refine Kd.C_drew ?_))); (case side4 => exact (Kd.N_reads' HO782.out).2.1); (case side5 => repeat (first | exact (Kd.N_reads' HO784.out).2.2 | (with_reducible refine Kd.C_alloc ?_ _) | (with_reducible refine Kd.C_drewN ?_ _) | (with_reducible refine Kd.C_drew ?_))); (case side6 => exact (Kd.N_reads' HO784.out).2.1); rintro e w14 ⟨v791, rfl, ho0, hb⟩; refine ⟨_, rfl, ?_⟩; have n0_ := Aside0.mk (Kd.R_below (zr HO780.out) hb); have n1_ := Aside0.mk (Kd.N_elder' (by (with_reducible repeat (first | apply Kd.N_alloc | apply Kd.N_drewN | apply Kd.N_drew)); exact HO782.out) (Kd.S_base ho0) hb); have n2_ := Aside0.mk (Kd.N_elder' (by (with_reducible repeat (first | apply Kd.N_alloc | apply Kd.N_drewN | apply Kd.N_drew)); exact HO784.out) (Kd.S_base ho0) hb); have n3_ := Aside0.mk (Kd.N_elder' (by (with_reducible repeat (first | apply Kd.N_alloc | apply Kd.N_drewN | apply Kd.N_drew)); exact HO787.out) (Kd.S_base ho0) hb); have n4_ := Aside0.mk (Kd.N_lower (Kd.N_mono (ok' := fun k_ => some k_ ≠ (.slice Ao10 t776.length co10 : Value).ownBlock ∧ some k_ ≠ (.slice Ao11 t777.length co11 : Value).ownBlock ∧ some k_ ≠ (.slice Ao12 t778.length co12 : Value).ownBlock ∧ some k_ ≠ (v786 : Value).ownBlock) (Kd.S_N (Kd.S_bound ho0)) (fun k_ hk_ => ⟨(Kd.fresh' (Kd.R_lt (zr HO780.out)) k_ hk_.2.1), (Kd.fresh' (Kd.N_lt (by (with_reducible repeat (first | apply Kd.N_alloc | apply Kd.N_drewN | apply Kd.N_drew)); exact HO782.out)) k_ hk_.2.1), (Kd.fresh' (Kd.N_lt (by (with_reducible repeat (first | apply Kd.N_alloc | apply Kd.N_drewN | apply Kd.N_drew)); exact HO784.out)) k_ hk_.2.1), (Kd.fresh' (Kd.N_lt (by (with_reducible repeat (first | apply Kd.N_alloc | apply Kd.N_drewN | apply Kd.N_drew)); exact HO787.out)) k_ hk_.2.1)⟩)) (below_size zb)); have n5_ := Aside0.mk (below_step zb hb); clear HO780; clear HO782; clear HO784; clear HO787; clear HB; have HO780 := n0_; have HO782 := n1_; have HO784 := n2_; have HO787 := n3_; have HO792 := n4_; have HB := n5_; clear n0_ n1_ n2_ n3_ n4_ n5_; (try clear hb); (try clear hb2); (try clear hk); (try clear hi); (try clear ho0)))
    (try simp only [Act.put, List.setIfInBounds_toArray, List.set_cons_zero, List.set_cons_succ])
    go_cut [61] (fun v61 wc => ∃ (kq : Nat) (x61_7 : Bool), v61 = .bool x61_7 ∧ Aside0 (laws_FnJoined.j0 kq l1 t776 t777 t778 t785 t788 x61_7 = some r) ∧ Aside0 (kq ≤ k) ∧ Aside0 (Kd.R Kd.string 9 wc w.heap.size (fun _ => True) (.slice Ao10 t776.length co10) t776) ∧ Aside0 (Kd.N k111 111 wc w.heap.size (fun k_ => some k_ ≠ ((.slice Ao10 t776.length co10) : Value).ownBlock ∧ some k_ ≠ ((.slice Ao12 t778.length co12) : Value).ownBlock ∧ some k_ ≠ (v786 : Value).ownBlock) (.slice Ao11 t777.length co11) t777) ∧ Aside0 (Kd.N k111 111 wc w.heap.size (fun k_ => some k_ ≠ ((.slice Ao10 t776.length co10) : Value).ownBlock ∧ some k_ ≠ ((.slice Ao11 t777.length co11) : Value).ownBlock ∧ some k_ ≠ (v786 : Value).ownBlock) (.slice Ao12 t778.length co12) t778) ∧ Aside0 (Kd.N k111 111 wc w.heap.size (fun k_ => some k_ ≠ ((.slice Ao10 t776.length co10) : Value).ownBlock ∧ some k_ ≠ ((.slice Ao11 t777.length co11) : Value).ownBlock ∧ some k_ ≠ ((.slice Ao12 t778.length co12) : Value).ownBlock) v786 t785) ∧ Aside0 (Below w.heap.size w wc))
    case first =>
     have H := HC8.out
     clear HC8
     by_cases c15 : (t788 != t790) = true
     ·as_aux_lemma =>
        rw [if_pos c15] at H
        have c15b0 : (t788 != t790) = true := c15
        (try (have c15b1 : decide (t788 = t790) = false := by simpa using c15))
        (try (have c15b2 : (t788 == t790) = false := by simpa using c15))
        (try (have c15b3 : ¬ (t788 = t790) := by simpa using c15))
        clear c15
        (first | rw [c15b0] | (simp only [i64_w, i32_w]; rw [c15b0]) | skip)
        have H' := Aside0.mk H
        clear H
        go_wp2
        go_meet
        case rel => exact ⟨_, (true), zf, H', ⟨by first | omega | exact Nat.le_refl _⟩, ⟨by (with_reducible repeat (first | apply Kd.R_alloc | apply Kd.R_drewN | apply Kd.R_drew)); exact HO780.out⟩, ⟨by (with_reducible repeat (first | apply Kd.N_alloc | apply Kd.N_drewN | apply Kd.N_drew)); exact Kd.N_mono HO782.out (fun _ hk => ⟨hk.1.1.1, ⟨hk.1.1.2, hk.1.2⟩⟩)⟩, ⟨by (with_reducible repeat (first | apply Kd.N_alloc | apply Kd.N_drewN | apply Kd.N_drew)); exact Kd.N_mono HO784.out (fun _ hk => ⟨hk.1.1.1, ⟨hk.1.1.2, hk.1.2⟩⟩)⟩, ⟨by (with_reducible repeat (first | apply Kd.N_alloc | apply Kd.N_drewN | apply Kd.N_drew)); exact Kd.N_mono HO787.out (fun _ hk => ⟨hk.1.1, ⟨hk.1.2.1, hk.1.2.2⟩⟩)⟩, ⟨by repeat (first | (with_reducible first | exact HB.out | apply below_alloc | apply pw_below_drewN | apply below_drew1) | exact HB.out)⟩⟩
     ·as_aux_lemma =>
        rw [if_neg c15] at H
        have c15b0 : (t788 != t790) = false := by simpa using c15
        (try (have c15b1 : decide (t788 = t790) = true := by simpa using c15))
        (try (have c15b2 : (t788 == t790) = true := by simpa using c15))
        clear c15
        (first | rw [c15b0] | (simp only [i64_w, i32_w]; rw [c15b0]) | skip)
        replace H := Option.bind_eq_some_iff.mp H
        obtain ⟨t793, A160, H⟩ := H
        replace H : (laws_FnJoined.j0 k l1 t776 t777 t778 t785 t788 (!t793)) = some r := H
        have A16 := Aside0.mk A160
        clear A160
        have H' := Aside0.mk H
        clear H
        obtain ⟨Ao17, co17, eo17⟩ := Kd.N_slice HO787.out
        subst eo17
        obtain ⟨Ao18, co18, eo18⟩ := Kd.N_slice HO792.out
        subst eo18
        go_wp2_with (first | (go_at_call 34; (with_reducible refine (laws_sameHunks.calls k _ _ t785 _ _ t789 t793 _ ?side1 ?side2 ?side3 ?side4 A16.out).mono ?_); (case side1 => repeat (first | exact (Kd.N_reads' HO787.out).2.2 | (with_reducible refine Kd.C_alloc ?_ _) | (with_reducible refine Kd.C_drewN ?_ _) | (with_reducible refine Kd.C_drew ?_))); (case side2 => exact (Kd.N_reads' HO787.out).2.1); (case side3 => repeat (first | exact (Kd.N_reads' HO792.out).2.2 | (with_reducible refine Kd.C_alloc ?_ _) | (with_reducible refine Kd.C_drewN ?_ _) | (with_reducible refine Kd.C_drew ?_))); (case side4 => exact (Kd.N_reads' HO792.out).2.1); rintro e w19 ⟨rfl, hb⟩; have n0_ := Aside0.mk (Kd.R_below (zr HO780.out) hb); have n1_ := Aside0.mk (Kd.N_below (by (with_reducible repeat (first | apply Kd.N_alloc | apply Kd.N_drewN | apply Kd.N_drew)); exact HO782.out) hb); have n2_ := Aside0.mk (Kd.N_below (by (with_reducible repeat (first | apply Kd.N_alloc | apply Kd.N_drewN | apply Kd.N_drew)); exact HO784.out) hb); have n3_ := Aside0.mk (Kd.N_below (by (with_reducible repeat (first | apply Kd.N_alloc | apply Kd.N_drewN | apply Kd.N_drew)); exact HO787.out) hb); have n4_ := Aside0.mk (Kd.N_below (by (with_reducible repeat (first | apply Kd.N_alloc | apply Kd.N_drewN | apply Kd.N_drew)); exact HO792.out) hb); have n5_ := Aside0.mk (below_step zb hb); clear HO780; clear HO782; clear HO784; clear HO787; clear HO792; clear HB; have HO780 := n0_; have HO782 := n1_; have HO784 := n2_; have HO787 := n3_; have HO792 := n4_; have HB := n5_; clear n0_ n1_ n2_ n3_ n4_ n5_; (try clear hb); (try clear hb2); (try clear hk); (try clear hi)))
        go_meet
        case rel => exact ⟨_, (!t793), zf, H', ⟨by first | omega | exact Nat.le_refl _⟩, ⟨by (with_reducible repeat (first | apply Kd.R_alloc | apply Kd.R_drewN | apply Kd.R_drew)); exact HO780.out⟩, ⟨by (with_reducible repeat (first | apply Kd.N_alloc | apply Kd.N_drewN | apply Kd.N_drew)); exact Kd.N_mono HO782.out (fun _ hk => ⟨hk.1.1.1, ⟨hk.1.1.2, hk.1.2⟩⟩)⟩, ⟨by (with_reducible repeat (first | apply Kd.N_alloc | apply Kd.N_drewN | apply Kd.N_drew)); exact Kd.N_mono HO784.out (fun _ hk => ⟨hk.1.1.1, ⟨hk.1.1.2, hk.1.2⟩⟩)⟩, ⟨by (with_reducible repeat (first | apply Kd.N_alloc | apply Kd.N_drewN | apply Kd.N_drew)); exact Kd.N_mono HO787.out (fun _ hk => ⟨hk.1.1, ⟨hk.1.2.1, hk.1.2.2⟩⟩)⟩, ⟨by repeat (first | (with_reducible first | exact HB.out | apply below_alloc | apply pw_below_drewN | apply below_drew1) | exact HB.out)⟩⟩
    case rest =>
     clear HC8
     try clear c1
     try clear c2
     try clear p2
     try clear c3
     try clear c4
     try clear c6
     try clear c15
     try clear c15b0
     try clear c15b1
     try clear c15b2
     obtain ⟨kq, x61_7, rfl, HA, HJ7, HO_5, HO_6, HO_7, HO_8, HB⟩ := hcut
     cases kq with
     | zero => exact absurd HA.out (by simp [laws_FnJoined.j0])
     | succ kj7 =>
      have H := HA.out
      clear HA
      simp only [laws_FnJoined.j0] at H
      by_cases c20 : x61_7 = true
      ·as_aux_lemma =>
         subst c20
         have H1 : (some false) = some r := by rw [if_pos rfl] at H; exact H
         clear H
         have H := H1
         clear H1
         first
         | exact absurd (show false = true from (Option.some.inj H).trans HR_.out) Bool.false_ne_true
         | obtain rfl := Option.some.inj H
           go_wp2
           go_ret
           exact ⟨by first | rfl | (simp [errW_none, errW_some] <;> rfl) | (simp [*, errW_none, errW_some] <;> rfl), by repeat (first | (with_reducible first | exact HB.out | apply below_alloc | apply pw_below_drewN | apply below_drew1) | exact HB.out)⟩
      ·as_aux_lemma =>
         replace c20 := Bool.eq_false_iff.mpr c20
         subst c20
         have H1 : (if t788 = true then ((impl_Patch.f kj7 t776 t777).bind fun bt794 => ((impl_Patch.f kj7 bt794.1 t778).bind fun bt798 => ((impl_Patch.f kj7 t776 t785).bind fun bt802 => (if bt794.2 = true then (if bt798.2 = true then (if bt802.2 = true then ((laws_sameTexts.f kj7 bt798.1 bt802.1).bind fun t806 => (laws_FnJoined.j1 kj7 l1 t776 t777 t785 bt794.1 bt802.1 (!t806))) else (laws_FnJoined.j1 kj7 l1 t776 t777 t785 bt794.1 bt802.1 true)) else (laws_FnJoined.j1 kj7 l1 t776 t777 t785 bt794.1 bt802.1 true)) else (laws_FnJoined.j1 kj7 l1 t776 t777 t785 bt794.1 bt802.1 true))))) else (laws_FnJoined.j4 kj7 l1)) = some r := by rw [if_neg (show ¬ (false = true) by decide)] at H; exact H
         clear H
         have H := H1
         clear H1
         have HC21 := Aside0.mk H
         clear H
         go_upto_if 62 with (fail)
         go_cut [] (fun wc => ∃ (kq : Nat), Aside0 (laws_FnJoined.j4 kq l1 = some r) ∧ Aside0 (kq ≤ kj7) ∧ Aside0 (Below w.heap.size w wc))
         case first =>
          have H := HC21.out
          clear HC21
          by_cases c22 : t788 = true
          ·as_aux_lemma =>
             subst c22
             have H1 : ((impl_Patch.f kj7 t776 t777).bind fun bt794 => ((impl_Patch.f kj7 bt794.1 t778).bind fun bt798 => ((impl_Patch.f kj7 t776 t785).bind fun bt802 => (if bt794.2 = true then (if bt798.2 = true then (if bt802.2 = true then ((laws_sameTexts.f kj7 bt798.1 bt802.1).bind fun t806 => (laws_FnJoined.j1 kj7 l1 t776 t777 t785 bt794.1 bt802.1 (!t806))) else (laws_FnJoined.j1 kj7 l1 t776 t777 t785 bt794.1 bt802.1 true)) else (laws_FnJoined.j1 kj7 l1 t776 t777 t785 bt794.1 bt802.1 true)) else (laws_FnJoined.j1 kj7 l1 t776 t777 t785 bt794.1 bt802.1 true))))) = some r := by rw [if_pos rfl] at H; exact H
             clear H
             have H := H1
             clear H1
             replace H := Option.bind_eq_some_iff.mp H
             obtain ⟨⟨t794, t795⟩, A230, H⟩ := H
             replace H : ((impl_Patch.f kj7 t794 t778).bind fun bt798 => ((impl_Patch.f kj7 t776 t785).bind fun bt802 => (if t795 = true then (if bt798.2 = true then (if bt802.2 = true then ((laws_sameTexts.f kj7 bt798.1 bt802.1).bind fun t806 => (laws_FnJoined.j1 kj7 l1 t776 t777 t785 t794 bt802.1 (!t806))) else (laws_FnJoined.j1 kj7 l1 t776 t777 t785 t794 bt802.1 true)) else (laws_FnJoined.j1 kj7 l1 t776 t777 t785 t794 bt802.1 true)) else (laws_FnJoined.j1 kj7 l1 t776 t777 t785 t794 bt802.1 true)))) = some r := H
             have A23 := Aside0.mk A230
             clear A230
             replace H := Option.bind_eq_some_iff.mp H
             obtain ⟨⟨t798, t799⟩, A240, H⟩ := H
             replace H : ((impl_Patch.f kj7 t776 t785).bind fun bt802 => (if t795 = true then (if t799 = true then (if bt802.2 = true then ((laws_sameTexts.f kj7 t798 bt802.1).bind fun t806 => (laws_FnJoined.j1 kj7 l1 t776 t777 t785 t794 bt802.1 (!t806))) else (laws_FnJoined.j1 kj7 l1 t776 t777 t785 t794 bt802.1 true)) else (laws_FnJoined.j1 kj7 l1 t776 t777 t785 t794 bt802.1 true)) else (laws_FnJoined.j1 kj7 l1 t776 t777 t785 t794 bt802.1 true))) = some r := H
             have A24 := Aside0.mk A240
             clear A240
             replace H := Option.bind_eq_some_iff.mp H
             obtain ⟨⟨t802, t803⟩, A250, H⟩ := H
             replace H : (if t795 = true then (if t799 = true then (if t803 = true then ((laws_sameTexts.f kj7 t798 t802).bind fun t806 => (laws_FnJoined.j1 kj7 l1 t776 t777 t785 t794 t802 (!t806))) else (laws_FnJoined.j1 kj7 l1 t776 t777 t785 t794 t802 true)) else (laws_FnJoined.j1 kj7 l1 t776 t777 t785 t794 t802 true)) else (laws_FnJoined.j1 kj7 l1 t776 t777 t785 t794 t802 true)) = some r := H
             have A25 := Aside0.mk A250
             clear A250
             have HC26 := Aside0.mk H
             clear H
             go_upto_region 12 with (first | ((with_reducible refine gateC (f := 35) rfl ?_); refine goesL_ (some 66) rfl rfl Try.func35 (by kernel_rfl) rfl #[.slice Ao10 t776.length co10, .slice Ao11 t777.length co11] rfl zm ?_; (with_reducible refine (impl_Patch.calls kj7 _ _ t776 _ _ t777 t794 t795 _ ?side1 ?side2 ?side3 ?side4 A23.out).mono ?_); (case side1 => repeat (first | exact (Kd.R_reads' HO_5.out).2.2 | (with_reducible refine Kd.C_alloc ?_ _) | (with_reducible refine Kd.C_drewN ?_ _) | (with_reducible refine Kd.C_drew ?_))); (case side2 => exact (Kd.R_reads' HO_5.out).2.1); (case side3 => repeat (first | exact (Kd.N_reads' HO_6.out).2.2 | (with_reducible refine Kd.C_alloc ?_ _) | (with_reducible refine Kd.C_drewN ?_ _) | (with_reducible refine Kd.C_drew ?_))); (case side4 => exact (Kd.N_reads' HO_6.out).2.1); rintro e w27 ⟨v796, rfl, ho0, hb⟩; refine ⟨_, rfl, ?_⟩; have n0_ := Aside0.mk (Kd.R_elder' (zr HO_5.out) (Kd.R_base ho0) hb); have n1_ := Aside0.mk (Kd.N_elder' (by (with_reducible repeat (first | apply Kd.N_alloc | apply Kd.N_drewN | apply Kd.N_drew)); exact HO_6.out) (Kd.R_base ho0) hb); have n2_ := Aside0.mk (Kd.N_elder' (by (with_reducible repeat (first | apply Kd.N_alloc | apply Kd.N_drewN | apply Kd.N_drew)); exact HO_7.out) (Kd.R_base ho0) hb); have n3_ := Aside0.mk (Kd.N_elder' (by (with_reducible repeat (first | apply Kd.N_alloc | apply Kd.N_drewN | apply Kd.N_drew)); exact HO_8.out) (Kd.R_base ho0) hb); have n4_ := Aside0.mk (Kd.R_lower (Kd.R_new' ho0 (Kd.R_lt (zr HO_5.out))) (below_size zb)); have n5_ := Aside0.mk (below_step zb hb); clear HO_5; clear HO_6; clear HO_7; clear HO_8; clear HB; have HO_5 := n0_; have HO_6 := n1_; have HO_7 := n2_; have HO_8 := n3_; have HO797 := n4_; have HB := n5_; clear n0_ n1_ n2_ n3_ n4_ n5_; (try clear hb); (try clear hb2); (try clear hk); (try clear hi); (try clear ho0); obtain ⟨Ao28, co28, eo28⟩ := Kd.R_slice HO797.out; subst eo28) | ((with_reducible refine gateC (f := 35) rfl ?_); refine goesL_ (some 72) rfl rfl Try.func35 (by kernel_rfl) rfl #[.slice Ao28 t794.length co28, .slice Ao12 t778.length co12] rfl zm ?_; (with_reducible refine (impl_Patch.calls kj7 _ _ t794 _ _ t778 t798 t799 _ ?side1 ?side2 ?side3 ?side4 A24.out).mono ?_); (case side1 => repeat (first | exact (Kd.R_reads' HO797.out).2.2 | (with_reducible refine Kd.C_alloc ?_ _) | (with_reducible refine Kd.C_drewN ?_ _) | (with_reducible refine Kd.C_drew ?_))); (case side2 => exact (Kd.R_reads' HO797.out).2.1); (case side3 => repeat (first | exact (Kd.N_reads' HO_7.out).2.2 | (with_reducible refine Kd.C_alloc ?_ _) | (with_reducible refine Kd.C_drewN ?_ _) | (with_reducible refine Kd.C_drew ?_))); (case side4 => exact (Kd.N_reads' HO_7.out).2.1); rintro e w29 ⟨v800, rfl, ho0, hb⟩; refine ⟨_, rfl, ?_⟩; have n0_ := Aside0.mk (Kd.R_elder' (zr HO_5.out) (Kd.R_base ho0) hb); have n1_ := Aside0.mk (Kd.N_elder' (by (with_reducible repeat (first | apply Kd.N_alloc | apply Kd.N_drewN | apply Kd.N_drew)); exact HO_6.out) (Kd.R_base ho0) hb); have n2_ := Aside0.mk (Kd.N_elder' (by (with_reducible repeat (first | apply Kd.N_alloc | apply Kd.N_drewN | apply Kd.N_drew)); exact HO_7.out) (Kd.R_base ho0) hb); have n3_ := Aside0.mk (Kd.N_elder' (by (with_reducible repeat (first | apply Kd.N_alloc | apply Kd.N_drewN | apply Kd.N_drew)); exact HO_8.out) (Kd.R_base ho0) hb); have n4_ := Aside0.mk (Kd.R_elder' (zr HO797.out) (Kd.R_base ho0) hb); have n5_ := Aside0.mk (Kd.R_lower (Kd.R_new' (Kd.R_new' ho0 (Kd.R_lt (zr HO_5.out))) (Kd.R_lt (zr HO797.out))) (below_size zb)); have n6_ := Aside0.mk (below_step zb hb); clear HO_5; clear HO_6; clear HO_7; clear HO_8; clear HO797; clear HB; have HO_5 := n0_; have HO_6 := n1_; have HO_7 := n2_; have HO_8 := n3_; have HO797 := n4_; have HO801 := n5_; have HB := n6_; clear n0_ n1_ n2_ n3_ n4_ n5_ n6_; (try clear hb); (try clear hb2); (try clear hk); (try clear hi); (try clear ho0); obtain ⟨Ao30, co30, eo30⟩ := Kd.N_slice HO_8.out; subst eo30) | ((with_reducible refine gateC (f := 35) rfl ?_); refine goesL_ (some 78) rfl rfl Try.func35 (by kernel_rfl) rfl #[.slice Ao10 t776.length co10, .slice Ao30 t785.length co30] rfl zm ?_; (with_reducible refine (impl_Patch.calls kj7 _ _ t776 _ _ t785 t802 t803 _ ?side1 ?side2 ?side3 ?side4 A25.out).mono ?_); (case side1 => repeat (first | exact (Kd.R_reads' HO_5.out).2.2 | (with_reducible refine Kd.C_alloc ?_ _) | (with_reducible refine Kd.C_drewN ?_ _) | (with_reducible refine Kd.C_drew ?_))); (case side2 => exact (Kd.R_reads' HO_5.out).2.1); (case side3 => repeat (first | exact (Kd.N_reads' HO_8.out).2.2 | (with_reducible refine Kd.C_alloc ?_ _) | (with_reducible refine Kd.C_drewN ?_ _) | (with_reducible refine Kd.C_drew ?_))); (case side4 => exact (Kd.N_reads' HO_8.out).2.1); rintro e w31 ⟨v804, rfl, ho0, hb⟩; refine ⟨_, rfl, ?_⟩; have n0_ := Aside0.mk (Kd.R_elder' (zr HO_5.out) (Kd.R_base ho0) hb); have n1_ := Aside0.mk (Kd.N_elder' (by (with_reducible repeat (first | apply Kd.N_alloc | apply Kd.N_drewN | apply Kd.N_drew)); exact HO_6.out) (Kd.R_base ho0) hb); have n2_ := Aside0.mk (Kd.N_elder' (by (with_reducible repeat (first | apply Kd.N_alloc | apply Kd.N_drewN | apply Kd.N_drew)); exact HO_7.out) (Kd.R_base ho0) hb); have n3_ := Aside0.mk (Kd.N_elder' (by (with_reducible repeat (first | apply Kd.N_alloc | apply Kd.N_drewN | apply Kd.N_drew)); exact HO_8.out) (Kd.R_base ho0) hb); have n4_ := Aside0.mk (Kd.R_elder' (zr HO797.out) (Kd.R_base ho0) hb); have n5_ := Aside0.mk (Kd.R_elder' (zr HO801.out) (Kd.R_base ho0) hb); have n6_ := Aside0.mk (Kd.R_lower (Kd.R_new' (Kd.R_new' (Kd.R_new' ho0 (Kd.R_lt (zr HO_5.out))) (Kd.R_lt (zr HO797.out))) (Kd.R_lt (zr HO801.out))) (below_size zb)); have n7_ := Aside0.mk (below_step zb hb); clear HO_5; clear HO_6; clear HO_7; clear HO_8; clear HO797; clear HO801; clear HB; have HO_5 := n0_; have HO_6 := n1_; have HO_7 := n2_; have HO_8 := n3_; have HO797 := n4_; have HO801 := n5_; have HO805 := n6_; have HB := n7_; clear n0_ n1_ n2_ n3_ n4_ n5_ n6_ n7_; (try clear hb); (try clear hb2); (try clear hk); (try clear hi); (try clear ho0)))
             (try simp only [Act.put, List.setIfInBounds_toArray, List.set_cons_zero, List.set_cons_succ])
             go_cut [96] (fun v96 wc => ∃ (kq : Nat) (x96_25 : Bool), v96 = .bool x96_25 ∧ Aside0 (laws_FnJoined.j1 kq l1 t776 t777 t785 t794 t802 x96_25 = some r) ∧ Aside0 (kq ≤ kj7) ∧ Aside0 (Kd.R Kd.string 9 wc w.heap.size (fun k_ => some k_ ≠ ((.slice Ao28 t794.length co28) : Value).ownBlock ∧ some k_ ≠ (v804 : Value).ownBlock) (.slice Ao10 t776.length co10) t776) ∧ Aside0 (Kd.N k111 111 wc w.heap.size (fun k_ => some k_ ≠ ((.slice Ao10 t776.length co10) : Value).ownBlock ∧ some k_ ≠ ((.slice Ao30 t785.length co30) : Value).ownBlock ∧ some k_ ≠ ((.slice Ao28 t794.length co28) : Value).ownBlock ∧ some k_ ≠ (v804 : Value).ownBlock) (.slice Ao11 t777.length co11) t777) ∧ Aside0 (Kd.N k111 111 wc w.heap.size (fun k_ => some k_ ≠ ((.slice Ao10 t776.length co10) : Value).ownBlock ∧ some k_ ≠ ((.slice Ao11 t777.length co11) : Value).ownBlock ∧ some k_ ≠ ((.slice Ao28 t794.length co28) : Value).ownBlock ∧ some k_ ≠ (v804 : Value).ownBlock) (.slice Ao30 t785.length co30) t785) ∧ Aside0 (Kd.R Kd.string 9 wc w.heap.size (fun k_ => some k_ ≠ ((.slice Ao10 t776.length co10) : Value).ownBlock ∧ some k_ ≠ (v804 : Value).ownBlock) (.slice Ao28 t794.length co28) t794) ∧ Aside0 (Kd.R Kd.string 9 wc w.heap.size (fun k_ => some k_ ≠ ((.slice Ao10 t776.length co10) : Value).ownBlock ∧ some k_ ≠ ((.slice Ao28 t794.length co28) : Value).ownBlock) v804 t802) ∧ Aside0 (Below w.heap.size w wc))
             case first =>
              have H := HC26.out
              clear HC26
              by_cases c32 : t795 = true
              ·as_aux_lemma =>
                 subst c32
                 have H1 : (if t799 = true then (if t803 = true then ((laws_sameTexts.f kj7 t798 t802).bind fun t806 => (laws_FnJoined.j1 kj7 l1 t776 t777 t785 t794 t802 (!t806))) else (laws_FnJoined.j1 kj7 l1 t776 t777 t785 t794 t802 true)) else (laws_FnJoined.j1 kj7 l1 t776 t777 t785 t794 t802 true)) = some r := by rw [if_pos rfl] at H; exact H
                 clear H
                 have H := H1
                 clear H1
                 by_cases c33 : t799 = true
                 ·as_aux_lemma =>
                    subst c33
                    have H1 : (if t803 = true then ((laws_sameTexts.f kj7 t798 t802).bind fun t806 => (laws_FnJoined.j1 kj7 l1 t776 t777 t785 t794 t802 (!t806))) else (laws_FnJoined.j1 kj7 l1 t776 t777 t785 t794 t802 true)) = some r := by rw [if_pos rfl] at H; exact H
                    clear H
                    have H := H1
                    clear H1
                    by_cases c34 : t803 = true
                    ·as_aux_lemma =>
                       subst c34
                       have H1 : ((laws_sameTexts.f kj7 t798 t802).bind fun t806 => (laws_FnJoined.j1 kj7 l1 t776 t777 t785 t794 t802 (!t806))) = some r := by rw [if_pos rfl] at H; exact H
                       clear H
                       have H := H1
                       clear H1
                       replace H := Option.bind_eq_some_iff.mp H
                       obtain ⟨t806, A350, H⟩ := H
                       replace H : (laws_FnJoined.j1 kj7 l1 t776 t777 t785 t794 t802 (!t806)) = some r := H
                       have A35 := Aside0.mk A350
                       clear A350
                       have H' := Aside0.mk H
                       clear H
                       obtain ⟨Ao36, co36, eo36⟩ := Kd.R_slice HO801.out
                       subst eo36
                       obtain ⟨Ao37, co37, eo37⟩ := Kd.R_slice HO805.out
                       subst eo37
                       go_wp2_with (first | (go_at_call 36; (with_reducible refine (laws_sameTexts.calls kj7 _ _ t798 _ _ t802 t806 _ ?side1 ?side2 ?side3 ?side4 A35.out).mono ?_); (case side1 => repeat (first | exact (Kd.R_reads' HO801.out).2.2 | (with_reducible refine Kd.C_alloc ?_ _) | (with_reducible refine Kd.C_drewN ?_ _) | (with_reducible refine Kd.C_drew ?_))); (case side2 => exact (Kd.R_reads' HO801.out).2.1); (case side3 => repeat (first | exact (Kd.R_reads' HO805.out).2.2 | (with_reducible refine Kd.C_alloc ?_ _) | (with_reducible refine Kd.C_drewN ?_ _) | (with_reducible refine Kd.C_drew ?_))); (case side4 => exact (Kd.R_reads' HO805.out).2.1); rintro e w' ⟨rfl, ⟨nd, rfl⟩⟩))
                       go_meet
                       case rel => exact ⟨_, (!t806), zf, H', ⟨by have := HJ7.out; first | omega | exact Nat.le_refl _⟩, ⟨by (with_reducible repeat (first | apply Kd.R_alloc | apply Kd.R_drewN | apply Kd.R_drew)); exact Kd.R_mono HO_5.out (fun _ hk => ⟨hk.1.1.2, hk.2⟩)⟩, ⟨by (with_reducible repeat (first | apply Kd.N_alloc | apply Kd.N_drewN | apply Kd.N_drew)); exact Kd.N_mono HO_6.out (fun _ hk => ⟨hk.1.1.1.1, ⟨hk.1.1.1.2.2, ⟨hk.1.1.2, hk.2⟩⟩⟩)⟩, ⟨by (with_reducible repeat (first | apply Kd.N_alloc | apply Kd.N_drewN | apply Kd.N_drew)); exact Kd.N_mono HO_8.out (fun _ hk => ⟨hk.1.1.1.1, ⟨hk.1.1.1.2.1, ⟨hk.1.1.2, hk.2⟩⟩⟩)⟩, ⟨by (with_reducible repeat (first | apply Kd.R_alloc | apply Kd.R_drewN | apply Kd.R_drew)); exact Kd.R_mono HO797.out (fun _ hk => ⟨hk.1.1.2, hk.2⟩)⟩, ⟨by (with_reducible repeat (first | apply Kd.R_alloc | apply Kd.R_drewN | apply Kd.R_drew)); exact Kd.R_mono HO805.out (fun _ hk => ⟨hk.1.1.2, hk.1.2⟩)⟩, ⟨by repeat (first | (with_reducible first | exact HB.out | apply below_alloc | apply pw_below_drewN | apply below_drew1) | exact HB.out)⟩⟩
                    ·as_aux_lemma =>
                       replace c34 := Bool.eq_false_iff.mpr c34
                       subst c34
                       have H1 : (laws_FnJoined.j1 kj7 l1 t776 t777 t785 t794 t802 true) = some r := by rw [if_neg (show ¬ (false = true) by decide)] at H; exact H
                       clear H
                       have H := H1
                       clear H1
                       have H' := Aside0.mk H
                       clear H
                       go_wp2
                       go_meet
                       case rel => exact ⟨_, (true), zf, H', ⟨by have := HJ7.out; first | omega | exact Nat.le_refl _⟩, ⟨by (with_reducible repeat (first | apply Kd.R_alloc | apply Kd.R_drewN | apply Kd.R_drew)); exact Kd.R_mono HO_5.out (fun _ hk => ⟨hk.1.1.2, hk.2⟩)⟩, ⟨by (with_reducible repeat (first | apply Kd.N_alloc | apply Kd.N_drewN | apply Kd.N_drew)); exact Kd.N_mono HO_6.out (fun _ hk => ⟨hk.1.1.1.1, ⟨hk.1.1.1.2.2, ⟨hk.1.1.2, hk.2⟩⟩⟩)⟩, ⟨by (with_reducible repeat (first | apply Kd.N_alloc | apply Kd.N_drewN | apply Kd.N_drew)); exact Kd.N_mono HO_8.out (fun _ hk => ⟨hk.1.1.1.1, ⟨hk.1.1.1.2.1, ⟨hk.1.1.2, hk.2⟩⟩⟩)⟩, ⟨by (with_reducible repeat (first | apply Kd.R_alloc | apply Kd.R_drewN | apply Kd.R_drew)); exact Kd.R_mono HO797.out (fun _ hk => ⟨hk.1.1.2, hk.2⟩)⟩, ⟨by (with_reducible repeat (first | apply Kd.R_alloc | apply Kd.R_drewN | apply Kd.R_drew)); exact Kd.R_mono HO805.out (fun _ hk => ⟨hk.1.1.2, hk.1.2⟩)⟩, ⟨by repeat (first | (with_reducible first | exact HB.out | apply below_alloc | apply pw_below_drewN | apply below_drew1) | exact HB.out)⟩⟩
                 ·as_aux_lemma =>
                    replace c33 := Bool.eq_false_iff.mpr c33
                    subst c33
                    have H1 : (laws_FnJoined.j1 kj7 l1 t776 t777 t785 t794 t802 true) = some r := by rw [if_neg (show ¬ (false = true) by decide)] at H; exact H
                    clear H
                    have H := H1
                    clear H1
                    have H' := Aside0.mk H
                    clear H
                    go_wp2
                    go_meet
                    case rel => exact ⟨_, (true), zf, H', ⟨by have := HJ7.out; first | omega | exact Nat.le_refl _⟩, ⟨by (with_reducible repeat (first | apply Kd.R_alloc | apply Kd.R_drewN | apply Kd.R_drew)); exact Kd.R_mono HO_5.out (fun _ hk => ⟨hk.1.1.2, hk.2⟩)⟩, ⟨by (with_reducible repeat (first | apply Kd.N_alloc | apply Kd.N_drewN | apply Kd.N_drew)); exact Kd.N_mono HO_6.out (fun _ hk => ⟨hk.1.1.1.1, ⟨hk.1.1.1.2.2, ⟨hk.1.1.2, hk.2⟩⟩⟩)⟩, ⟨by (with_reducible repeat (first | apply Kd.N_alloc | apply Kd.N_drewN | apply Kd.N_drew)); exact Kd.N_mono HO_8.out (fun _ hk => ⟨hk.1.1.1.1, ⟨hk.1.1.1.2.1, ⟨hk.1.1.2, hk.2⟩⟩⟩)⟩, ⟨by (with_reducible repeat (first | apply Kd.R_alloc | apply Kd.R_drewN | apply Kd.R_drew)); exact Kd.R_mono HO797.out (fun _ hk => ⟨hk.1.1.2, hk.2⟩)⟩, ⟨by (with_reducible repeat (first | apply Kd.R_alloc | apply Kd.R_drewN | apply Kd.R_drew)); exact Kd.R_mono HO805.out (fun _ hk => ⟨hk.1.1.2, hk.1.2⟩)⟩, ⟨by repeat (first | (with_reducible first | exact HB.out | apply below_alloc | apply pw_below_drewN | apply below_drew1) | exact HB.out)⟩⟩
              ·as_aux_lemma =>
                 replace c32 := Bool.eq_false_iff.mpr c32
                 subst c32
                 have H1 : (laws_FnJoined.j1 kj7 l1 t776 t777 t785 t794 t802 true) = some r := by rw [if_neg (show ¬ (false = true) by decide)] at H; exact H
                 clear H
                 have H := H1
                 clear H1
                 have H' := Aside0.mk H
                 clear H
                 go_wp2
                 go_meet
                 case rel => exact ⟨_, (true), zf, H', ⟨by have := HJ7.out; first | omega | exact Nat.le_refl _⟩, ⟨by (with_reducible repeat (first | apply Kd.R_alloc | apply Kd.R_drewN | apply Kd.R_drew)); exact Kd.R_mono HO_5.out (fun _ hk => ⟨hk.1.1.2, hk.2⟩)⟩, ⟨by (with_reducible repeat (first | apply Kd.N_alloc | apply Kd.N_drewN | apply Kd.N_drew)); exact Kd.N_mono HO_6.out (fun _ hk => ⟨hk.1.1.1.1, ⟨hk.1.1.1.2.2, ⟨hk.1.1.2, hk.2⟩⟩⟩)⟩, ⟨by (with_reducible repeat (first | apply Kd.N_alloc | apply Kd.N_drewN | apply Kd.N_drew)); exact Kd.N_mono HO_8.out (fun _ hk => ⟨hk.1.1.1.1, ⟨hk.1.1.1.2.1, ⟨hk.1.1.2, hk.2⟩⟩⟩)⟩, ⟨by (with_reducible repeat (first | apply Kd.R_alloc | apply Kd.R_drewN | apply Kd.R_drew)); exact Kd.R_mono HO797.out (fun _ hk => ⟨hk.1.1.2, hk.2⟩)⟩, ⟨by (with_reducible repeat (first | apply Kd.R_alloc | apply Kd.R_drewN | apply Kd.R_drew)); exact Kd.R_mono HO805.out (fun _ hk => ⟨hk.1.1.2, hk.1.2⟩)⟩, ⟨by repeat (first | (with_reducible first | exact HB.out | apply below_alloc | apply pw_below_drewN | apply below_drew1) | exact HB.out)⟩⟩
             case rest =>
              clear HC26
              try clear c1
              try clear c2
              try clear p2
              try clear c3
              try clear c4
              try clear c6
              try clear c15
              try clear c15b0
              try clear c15b1
              try clear c15b2
              try clear c20
              try clear c22
              try clear c25
              try clear c27
              try clear c32
              try clear c33
              try clear c34
              try clear c35
              try clear p2
              obtain ⟨kq, x96_25, rfl, HA, HJ25, HO_5, HO_6, HO_8, HO_12, HO_16, HB⟩ := hcut
              cases kq with
              | zero => exact absurd HA.out (by simp [laws_FnJoined.j1])
              | succ kj25 =>
               have H := HA.out
               clear HA
               simp only [laws_FnJoined.j1] at H
               by_cases c38 : x96_25 = true
               ·as_aux_lemma =>
                  subst c38
                  have H1 : (some false) = some r := by rw [if_pos rfl] at H; exact H
                  clear H
                  have H := H1
                  clear H1
                  first
                  | exact absurd (show false = true from (Option.some.inj H).trans HR_.out) Bool.false_ne_true
                  | obtain rfl := Option.some.inj H
                    go_wp2
                    go_ret
                    exact ⟨by first | rfl | (simp [errW_none, errW_some] <;> rfl) | (simp [*, errW_none, errW_some] <;> rfl), by repeat (first | (with_reducible first | exact HB.out | apply below_alloc | apply pw_below_drewN | apply below_drew1) | exact HB.out)⟩
               ·as_aux_lemma =>
                  replace c38 := Bool.eq_false_iff.mpr c38
                  subst c38
                  have H1 : (laws_FnJoined.l0 kj25 l1 t776 t777 t785 t794 t802 t776 (t776.length : Int) 0) = some r := by rw [if_neg (show ¬ (false = true) by decide)] at H; exact H
                  clear H
                  have H := H1
                  clear H1
                  have H' := Aside0.mk H
                  clear H
                  go_wp2
                  go_loopg [99] kj25 (fun kq v99 w' => ∃ (x99_3 : Int), v99 = .int .i64 x99_3 ∧ Aside0 (laws_FnJoined.l0 kq l1 t776 t777 t785 t794 t802 t776 (t776.length : Int) x99_3 = some r) ∧ Aside0 (kq ≤ kj25) ∧ Aside0 (Kd.R Kd.string 9 w' w.heap.size (fun k_ => some k_ ≠ ((.slice Ao28 t794.length co28) : Value).ownBlock ∧ some k_ ≠ (v804 : Value).ownBlock) (.slice Ao10 t776.length co10) t776) ∧ Aside0 (Kd.N k111 111 w' w.heap.size (fun k_ => some k_ ≠ ((.slice Ao10 t776.length co10) : Value).ownBlock ∧ some k_ ≠ ((.slice Ao30 t785.length co30) : Value).ownBlock ∧ some k_ ≠ ((.slice Ao28 t794.length co28) : Value).ownBlock ∧ some k_ ≠ (v804 : Value).ownBlock ∧ some k_ ≠ ((.slice Ao10 t776.length co10) : Value).ownBlock) (.slice Ao11 t777.length co11) t777) ∧ Aside0 (Kd.N k111 111 w' w.heap.size (fun k_ => some k_ ≠ ((.slice Ao10 t776.length co10) : Value).ownBlock ∧ some k_ ≠ ((.slice Ao11 t777.length co11) : Value).ownBlock ∧ some k_ ≠ ((.slice Ao28 t794.length co28) : Value).ownBlock ∧ some k_ ≠ (v804 : Value).ownBlock ∧ some k_ ≠ ((.slice Ao10 t776.length co10) : Value).ownBlock) (.slice Ao30 t785.length co30) t785) ∧ Aside0 (Kd.R Kd.string 9 w' w.heap.size (fun k_ => some k_ ≠ ((.slice Ao10 t776.length co10) : Value).ownBlock ∧ some k_ ≠ (v804 : Value).ownBlock ∧ some k_ ≠ ((.slice Ao10 t776.length co10) : Value).ownBlock) (.slice Ao28 t794.length co28) t794) ∧ Aside0 (Kd.R Kd.string 9 w' w.heap.size (fun k_ => some k_ ≠ ((.slice Ao10 t776.length co10) : Value).ownBlock ∧ some k_ ≠ ((.slice Ao28 t794.length co28) : Value).ownBlock ∧ some k_ ≠ ((.slice Ao10 t776.length co10) : Value).ownBlock) v804 t802) ∧ Aside0 (Kd.R Kd.string 9 w' w.heap.size (fun k_ => some k_ ≠ ((.slice Ao28 t794.length co28) : Value).ownBlock ∧ some k_ ≠ (v804 : Value).ownBlock) (.slice Ao10 t776.length co10) t776) ∧ Aside0 (Below w.heap.size w w'))
                  case atStart => exact ⟨(0), zf, H', ⟨Nat.le_refl _⟩, ⟨by (with_reducible repeat (first | apply Kd.R_alloc | apply Kd.R_drewN | apply Kd.R_drew)); exact HO_5.out⟩, ⟨by (with_reducible repeat (first | apply Kd.N_alloc | apply Kd.N_drewN | apply Kd.N_drew)); exact Kd.N_mono HO_6.out (fun _ hk => ⟨hk.1, ⟨hk.2.1, ⟨hk.2.2.1, ⟨hk.2.2.2, hk.1⟩⟩⟩⟩)⟩, ⟨by (with_reducible repeat (first | apply Kd.N_alloc | apply Kd.N_drewN | apply Kd.N_drew)); exact Kd.N_mono HO_8.out (fun _ hk => ⟨hk.1, ⟨hk.2.1, ⟨hk.2.2.1, ⟨hk.2.2.2, hk.1⟩⟩⟩⟩)⟩, ⟨by (with_reducible repeat (first | apply Kd.R_alloc | apply Kd.R_drewN | apply Kd.R_drew)); exact Kd.R_mono HO_12.out (fun _ hk => ⟨hk.1, ⟨hk.2, hk.1⟩⟩)⟩, ⟨by (with_reducible repeat (first | apply Kd.R_alloc | apply Kd.R_drewN | apply Kd.R_drew)); exact Kd.R_mono HO_16.out (fun _ hk => ⟨hk.1, ⟨hk.2, hk.1⟩⟩)⟩, ⟨by (with_reducible repeat (first | apply Kd.R_alloc | apply Kd.R_drewN | apply Kd.R_drew)); exact HO_5.out⟩, ⟨by repeat (first | (with_reducible first | exact HB.out | apply below_alloc | apply pw_below_drewN | apply below_drew1) | exact HB.out)⟩⟩
                  case round =>
                   clear H'
                   try clear c1
                   try clear c2
                   try clear p2
                   try clear c3
                   try clear c4
                   try clear c6
                   try clear c15
                   try clear c15b0
                   try clear c15b1
                   try clear c15b2
                   try clear c20
                   try clear c22
                   try clear c25
                   try clear c27
                   try clear c32
                   try clear c33
                   try clear c34
                   try clear c35
                   try clear c38
                   try clear p2
                   obtain ⟨x99_3, rfl, HA, HK3, HO_5, HO_6, HO_8, HO_12, HO_16, HO_97, HB⟩ := hrel
                   cases gk with
                   | zero => exact absurd HA.out (by simp [laws_FnJoined.l0])
                   | succ k3 =>
                    have H := HA.out
                    clear HA
                    simp only [laws_FnJoined.l0] at H
                    by_cases c39 : x99_3 < (t776.length : Int)
                    ·as_aux_lemma =>
                       rw [if_pos c39] at H
                       have c39b0 : decide (x99_3 < (t776.length : Int)) = true := decide_eq_true c39
                       clear c39
                       by_cases c40 : 0 ≤ x99_3
                       ·as_aux_lemma =>
                          rw [if_pos c40] at H
                          have c40b0 : decide (0 ≤ x99_3) = true := decide_eq_true c40
                          clear c40
                          by_cases c41 : x99_3 < (t776.length : Int)
                          ·as_aux_lemma =>
                             rw [if_pos c41] at H
                             have c41b0 : decide (x99_3 < (t776.length : Int)) = true := decide_eq_true c41
                             clear c41
                             replace H := Option.bind_eq_some_iff.mp H
                             obtain ⟨⟨t808, t809⟩, A420, H⟩ := H
                             replace H : (if t809 = true then (if t808 < 0 then (laws_FnJoined.j3 k3 l1 t776 t777 t785 t794 t802 x99_3 (rdOf ByteArray.empty t776 x99_3) t776 (t776.length : Int) x99_3 true) else (if t808 ≥ (t794.length : Int) then (laws_FnJoined.j3 k3 l1 t776 t777 t785 t794 t802 x99_3 (rdOf ByteArray.empty t776 x99_3) t776 (t776.length : Int) x99_3 true) else (if 0 ≤ t808 then (if t808 < (t794.length : Int) then (laws_FnJoined.j3 k3 l1 t776 t777 t785 t794 t802 x99_3 (rdOf ByteArray.empty t776 x99_3) t776 (t776.length : Int) x99_3 ((rdOf ByteArray.empty t794 t808).toList != (rdOf ByteArray.empty t776 x99_3).toList)) else (none)) else (none)))) else (laws_FnJoined.j3 k3 l1 t776 t777 t785 t794 t802 x99_3 (rdOf ByteArray.empty t776 x99_3) t776 (t776.length : Int) x99_3 false)) = some r := H
                             have A42 := Aside0.mk A420
                             clear A420
                             have HC43 := Aside0.mk H
                             clear H
                             have p807 : 0 ≤ (x99_3 : Int) := oa
                             have q807 : x99_3 < (t776.length : Int) := oa
                             obtain ⟨ad807, e807, hx807_0⟩ := Kd.at_string (Kd.R_reads' HO_97.out).2.2 x99_3 p807 q807
                             cases e807
                             replace p807 := eq_true p807
                             replace q807 := eq_true q807
                             go_upto_region 18 with (first | ((with_reducible refine gateC (f := 37) rfl ?_); refine goesL_ (some 109) rfl rfl Try.func37 (by kernel_rfl) rfl #[.slice Ao11 t777.length co11, .int .i64 (t776.length : Int), .int .i64 x99_3] rfl zm ?_; (with_reducible refine (impl_PlaceOf.calls k3 _ _ t777 (t776.length : Int) x99_3 t808 t809 _ ?side1 ?side2 A42.out).mono ?_); (case side1 => repeat (first | exact (Kd.N_reads' HO_6.out).2.2 | (with_reducible refine Kd.C_alloc ?_ _) | (with_reducible refine Kd.C_drewN ?_ _) | (with_reducible refine Kd.C_drew ?_))); (case side2 => exact (Kd.N_reads' HO_6.out).2.1); rintro e w44 ⟨rfl, hb⟩; refine ⟨_, rfl, ?_⟩; have n0_ := Aside0.mk (Kd.R_below (zr HO_5.out) hb); have n1_ := Aside0.mk (Kd.N_below (by (with_reducible repeat (first | apply Kd.N_alloc | apply Kd.N_drewN | apply Kd.N_drew)); exact HO_6.out) hb); have n2_ := Aside0.mk (Kd.N_below (by (with_reducible repeat (first | apply Kd.N_alloc | apply Kd.N_drewN | apply Kd.N_drew)); exact HO_8.out) hb); have n3_ := Aside0.mk (Kd.R_below (zr HO_12.out) hb); have n4_ := Aside0.mk (Kd.R_below (zr HO_16.out) hb); have n5_ := Aside0.mk (Kd.R_below (zr HO_97.out) hb); have n6_ := Aside0.mk (below_step zb hb); clear HO_5; clear HO_6; clear HO_8; clear HO_12; clear HO_16; clear HO_97; clear HB; have HO_5 := n0_; have HO_6 := n1_; have HO_8 := n2_; have HO_12 := n3_; have HO_16 := n4_; have HO_97 := n5_; have HB := n6_; clear n0_ n1_ n2_ n3_ n4_ n5_ n6_; (try clear hb); (try clear hb2); (try clear hk); (try clear hi)))
                             (try simp only [Act.put, List.setIfInBounds_toArray, List.set_cons_zero, List.set_cons_succ])
                             go_cut [130] (fun v130 wc => ∃ (kq : Nat) (x130_42 : Bool), v130 = .bool x130_42 ∧ Aside0 (laws_FnJoined.j3 kq l1 t776 t777 t785 t794 t802 x99_3 (rdOf ByteArray.empty t776 x99_3) t776 (t776.length : Int) x99_3 x130_42 = some r) ∧ Aside0 (kq ≤ k3) ∧ Aside0 (Kd.R Kd.string 9 wc w.heap.size (fun k_ => some k_ ≠ ((.slice Ao28 t794.length co28) : Value).ownBlock ∧ some k_ ≠ (v804 : Value).ownBlock) (.slice (some ad807) t776.length co10) t776) ∧ Aside0 (Kd.N k111 111 wc w.heap.size (fun k_ => some k_ ≠ ((.slice (some ad807) t776.length co10) : Value).ownBlock ∧ some k_ ≠ ((.slice Ao30 t785.length co30) : Value).ownBlock ∧ some k_ ≠ ((.slice Ao28 t794.length co28) : Value).ownBlock ∧ some k_ ≠ (v804 : Value).ownBlock ∧ some k_ ≠ ((.slice (some ad807) t776.length co10) : Value).ownBlock) (.slice Ao11 t777.length co11) t777) ∧ Aside0 (Kd.N k111 111 wc w.heap.size (fun k_ => some k_ ≠ ((.slice (some ad807) t776.length co10) : Value).ownBlock ∧ some k_ ≠ ((.slice Ao11 t777.length co11) : Value).ownBlock ∧ some k_ ≠ ((.slice Ao28 t794.length co28) : Value).ownBlock ∧ some k_ ≠ (v804 : Value).ownBlock ∧ some k_ ≠ ((.slice (some ad807) t776.length co10) : Value).ownBlock) (.slice Ao30 t785.length co30) t785) ∧ Aside0 (Kd.R Kd.string 9 wc w.heap.size (fun k_ => some k_ ≠ ((.slice (some ad807) t776.length co10) : Value).ownBlock ∧ some k_ ≠ (v804 : Value).ownBlock ∧ some k_ ≠ ((.slice (some ad807) t776.length co10) : Value).ownBlock) (.slice Ao28 t794.length co28) t794) ∧ Aside0 (Kd.R Kd.string 9 wc w.heap.size (fun k_ => some k_ ≠ ((.slice (some ad807) t776.length co10) : Value).ownBlock ∧ some k_ ≠ ((.slice Ao28 t794.length co28) : Value).ownBlock ∧ some k_ ≠ ((.slice (some ad807) t776.length co10) : Value).ownBlock) v804 t802) ∧ Aside0 (Kd.R Kd.string 9 wc w.heap.size (fun k_ => some k_ ≠ ((.slice Ao28 t794.length co28) : Value).ownBlock ∧ some k_ ≠ (v804 : Value).ownBlock) (.slice (some ad807) t776.length co10) t776) ∧ Aside0 (Below w.heap.size w wc))
                             case first =>
                              have H := HC43.out
                              clear HC43
                              by_cases c45 : t809 = true
                              ·as_aux_lemma =>
                                 subst c45
                                 have H1 : (if t808 < 0 then (laws_FnJoined.j3 k3 l1 t776 t777 t785 t794 t802 x99_3 (rdOf ByteArray.empty t776 x99_3) t776 (t776.length : Int) x99_3 true) else (if t808 ≥ (t794.length : Int) then (laws_FnJoined.j3 k3 l1 t776 t777 t785 t794 t802 x99_3 (rdOf ByteArray.empty t776 x99_3) t776 (t776.length : Int) x99_3 true) else (if 0 ≤ t808 then (if t808 < (t794.length : Int) then (laws_FnJoined.j3 k3 l1 t776 t777 t785 t794 t802 x99_3 (rdOf ByteArray.empty t776 x99_3) t776 (t776.length : Int) x99_3 ((rdOf ByteArray.empty t794 t808).toList != (rdOf ByteArray.empty t776 x99_3).toList)) else (none)) else (none)))) = some r := by rw [if_pos rfl] at H; exact H
                                 clear H
                                 have H := H1
                                 clear H1
                                 by_cases c46 : t808 < 0
                                 ·as_aux_lemma =>
                                    rw [if_pos c46] at H
                                    have c46b0 : decide (t808 < 0) = true := decide_eq_true c46
                                    clear c46
                                    (first | rw [c46b0] | (simp only [i64_w, i32_w]; rw [c46b0]) | skip)
                                    have H' := Aside0.mk H
                                    clear H
                                    go_wp2
                                    go_meet
                                    case rel => exact ⟨_, (true), zf, H', ⟨by have := HJ7.out; have := HJ25.out; have := HK3.out; first | omega | exact Nat.le_refl _⟩, ⟨by (with_reducible repeat (first | apply Kd.R_alloc | apply Kd.R_drewN | apply Kd.R_drew)); exact HO_5.out⟩, ⟨by (with_reducible repeat (first | apply Kd.N_alloc | apply Kd.N_drewN | apply Kd.N_drew)); exact HO_6.out⟩, ⟨by (with_reducible repeat (first | apply Kd.N_alloc | apply Kd.N_drewN | apply Kd.N_drew)); exact HO_8.out⟩, ⟨by (with_reducible repeat (first | apply Kd.R_alloc | apply Kd.R_drewN | apply Kd.R_drew)); exact HO_12.out⟩, ⟨by (with_reducible repeat (first | apply Kd.R_alloc | apply Kd.R_drewN | apply Kd.R_drew)); exact HO_16.out⟩, ⟨by (with_reducible repeat (first | apply Kd.R_alloc | apply Kd.R_drewN | apply Kd.R_drew)); exact HO_97.out⟩, ⟨by repeat (first | (with_reducible first | exact HB.out | apply below_alloc | apply pw_below_drewN | apply below_drew1) | exact HB.out)⟩⟩
                                 ·as_aux_lemma =>
                                    rw [if_neg c46] at H
                                    have c46b0 : decide (t808 < 0) = false := decide_eq_false c46
                                    clear c46
                                    (first | rw [c46b0] | (simp only [i64_w, i32_w]; rw [c46b0]) | skip)
                                    by_cases c47 : t808 ≥ (t794.length : Int)
                                    ·as_aux_lemma =>
                                       rw [if_pos c47] at H
                                       have c47b0 : decide ((t794.length : Int) ≤ t808) = true := decide_eq_true c47
                                       clear c47
                                       have H' := Aside0.mk H
                                       clear H
                                       go_wp2
                                       go_meet
                                       case rel => exact ⟨_, (true), zf, H', ⟨by have := HJ7.out; have := HJ25.out; have := HK3.out; first | omega | exact Nat.le_refl _⟩, ⟨by (with_reducible repeat (first | apply Kd.R_alloc | apply Kd.R_drewN | apply Kd.R_drew)); exact HO_5.out⟩, ⟨by (with_reducible repeat (first | apply Kd.N_alloc | apply Kd.N_drewN | apply Kd.N_drew)); exact HO_6.out⟩, ⟨by (with_reducible repeat (first | apply Kd.N_alloc | apply Kd.N_drewN | apply Kd.N_drew)); exact HO_8.out⟩, ⟨by (with_reducible repeat (first | apply Kd.R_alloc | apply Kd.R_drewN | apply Kd.R_drew)); exact HO_12.out⟩, ⟨by (with_reducible repeat (first | apply Kd.R_alloc | apply Kd.R_drewN | apply Kd.R_drew)); exact HO_16.out⟩, ⟨by (with_reducible repeat (first | apply Kd.R_alloc | apply Kd.R_drewN | apply Kd.R_drew)); exact HO_97.out⟩, ⟨by repeat (first | (with_reducible first | exact HB.out | apply below_alloc | apply pw_below_drewN | apply below_drew1) | exact HB.out)⟩⟩
                                    ·as_aux_lemma =>
                                       rw [if_neg c47] at H
                                       have c47b0 : decide ((t794.length : Int) ≤ t808) = false := decide_eq_false c47
                                       clear c47
                                       by_cases c48 : 0 ≤ t808
                                       ·as_aux_lemma =>
                                          rw [if_pos c48] at H
                                          have c48b0 : decide (0 ≤ t808) = true := decide_eq_true c48
                                          clear c48
                                          by_cases c49 : t808 < (t794.length : Int)
                                          ·as_aux_lemma =>
                                             rw [if_pos c49] at H
                                             have c49b0 : decide (t808 < (t794.length : Int)) = true := decide_eq_true c49
                                             clear c49
                                             have H' := Aside0.mk H
                                             clear H
                                             have p810 : 0 ≤ (t808 : Int) := oa
                                             have q810 : t808 < (t794.length : Int) := oa
                                             obtain ⟨ad810, e810, hx810_0⟩ := Kd.at_string (Kd.R_reads' HO_12.out).2.2 t808 p810 q810
                                             cases e810
                                             replace p810 := eq_true p810
                                             replace q810 := eq_true q810
                                             go_wp2
                                             go_meet
                                             case rel => exact ⟨_, (((rdOf ByteArray.empty t794 t808).toList != (rdOf ByteArray.empty t776 x99_3).toList)), zf, H', ⟨by have := HJ7.out; have := HJ25.out; have := HK3.out; first | omega | exact Nat.le_refl _⟩, ⟨by (with_reducible repeat (first | apply Kd.R_alloc | apply Kd.R_drewN | apply Kd.R_drew)); exact HO_5.out⟩, ⟨by (with_reducible repeat (first | apply Kd.N_alloc | apply Kd.N_drewN | apply Kd.N_drew)); exact HO_6.out⟩, ⟨by (with_reducible repeat (first | apply Kd.N_alloc | apply Kd.N_drewN | apply Kd.N_drew)); exact HO_8.out⟩, ⟨by (with_reducible repeat (first | apply Kd.R_alloc | apply Kd.R_drewN | apply Kd.R_drew)); exact HO_12.out⟩, ⟨by (with_reducible repeat (first | apply Kd.R_alloc | apply Kd.R_drewN | apply Kd.R_drew)); exact HO_16.out⟩, ⟨by (with_reducible repeat (first | apply Kd.R_alloc | apply Kd.R_drewN | apply Kd.R_drew)); exact HO_97.out⟩, ⟨by repeat (first | (with_reducible first | exact HB.out | apply below_alloc | apply pw_below_drewN | apply below_drew1) | exact HB.out)⟩⟩
                                          ·rw [if_neg c49] at H
                                           exact absurd H (by simp)
                                       ·rw [if_neg c48] at H
                                        exact absurd H (by simp)
                              ·as_aux_lemma =>
                                 replace c45 := Bool.eq_false_iff.mpr c45
                                 subst c45
                                 have H1 : (laws_FnJoined.j3 k3 l1 t776 t777 t785 t794 t802 x99_3 (rdOf ByteArray.empty t776 x99_3) t776 (t776.length : Int) x99_3 false) = some r := by rw [if_neg (show ¬ (false = true) by decide)] at H; exact H
                                 clear H
                                 have H := H1
                                 clear H1
                                 have H' := Aside0.mk H
                                 clear H
                                 go_wp2
                                 go_meet
                                 case rel => exact ⟨_, (false), zf, H', ⟨by have := HJ7.out; have := HJ25.out; have := HK3.out; first | omega | exact Nat.le_refl _⟩, ⟨by (with_reducible repeat (first | apply Kd.R_alloc | apply Kd.R_drewN | apply Kd.R_drew)); exact HO_5.out⟩, ⟨by (with_reducible repeat (first | apply Kd.N_alloc | apply Kd.N_drewN | apply Kd.N_drew)); exact HO_6.out⟩, ⟨by (with_reducible repeat (first | apply Kd.N_alloc | apply Kd.N_drewN | apply Kd.N_drew)); exact HO_8.out⟩, ⟨by (with_reducible repeat (first | apply Kd.R_alloc | apply Kd.R_drewN | apply Kd.R_drew)); exact HO_12.out⟩, ⟨by (with_reducible repeat (first | apply Kd.R_alloc | apply Kd.R_drewN | apply Kd.R_drew)); exact HO_16.out⟩, ⟨by (with_reducible repeat (first | apply Kd.R_alloc | apply Kd.R_drewN | apply Kd.R_drew)); exact HO_97.out⟩, ⟨by repeat (first | (with_reducible first | exact HB.out | apply below_alloc | apply pw_below_drewN | apply below_drew1) | exact HB.out)⟩⟩
                             case rest =>
                              clear HC43
                              try clear c1
                              try clear c2
                              try clear p2
                              try clear c3
                              try clear c4
                              try clear c6
                              try clear p8
                              try clear q8
                              try clear hx8
                              try clear c15
                              try clear c15b0
                              try clear c15b1
                              try clear c15b2
                              try clear c20
                              try clear c22
                              try clear c25
                              try clear c27
                              try clear c32
                              try clear c33
                              try clear c34
                              try clear c35
                              try clear c37
                              try clear c38
                              try clear c39
                              try clear c39b0
                              try clear c40
                              try clear c40b0
                              try clear c41
                              try clear c41b0
                              try clear c45
                              try clear c46
                              try clear c46b0
                              try clear c47
                              try clear c47b0
                              try clear c48
                              try clear c48b0
                              try clear c49
                              try clear c49b0
                              try clear hx807_0
                              try clear hx810_0
                              try clear p2
                              try clear p807
                              try clear p810
                              try clear q807
                              try clear q810
                              obtain ⟨kq, x130_42, rfl, HA, HJ42, HO_5, HO_6, HO_8, HO_12, HO_16, HO_97, HB⟩ := hcut
                              cases kq with
                              | zero => exact absurd HA.out (by simp [laws_FnJoined.j3])
                              | succ kj42 =>
                               have H := HA.out
                               clear HA
                               simp only [laws_FnJoined.j3] at H
                               by_cases c50 : x130_42 = true
                               ·as_aux_lemma =>
                                  subst c50
                                  have H1 : (some false) = some r := by rw [if_pos rfl] at H; exact H
                                  clear H
                                  have H := H1
                                  clear H1
                                  first
                                  | exact absurd (show false = true from (Option.some.inj H).trans HR_.out) Bool.false_ne_true
                                  | obtain rfl := Option.some.inj H
                                    go_wp2
                                    go_ret
                                    exact ⟨by first | rfl | (simp [errW_none, errW_some] <;> rfl) | (simp [*, errW_none, errW_some] <;> rfl), by repeat (first | (with_reducible first | exact HB.out | apply below_alloc | apply pw_below_drewN | apply below_drew1) | exact HB.out)⟩
                               ·as_aux_lemma =>
                                  replace c50 := Bool.eq_false_iff.mpr c50
                                  subst c50
                                  have H1 : ((impl_PlaceOf.f kj42 t785 (t776.length : Int) x99_3).bind fun bt811 => (if bt811.2 = true then (if bt811.1 < 0 then (some false) else (if bt811.1 ≥ (t802.length : Int) then (some false) else (if 0 ≤ bt811.1 then (if bt811.1 < (t802.length : Int) then (if (rdOf ByteArray.empty t802 bt811.1).toList = (rdOf ByteArray.empty t776 x99_3).toList then (laws_FnJoined.l0 kj42 l1 t776 t777 t785 t794 t802 t776 (t776.length : Int) (wrap64 (x99_3 + 1))) else (some false)) else (none)) else (none)))) else (laws_FnJoined.l0 kj42 l1 t776 t777 t785 t794 t802 t776 (t776.length : Int) (wrap64 (x99_3 + 1))))) = some r := by rw [if_neg (show ¬ (false = true) by decide)] at H; exact H
                                  clear H
                                  have H := H1
                                  clear H1
                                  replace H := Option.bind_eq_some_iff.mp H
                                  obtain ⟨⟨t811, t812⟩, A510, H⟩ := H
                                  replace H : (if t812 = true then (if t811 < 0 then (some false) else (if t811 ≥ (t802.length : Int) then (some false) else (if 0 ≤ t811 then (if t811 < (t802.length : Int) then (if (rdOf ByteArray.empty t802 t811).toList = (rdOf ByteArray.empty t776 x99_3).toList then (laws_FnJoined.l0 kj42 l1 t776 t777 t785 t794 t802 t776 (t776.length : Int) (wrap64 (x99_3 + 1))) else (some false)) else (none)) else (none)))) else (laws_FnJoined.l0 kj42 l1 t776 t777 t785 t794 t802 t776 (t776.length : Int) (wrap64 (x99_3 + 1)))) = some r := H
                                  have A51 := Aside0.mk A510
                                  clear A510
                                  by_cases c52 : t812 = true
                                  ·as_aux_lemma =>
                                     subst c52
                                     have H1 : (if t811 < 0 then (some false) else (if t811 ≥ (t802.length : Int) then (some false) else (if 0 ≤ t811 then (if t811 < (t802.length : Int) then (if (rdOf ByteArray.empty t802 t811).toList = (rdOf ByteArray.empty t776 x99_3).toList then (laws_FnJoined.l0 kj42 l1 t776 t777 t785 t794 t802 t776 (t776.length : Int) (wrap64 (x99_3 + 1))) else (some false)) else (none)) else (none)))) = some r := by rw [if_pos rfl] at H; exact H
                                     clear H
                                     have H := H1
                                     clear H1
                                     by_cases c53 : t811 < 0
                                     ·as_aux_lemma =>
                                        rw [if_pos c53] at H
                                        have c53b0 : decide (t811 < 0) = true := decide_eq_true c53
                                        clear c53
                                        first
                                        | exact absurd (show false = true from (Option.some.inj H).trans HR_.out) Bool.false_ne_true
                                        | obtain rfl := Option.some.inj H
                                          go_wp2_with (first | ((with_reducible refine gateC (f := 37) rfl ?_); refine goesL_ (some 136) rfl rfl Try.func37 (by kernel_rfl) rfl #[.slice Ao30 t785.length co30, .int .i64 (t776.length : Int), .int .i64 x99_3] rfl zm ?_; (with_reducible refine (impl_PlaceOf.calls kj42 _ _ t785 (t776.length : Int) x99_3 t811 true _ ?side1 ?side2 A51.out).mono ?_); (case side1 => repeat (first | exact (Kd.N_reads' HO_8.out).2.2 | (with_reducible refine Kd.C_alloc ?_ _) | (with_reducible refine Kd.C_drewN ?_ _) | (with_reducible refine Kd.C_drew ?_))); (case side2 => exact (Kd.N_reads' HO_8.out).2.1); rintro e w54 ⟨rfl, hb⟩; refine ⟨_, rfl, ?_⟩; have n0_ := Aside0.mk (Kd.R_below (zr HO_5.out) hb); have n1_ := Aside0.mk (Kd.N_below (by (with_reducible repeat (first | apply Kd.N_alloc | apply Kd.N_drewN | apply Kd.N_drew)); exact HO_6.out) hb); have n2_ := Aside0.mk (Kd.N_below (by (with_reducible repeat (first | apply Kd.N_alloc | apply Kd.N_drewN | apply Kd.N_drew)); exact HO_8.out) hb); have n3_ := Aside0.mk (Kd.R_below (zr HO_12.out) hb); have n4_ := Aside0.mk (Kd.R_below (zr HO_16.out) hb); have n5_ := Aside0.mk (Kd.R_below (zr HO_97.out) hb); have n6_ := Aside0.mk (below_step zb hb); clear HO_5; clear HO_6; clear HO_8; clear HO_12; clear HO_16; clear HO_97; clear HB; have HO_5 := n0_; have HO_6 := n1_; have HO_8 := n2_; have HO_12 := n3_; have HO_16 := n4_; have HO_97 := n5_; have HB := n6_; clear n0_ n1_ n2_ n3_ n4_ n5_ n6_; (try clear hb); (try clear hb2); (try clear hk); (try clear hi)))
                                          go_ret
                                          exact ⟨by first | rfl | (simp [errW_none, errW_some] <;> rfl) | (simp [*, errW_none, errW_some] <;> rfl), by repeat (first | (with_reducible first | exact HB.out | apply below_alloc | apply pw_below_drewN | apply below_drew1) | exact HB.out)⟩
                                     ·as_aux_lemma =>
                                        rw [if_neg c53] at H
                                        have c53b0 : decide (t811 < 0) = false := decide_eq_false c53
                                        clear c53
                                        by_cases c55 : t811 ≥ (t802.length : Int)
                                        ·as_aux_lemma =>
                                           rw [if_pos c55] at H
                                           have c55b0 : decide ((t802.length : Int) ≤ t811) = true := decide_eq_true c55
                                           clear c55
                                           first
                                           | exact absurd (show false = true from (Option.some.inj H).trans HR_.out) Bool.false_ne_true
                                           | obtain rfl := Option.some.inj H
                                             go_wp2_with (first | ((with_reducible refine gateC (f := 37) rfl ?_); refine goesL_ (some 136) rfl rfl Try.func37 (by kernel_rfl) rfl #[.slice Ao30 t785.length co30, .int .i64 (t776.length : Int), .int .i64 x99_3] rfl zm ?_; (with_reducible refine (impl_PlaceOf.calls kj42 _ _ t785 (t776.length : Int) x99_3 t811 true _ ?side1 ?side2 A51.out).mono ?_); (case side1 => repeat (first | exact (Kd.N_reads' HO_8.out).2.2 | (with_reducible refine Kd.C_alloc ?_ _) | (with_reducible refine Kd.C_drewN ?_ _) | (with_reducible refine Kd.C_drew ?_))); (case side2 => exact (Kd.N_reads' HO_8.out).2.1); rintro e w56 ⟨rfl, hb⟩; refine ⟨_, rfl, ?_⟩; have n0_ := Aside0.mk (Kd.R_below (zr HO_5.out) hb); have n1_ := Aside0.mk (Kd.N_below (by (with_reducible repeat (first | apply Kd.N_alloc | apply Kd.N_drewN | apply Kd.N_drew)); exact HO_6.out) hb); have n2_ := Aside0.mk (Kd.N_below (by (with_reducible repeat (first | apply Kd.N_alloc | apply Kd.N_drewN | apply Kd.N_drew)); exact HO_8.out) hb); have n3_ := Aside0.mk (Kd.R_below (zr HO_12.out) hb); have n4_ := Aside0.mk (Kd.R_below (zr HO_16.out) hb); have n5_ := Aside0.mk (Kd.R_below (zr HO_97.out) hb); have n6_ := Aside0.mk (below_step zb hb); clear HO_5; clear HO_6; clear HO_8; clear HO_12; clear HO_16; clear HO_97; clear HB; have HO_5 := n0_; have HO_6 := n1_; have HO_8 := n2_; have HO_12 := n3_; have HO_16 := n4_; have HO_97 := n5_; have HB := n6_; clear n0_ n1_ n2_ n3_ n4_ n5_ n6_; (try clear hb); (try clear hb2); (try clear hk); (try clear hi); obtain ⟨Ao57, co57, eo57⟩ := Kd.R_slice HO_16.out; subst eo57))
                                             go_ret
                                             exact ⟨by first | rfl | (simp [errW_none, errW_some] <;> rfl) | (simp [*, errW_none, errW_some] <;> rfl), by repeat (first | (with_reducible first | exact HB.out | apply below_alloc | apply pw_below_drewN | apply below_drew1) | exact HB.out)⟩
                                        ·as_aux_lemma =>
                                           rw [if_neg c55] at H
                                           have c55b0 : decide ((t802.length : Int) ≤ t811) = false := decide_eq_false c55
                                           clear c55
                                           by_cases c58 : 0 ≤ t811
                                           ·as_aux_lemma =>
                                              rw [if_pos c58] at H
                                              have c58b0 : decide (0 ≤ t811) = true := decide_eq_true c58
                                              clear c58
                                              by_cases c59 : t811 < (t802.length : Int)
                                              ·as_aux_lemma =>
                                                 rw [if_pos c59] at H
                                                 have c59b0 : decide (t811 < (t802.length : Int)) = true := decide_eq_true c59
                                                 clear c59
                                                 by_cases c60 : (rdOf ByteArray.empty t802 t811).toList = (rdOf ByteArray.empty t776 x99_3).toList
                                                 ·as_aux_lemma =>
                                                    rw [if_pos c60] at H
                                                    have c60b0 : ((rdOf ByteArray.empty t802 t811).toList == (rdOf ByteArray.empty t776 x99_3).toList) = true := beq_iff_eq.mpr c60
                                                    have c60b1 : ((rdOf ByteArray.empty t802 t811).toList != (rdOf ByteArray.empty t776 x99_3).toList) = false := bne_eq_false_iff_eq.mpr c60
                                                    clear c60
                                                    have H' := Aside0.mk H
                                                    clear H
                                                    go_wp2_with (first | ((with_reducible refine gateC (f := 37) rfl ?_); refine goesL_ (some 136) rfl rfl Try.func37 (by kernel_rfl) rfl #[.slice Ao30 t785.length co30, .int .i64 (t776.length : Int), .int .i64 x99_3] rfl zm ?_; (with_reducible refine (impl_PlaceOf.calls kj42 _ _ t785 (t776.length : Int) x99_3 t811 true _ ?side1 ?side2 A51.out).mono ?_); (case side1 => repeat (first | exact (Kd.N_reads' HO_8.out).2.2 | (with_reducible refine Kd.C_alloc ?_ _) | (with_reducible refine Kd.C_drewN ?_ _) | (with_reducible refine Kd.C_drew ?_))); (case side2 => exact (Kd.N_reads' HO_8.out).2.1); rintro e w61 ⟨rfl, hb⟩; refine ⟨_, rfl, ?_⟩; have n0_ := Aside0.mk (Kd.R_below (zr HO_5.out) hb); have n1_ := Aside0.mk (Kd.N_below (by (with_reducible repeat (first | apply Kd.N_alloc | apply Kd.N_drewN | apply Kd.N_drew)); exact HO_6.out) hb); have n2_ := Aside0.mk (Kd.N_below (by (with_reducible repeat (first | apply Kd.N_alloc | apply Kd.N_drewN | apply Kd.N_drew)); exact HO_8.out) hb); have n3_ := Aside0.mk (Kd.R_below (zr HO_12.out) hb); have n4_ := Aside0.mk (Kd.R_below (zr HO_16.out) hb); have n5_ := Aside0.mk (Kd.R_below (zr HO_97.out) hb); have n6_ := Aside0.mk (below_step zb hb); clear HO_5; clear HO_6; clear HO_8; clear HO_12; clear HO_16; clear HO_97; clear HB; have HO_5 := n0_; have HO_6 := n1_; have HO_8 := n2_; have HO_12 := n3_; have HO_16 := n4_; have HO_97 := n5_; have HB := n6_; clear n0_ n1_ n2_ n3_ n4_ n5_ n6_; (try clear hb); (try clear hb2); (try clear hk); (try clear hi); obtain ⟨Ao62, co62, eo62⟩ := Kd.R_slice HO_16.out; subst eo62; have p813 : 0 ≤ (t811 : Int) := oa; have q813 : t811 < (t802.length : Int) := oa; obtain ⟨ad813, e813, hx813_0⟩ := Kd.at_string (Kd.R_reads' HO_16.out).2.2 t811 p813 q813; cases e813; replace p813 := eq_true p813; replace q813 := eq_true q813))
                                                    go_roundg kj42
                                                    case measure => have := HJ7.out; have := HJ25.out; have := HK3.out; have := HJ42.out; omega
                                                    case rel => exact ⟨(wrap64 (x99_3 + 1)), zf, H', ⟨by have := HJ7.out; have := HJ25.out; have := HK3.out; have := HJ42.out; omega⟩, ⟨by (with_reducible repeat (first | apply Kd.R_alloc | apply Kd.R_drewN | apply Kd.R_drew)); exact HO_5.out⟩, ⟨by (with_reducible repeat (first | apply Kd.N_alloc | apply Kd.N_drewN | apply Kd.N_drew)); exact HO_6.out⟩, ⟨by (with_reducible repeat (first | apply Kd.N_alloc | apply Kd.N_drewN | apply Kd.N_drew)); exact HO_8.out⟩, ⟨by (with_reducible repeat (first | apply Kd.R_alloc | apply Kd.R_drewN | apply Kd.R_drew)); exact HO_12.out⟩, ⟨by (with_reducible repeat (first | apply Kd.R_alloc | apply Kd.R_drewN | apply Kd.R_drew)); exact HO_16.out⟩, ⟨by (with_reducible repeat (first | apply Kd.R_alloc | apply Kd.R_drewN | apply Kd.R_drew)); exact HO_97.out⟩, ⟨by repeat (first | (with_reducible first | exact HB.out | apply below_alloc | apply pw_below_drewN | apply below_drew1) | exact HB.out)⟩⟩
                                                 ·as_aux_lemma =>
                                                    rw [if_neg c60] at H
                                                    have c60b0 : ((rdOf ByteArray.empty t802 t811).toList == (rdOf ByteArray.empty t776 x99_3).toList) = false := beq_eq_false_iff_ne.mpr c60
                                                    have c60b1 : ((rdOf ByteArray.empty t802 t811).toList != (rdOf ByteArray.empty t776 x99_3).toList) = true := bne_iff_ne.mpr c60
                                                    first
                                                    | exact absurd (show false = true from (Option.some.inj H).trans HR_.out) Bool.false_ne_true
                                                    | obtain rfl := Option.some.inj H
                                                      go_wp2_with (first | ((with_reducible refine gateC (f := 37) rfl ?_); refine goesL_ (some 136) rfl rfl Try.func37 (by kernel_rfl) rfl #[.slice Ao30 t785.length co30, .int .i64 (t776.length : Int), .int .i64 x99_3] rfl zm ?_; (with_reducible refine (impl_PlaceOf.calls kj42 _ _ t785 (t776.length : Int) x99_3 t811 true _ ?side1 ?side2 A51.out).mono ?_); (case side1 => repeat (first | exact (Kd.N_reads' HO_8.out).2.2 | (with_reducible refine Kd.C_alloc ?_ _) | (with_reducible refine Kd.C_drewN ?_ _) | (with_reducible refine Kd.C_drew ?_))); (case side2 => exact (Kd.N_reads' HO_8.out).2.1); rintro e w63 ⟨rfl, hb⟩; refine ⟨_, rfl, ?_⟩; have n0_ := Aside0.mk (Kd.R_below (zr HO_5.out) hb); have n1_ := Aside0.mk (Kd.N_below (by (with_reducible repeat (first | apply Kd.N_alloc | apply Kd.N_drewN | apply Kd.N_drew)); exact HO_6.out) hb); have n2_ := Aside0.mk (Kd.N_below (by (with_reducible repeat (first | apply Kd.N_alloc | apply Kd.N_drewN | apply Kd.N_drew)); exact HO_8.out) hb); have n3_ := Aside0.mk (Kd.R_below (zr HO_12.out) hb); have n4_ := Aside0.mk (Kd.R_below (zr HO_16.out) hb); have n5_ := Aside0.mk (Kd.R_below (zr HO_97.out) hb); have n6_ := Aside0.mk (below_step zb hb); clear HO_5; clear HO_6; clear HO_8; clear HO_12; clear HO_16; clear HO_97; clear HB; have HO_5 := n0_; have HO_6 := n1_; have HO_8 := n2_; have HO_12 := n3_; have HO_16 := n4_; have HO_97 := n5_; have HB := n6_; clear n0_ n1_ n2_ n3_ n4_ n5_ n6_; (try clear hb); (try clear hb2); (try clear hk); (try clear hi); obtain ⟨Ao64, co64, eo64⟩ := Kd.R_slice HO_16.out; subst eo64; have p813 : 0 ≤ (t811 : Int) := oa; have q813 : t811 < (t802.length : Int) := oa; obtain ⟨ad813, e813, hx813_0⟩ := Kd.at_string (Kd.R_reads' HO_16.out).2.2 t811 p813 q813; cases e813; replace p813 := eq_true p813; replace q813 := eq_true q813))
                                                      go_ret
                                                      exact ⟨by first | rfl | (simp [errW_none, errW_some] <;> rfl) | (simp [*, errW_none, errW_some] <;> rfl), by repeat (first | (with_reducible first | exact HB.out | apply below_alloc | apply pw_below_drewN | apply below_drew1) | exact HB.out)⟩
                                              ·rw [if_neg c59] at H
                                               exact absurd H (by simp)
                                           ·rw [if_neg c58] at H
                                            exact absurd H (by simp)
                                  ·as_aux_lemma =>
                                     replace c52 := Bool.eq_false_iff.mpr c52
                                     subst c52
                                     have H1 : (laws_FnJoined.l0 kj42 l1 t776 t777 t785 t794 t802 t776 (t776.length : Int) (wrap64 (x99_3 + 1))) = some r := by rw [if_neg (show ¬ (false = true) by decide)] at H; exact H
                                     clear H
                                     have H := H1
                                     clear H1
                                     have H' := Aside0.mk H
                                     clear H
                                     go_wp2_with (first | ((with_reducible refine gateC (f := 37) rfl ?_); refine goesL_ (some 136) rfl rfl Try.func37 (by kernel_rfl) rfl #[.slice Ao30 t785.length co30, .int .i64 (t776.length : Int), .int .i64 x99_3] rfl zm ?_; (with_reducible refine (impl_PlaceOf.calls kj42 _ _ t785 (t776.length : Int) x99_3 t811 false _ ?side1 ?side2 A51.out).mono ?_); (case side1 => repeat (first | exact (Kd.N_reads' HO_8.out).2.2 | (with_reducible refine Kd.C_alloc ?_ _) | (with_reducible refine Kd.C_drewN ?_ _) | (with_reducible refine Kd.C_drew ?_))); (case side2 => exact (Kd.N_reads' HO_8.out).2.1); rintro e w65 ⟨rfl, hb⟩; refine ⟨_, rfl, ?_⟩; have n0_ := Aside0.mk (Kd.R_below (zr HO_5.out) hb); have n1_ := Aside0.mk (Kd.N_below (by (with_reducible repeat (first | apply Kd.N_alloc | apply Kd.N_drewN | apply Kd.N_drew)); exact HO_6.out) hb); have n2_ := Aside0.mk (Kd.N_below (by (with_reducible repeat (first | apply Kd.N_alloc | apply Kd.N_drewN | apply Kd.N_drew)); exact HO_8.out) hb); have n3_ := Aside0.mk (Kd.R_below (zr HO_12.out) hb); have n4_ := Aside0.mk (Kd.R_below (zr HO_16.out) hb); have n5_ := Aside0.mk (Kd.R_below (zr HO_97.out) hb); have n6_ := Aside0.mk (below_step zb hb); clear HO_5; clear HO_6; clear HO_8; clear HO_12; clear HO_16; clear HO_97; clear HB; have HO_5 := n0_; have HO_6 := n1_; have HO_8 := n2_; have HO_12 := n3_; have HO_16 := n4_; have HO_97 := n5_; have HB := n6_; clear n0_ n1_ n2_ n3_ n4_ n5_ n6_; (try clear hb); (try clear hb2); (try clear hk); (try clear hi)))
                                     go_roundg kj42
                                     case measure => have := HJ7.out; have := HJ25.out; have := HK3.out; have := HJ42.out; omega
                                     case rel => exact ⟨(wrap64 (x99_3 + 1)), zf, H', ⟨by have := HJ7.out; have := HJ25.out; have := HK3.out; have := HJ42.out; omega⟩, ⟨by (with_reducible repeat (first | apply Kd.R_alloc | apply Kd.R_drewN | apply Kd.R_drew)); exact HO_5.out⟩, ⟨by (with_reducible repeat (first | apply Kd.N_alloc | apply Kd.N_drewN | apply Kd.N_drew)); exact HO_6.out⟩, ⟨by (with_reducible repeat (first | apply Kd.N_alloc | apply Kd.N_drewN | apply Kd.N_drew)); exact HO_8.out⟩, ⟨by (with_reducible repeat (first | apply Kd.R_alloc | apply Kd.R_drewN | apply Kd.R_drew)); exact HO_12.out⟩, ⟨by (with_reducible repeat (first | apply Kd.R_alloc | apply Kd.R_drewN | apply Kd.R_drew)); exact HO_16.out⟩, ⟨by (with_reducible repeat (first | apply Kd.R_alloc | apply Kd.R_drewN | apply Kd.R_drew)); exact HO_97.out⟩, ⟨by repeat (first | (with_reducible first | exact HB.out | apply below_alloc | apply pw_below_drewN | apply below_drew1) | exact HB.out)⟩⟩
                          ·rw [if_neg c41] at H
                           exact absurd H (by simp)
                       ·rw [if_neg c40] at H
                        exact absurd H (by simp)
                    ·as_aux_lemma =>
                       rw [if_neg c39] at H
                       have c39b0 : decide (x99_3 < (t776.length : Int)) = false := decide_eq_false c39
                       clear c39
                       have H' := Aside0.mk H
                       clear H
                       go_wp2
                       go_meet
                       case rel => exact ⟨_, H', ⟨by have := HJ7.out; have := HJ25.out; have := HK3.out; first | omega | exact Nat.le_refl _⟩, ⟨by repeat (first | (with_reducible first | exact HB.out | apply below_alloc | apply pw_below_drewN | apply below_drew1) | exact HB.out)⟩⟩
          ·as_aux_lemma =>
             replace c22 := Bool.eq_false_iff.mpr c22
             subst c22
             have H1 : (laws_FnJoined.j4 kj7 l1) = some r := by rw [if_neg (show ¬ (false = true) by decide)] at H; exact H
             clear H
             have H := H1
             clear H1
             have H' := Aside0.mk H
             clear H
             go_wp2
             go_meet
             case rel => exact ⟨_, H', ⟨by have := HJ7.out; first | omega | exact Nat.le_refl _⟩, ⟨by repeat (first | (with_reducible first | exact HB.out | apply below_alloc | apply pw_below_drewN | apply below_drew1) | exact HB.out)⟩⟩
         case rest =>
          clear HC21
          try clear c1
          try clear c2
          try clear p2
          try clear c3
          try clear c4
          try clear c5
          try clear c6
          try clear p6
          try clear p8
          try clear q8
          try clear hx8
          try clear c15
          try clear c15b0
          try clear c15b1
          try clear c15b2
          try clear c20
          try clear c22
          try clear c25
          try clear c27
          try clear c32
          try clear c33
          try clear c34
          try clear c35
          try clear c37
          try clear c38
          try clear c39
          try clear c39b0
          try clear c40
          try clear c40b0
          try clear c41
          try clear c41b0
          try clear c45
          try clear c46
          try clear c46b0
          try clear c47
          try clear c47b0
          try clear c48
          try clear c48b0
          try clear c49
          try clear c49b0
          try clear c50
          try clear c52
          try clear c53
          try clear c53b0
          try clear c55
          try clear c55b0
          try clear c58
          try clear c58b0
          try clear c59
          try clear c59b0
          try clear c60
          try clear c60b0
          try clear c60b1
          try clear p64
          try clear hx807_0
          try clear hx810_0
          try clear hx813_0
          try clear p2
          try clear p8
          try clear p807
          try clear p810
          try clear p813
          try clear q8
          try clear q807
          try clear q810
          try clear q813
          obtain ⟨kq, HA, HJ20, HB⟩ := hcut
          cases kq with
          | zero => exact absurd HA.out (by simp [laws_FnJoined.j4])
          | succ kj20 =>
           have H := HA.out
           clear HA
           simp only [laws_FnJoined.j4] at H
           replace H := Option.bind_eq_some_iff.mp H
           obtain ⟨⟨t814, t815⟩, A660, H⟩ := H
           replace H : ((impl_Patch.f kj20 t814 t815).bind fun bt820 => ((spec_Patch.f kj20 t814 t815).bind fun bt824 => (if (bt820.2 == bt824.2) = true then ((laws_sameTexts.f kj20 bt820.1 bt824.1).bind fun t828 => (some t828)) else (some false)))) = some r := H
           have A66 := Aside0.mk A660
           clear A660
           replace H := Option.bind_eq_some_iff.mp H
           obtain ⟨⟨t820, t821⟩, A670, H⟩ := H
           replace H : ((spec_Patch.f kj20 t814 t815).bind fun bt824 => (if (t821 == bt824.2) = true then ((laws_sameTexts.f kj20 t820 bt824.1).bind fun t828 => (some t828)) else (some false))) = some r := H
           have A67 := Aside0.mk A670
           clear A670
           replace H := Option.bind_eq_some_iff.mp H
           obtain ⟨⟨t824, t825⟩, A680, H⟩ := H
           replace H : (if (t821 == t825) = true then ((laws_sameTexts.f kj20 t820 t824).bind fun t828 => (some t828)) else (some false)) = some r := H
           have A68 := Aside0.mk A680
           clear A680
           by_cases c69 : (t821 == t825) = true
           ·as_aux_lemma =>
              rw [if_pos c69] at H
              have c69b0 : (t821 == t825) = true := c69
              (try (have c69b1 : decide (t821 = t825) = true := by simpa using c69))
              (try (have c69b2 : (t821 == t825) = true := by simpa using c69))
              clear c69
              replace H := Option.bind_eq_some_iff.mp H
              obtain ⟨t828, A700, H⟩ := H
              replace H : (some t828) = some r := H
              have A70 := Aside0.mk A700
              clear A700
              first
              | exact absurd (show false = true from (Option.some.inj H).trans HR_.out) Bool.false_ne_true
              | obtain rfl := Option.some.inj H
                go_wp2_with (first | ((with_reducible refine gateC (f := 38) rfl ?_); refine goesL_ (some 161) rfl rfl Try.func38 (by kernel_rfl) rfl #[.slice A1 l1.length c1] rfl zm ?_; (with_reducible refine (spec_DrawPatch.calls kj20 _ _ l1 t814 t815 _ ?side1 ?side2 A66.out).mono ?_); (case side1 => exact zq (Kd.C_below HR1.out HB.out)); (case side2 => exact HC1.out); rintro e w71 ⟨v816, v818, rfl, ho0, ho1, hb⟩; refine ⟨_, rfl, ?_⟩; have n0_ := Aside0.mk (Kd.R_lower ho0 (below_size zb)); have n1_ := Aside0.mk (Kd.N_lower (Kd.N_mono (ok' := fun k_ => some k_ ≠ (v816 : Value).ownBlock) (Kd.S_N (Kd.S_bound ho1)) (fun k_ hk_ => hk_.1)) (below_size zb)); have n2_ := Aside0.mk (below_step zb hb); clear HB; have HO817 := n0_; have HO819 := n1_; have HB := n2_; clear n0_ n1_ n2_; (try clear hb); (try clear hb2); (try clear hk); (try clear hi); (try clear ho0); (try clear ho1); obtain ⟨Ao72, co72, eo72⟩ := Kd.R_slice HO817.out; subst eo72; obtain ⟨Ao73, co73, eo73⟩ := Kd.N_slice HO819.out; subst eo73) | ((with_reducible refine gateC (f := 35) rfl ?_); refine goesL_ (some 167) rfl rfl Try.func35 (by kernel_rfl) rfl #[.slice Ao72 t814.length co72, .slice Ao73 t815.length co73] rfl zm ?_; (with_reducible refine (impl_Patch.calls kj20 _ _ t814 _ _ t815 t820 t821 _ ?side1 ?side2 ?side3 ?side4 A67.out).mono ?_); (case side1 => repeat (first | exact (Kd.R_reads' HO817.out).2.2 | (with_reducible refine Kd.C_alloc ?_ _) | (with_reducible refine Kd.C_drewN ?_ _) | (with_reducible refine Kd.C_drew ?_))); (case side2 => exact (Kd.R_reads' HO817.out).2.1); (case side3 => repeat (first | exact (Kd.N_reads' HO819.out).2.2 | (with_reducible refine Kd.C_alloc ?_ _) | (with_reducible refine Kd.C_drewN ?_ _) | (with_reducible refine Kd.C_drew ?_))); (case side4 => exact (Kd.N_reads' HO819.out).2.1); rintro e w74 ⟨v822, rfl, ho0, hb⟩; refine ⟨_, rfl, ?_⟩; have n0_ := Aside0.mk (Kd.R_elder' (zr HO817.out) (Kd.R_base ho0) hb); have n1_ := Aside0.mk (Kd.N_elder' (by (with_reducible repeat (first | apply Kd.N_alloc | apply Kd.N_drewN | apply Kd.N_drew)); exact HO819.out) (Kd.R_base ho0) hb); have n2_ := Aside0.mk (Kd.R_lower (Kd.R_new' ho0 (Kd.R_lt (zr HO817.out))) (below_size zb)); have n3_ := Aside0.mk (below_step zb hb); clear HO817; clear HO819; clear HB; have HO817 := n0_; have HO819 := n1_; have HO823 := n2_; have HB := n3_; clear n0_ n1_ n2_ n3_; (try clear hb); (try clear hb2); (try clear hk); (try clear hi); (try clear ho0)) | ((with_reducible refine gateC (f := 39) rfl ?_); refine goesL_ (some 173) rfl rfl Try.func39 (by kernel_rfl) rfl #[.slice Ao72 t814.length co72, .slice Ao73 t815.length co73] rfl zm ?_; (with_reducible refine (spec_Patch.calls kj20 _ _ t814 _ _ t815 t824 t825 _ ?side1 ?side2 ?side3 ?side4 A68.out).mono ?_); (case side1 => repeat (first | exact (Kd.R_reads' HO817.out).2.2 | (with_reducible refine Kd.C_alloc ?_ _) | (with_reducible refine Kd.C_drewN ?_ _) | (with_reducible refine Kd.C_drew ?_))); (case side2 => exact (Kd.R_reads' HO817.out).2.1); (case side3 => repeat (first | exact (Kd.N_reads' HO819.out).2.2 | (with_reducible refine Kd.C_alloc ?_ _) | (with_reducible refine Kd.C_drewN ?_ _) | (with_reducible refine Kd.C_drew ?_))); (case side4 => exact (Kd.N_reads' HO819.out).2.1); rintro e w75 ⟨v826, rfl, ho0, hb⟩; refine ⟨_, rfl, ?_⟩; have n0_ := Aside0.mk (Kd.R_elder' (zr HO817.out) (Kd.R_base ho0) hb); have n1_ := Aside0.mk (Kd.N_elder' (by (with_reducible repeat (first | apply Kd.N_alloc | apply Kd.N_drewN | apply Kd.N_drew)); exact HO819.out) (Kd.R_base ho0) hb); have n2_ := Aside0.mk (Kd.R_elder' (zr HO823.out) (Kd.R_base ho0) hb); have n3_ := Aside0.mk (Kd.R_lower (Kd.R_new' (Kd.R_new' ho0 (Kd.R_lt (zr HO817.out))) (Kd.R_lt (zr HO823.out))) (below_size zb)); have n4_ := Aside0.mk (below_step zb hb); clear HO817; clear HO819; clear HO823; clear HB; have HO817 := n0_; have HO819 := n1_; have HO823 := n2_; have HO827 := n3_; have HB := n4_; clear n0_ n1_ n2_ n3_ n4_; (try clear hb); (try clear hb2); (try clear hk); (try clear hi); (try clear ho0); obtain ⟨Ao76, co76, eo76⟩ := Kd.R_slice HO823.out; subst eo76; obtain ⟨Ao77, co77, eo77⟩ := Kd.R_slice HO827.out; subst eo77) | (go_at_call 36; (with_reducible refine (laws_sameTexts.calls kj20 _ _ t820 _ _ t824 t828 _ ?side1 ?side2 ?side3 ?side4 A70.out).mono ?_); (case side1 => repeat (first | exact (Kd.R_reads' HO823.out).2.2 | (with_reducible refine Kd.C_alloc ?_ _) | (with_reducible refine Kd.C_drewN ?_ _) | (with_reducible refine Kd.C_drew ?_))); (case side2 => exact (Kd.R_reads' HO823.out).2.1); (case side3 => repeat (first | exact (Kd.R_reads' HO827.out).2.2 | (with_reducible refine Kd.C_alloc ?_ _) | (with_reducible refine Kd.C_drewN ?_ _) | (with_reducible refine Kd.C_drew ?_))); (case side4 => exact (Kd.R_reads' HO827.out).2.1); rintro e w' ⟨rfl, ⟨nd, rfl⟩⟩))
                go_ret
                exact ⟨by first | rfl | (simp [errW_none, errW_some] <;> rfl) | (simp [*, errW_none, errW_some] <;> rfl), by repeat (first | (with_reducible first | exact HB.out | apply below_alloc | apply pw_below_drewN | apply below_drew1) | exact HB.out)⟩
           ·as_aux_lemma =>
              rw [if_neg c69] at H
              have c69b0 : (t821 == t825) = false := by simpa using c69
              (try (have c69b1 : decide (t821 = t825) = false := by simpa using c69))
              (try (have c69b2 : (t821 == t825) = false := by simpa using c69))
              (try (have c69b3 : ¬ (t821 = t825) := by simpa using c69))
              clear c69
              first
              | exact absurd (show false = true from (Option.some.inj H).trans HR_.out) Bool.false_ne_true
              | obtain rfl := Option.some.inj H
                go_wp2_with (first | ((with_reducible refine gateC (f := 38) rfl ?_); refine goesL_ (some 161) rfl rfl Try.func38 (by kernel_rfl) rfl #[.slice A1 l1.length c1] rfl zm ?_; (with_reducible refine (spec_DrawPatch.calls kj20 _ _ l1 t814 t815 _ ?side1 ?side2 A66.out).mono ?_); (case side1 => exact zq (Kd.C_below HR1.out HB.out)); (case side2 => exact HC1.out); rintro e w78 ⟨v816, v818, rfl, ho0, ho1, hb⟩; refine ⟨_, rfl, ?_⟩; have n0_ := Aside0.mk (Kd.R_lower ho0 (below_size zb)); have n1_ := Aside0.mk (Kd.N_lower (Kd.N_mono (ok' := fun k_ => some k_ ≠ (v816 : Value).ownBlock) (Kd.S_N (Kd.S_bound ho1)) (fun k_ hk_ => hk_.1)) (below_size zb)); have n2_ := Aside0.mk (below_step zb hb); clear HB; have HO817 := n0_; have HO819 := n1_; have HB := n2_; clear n0_ n1_ n2_; (try clear hb); (try clear hb2); (try clear hk); (try clear hi); (try clear ho0); (try clear ho1); obtain ⟨Ao79, co79, eo79⟩ := Kd.R_slice HO817.out; subst eo79; obtain ⟨Ao80, co80, eo80⟩ := Kd.N_slice HO819.out; subst eo80) | ((with_reducible refine gateC (f := 35) rfl ?_); refine goesL_ (some 167) rfl rfl Try.func35 (by kernel_rfl) rfl #[.slice Ao79 t814.length co79, .slice Ao80 t815.length co80] rfl zm ?_; (with_reducible refine (impl_Patch.calls kj20 _ _ t814 _ _ t815 t820 t821 _ ?side1 ?side2 ?side3 ?side4 A67.out).mono ?_); (case side1 => repeat (first | exact (Kd.R_reads' HO817.out).2.2 | (with_reducible refine Kd.C_alloc ?_ _) | (with_reducible refine Kd.C_drewN ?_ _) | (with_reducible refine Kd.C_drew ?_))); (case side2 => exact (Kd.R_reads' HO817.out).2.1); (case side3 => repeat (first | exact (Kd.N_reads' HO819.out).2.2 | (with_reducible refine Kd.C_alloc ?_ _) | (with_reducible refine Kd.C_drewN ?_ _) | (with_reducible refine Kd.C_drew ?_))); (case side4 => exact (Kd.N_reads' HO819.out).2.1); rintro e w81 ⟨v822, rfl, ho0, hb⟩; refine ⟨_, rfl, ?_⟩; have n0_ := Aside0.mk (Kd.R_elder' (zr HO817.out) (Kd.R_base ho0) hb); have n1_ := Aside0.mk (Kd.N_elder' (by (with_reducible repeat (first | apply Kd.N_alloc | apply Kd.N_drewN | apply Kd.N_drew)); exact HO819.out) (Kd.R_base ho0) hb); have n2_ := Aside0.mk (Kd.R_lower (Kd.R_new' ho0 (Kd.R_lt (zr HO817.out))) (below_size zb)); have n3_ := Aside0.mk (below_step zb hb); clear HO817; clear HO819; clear HB; have HO817 := n0_; have HO819 := n1_; have HO823 := n2_; have HB := n3_; clear n0_ n1_ n2_ n3_; (try clear hb); (try clear hb2); (try clear hk); (try clear hi); (try clear ho0)) | ((with_reducible refine gateC (f := 39) rfl ?_); refine goesL_ (some 173) rfl rfl Try.func39 (by kernel_rfl) rfl #[.slice Ao79 t814.length co79, .slice Ao80 t815.length co80] rfl zm ?_; (with_reducible refine (spec_Patch.calls kj20 _ _ t814 _ _ t815 t824 t825 _ ?side1 ?side2 ?side3 ?side4 A68.out).mono ?_); (case side1 => repeat (first | exact (Kd.R_reads' HO817.out).2.2 | (with_reducible refine Kd.C_alloc ?_ _) | (with_reducible refine Kd.C_drewN ?_ _) | (with_reducible refine Kd.C_drew ?_))); (case side2 => exact (Kd.R_reads' HO817.out).2.1); (case side3 => repeat (first | exact (Kd.N_reads' HO819.out).2.2 | (with_reducible refine Kd.C_alloc ?_ _) | (with_reducible refine Kd.C_drewN ?_ _) | (with_reducible refine Kd.C_drew ?_))); (case side4 => exact (Kd.N_reads' HO819.out).2.1); rintro e w82 ⟨v826, rfl, ho0, hb⟩; refine ⟨_, rfl, ?_⟩; have n0_ := Aside0.mk (Kd.R_elder' (zr HO817.out) (Kd.R_base ho0) hb); have n1_ := Aside0.mk (Kd.N_elder' (by (with_reducible repeat (first | apply Kd.N_alloc | apply Kd.N_drewN | apply Kd.N_drew)); exact HO819.out) (Kd.R_base ho0) hb); have n2_ := Aside0.mk (Kd.R_elder' (zr HO823.out) (Kd.R_base ho0) hb); have n3_ := Aside0.mk (Kd.R_lower (Kd.R_new' (Kd.R_new' ho0 (Kd.R_lt (zr HO817.out))) (Kd.R_lt (zr HO823.out))) (below_size zb)); have n4_ := Aside0.mk (below_step zb hb); clear HO817; clear HO819; clear HO823; clear HB; have HO817 := n0_; have HO819 := n1_; have HO823 := n2_; have HO827 := n3_; have HB := n4_; clear n0_ n1_ n2_ n3_ n4_; (try clear hb); (try clear hb2); (try clear hk); (try clear hi); (try clear ho0)))
                go_ret
                exact ⟨by first | rfl | (simp [errW_none, errW_some] <;> rfl) | (simp [*, errW_none, errW_some] <;> rfl), by repeat (first | (with_reducible first | exact HB.out | apply below_alloc | apply pw_below_drewN | apply below_drew1) | exact HB.out)⟩

end Go.Proofs.Ytcefenlblnediaa.My

/- Written by this session's program (wip/gen): the law's pure statement. -/
namespace Go.Proofs.Ytcefenlblnediaa.My
open Go.RowKit Go.Proofs.YtcefenlblnediaaW.PrintWords Go.Proofs.YtcefenlblnediaaW.PrintLast Go.Proofs.YtcefenlblnediaaW.PrintMore
attribute [local go_sem] max2_int min2_int max_two min_two max_three min_three max_four min_four
set_option linter.unusedVariables false
set_option linter.unusedSimpArgs false

/-- What is left to prove of laws_FnJoined. -/
def laws_FnJoined.Pure : Prop := ∀ (l0 : List Int) (l1 : List Int), (WL Wu8) l0 → (WL Wu8) l1 → ∃ k, laws_FnJoined.f k l0 l1 = some true
end Go.Proofs.Ytcefenlblnediaa.My

/- Plain Lean: the reader of choices: what it hands out is small. Asked: a reader that stands below 2^61. -/
namespace Go.Proofs.Ytcefenlblnediaa.Pl
open Go.RowKit Go.Proofs.YtcefenlblnediaaW.PrintWords Go.Proofs.YtcefenlblnediaaW.PrintLast Go.Proofs.Ytcefenlblnediaa.My
set_option linter.unusedVariables false
set_option linter.unusedSimpArgs false

/-- Bytes. -/
def Bytes8 (c : List Int) : Prop := (c.length : Int) ≤ 9223372036854775807 ∧ ∀ x ∈ c, 0 ≤ x ∧ x ≤ 255
theorem u64_wrap_nat (x : Int) : ∃ n : Nat, IntKind.u64.wrap x = (n : Int) ∧ n < 18446744073709551616 := by
  have h : IntKind.u64.wrap x = x % 18446744073709551616 := rfl
  exact ⟨(IntKind.u64.wrap x).toNat, by rw [h]; omega, by rw [h]; omega⟩
theorem low_byte (x : Int) : 0 ≤ wrap64 (Go.bits .and .u64 (IntKind.u64.wrap x / 1099511627776) 255) ∧ wrap64 (Go.bits .and .u64 (IntKind.u64.wrap x / 1099511627776) 255) ≤ 255 := by
  obtain ⟨n, e, hn⟩ := u64_wrap_nat x
  have e2 : IntKind.u64.wrap x / 1099511627776 = ((n / 1099511627776 : Nat) : Int) := by rw [e]; omega
  rw [e2, show (255 : Int) = ((255 : Nat) : Int) from rfl, bits_and_u64_nat _ _ (by omega) (by decide)]
  have h3 : n / 1099511627776 &&& 255 = n / 1099511627776 % 256 := Nat.and_two_pow_sub_one_eq_mod (n := 8) _
  rw [h3, wrap64_id (by omega) (by omega)]
  omega
/-- Where the reader stands. -/
def At (B a : Int) : Prop := 0 ≤ a ∧ a ≤ B
theorem next_some (c : List Int) (hc : Bytes8 c) (a s : Int) (ha : At 2305843009213693952 a) : ∃ b s2, spec_l1Cur_next.f c a s = some (b, a + 1, s2) ∧ 0 ≤ b ∧ b ≤ 255 := by
  obtain ⟨h0, h1⟩ := ha
  unfold spec_l1Cur_next.f
  have e1 : wrap64 (a + 1) = a + 1 := wrap64_id (by omega) (by omega)
  rw [e1]
  by_cases h : a < (c.length : Int)
  · rw [if_pos h, if_pos h0, if_pos (by omega)]
    have hm : rd c a ∈ c := by
      have e2 : rd c a = c[a.toNat]'(by omega) := by
        have := getD_lt c 0 a.toNat (by omega)
        exact this
      rw [e2]
      exact List.getElem_mem _
    have hb := hc.2 _ hm
    rw [wrap64_id (x := rd c a) (by omega) (by omega)]
    exact ⟨_, _, rfl, hb.1, hb.2⟩
  · rw [if_neg h]
    by_cases h2 : a + 1 ≤ (c.length : Int)
    · rw [if_pos h2]
      exact ⟨_, _, rfl, by decide, by decide⟩
    · rw [if_neg h2]
      have := low_byte ((IntKind.u64.wrap ((IntKind.u64.wrap (s * 6364136223846793005)) + 0)) + 1442695040888963407)
      exact ⟨_, _, rfl, this.1, this.2⟩
theorem tmod_range (x n : Int) (hx : 0 ≤ x) (hn : 0 < n) : 0 ≤ Int.tmod x n ∧ Int.tmod x n < n := by
  rw [Int.tmod_eq_emod_of_nonneg hx]
  exact ⟨Int.emod_nonneg _ (by omega), Int.emod_lt_of_pos _ hn⟩
/-- A number below n (0 where n is none). -/
theorem pick_some (c : List Int) (hc : Bytes8 c) (a s n : Int) (ha : At 2305843009213693951 a) : ∃ v a2 s2, spec_l1Cur_pick.f c a s n = some (v, a2, s2) ∧ 0 ≤ v ∧ (v = 0 ∨ v < n) ∧ v ≤ 65535 ∧ a ≤ a2 ∧ a2 ≤ a + 2 := by
  obtain ⟨h0, h1⟩ := ha
  unfold spec_l1Cur_pick.f
  by_cases h : n ≤ 1
  · rw [if_pos h]
    exact ⟨0, a, s, rfl, by omega, .inl rfl, by omega, by omega, by omega⟩
  · rw [if_neg h]
    obtain ⟨b, s2, e, hb0, hb1⟩ := next_some c hc a s ⟨h0, by omega⟩
    rw [e]
    simp only [Option.bind_some]
    by_cases h2 : n > 200
    · obtain ⟨b2, s3, e2, hc0, hc1⟩ := next_some c hc (a + 1) s2 ⟨by omega, by omega⟩
      rw [if_pos h2, e2]
      simp only [Option.bind_some]
      rw [if_neg (by omega), wrap64_id (x := b * 256) (by omega) (by omega), wrap64_id (by omega) (by omega)]
      have ht := tmod_range (b * 256 + b2) n (by omega) (by omega)
      refine ⟨_, _, _, rfl, ht.1, .inr ht.2, ?_, by omega, by omega⟩
      rw [Int.tmod_eq_emod_of_nonneg (by omega)]
      have h5 : (b * 256 + b2) % n ≤ b * 256 + b2 := by
        have h6 := Int.mul_ediv_add_emod (b * 256 + b2) n
        have h7 : 0 ≤ (b * 256 + b2) / n := Int.ediv_nonneg (by omega) (by omega)
        have h8 : 0 ≤ n * ((b * 256 + b2) / n) := Int.mul_nonneg (by omega) h7
        omega
      omega
    · rw [if_neg h2, if_neg (by omega)]
      have ht := tmod_range b n hb0 (by omega)
      exact ⟨_, _, _, rfl, ht.1, .inr ht.2, by omega, by omega, by omega⟩
end Go.Proofs.Ytcefenlblnediaa.Pl

/- Plain Lean: the reader of choices: yes or no, and one of a list of texts. Asked: a reader that stands below 2^61. -/
namespace Go.Proofs.Ytcefenlblnediaa.Pl
open Go.RowKit Go.Proofs.YtcefenlblnediaaW.PrintWords Go.Proofs.YtcefenlblnediaaW.PrintLast Go.Proofs.Ytcefenlblnediaa.My
set_option linter.unusedVariables false
theorem one_some (c : List Int) (hc : Bytes8 c) (a s n : Int) (ha : At 2305843009213693951 a) : ∃ v a2 s2, spec_l1Cur_one.f c a s n = some (v, a2, s2) ∧ a ≤ a2 ∧ a2 ≤ a + 2 := by
  unfold spec_l1Cur_one.f
  obtain ⟨v, a2, s2, e, h⟩ := pick_some c hc a s n ha
  rw [e]
  exact ⟨_, _, _, rfl, h.2.2.2.1, h.2.2.2.2⟩
theorem of_some (c : List Int) (hc : Bytes8 c) (a s : Int) (ha : At 2305843009213693951 a) (l : List ByteArray) (hl : 0 < l.length) : ∃ v a2 s2, spec_l1Cur_of.f c a s l = some (v, a2, s2) ∧ v ∈ l ∧ a ≤ a2 ∧ a2 ≤ a + 2 := by
  unfold spec_l1Cur_of.f
  obtain ⟨v, a2, s2, e, h⟩ := pick_some c hc a s (l.length : Int) ha
  rw [e]
  simp only [Option.bind_some]
  have hv : v < (l.length : Int) := by rcases h.2.1 with h | h <;> omega
  rw [if_pos h.1, if_pos hv]
  refine ⟨_, _, _, rfl, ?_, h.2.2.2.1, h.2.2.2.2⟩
  have e2 : rdOf ByteArray.empty l v = l[v.toNat]'(by omega) := getD_lt l _ v.toNat (by omega)
  rw [e2]
  exact List.getElem_mem _
end Go.Proofs.Ytcefenlblnediaa.Pl

/- Plain Lean: the reader of choices: lines and texts. Asked: a reader that stands below 10^15. -/
namespace Go.Proofs.Ytcefenlblnediaa.Pl
open Go.RowKit Go.Proofs.YtcefenlblnediaaW.PrintWords Go.Proofs.YtcefenlblnediaaW.PrintLast Go.Proofs.Ytcefenlblnediaa.My
set_option linter.unusedVariables false
set_option linter.unusedSimpArgs false
theorem at_of {a : Int} (h0 : 0 ≤ a) (h1 : a ≤ 1000000000001000) : At 2305843009213693951 a := ⟨h0, by omega⟩
theorem line_some (c : List Int) (hc : Bytes8 c) (a s : Int) (h0 : 0 ≤ a) (h1 : a ≤ 1000000000001000) : ∃ v a2 s2, spec_l1Cur_line.f c a s = some (v, a2, s2) ∧ v.size ≤ 7 ∧ a ≤ a2 ∧ a2 ≤ a + 2 := by
  unfold spec_l1Cur_line.f
  obtain ⟨v, a2, s2, e, hv, h⟩ := of_some c hc a s (at_of h0 h1) [(⟨#[97]⟩ : ByteArray), (⟨#[98]⟩ : ByteArray), (⟨#[99]⟩ : ByteArray), (⟨#[100]⟩ : ByteArray), (⟨#[]⟩ : ByteArray), (⟨#[46]⟩ : ByteArray), (⟨#[46, 46]⟩ : ByteArray), (⟨#[111, 110, 101, 32, 116, 119, 111]⟩ : ByteArray), (⟨#[43, 120]⟩ : ByteArray), (⟨#[45, 121]⟩ : ByteArray), (⟨#[92, 32, 122]⟩ : ByteArray), (⟨#[64, 64]⟩ : ByteArray)] (by simp)
  rw [e]
  refine ⟨v, a2, s2, rfl, ?_, h⟩
  simp only [List.mem_cons, List.not_mem_nil, or_false] at hv
  rcases hv with rfl | rfl | rfl | rfl | rfl | rfl | rfl | rfl | rfl | rfl | rfl | rfl <;> decide
/-- Lines as they are drawn: few, short, none empty. -/
def Sm1 (l : List ByteArray) : Prop := ∀ s ∈ l, 1 ≤ s.size ∧ s.size ≤ 8
/-- A drawn text: few lines, short, the last one not empty. -/
def SmT (l : List ByteArray) : Prop := l.length ≤ 9 ∧ (∀ s ∈ l, s.size ≤ 8) ∧ ∀ x, l.getLast? = some x → 1 ≤ x.size
theorem sm1_snoc {l : List ByteArray} {x : ByteArray} (h : Sm1 l) (h1 : 1 ≤ x.size) (h2 : x.size ≤ 8) : Sm1 (l ++ [x]) := by
  intro s hs
  rcases List.mem_append.1 hs with hs | hs
  · exact h s hs
  · rw [List.mem_singleton.1 hs]; exact ⟨h1, h2⟩
theorem nl_size (v : ByteArray) (h : v.size ≤ 7) : 1 ≤ (v ++ (⟨#[10]⟩ : ByteArray)).size ∧ (v ++ (⟨#[10]⟩ : ByteArray)).size ≤ 8 := by
  rw [ByteArray.size_append, show (⟨#[10]⟩ : ByteArray).size = 1 from rfl]
  omega
theorem text_l0 (c : List Int) (hc : Bytes8 c) : ∀ (n : Nat) (acc : List ByteArray) (a s : Int), 0 ≤ a → a + 2 * n ≤ 1000000000000500 → acc.length + n ≤ 8 → Sm1 acc → ∃ r a2 s2, Ev (fun k => spec_l1Cur_text.l0 k acc (n : Int) c a s) (r, a2, s2) ∧ r.length ≤ 9 ∧ Sm1 r ∧ a ≤ a2 ∧ a2 ≤ a + 2 * n + 4 := by
  intro n
  induction n with
  | zero =>
    intro acc a s h0 h1 hl hs
    obtain ⟨v, a2, s2, e, h2⟩ := one_some c hc a s 5 (at_of h0 (by omega))
    cases v with
    | true =>
      obtain ⟨w, a3, s3, e2, hw, h3⟩ := of_some c hc a2 s2 (at_of (by omega) (by omega)) [(⟨#[97]⟩ : ByteArray), (⟨#[101, 110, 100]⟩ : ByteArray), (⟨#[46]⟩ : ByteArray)] (by simp)
      refine ⟨acc ++ [w], a3, s3, Ev.step (fun k => spec_l1Cur_text.l0.eq_2 ..) (ev_neg (by omega) ?_), by rw [List.length_append, List.length_singleton]; omega, ?_, by omega, by omega⟩
      · refine ev_bind (ev_const e) (ev_pos rfl (ev_bind (ev_const e2) (ev_pos (by omega) (ev_some rfl))))
      · simp only [List.mem_cons, List.not_mem_nil, or_false] at hw
        rcases hw with rfl | rfl | rfl <;> exact sm1_snoc hs (by decide) (by decide)
    | false =>
      refine ⟨acc, a2, s2, Ev.step (fun k => spec_l1Cur_text.l0.eq_2 ..) (ev_neg (by omega) ?_), by omega, hs, by omega, by omega⟩
      exact ev_bind (ev_const e) (ev_neg (by simp) (ev_some rfl))
  | succ n ih =>
    intro acc a s h0 h1 hl hs
    obtain ⟨v, a2, s2, e, h2⟩ := line_some c hc a s h0 (by omega)
    have hz := nl_size v h2.1
    obtain ⟨r, a3, s3, e3, h3⟩ := ih (acc ++ [v ++ (⟨#[10]⟩ : ByteArray)]) a2 s2 (by omega) (by omega) (by rw [List.length_append, List.length_singleton]; omega) (sm1_snoc hs hz.1 hz.2)
    refine ⟨r, a3, s3, Ev.step (fun k => spec_l1Cur_text.l0.eq_2 ..) (ev_pos (by omega) ?_), h3.1, h3.2.1, by omega, by omega⟩
    refine ev_bind (ev_const e) (ev_pos (by dsimp only; omega) (ev_pos (by omega) ?_))
    rw [wrap64_id (x := ((n + 1 : Nat) : Int) - 1) (by omega) (by omega), show ((n + 1 : Nat) : Int) - 1 = (n : Int) from by omega]
    exact e3
theorem text_some (c : List Int) (hc : Bytes8 c) (a s : Int) (h0 : 0 ≤ a) (h1 : a ≤ 1000000000000400) : ∃ r a2 s2, Ev (fun k => spec_l1Cur_text.f k c a s) (r, a2, s2) ∧ r.length ≤ 9 ∧ Sm1 r ∧ a ≤ a2 ∧ a2 ≤ a + 22 := by
  simp only [spec_l1Cur_text.f]
  obtain ⟨v, a2, s2, e, h2⟩ := pick_some c hc a s 9 (at_of h0 (by omega))
  have hv : v = ((v.toNat : Nat) : Int) := by omega
  have hn : v.toNat ≤ 8 := by rcases h2.2.1 with h | h <;> omega
  obtain ⟨r, a3, s3, e3, h3⟩ := text_l0 c hc v.toNat [] a2 s2 (by omega) (by omega) (by simpa using hn) (fun s hs => by cases hs)
  rw [← hv] at e3
  exact ⟨r, a3, s3, ev_bind (ev_const e) e3, h3.1, h3.2.1, by omega, by omega⟩
theorem smT_of {l : List ByteArray} (hl : l.length ≤ 9) (h : Sm1 l) : SmT l :=
  ⟨hl, fun s hs => (h s hs).2, fun x hx => (h x (List.mem_of_getLast? hx)).1⟩
theorem smT_set {l : List ByteArray} (hl : 1 < l.length) (h : SmT l) (v : ByteArray) (hv : v.size ≤ 8) : SmT (l.set 0 v) := by
  refine ⟨by rw [List.length_set]; exact h.1, fun s hs => ?_, fun x hx => h.2.2 x ?_⟩
  · rcases List.mem_or_eq_of_mem_set hs with hs | rfl
    · exact h.2.1 s hs
    · exact hv
  · rw [List.getLast?_eq_getElem?, List.length_set, List.getElem?_set_ne (by omega)] at hx
    rw [List.getLast?_eq_getElem?]
    exact hx
theorem anyText_some (c : List Int) (hc : Bytes8 c) (a s : Int) (h0 : 0 ≤ a) (h1 : a ≤ 1000000000000300) : ∃ r a2 s2, Ev (fun k => spec_l1Cur_anyText.f k c a s) (r, a2, s2) ∧ SmT r ∧ a ≤ a2 ∧ a2 ≤ a + 24 := by
  simp only [spec_l1Cur_anyText.f]
  obtain ⟨l, a2, s2, e, h2⟩ := text_some c hc a s h0 (by omega)
  have hT := smT_of h2.1 h2.2.1
  by_cases hl : (l.length : Int) > 1
  · obtain ⟨v, a3, s3, e3, h3⟩ := pick_some c hc a2 s2 25 (at_of (by omega) (by omega))
    have st : ∀ (w : ByteArray), w.size ≤ 8 → SmT (l.set (0 : Int).toNat w) := fun w hw => smT_set (by omega) hT w hw
    by_cases c0 : v = 0
    · exact ⟨_, a3, s3, ev_bind e (ev_pos hl (ev_bind (ev_const e3) (ev_pos c0 (ev_pos (by dsimp only; omega) (ev_some rfl))))), st _ (by decide), by omega, by omega⟩
    · by_cases c1 : v = 1
      · exact ⟨_, a3, s3, ev_bind e (ev_pos hl (ev_bind (ev_const e3) (ev_neg c0 (ev_pos c1 (ev_pos (by dsimp only; omega) (ev_some rfl)))))), st _ (by decide), by omega, by omega⟩
      · by_cases c2 : v = 2
        · exact ⟨_, a3, s3, ev_bind e (ev_pos hl (ev_bind (ev_const e3) (ev_neg c0 (ev_neg c1 (ev_pos c2 (ev_pos (by dsimp only; omega) (ev_some rfl))))))), st _ (by decide), by omega, by omega⟩
        · exact ⟨_, a3, s3, ev_bind e (ev_pos hl (ev_bind (ev_const e3) (ev_neg c0 (ev_neg c1 (ev_neg c2 (ev_some rfl)))))), hT, by omega, by omega⟩
  · exact ⟨l, a2, s2, ev_bind e (ev_neg hl (ev_some rfl)), hT, by omega, by omega⟩
end Go.Proofs.Ytcefenlblnediaa.Pl

/- Plain Lean: the reader of choices: one of a list of numbers. Asked: a reader that stands below 2^61. -/
namespace Go.Proofs.Ytcefenlblnediaa.Pl
open Go.RowKit Go.Proofs.YtcefenlblnediaaW.PrintWords Go.Proofs.YtcefenlblnediaaW.PrintLast Go.Proofs.Ytcefenlblnediaa.My
set_option linter.unusedVariables false
theorem among_some (c : List Int) (hc : Bytes8 c) (a s : Int) (ha : At 2305843009213693951 a) (l : List Int) (hl : 0 < l.length) : ∃ v a2 s2, spec_l1Cur_among.f c a s l = some (v, a2, s2) ∧ v ∈ l ∧ a ≤ a2 ∧ a2 ≤ a + 2 := by
  unfold spec_l1Cur_among.f
  obtain ⟨v, a2, s2, e, h⟩ := pick_some c hc a s (l.length : Int) ha
  rw [e]
  simp only [Option.bind_some]
  have hv : v < (l.length : Int) := by rcases h.2.1 with h | h <;> omega
  rw [if_pos h.1, if_pos hv]
  refine ⟨_, _, _, rfl, ?_, h.2.2.2.1, h.2.2.2.2⟩
  have e2 : rd l v = l[v.toNat]'(by omega) := getD_lt l 0 v.toNat (by omega)
  rw [e2]
  exact List.getElem_mem _
end Go.Proofs.Ytcefenlblnediaa.Pl

/- Plain Lean: the reader of choices: hunks over a text. Asked: a reader that stands below 10^15, a text of at most 40 lines whose last one is not empty. -/
namespace Go.Proofs.Ytcefenlblnediaa.Pl
open Go.RowKit Go.Proofs.YtcefenlblnediaaW.PrintWords Go.Proofs.YtcefenlblnediaaW.PrintLast Go.Proofs.Ytcefenlblnediaa.My
set_option linter.unusedVariables false
set_option linter.unusedSimpArgs false
/-- One drawn hunk is small. -/
def SmX (x : IH) : Prop := (-1 ≤ x.f0 ∧ x.f0 ≤ 100) ∧ (0 ≤ x.f1 ∧ x.f1 ≤ 100) ∧ x.f2.length ≤ 2 ∧ ∀ s ∈ x.f2, s.size ≤ 8
def SmH (h : List IH) : Prop := h.length ≤ 6 ∧ ∀ x ∈ h, SmX x
/-- Drawn hunks, one of them spoilt at most. -/
def SmA (h : List IH) : Prop := h.length ≤ 6 ∧ ∀ x ∈ h, (-1 ≤ x.f0 ∧ x.f0 ≤ 100) ∧ (0 ≤ x.f1 ∧ x.f1 ≤ 103) ∧ x.f2.length ≤ 3 ∧ ∀ s ∈ x.f2, s.size ≤ 8
theorem smA_of {h : List IH} (q : SmH h) : SmA h := ⟨q.1, fun x hx => by
  have := q.2 x hx
  exact ⟨this.1, ⟨this.2.1.1, by have := this.2.1.2; omega⟩, by have := this.2.2.1; omega, this.2.2.2⟩⟩
theorem whole_some (l : List ByteArray) (hl : l.length ≤ 100) (hs : ∀ s ∈ l, s.size ≤ 9223372036854775807) (hx : ∀ x, l.getLast? = some x → 1 ≤ x.size) : ∃ b, spec_l1Whole.f l = some b := by
  unfold spec_l1Whole.f
  by_cases h : l.length = 0
  · exact ⟨true, by rw [if_pos (by omega)]⟩
  · have hm := List.getElem_mem (l := l) (n := l.length - 1) (by omega)
    have h1 : 1 ≤ (l[l.length - 1]'(by omega)).size := hx _ (by rw [List.getLast?_eq_getElem?, List.getElem?_eq_getElem (by omega)])
    refine ⟨ends (l[l.length - 1]'(by omega)), ?_⟩
    rw [if_neg (by omega), wrap_pred l.length (by omega) (by omega), if_pos (by omega), if_pos (by omega), rdOf_lt _ _ _ (by omega), l1Ends_eq _ h1 (hs _ hm)]
    rfl
theorem smH_snoc {h : List IH} (q : SmH h) (hl : h.length < 6) {x : IH} (hx : SmX x) : SmH (h ++ [x]) := by
  refine ⟨by rw [List.length_append, List.length_singleton]; omega, fun y hy => ?_⟩
  rcases List.mem_append.1 hy with hy | hy
  · exact q.2 y hy
  · rw [List.mem_singleton.1 hy]; exact hx
section
variable (c : List Int) (hc : Bytes8 c) (l : List ByteArray)
include hc
theorem hunks_l1 (h : List IH) (i at_ gone : Int) : ∀ (n : Nat) (acc : List ByteArray) (a s : Int), 0 ≤ a → a + 2 * n ≤ 1000000000000500 → acc.length + n ≤ 2 → (∀ s ∈ acc, s.size ≤ 8) →
    ∃ acc' a2 s2, (acc'.length ≤ 2 ∧ (∀ s ∈ acc', s.size ≤ 8) ∧ a ≤ a2 ∧ a2 ≤ a + 2 * n) ∧ ∀ R, Ev (fun k => spec_l1Cur_hunks.l1 k l h i 0 c a2 s2 at_ gone acc') R → Ev (fun k => spec_l1Cur_hunks.l1 k l h i (n : Int) c a s at_ gone acc) R := by
  intro n
  induction n with
  | zero => intro acc a s h0 h1 hl hs; exact ⟨acc, a, s, ⟨by omega, hs, by omega, by omega⟩, fun R h => h⟩
  | succ n ih =>
    intro acc a s h0 h1 hl hs
    obtain ⟨v, a2, s2, e, h2⟩ := line_some c hc a s h0 (by omega)
    have hz := nl_size v h2.1
    obtain ⟨acc', a3, s3, h3, hR⟩ := ih (acc ++ [v ++ (⟨#[10]⟩ : ByteArray)]) a2 s2 (by omega) (by omega) (by rw [List.length_append, List.length_singleton]; omega) (fun s hs' => by
      rcases List.mem_append.1 hs' with hs' | hs'
      · exact hs s hs'
      · rw [List.mem_singleton.1 hs']; exact hz.2)
    refine ⟨acc', a3, s3, ⟨h3.1, h3.2.1, by omega, by omega⟩, fun R hr => ?_⟩
    refine Ev.step (fun k => spec_l1Cur_hunks.l1.eq_2 ..) (ev_pos (by omega) (ev_bind (ev_const e) (ev_pos (by dsimp only; omega) (ev_pos (by omega) ?_))))
    rw [wrap64_id (x := ((n + 1 : Nat) : Int) - 1) (by omega) (by omega), show ((n + 1 : Nat) : Int) - 1 = (n : Int) from by omega]
    exact hR R hr
theorem hunks_l0 (hl : l.length ≤ 40) (hsz : ∀ s ∈ l, s.size ≤ 9223372036854775807) (hx : ∀ x, l.getLast? = some x → 1 ≤ x.size) : ∀ (d i : Nat) (h : List IH) (a s : Int), l.length + 1 ≤ i + d → i ≤ 100 → SmH h → 0 ≤ a → a + 20 * d ≤ 1000000000000300 →
    ∃ r a2 s2, Ev (fun k => spec_l1Cur_hunks.l0 k l h (i : Int) c a s) (r, a2, s2) ∧ SmH r ∧ a ≤ a2 ∧ a2 ≤ a + 20 * d := by
  intro d
  induction d with
  | zero =>
    intro i h a s hi hi2 hh h0 h1
    exact ⟨h, a, s, Ev.step (fun k => spec_l1Cur_hunks.l0.eq_2 ..) (ev_neg (by omega) (Ev.step (fun k => spec_l1Cur_hunks.j1.eq_2 ..) (ev_neg (by simp) (ev_some rfl)))), hh, by omega, by omega⟩
  | succ d ih =>
    intro i h a s hi hi2 hh h0 h1
    by_cases c1 : i ≤ l.length
    · by_cases c2 : h.length < 6
      · have hd : decide ((h.length : Int) < 6) = true := decide_eq_true (by omega)
        -- how many lines go
        have hle : ∃ m : Int, spec_l1Least.f 3 (wrap64 ((l.length : Int) - (i : Int))) = some m ∧ 0 ≤ m ∧ m ≤ 3 ∧ (i : Int) + m ≤ l.length := by
          unfold spec_l1Least.f
          rw [wrap64_id (by omega) (by omega)]
          by_cases c3 : (3 : Int) < (l.length : Int) - i
          · exact ⟨3, by rw [if_pos c3], by omega, by omega, by omega⟩
          · exact ⟨_, by rw [if_neg c3], by omega, by omega, by omega⟩
        obtain ⟨m, em, m0, m3, ml⟩ := hle
        obtain ⟨g, a2, s2, eg, hg⟩ := pick_some c hc a s (wrap64 (m + 1)) (at_of h0 (by omega))
        have hgm : g ≤ m := by
          have := hg.2.1
          rw [wrap64_id (by omega) (by omega)] at this
          omega
        obtain ⟨n, a3, s3, en, hn⟩ := pick_some c hc a2 s2 3 (at_of (by omega) (by omega))
        have hn2 : n = ((n.toNat : Nat) : Int) := by omega
        have hn3 : n.toNat ≤ 2 := by rcases hn.2.1 with q | q <;> omega
        obtain ⟨acc, a4, s4, hacc, hR⟩ := hunks_l1 c hc l h (i : Int) (i : Int) g n.toNat [] a3 s3 (by omega) (by omega) (by simpa using hn3) (fun s hs => by cases hs)
        obtain ⟨p, a5, s5, ep, hp⟩ := pick_some c hc a4 s4 3 (at_of (by omega) (by omega))
        have hp3 : p ≤ 2 := by rcases hp.2.1 with q | q <;> omega
        have ew : wrap64 ((i : Int) + (wrap64 ((wrap64 (g + 1)) + p))) = (((i + (g.toNat + 1 + p.toNat)) : Nat) : Int) := by
          rw [wrap64_id (x := g + 1) (by omega) (by omega), wrap64_id (x := g + 1 + p) (by omega) (by omega), wrap64_id (by omega) (by omega)]
          omega
        have fin : ∀ h2, SmH h2 → ∃ r a2 s2, Ev (fun k => (spec_l1Cur_pick.f c a4 s4 3).bind fun bt => spec_l1Cur_hunks.l0 k l h2 (wrap64 ((i : Int) + (wrap64 ((wrap64 (g + 1)) + bt.1)))) c bt.2.1 bt.2.2) (r, a2, s2) ∧ SmH r ∧ a ≤ a2 ∧ a2 ≤ a + 20 * (d + 1 : Nat) := by
          intro h2 hh2
          obtain ⟨r, a6, s6, er, hr⟩ := ih (i + (g.toNat + 1 + p.toNat)) h2 a5 s5 (by omega) (by omega) hh2 (by omega) (by omega)
          refine ⟨r, a6, s6, ev_bind (ev_const ep) ?_, hr.1, by omega, by omega⟩
          dsimp only
          rw [ew]
          exact er
        have hX : SmX (⟨(i : Int), g, acc⟩ : IH) := ⟨⟨by dsimp only; omega, by dsimp only; omega⟩, ⟨by dsimp only; omega, by dsimp only; omega⟩, hacc.1, hacc.2.1⟩
        have hh3 := smH_snoc hh c2 hX
        have top : ∀ R, Ev (fun k => spec_l1Cur_hunks.l1 k l h (i : Int) 0 c a4 s4 (i : Int) g acc) R → Ev (fun k => spec_l1Cur_hunks.l0 k l h (i : Int) c a s) R := by
          intro R hr
          refine Ev.step (fun k => spec_l1Cur_hunks.l0.eq_2 ..) (ev_pos (by omega) ?_)
          rw [hd]
          refine Ev.step (fun k => spec_l1Cur_hunks.j1.eq_2 ..) (ev_pos rfl (ev_bind (ev_const em) (ev_bind (ev_const eg) (ev_bind (ev_const en) ?_))))
          dsimp only
          rw [hn2]
          exact hR R hr
        have e1 : wrap64 (g + (acc.length : Int)) = g + acc.length := by have := hacc.1; rw [wrap64_id (by omega) (by omega)]
        have e2 : wrap64 ((i : Int) + g) = i + g := by rw [wrap64_id (by omega) (by omega)]
        have hl6 : h.length < 3518437208883 := by omega
        by_cases c4 : g + (acc.length : Int) > 0
        · obtain ⟨r, a6, s6, er, hr⟩ := fin _ hh3
          by_cases c5 : (i : Int) + g < (l.length : Int)
          · exact ⟨r, a6, s6, top _ (Ev.step (fun k => spec_l1Cur_hunks.l1.eq_2 ..) (ev_neg (by omega) (ev_pos (by rw [e1]; exact c4) (ev_pos (by rw [e2]; exact c5) (ev_pos hl6 er))))), hr⟩
          · obtain ⟨b, eb⟩ := whole_some l (by omega) hsz hx
            cases b with
            | true => exact ⟨r, a6, s6, top _ (Ev.step (fun k => spec_l1Cur_hunks.l1.eq_2 ..) (ev_neg (by omega) (ev_pos (by rw [e1]; exact c4) (ev_neg (by rw [e2]; exact c5) (ev_bind (ev_const eb) (ev_pos rfl (ev_pos hl6 er))))))), hr⟩
            | false =>
              by_cases c6 : g > 0
              · exact ⟨r, a6, s6, top _ (Ev.step (fun k => spec_l1Cur_hunks.l1.eq_2 ..) (ev_neg (by omega) (ev_pos (by rw [e1]; exact c4) (ev_neg (by rw [e2]; exact c5) (ev_bind (ev_const eb) (ev_neg (by simp) (ev_pos c6 (ev_pos hl6 er)))))))), hr⟩
              · obtain ⟨r2, a7, s7, er2, hr2⟩ := fin _ hh
                exact ⟨r2, a7, s7, top _ (Ev.step (fun k => spec_l1Cur_hunks.l1.eq_2 ..) (ev_neg (by omega) (ev_pos (by rw [e1]; exact c4) (ev_neg (by rw [e2]; exact c5) (ev_bind (ev_const eb) (ev_neg (by simp) (ev_neg c6 er2))))))), hr2⟩
        · obtain ⟨r, a6, s6, er, hr⟩ := fin _ hh
          exact ⟨r, a6, s6, top _ (Ev.step (fun k => spec_l1Cur_hunks.l1.eq_2 ..) (ev_neg (by omega) (ev_neg (by rw [e1]; exact c4) er))), hr⟩
      · exact ⟨h, a, s, Ev.step (fun k => spec_l1Cur_hunks.l0.eq_2 ..) (ev_pos (by omega) (by
          rw [decide_eq_false (by omega)]
          exact Ev.step (fun k => spec_l1Cur_hunks.j1.eq_2 ..) (ev_neg (by simp) (ev_some rfl)))), hh, by omega, by omega⟩
    · exact ⟨h, a, s, Ev.step (fun k => spec_l1Cur_hunks.l0.eq_2 ..) (ev_neg (by omega) (Ev.step (fun k => spec_l1Cur_hunks.j1.eq_2 ..) (ev_neg (by simp) (ev_some rfl)))), hh, by omega, by omega⟩
theorem hunks_some (hl : l.length ≤ 40) (hsz : ∀ s ∈ l, s.size ≤ 9223372036854775807) (hx : ∀ x, l.getLast? = some x → 1 ≤ x.size) (a s : Int) (h0 : 0 ≤ a) (h1 : a ≤ 999999999999000) :
    ∃ r a2 s2, Ev (fun k => spec_l1Cur_hunks.f k c a s l) (r, a2, s2) ∧ SmH r ∧ a ≤ a2 ∧ a2 ≤ a + 830 := by
  simp only [spec_l1Cur_hunks.f]
  obtain ⟨v, a2, s2, e, h2⟩ := pick_some c hc a s 3 (at_of h0 (by omega))
  have hv : v = ((v.toNat : Nat) : Int) := by omega
  have hv3 : v ≤ 2 := by rcases h2.2.1 with q | q <;> omega
  obtain ⟨r, a3, s3, er, hr⟩ := hunks_l0 c hc l hl hsz hx 41 v.toNat [] a2 s2 (by omega) (by omega) ⟨Nat.zero_le _, fun x hx => by cases hx⟩ (by omega) (by omega)
  rw [← hv] at er
  exact ⟨r, a3, s3, ev_bind (ev_const e) er, hr.1, by omega, by omega⟩
omit hc in
theorem rdIHm (h : List IH) (k : Int) (h0 : 0 ≤ k) (h1 : k < (h.length : Int)) : rd_T111 h k ∈ h := by
  have e : rd_T111 h k = h[k.toNat]'(by omega) := getD_lt h _ k.toNat (by omega)
  rw [e]
  exact List.getElem_mem _
omit hc in
theorem smA_set {h : List IH} (q : SmH h) (k : Nat) (x : IH) (hx : (-1 ≤ x.f0 ∧ x.f0 ≤ 100) ∧ (0 ≤ x.f1 ∧ x.f1 ≤ 103) ∧ x.f2.length ≤ 3 ∧ ∀ s ∈ x.f2, s.size ≤ 8) : SmA (h.set k x) := by
  refine ⟨by rw [List.length_set]; exact q.1, fun y hy => ?_⟩
  rcases List.mem_or_eq_of_mem_set hy with hy | rfl
  · exact (smA_of q).2 y hy
  · exact hx
theorem anyHunks_some (hl : l.length ≤ 40) (hsz : ∀ s ∈ l, s.size ≤ 9223372036854775807) (hx : ∀ x, l.getLast? = some x → 1 ≤ x.size) (a s : Int) (h0 : 0 ≤ a) (h1 : a ≤ 999999999998000) :
    ∃ r a2 s2, Ev (fun k => spec_l1Cur_anyHunks.f k c a s l) (r, a2, s2) ∧ SmA r ∧ a ≤ a2 ∧ a2 ≤ a + 840 := by
  simp only [spec_l1Cur_anyHunks.f]
  obtain ⟨h, a2, s2, e, h2⟩ := hunks_some c hc l hl hsz hx a s h0 (by omega)
  by_cases c1 : (h.length : Int) > 0
  · obtain ⟨k, a3, s3, ek, hk⟩ := pick_some c hc a2 s2 (h.length : Int) (at_of (by omega) (by omega))
    have k1 : k < (h.length : Int) := by rcases hk.2.1 with q | q <;> omega
    have hm := h2.1.2 _ (rdIHm h k hk.1 k1)
    have hl6 := h2.1.1
    obtain ⟨v, a4, s4, ev, hv⟩ := pick_some c hc a3 s3 25 (at_of (by omega) (by omega))
    by_cases v0 : v = 0
    · obtain ⟨z, a5, s5, ez, hz, hz2⟩ := among_some c hc a4 s4 (at_of (by omega) (by omega)) [(-1), 40, 3] (by simp)
      refine ⟨_, a5, s5, ev_bind e (ev_pos c1 (ev_bind (ev_const ek) (ev_bind (ev_const ev) (ev_pos v0 (ev_bind (ev_const ez) (ev_pos hk.1 (ev_pos k1 (ev_some rfl)))))))), smA_set h2.1 _ _ ⟨?_, ⟨hm.2.1.1, by have := hm.2.1.2; dsimp only; omega⟩, by have := hm.2.2.1; dsimp only; omega, hm.2.2.2⟩, by omega, by omega⟩
      simp only [List.mem_cons, List.not_mem_nil, or_false] at hz
      dsimp only
      omega
    · by_cases v1 : v = 1
      · refine ⟨_, a4, s4, ev_bind e (ev_pos c1 (ev_bind (ev_const ek) (ev_bind (ev_const ev) (ev_neg v0 (ev_pos v1 (ev_pos hk.1 (ev_pos k1 (ev_some rfl)))))))), smA_set h2.1 _ _ ⟨hm.1, ?_, by have := hm.2.2.1; dsimp only; omega, hm.2.2.2⟩, by omega, by omega⟩
        have := hm.2.1
        dsimp only
        rw [wrap64_id (by omega) (by omega)]
        omega
      · by_cases v2 : v = 2
        · refine ⟨_, a4, s4, ev_bind e (ev_pos c1 (ev_bind (ev_const ek) (ev_bind (ev_const ev) (ev_neg v0 (ev_neg v1 (ev_pos v2 (ev_pos hk.1 (ev_pos k1 (ev_some rfl))))))))), smA_set h2.1 _ _ ⟨hm.1, ⟨hm.2.1.1, by have := hm.2.1.2; dsimp only; omega⟩, (show ([(⟨#[]⟩ : ByteArray)] : List ByteArray).length ≤ 3 by decide), fun s hs => ?_⟩, by omega, by omega⟩
          rw [List.mem_singleton.1 hs]
          decide
        · by_cases v3 : v = 3
          · refine ⟨_, a4, s4, ev_bind e (ev_pos c1 (ev_bind (ev_const ek) (ev_bind (ev_const ev) (ev_neg v0 (ev_neg v1 (ev_neg v2 (ev_pos v3 (ev_pos hk.1 (ev_pos k1 (ev_pos (by have := hm.2.2.1; dsimp only; omega) (ev_some rfl))))))))))), smA_set h2.1 _ _ ⟨hm.1, ⟨hm.2.1.1, by have := hm.2.1.2; dsimp only; omega⟩, by have := hm.2.2.1; dsimp only; rw [List.length_append, List.length_singleton]; omega, fun s hs => ?_⟩, by omega, by omega⟩
            rcases List.mem_append.1 hs with hs | hs
            · exact hm.2.2.2 s hs
            · rw [List.mem_singleton.1 hs]
              decide
          · exact ⟨h, a4, s4, ev_bind e (ev_pos c1 (ev_bind (ev_const ek) (ev_bind (ev_const ev) (ev_neg v0 (ev_neg v1 (ev_neg v2 (ev_neg v3 (ev_some rfl)))))))), smA_of h2.1, by omega, by omega⟩
  · exact ⟨h, a2, s2, ev_bind e (ev_neg c1 (ev_some rfl)), smA_of h2.1, by omega, by omega⟩
end
theorem hunked_some (c : List Int) (hc : Bytes8 c) (a s : Int) (h0 : 0 ≤ a) (h1 : a ≤ 999999999997000) :
    ∃ l h a2 s2, Ev (fun k => spec_l1Cur_hunked.f k c a s) (l, h, a2, s2) ∧ SmT l ∧ SmA h ∧ a ≤ a2 ∧ a2 ≤ a + 870 := by
  simp only [spec_l1Cur_hunked.f]
  obtain ⟨l, a2, s2, e, h2⟩ := anyText_some c hc a s h0 (by omega)
  obtain ⟨h, a3, s3, e3, h3⟩ := anyHunks_some c hc l (by have := h2.1.1; omega) (fun s hs => by have := h2.1.2.1 s hs; omega) h2.1.2.2 a2 s2 (by omega) (by omega)
  exact ⟨l, h, a3, s3, ev_bind e (ev_bind e3 (ev_some rfl)), h2.1, h3.1, by omega, by omega⟩
theorem fitS_smT {l : List ByteArray} (h : SmT l) : FitS l := ⟨by have := h.1; omega, fun s hs => by have := h.2.1 s hs; omega⟩
theorem fitI_smA {h : List IH} (q : SmA h) : FitI h := ⟨by have := q.1; omega, fun x hx => by
  have := q.2 x hx
  exact ⟨⟨by omega, by omega⟩, ⟨by omega, by omega⟩, by omega, fun s hs => by have := this.2.2.2 s hs; omega⟩⟩
end Go.Proofs.Ytcefenlblnediaa.Pl

/- Plain Lean: answers where both are good lines. No condition. -/
namespace Go.Proofs.Ytcefenlblnediaa.Pl
open Go.RowKit Go.Proofs.YtcefenlblnediaaW.PrintWords Go.Proofs.YtcefenlblnediaaW.PrintLast Go.Proofs.Ytcefenlblnediaa.My
set_option linter.unusedVariables false
set_option linter.unusedSimpArgs false

/-- Where both are good lines. -/
def both {α : Type} (a b : List ByteArray) (z v : α) : α × Bool := if good a = true then (if good b = true then (v, true) else (z, false)) else (z, false)

theorem good_len {l : List ByteArray} (h : good l = true) : l.length ≤ 40 := by
  unfold good at h
  rw [Bool.and_eq_true] at h
  exact of_decide_eq_true h.1

theorem both_ev {α : Type} {G : Nat → List ByteArray → Option Bool} {F : Nat → Option α} {a b : List ByteArray} {z v : α} (hg : ∀ l, FitS l → Ev (fun k => G k l) (good l)) (fa : FitS a) (fb : FitS b) (hF : good a = true → good b = true → Ev F v) :
    Ev (fun k => (G k a).bind fun t => (if t = true then ((G k b).bind fun t' => (if t' = true then ((F k).bind fun x => (some (x, true))) else (some (z, false)))) else (some (z, false)))) (both a b z v) := by
  unfold both
  refine ev_bind (hg a fa) (ev_ite (fun h => ?_) (fun h => ev_some (by rw [if_neg h])))
  rw [if_pos h]
  refine ev_bind (hg b fb) (ev_ite (fun h' => ?_) (fun h' => ev_some (by rw [if_neg h'])))
  rw [if_pos h']
  exact ev_bind (hF h h') (ev_some rfl)
end Go.Proofs.Ytcefenlblnediaa.Pl

/- Plain Lean: chapter 2: hunks carried out, for the program and the reference. Conditions: lengths and sizes below 2^62. -/
namespace Go.Proofs.Ytcefenlblnediaa.Pl
open Go.RowKit Go.Proofs.YtcefenlblnediaaW.PrintWords Go.Proofs.YtcefenlblnediaaW.PrintLast Go.Proofs.Ytcefenlblnediaa.My
set_option linter.unusedVariables false
set_option linter.unusedSimpArgs false

/-- What is left of the lines from p on, the hunks carried out. -/
def patchFrom (a : List ByteArray) : Nat → List IH → List ByteArray
  | p, [] => a.drop p
  | p, x :: t => (a.take x.f0.toNat).drop p ++ (x.f2 ++ patchFrom a (x.f0 + x.f1).toNat t)
theorem patchFrom_mem (a : List ByteArray) (s : ByteArray) : ∀ (h : List IH) (p : Nat), s ∈ patchFrom a p h → s ∈ a ∨ ∃ x ∈ h, s ∈ x.f2 := by
  intro h
  induction h with
  | nil => intro p hs; exact .inl (List.mem_of_mem_drop hs)
  | cons y t ih =>
    intro p hs
    simp only [patchFrom, List.mem_append] at hs
    rcases hs with hs | hs | hs
    · exact .inl (List.mem_of_mem_take (List.mem_of_mem_drop hs))
    · exact .inr ⟨y, List.mem_cons_self .., hs⟩
    · rcases ih _ hs with hs | ⟨x, hx, hs⟩
      · exact .inl hs
      · exact .inr ⟨x, List.mem_cons_of_mem _ hx, hs⟩
theorem patchFrom_len (a : List ByteArray) (ha : a.length ≤ 40) : ∀ (h : List IH) (p : Nat), near h → (patchFrom a p h).length ≤ 40 + 80 * h.length := by
  intro h
  induction h with
  | nil => intro p _; simp only [patchFrom, List.length_drop, List.length_nil]; omega
  | cons y t ih =>
    intro p hn
    have h1 := ih (y.f0 + y.f1).toNat (fun x hx => hn x (List.mem_cons_of_mem _ hx))
    have h2 := hn y (List.mem_cons_self ..)
    simp only [patchFrom, List.length_append, List.length_drop, List.length_take, List.length_cons]
    omega
theorem patchFrom_fit {a : List ByteArray} {h : List IH} (fa : FitS a) (fh : FitI h) (ha : a.length ≤ 40) (hn : near h) (hl : h.length ≤ 20) (p : Nat) : FitS (patchFrom a p h) := by
  have := patchFrom_len a ha h p hn
  refine ⟨by omega, fun s hs => ?_⟩
  rcases patchFrom_mem a s h p hs with hs | ⟨x, hx, hs⟩
  · exact fa.2 s hs
  · exact (fh.2 x hx).2.2.2 s hs

theorem patched_l0 (a : List ByteArray) (h : List IH) (hn : a.length ≤ 40) (hl : h.length ≤ 20) : ∀ d i (q : Int) (p : Nat) (acc : List ByteArray), i + d = h.length → chain a.length q (h.drop i) = true → (p : Int) ≤ q + 1 → p ≤ a.length → acc.length ≤ 40 * i + p →
    Ev (fun k => impl_patched.l0 k a acc (p : Int) h (h.length : Int) (i : Int)) (acc ++ patchFrom a p (h.drop i)) := by
  intro d
  induction d with
  | zero =>
    intro i q p acc hi hc hpq hp hacc
    refine Ev.step (fun k => impl_patched.l0.eq_2 ..) (ev_neg (by omega) (ev_pos (by omega) (ev_pos (by omega) (ev_pos ?_ (ev_some ?_)))))
    · rw [List.length_drop]
      omega
    · rw [List.drop_of_length_le (l := h) (by omega), Int.toNat_natCast]
      rfl
  | succ d ih =>
    intro i q p acc hi hc hpq hp hacc
    have hlt : i < h.length := by omega
    rw [List.drop_eq_getElem_cons hlt] at hc
    rw [List.drop_eq_getElem_cons hlt]
    simp only [chain, Bool.and_eq_true, hOK, decide_eq_true_eq] at hc
    obtain ⟨⟨⟨q0, q1, q2, q3, q4, q5⟩, _⟩, hc'⟩ := hc
    refine Ev.step (fun k => impl_patched.l0.eq_2 ..) ?_
    simp only [rdIH h i hlt, Option.bind_some]
    have e1 : wrap64 (h[i].f0 + h[i].f1) = (((h[i].f0 + h[i].f1).toNat : Nat) : Int) := by rw [wrap64_id (by omega) (by omega)]; omega
    rw [e1, wrap_succ i (by omega), Int.toNat_natCast]
    have e2 : ((a.take h[i].f0.toNat).drop p).length = h[i].f0.toNat - p := by rw [List.length_drop, List.length_take]; omega
    refine ev_pos (by omega) (ev_pos (by omega) (ev_pos (by omega) (ev_pos (by omega) (ev_pos (by omega) (ev_pos (by omega) (ev_pos (by rw [e2]; omega) (ev_pos (by rw [List.length_append, e2]; omega) ?_)))))))
    refine ev_to (ih (i + 1) _ _ _ (by omega) hc' (by omega) (by omega) (by rw [List.length_append, List.length_append, e2]; omega)) ?_
    simp only [patchFrom, List.append_assoc]

theorem l2Patch_l0 (a : List ByteArray) (h : List IH) (hn : a.length ≤ 40) (hl : h.length ≤ 20) : ∀ d i (q : Int) (p : Nat) (acc : List ByteArray), i + d = h.length → chain a.length q (h.drop i) = true → (p : Int) ≤ q + 1 → p ≤ a.length → acc.length ≤ 40 * i + p →
    Ev (fun k => spec_l2Patch.l0 k a acc (p : Int) h (h.length : Int) (i : Int)) (acc ++ patchFrom a p (h.drop i)) := by
  intro d
  induction d with
  | zero =>
    intro i q p acc hi hc hpq hp hacc
    refine Ev.step (fun k => spec_l2Patch.l0.eq_2 ..) (ev_neg (by omega) (ev_pos (by omega) (ev_pos (by omega) (ev_pos ?_ (ev_some ?_)))))
    · rw [List.length_drop]
      omega
    · rw [List.drop_of_length_le (l := h) (by omega), Int.toNat_natCast]
      rfl
  | succ d ih =>
    intro i q p acc hi hc hpq hp hacc
    have hlt : i < h.length := by omega
    rw [List.drop_eq_getElem_cons hlt] at hc
    rw [List.drop_eq_getElem_cons hlt]
    simp only [chain, Bool.and_eq_true, hOK, decide_eq_true_eq] at hc
    obtain ⟨⟨⟨q0, q1, q2, q3, q4, q5⟩, _⟩, hc'⟩ := hc
    refine Ev.step (fun k => spec_l2Patch.l0.eq_2 ..) ?_
    simp only [rdIH h i hlt, Option.bind_some]
    have e1 : wrap64 (h[i].f0 + h[i].f1) = (((h[i].f0 + h[i].f1).toNat : Nat) : Int) := by rw [wrap64_id (by omega) (by omega)]; omega
    rw [e1, wrap_succ i (by omega), Int.toNat_natCast]
    have e2 : ((a.take h[i].f0.toNat).drop p).length = h[i].f0.toNat - p := by rw [List.length_drop, List.length_take]; omega
    refine ev_pos (by omega) (ev_pos (by omega) (ev_pos (by omega) (ev_pos (by omega) (ev_pos (by omega) (ev_pos (by omega) (ev_pos (by rw [e2]; omega) (ev_pos (by rw [List.length_append, e2]; omega) ?_)))))))
    refine ev_to (ih (i + 1) _ _ _ (by omega) hc' (by omega) (by omega) (by rw [List.length_append, List.length_append, e2]; omega)) ?_
    simp only [patchFrom, List.append_assoc]

def asked (a : List ByteArray) (h : List IH) : Bool := good a && goodH a.length h
def patchH (a : List ByteArray) (h : List IH) : List ByteArray := patchFrom a 0 h
def patchR (a : List ByteArray) (h : List IH) : List ByteArray × Bool := if asked a h = true ∧ good (patchH a h) = true then (patchH a h, true) else ([], false)
theorem asked_of {a : List ByteArray} {h : List IH} (c : asked a h = true) : a.length ≤ 40 ∧ h.length ≤ 20 ∧ near h ∧ chain a.length (-1) h = true := by
  unfold asked at c
  rw [Bool.and_eq_true] at c
  obtain ⟨g1, g2, g3, g4⟩ := near_of_good c.2
  have := c.2
  unfold goodH at this
  rw [Bool.and_eq_true, Bool.and_eq_true] at this
  exact ⟨good_len c.1, g2, g1, this.2.2⟩
theorem patched_ev {a : List ByteArray} {h : List IH} (c : asked a h = true) : Ev (fun k => impl_patched.f k a h) (patchH a h) := by
  obtain ⟨c1, c2, c3, c4⟩ := asked_of c
  simp only [impl_patched.f]
  exact patched_l0 a h c1 c2 h.length 0 (-1) 0 [] (by omega) c4 (by omega) (by omega) (Nat.zero_le _)
theorem l2Patch_ev {a : List ByteArray} {h : List IH} (c : asked a h = true) : Ev (fun k => spec_l2Patch.f k a h) (patchH a h) := by
  obtain ⟨c1, c2, c3, c4⟩ := asked_of c
  simp only [spec_l2Patch.f]
  exact l2Patch_l0 a h c1 c2 h.length 0 (-1) 0 [] (by omega) c4 (by omega) (by omega) (Nat.zero_le _)
theorem l2Asked_ev (a : List ByteArray) (h : List IH) (fa : FitS a) (fh : FitI h) : Ev (fun k => spec_l2Asked.f k a h) (asked a h) := by
  simp only [spec_l2Asked.f]
  unfold asked
  have hL := fa.1
  refine ev_bind (l1Good_ev a fa) (ev_ite (fun c => ?_) (fun c => ev_some ?_))
  · rw [c, Bool.true_and]
    exact ev_bind (l2Hunks_ev _ h fh (by omega) (by omega)) (ev_some rfl)
  · rw [Bool.not_eq_true] at c
    rw [c, Bool.false_and]
theorem patchR_small (a : List ByteArray) (h : List IH) : (patchR a h).1.length ≤ 40 := by
  unfold patchR
  split
  · rename_i c
    exact good_len c.2
  · exact Nat.zero_le _
theorem impl_Patch_ev (a : List ByteArray) (h : List IH) (fa : FitS a) (fh : FitI h) : Ev (fun k => impl_Patch.f k a h) (patchR a h) := by
  simp only [impl_Patch.f]
  unfold patchR
  have fin : asked a h = false → Ev (fun k => impl_Patch.j0 k a h true) (if asked a h = true ∧ good (patchH a h) = true then (patchH a h, true) else (([] : List ByteArray), false)) := by
    intro c
    rw [if_neg (fun e => by rw [c] at e; cases e.1)]
    exact Ev.step (fun k => impl_Patch.j0.eq_2 ..) (ev_pos rfl (ev_some rfl))
  refine ev_bind (goodLines_ev a fa) (ev_ite (fun c => ?_) (fun c => ?_))
  · refine ev_bind (goodHunks_ev _ h fh) ?_
    cases g : goodH a.length h with
    | false =>
      refine fin ?_
      unfold asked
      rw [g, Bool.and_false]
    | true =>
      have ca : asked a h = true := by unfold asked; rw [c, g]; rfl
      obtain ⟨c1, c2, c3, c4⟩ := asked_of ca
      refine Ev.step (fun k => impl_Patch.j0.eq_2 ..) (ev_neg (by simp) (ev_bind (patched_ev ca) (ev_bind (goodLines_ev _ (patchFrom_fit fa fh c1 c3 c2 0)) (ev_ite (fun c5 => ev_some ?_) (fun c5 => ev_some ?_)))))
      · rw [if_pos ⟨ca, c5⟩]
      · rw [if_neg (fun e => c5 e.2)]
  · refine fin ?_
    unfold asked
    rw [Bool.not_eq_true] at c
    rw [c, Bool.false_and]
theorem spec_Patch_ev (a : List ByteArray) (h : List IH) (fa : FitS a) (fh : FitI h) : Ev (fun k => spec_Patch.f k a h) (patchR a h) := by
  simp only [spec_Patch.f]
  unfold patchR
  refine ev_bind (l2Asked_ev a h fa fh) (ev_ite (fun ca => ?_) (fun ca => ev_some ?_))
  · obtain ⟨c1, c2, c3, c4⟩ := asked_of ca
    refine ev_bind (l2Patch_ev ca) (ev_bind (l1Good_ev _ (patchFrom_fit fa fh c1 c3 c2 0)) (ev_ite (fun c5 => ev_some ?_) (fun c5 => ev_some ?_)))
    · rw [if_pos (show asked a h = true ∧ good (patchH a h) = true from ⟨ca, c5⟩)]
    · rw [if_neg (show ¬ (asked a h = true ∧ good (patchH a h) = true) from fun e => c5 e.2)]
  · rw [if_neg (show ¬ (asked a h = true ∧ good (patchH a h) = true) from fun e => ca e.1)]
theorem patchR_asked {a : List ByteArray} {h : List IH} (c : (patchR a h).2 = true) : asked a h = true := by
  unfold patchR at c
  split at c
  · rename_i e
    exact e.1
  · cases c
end Go.Proofs.Ytcefenlblnediaa.Pl

/- Plain Lean: lengths, bounds and orders of the lines that stay behind hunks, and of two tellings joined. Asked: hunks in order. -/
namespace Go.Proofs.Ytcefenlblnediaa.Pl
open Go.RowKit Go.Proofs.YtcefenlblnediaaW.PrintWords Go.Proofs.YtcefenlblnediaaW.PrintLast Go.Proofs.Ytcefenlblnediaa.My
set_option linter.unusedVariables false
set_option linter.unusedSimpArgs false

/-- How many lines more. -/
def total : List IH → Int
  | [] => 0
  | x :: t => ((x.f2.length : Int) - x.f1) + total t
theorem chain_mem {n : Int} : ∀ (h : List IH) (p : Int), chain' n p h → ∀ y ∈ h, p < y.f0
  | x :: t, p, hc, y, hy => by
    simp only [chain'] at hc
    rcases List.mem_cons.1 hy with rfl | hy
    · exact hc.1.2.2.2
    · have := chain_mem t _ hc.2 y hy
      omega
theorem kept_len (n : Nat) : ∀ (h : List IH) (p : Nat) (a : Int), chain' (n : Int) a h → (∀ x ∈ h, (p : Int) ≤ x.f0) → p ≤ n → ((keptFrom n p h).length : Int) + p = n + total h
  | [], p, a, _, _, hp => by
    simp only [keptFrom, total, List.length_map, List.length_range']
    omega
  | x :: t, p, a, hc, hf, hp => by
    simp only [chain'] at hc
    have hx := hf x (List.mem_cons_self ..)
    have ih := kept_len n t (x.f0 + x.f1).toNat _ hc.2 (fun y hy => by have := chain_mem t _ hc.2 y hy; omega) (by omega)
    simp only [keptFrom, total, List.length_append, List.length_map, List.length_range', List.length_replicate]
    omega
theorem patch_len (a : List ByteArray) : ∀ (h : List IH) (p : Nat) (q : Int), chain' (a.length : Int) q h → (∀ x ∈ h, (p : Int) ≤ x.f0) → p ≤ a.length → ((patchFrom a p h).length : Int) + p = a.length + total h
  | [], p, q, _, _, hp => by
    simp only [patchFrom, total, List.length_drop]
    omega
  | x :: t, p, q, hc, hf, hp => by
    simp only [chain'] at hc
    have hx := hf x (List.mem_cons_self ..)
    have ih := patch_len a t (x.f0 + x.f1).toNat _ hc.2 (fun y hy => by have := chain_mem t _ hc.2 y hy; omega) (by omega)
    simp only [patchFrom, total, List.length_append, List.length_drop, List.length_take]
    omega
theorem kept_low (n : Nat) : ∀ (h : List IH) (p : Nat) (a : Int), chain' (n : Int) a h → ∀ k ∈ keptFrom n p h, -1 ≤ k ∧ k < n
  | [], p, a, _, k, hk => by
    simp only [keptFrom, List.mem_map, List.mem_range'_1] at hk
    obtain ⟨j, hj, rfl⟩ := hk
    omega
  | x :: t, p, a, hc, k, hk => by
    simp only [chain'] at hc
    simp only [keptFrom, List.mem_append, List.mem_map, List.mem_range'_1, List.mem_replicate] at hk
    rcases hk with ⟨j, hj, rfl⟩ | ⟨_, rfl⟩ | hk
    · omega
    · omega
    · exact kept_low n t _ _ hc.2 k hk
theorem total_low (n : Int) : ∀ (h : List IH) (p : Int), chain' n p h → p ≤ n → p ≤ n + total h
  | [], p, _, hp => by simp only [total]; omega
  | x :: t, p, hc, hp => by
    simp only [chain'] at hc
    have := total_low n t _ hc.2 hc.1.2.2.1
    simp only [total]
    omega
theorem moved_high (n : Int) (i : Int) (hi : i < n) : ∀ (h : List IH) (p : Int), chain' n p h → ∀ m, moved i h = some m → i + m < n + total h
  | [], p, _, m, hm => by simp only [moved, Option.some.injEq] at hm; simp only [total]; omega
  | x :: t, p, hc, m, hm => by
    simp only [chain'] at hc
    simp only [moved] at hm
    simp only [total]
    split at hm
    · obtain ⟨m', h1, h2⟩ := Option.map_eq_some_iff.1 hm
      have := moved_high n i hi t _ hc.2 m' h1
      omega
    · split at hm
      · cases hm
      · rename_i c1 c2
        rw [moved_ahead i t _ hc.2 (by omega)] at hm
        injection hm with hm
        have := total_low n t _ hc.2 hc.1.2.2.1
        omega

theorem staysK_snd : ∀ (l : List Int) (q : Nat), (staysK q l).Pairwise (fun u v => u.2 < v.2) ∧ ∀ z ∈ staysK q l, q ≤ z.2 ∧ z.2 < q + l.length
  | [], q => ⟨List.Pairwise.nil, fun z hz => by cases hz⟩
  | k :: t, q => by
    obtain ⟨h1, h2⟩ := staysK_snd t (q + 1)
    have h3 : ∀ z ∈ staysK (q + 1) t, q ≤ z.2 ∧ z.2 < q + (t.length + 1) := fun z hz => by have := h2 z hz; omega
    simp only [staysK, List.length_cons]
    split
    · refine ⟨List.pairwise_cons.2 ⟨fun z hz => by have := (h2 z hz).1; simp only; omega, h1⟩, fun z hz => ?_⟩
      rcases List.mem_cons.1 hz with rfl | hz
      · simp only; omega
      · exact h3 z hz
    · exact ⟨h1, h3⟩
theorem staysP_fst (h : List IH) : ∀ (d s : Nat), (staysP h (List.range' s d)).Pairwise (fun u v => u.1 < v.1) ∧ ∀ z ∈ staysP h (List.range' s d), s ≤ z.1 ∧ z.1 < s + d
  | 0, s => ⟨List.Pairwise.nil, fun z hz => by cases hz⟩
  | d + 1, s => by
    obtain ⟨h1, h2⟩ := staysP_fst h d (s + 1)
    have h3 : ∀ z ∈ staysP h (List.range' (s + 1) d), s ≤ z.1 ∧ z.1 < s + (d + 1) := fun z hz => by have := h2 z hz; omega
    rw [List.range'_succ, staysP]
    cases hm : moved (s : Int) h with
    | none => exact ⟨h1, h3⟩
    | some m =>
      simp only
      split
      · refine ⟨List.pairwise_cons.2 ⟨fun z hz => by have := (h2 z hz).1; simp only; omega, h1⟩, fun z hz => ?_⟩
        rcases List.mem_cons.1 hz with rfl | hz
        · simp only; omega
        · exact h3 z hz
      · exact ⟨h1, h3⟩
theorem find_stays (h : List IH) (p : Nat) : ∀ (d s : Nat), s ≤ p → p < s + d → (staysP h (List.range' s d)).find? (fun y => y.1 == p) = match moved (p : Int) h with
    | some m => if 0 ≤ (p : Int) + m then some (p, ((p : Int) + m).toNat) else none
    | none => none
  | 0, s, h1, h2 => by omega
  | d + 1, s, h1, h2 => by
    rw [List.range'_succ, staysP]
    by_cases e : s = p
    · subst e
      have hn : (staysP h (List.range' (s + 1) d)).find? (fun y => y.1 == s) = none := List.find?_eq_none.2 (fun z hz => by
        have := ((staysP_fst h d (s + 1)).2 z hz).1
        simp; omega)
      cases hm : moved (s : Int) h with
      | none => simp only; exact hn
      | some m =>
        simp only
        split
        · simp only [List.find?_cons, beq_self_eq_true]
        · exact hn
    · have ih := find_stays h p d (s + 1) (by omega) (by omega)
      cases hm : moved (s : Int) h with
      | none => simp only; exact ih
      | some m =>
        simp only
        split
        · rw [List.find?_cons, show ((s, ((s : Int) + m).toNat).1 == p) = false from by simp [e]]
          exact ih
        · exact ih
theorem find_staysK (k : Nat) : ∀ (l : List Int) (q : Nat) (h1 : q ≤ k) (h2 : k < q + l.length), (staysK q l).find? (fun z => z.2 == k) = if 0 ≤ l[k - q]'(by omega) then some ((l[k - q]'(by omega)).toNat, k) else none
  | [], q, h1, h2 => by simp at h2; omega
  | x :: t, q, h1, h2 => by
    simp only [List.length_cons] at h2
    by_cases e : q = k
    · subst e
      have hn : (staysK (q + 1) t).find? (fun z => z.2 == q) = none := List.find?_eq_none.2 (fun z hz => by
        have := ((staysK_snd t (q + 1)).2 z hz).1
        simp; omega)
      simp only [staysK, Nat.sub_self, List.getElem_cons_zero]
      split
      · simp only [List.find?_cons, beq_self_eq_true]
      · exact hn
    · have ih := find_staysK k t (q + 1) (by omega) (by omega)
      have e2 : (x :: t)[k - q]'(by simp only [List.length_cons]; omega) = t[k - (q + 1)]'(by omega) := by
        rw [List.getElem_cons]
        rw [dif_neg (by omega)]
        congr 1
      rw [e2]
      simp only [staysK]
      split
      · rw [List.find?_cons, show ((x.toNat, q).2 == k) = false from by simp [e]]
        exact ih
      · exact ih
/-- In order on both sides. -/
def Mono (A : List (Nat × Nat)) : Prop := A.Pairwise (fun u v => u.1 < v.1 ∧ u.2 < v.2)
theorem mono_of {A : List (Nat × Nat)} (h1 : A.Pairwise (fun u v => u.1 < v.1)) (h2 : A.Pairwise (fun u v => u.2 < v.2)) : Mono A := h1.and h2
theorem mono_at : ∀ {B : List (Nat × Nat)}, Mono B → ∀ y ∈ B, ∀ y' ∈ B, y.1 < y'.1 → y.2 < y'.2
  | b :: B, hm, y, hy, y', hy', hl => by
    have h := List.pairwise_cons.1 hm
    rcases List.mem_cons.1 hy with rfl | hy2
    · rcases List.mem_cons.1 hy' with rfl | hy3
      · omega
      · exact (h.1 y' hy3).2
    · rcases List.mem_cons.1 hy' with rfl | hy3
      · have := (h.1 y hy2).1
        omega
      · exact mono_at h.2 y hy2 y' hy3 hl
theorem joinA_mem (B : List (Nat × Nat)) : ∀ (A : List (Nat × Nat)), ∀ z ∈ joinA B A, ∃ a ∈ A, ∃ y ∈ B, z = (a.1, y.2) ∧ y.1 = a.2
  | a :: A, z, hz => by
    simp only [joinA] at hz
    have rest : z ∈ joinA B A → ∃ a' ∈ a :: A, ∃ y ∈ B, z = (a'.1, y.2) ∧ y.1 = a'.2 := fun hz => by
      obtain ⟨a', h1, y, h2, h3⟩ := joinA_mem B A z hz
      exact ⟨a', List.mem_cons_of_mem _ h1, y, h2, h3⟩
    cases hf : B.find? (fun y => y.1 == a.2) with
    | none => rw [hf] at hz; exact rest hz
    | some y =>
      rw [hf] at hz
      rcases List.mem_cons.1 hz with rfl | hz
      · exact ⟨a, List.mem_cons_self .., y, List.mem_of_find?_eq_some hf, rfl, by simpa using List.find?_some hf⟩
      · exact rest hz
theorem joinA_mono {B : List (Nat × Nat)} (hB : Mono B) : ∀ {A : List (Nat × Nat)}, Mono A → Mono (joinA B A)
  | [], _ => List.Pairwise.nil
  | a :: A, hA => by
    have h := List.pairwise_cons.1 hA
    simp only [joinA]
    cases hf : B.find? (fun y => y.1 == a.2) with
    | none => exact joinA_mono hB h.2
    | some y =>
      have e1 : y.1 = a.2 := by simpa using List.find?_some hf
      refine List.pairwise_cons.2 ⟨fun z hz => ?_, joinA_mono hB h.2⟩
      obtain ⟨a', h1, y', h2, rfl, e2⟩ := joinA_mem B A z hz
      have h3 := h.1 a' h1
      exact ⟨h3.1, mono_at hB y (List.mem_of_find?_eq_some hf) y' h2 (by omega)⟩

/-- The hunks by which all goes and comes that stands between pairs. -/
def betweenV (n : List ByteArray) : Nat → Nat → List (Nat × Nat) → List IH
  | _, _, [] => []
  | i, j, z :: t => (if i < z.1 ∨ j < z.2 then [(⟨(i : Int), (z.1 : Int) - i, (n.take z.2).drop j⟩ : IH)] else []) ++ betweenV n (z.1 + 1) (z.2 + 1) t
/-- Pairs in order behind i and j. -/
def okP (L N : Nat) : Nat → Nat → List (Nat × Nat) → Prop
  | _, _, [] => True
  | i, j, z :: t => (i ≤ z.1 ∧ j ≤ z.2 ∧ z.1 ≤ L ∧ z.2 ≤ N) ∧ okP L N (z.1 + 1) (z.2 + 1) t
theorem okP_of (L N : Nat) : ∀ (ps : List (Nat × Nat)) (i j : Nat), Mono ps → (∀ z ∈ ps, i ≤ z.1 ∧ j ≤ z.2 ∧ z.1 < L ∧ z.2 < N) → i ≤ L → j ≤ N → okP L N i j (ps ++ [(L, N)])
  | [], i, j, _, _, hi, hj => ⟨⟨hi, hj, Nat.le_refl _, Nat.le_refl _⟩, trivial⟩
  | z :: t, i, j, hm, hb, hi, hj => by
    have h := List.pairwise_cons.1 hm
    have hz := hb z (List.mem_cons_self ..)
    simp only [List.cons_append, okP]
    refine ⟨by omega, okP_of L N t _ _ h.2 (fun y hy => ?_) (by omega) (by omega)⟩
    have h1 := h.1 y hy
    have h2 := hb y (List.mem_cons_of_mem _ hy)
    omega
end Go.Proofs.Ytcefenlblnediaa.Pl

/- Written by this session's program (wip/gen): a plain function with the same answers as the Go function, and the proof that the Go code comes to them. Asked: that the plain function has an answer. -/
namespace Go.Proofs.Ytcefenlblnediaa.My
open Go.RowKit Go.Proofs.YtcefenlblnediaaW.PrintWords Go.Proofs.YtcefenlblnediaaW.PrintLast Go.Proofs.YtcefenlblnediaaW.PrintMore
attribute [local go_sem] max2_int min2_int max_two min_two max_three min_three max_four min_four
set_option linter.unusedVariables false
set_option linter.unusedSimpArgs false

/-! ### spec_PlaceOf: function 45 -/
def spec_PlaceOf.f (k : Nat) (l0 : List (S111)) (a1 : Int) (a2 : Int) : Option (Int × Bool) := (spec_l2Hunks.f k a1 l0).bind fun t916 => (if t916 = true then ((spec_l1In.f a2 0 a1).bind fun t917 => (if t917 = true then ((spec_l2Place.f k l0 a2).bind fun t918 => (if t918 < 0 then (some (0, false)) else ((spec_l2Place.f k l0 a2).bind fun t919 => (some (t919, true))))) else (some (0, false)))) else (some (0, false)))
set_option maxHeartbeats 8000000 in
set_option maxRecDepth 100000 in
theorem spec_PlaceOf.calls (k : Nat) (A0 : Option Addr) (c0 : Nat) (l0 : List (S111)) (a1 : Int) (a2 : Int) (r1 : Int) (r2 : Bool) (w : World) (hr0 : Kd.C k111 w A0 l0.length l0) (hc0 : l0.length ≤ c0) (h : spec_PlaceOf.f k l0 a1 a2 = some (r1, r2)) :
  Calls Try.prog 45 #[.slice A0 l0.length c0, .int .i64 a1, .int .i64 a2] w fun e w' => e = .returned (.tuple #[.int .i64 r1, .bool r2]) ∧ Below w.heap.size w w' := by
 have HR0 := Aside0.mk hr0
 have HC0 := Aside0.mk hc0
 clear hr0 hc0
 have HB := Aside0.mk (Below.refl w.heap.size w)
 have H : ((spec_l2Hunks.f k a1 l0).bind fun t916 => (if t916 = true then ((spec_l1In.f a2 0 a1).bind fun t917 => (if t917 = true then ((spec_l2Place.f k l0 a2).bind fun t918 => (if t918 < 0 then (some (0, false)) else ((spec_l2Place.f k l0 a2).bind fun t919 => (some (t919, true))))) else (some (0, false)))) else (some (0, false)))) = some (r1, r2) := h
 clear h
 replace H := Option.bind_eq_some_iff.mp H
 obtain ⟨t916, A40, H⟩ := H
 replace H : (if t916 = true then ((spec_l1In.f a2 0 a1).bind fun t917 => (if t917 = true then ((spec_l2Place.f k l0 a2).bind fun t918 => (if t918 < 0 then (some (0, false)) else ((spec_l2Place.f k l0 a2).bind fun t919 => (some (t919, true))))) else (some (0, false)))) else (some (0, false))) = some (r1, r2) := H
 have A4 := Aside0.mk A40
 clear A40
 by_cases c5 : t916 = true
 ·subst c5
  have H1 : ((spec_l1In.f a2 0 a1).bind fun t917 => (if t917 = true then ((spec_l2Place.f k l0 a2).bind fun t918 => (if t918 < 0 then (some (0, false)) else ((spec_l2Place.f k l0 a2).bind fun t919 => (some (t919, true))))) else (some (0, false)))) = some (r1, r2) := by rw [if_pos rfl] at H; exact H
  clear H
  have H := H1
  clear H1
  replace H := Option.bind_eq_some_iff.mp H
  obtain ⟨t917, A60, H⟩ := H
  replace H : (if t917 = true then ((spec_l2Place.f k l0 a2).bind fun t918 => (if t918 < 0 then (some (0, false)) else ((spec_l2Place.f k l0 a2).bind fun t919 => (some (t919, true))))) else (some (0, false))) = some (r1, r2) := H
  have A6 := Aside0.mk A60
  clear A60
  by_cases c7 : t917 = true
  ·subst c7
   have H1 : ((spec_l2Place.f k l0 a2).bind fun t918 => (if t918 < 0 then (some (0, false)) else ((spec_l2Place.f k l0 a2).bind fun t919 => (some (t919, true))))) = some (r1, r2) := by rw [if_pos rfl] at H; exact H
   clear H
   have H := H1
   clear H1
   replace H := Option.bind_eq_some_iff.mp H
   obtain ⟨t918, A80, H⟩ := H
   replace H : (if t918 < 0 then (some (0, false)) else ((spec_l2Place.f k l0 a2).bind fun t919 => (some (t919, true)))) = some (r1, r2) := H
   have A8 := Aside0.mk A80
   clear A80
   by_cases c9 : t918 < 0
   ·rw [if_pos c9] at H
    have c9b0 : decide (t918 < 0) = true := decide_eq_true c9
    clear c9
    simp only [Option.some.injEq, Prod.mk.injEq] at H
    obtain ⟨rfl, rfl⟩ := H
    go_enter Try.func45, Try.ntmps45
    go_wp2_with (first | ((with_reducible refine gateC (f := 92) rfl ?_); refine goesL_ (some 10) rfl rfl Try.func92 (by kernel_rfl) rfl #[.int .i64 a1, .slice A0 l0.length c0] rfl zm ?_; (with_reducible refine (spec_l2Hunks.calls k a1 _ _ l0 true _ ?side1 ?side2 A4.out).mono ?_); (case side1 => exact zq HR0.out); (case side2 => exact HC0.out); rintro e w10 ⟨rfl, hb⟩; refine ⟨_, rfl, ?_⟩; have n0_ := Aside0.mk (below_step zb hb); clear HB; have HB := n0_; clear n0_; (try clear hb); (try clear hb2); (try clear hk); (try clear hi)) | (go_at_call 114; (with_reducible refine (spec_l1In.calls a2 0 a1 true _ A6.out).mono ?_); rintro e w' ⟨rfl, ⟨nd, rfl⟩⟩) | (go_at_call 90; (with_reducible refine (spec_l2Place.calls k _ _ l0 a2 t918 _ ?side1 ?side2 A8.out).mono ?_); (case side1 => repeat (first | exact (Kd.C_below HR0.out zb) | (with_reducible refine Kd.C_alloc ?_ _) | (with_reducible refine Kd.C_drewN ?_ _) | (with_reducible refine Kd.C_drew ?_))); (case side2 => exact HC0.out); rintro e w11 ⟨rfl, hb⟩; have n0_ := Aside0.mk (below_step zb hb); clear HB; have HB := n0_; clear n0_; (try clear hb); (try clear hb2); (try clear hk); (try clear hi)))
    go_ret2
    exact ⟨by first | rfl | (simp [errW_none, errW_some] <;> rfl) | (simp [*, errW_none, errW_some] <;> rfl), by repeat (first | (with_reducible first | exact HB.out | apply below_alloc | apply pw_below_drewN | apply below_drew1) | exact HB.out)⟩
   ·rw [if_neg c9] at H
    have c9b0 : decide (t918 < 0) = false := decide_eq_false c9
    clear c9
    replace H := Option.bind_eq_some_iff.mp H
    obtain ⟨t919, A120, H⟩ := H
    replace H : (some (t919, true)) = some (r1, r2) := H
    have A12 := Aside0.mk A120
    clear A120
    simp only [Option.some.injEq, Prod.mk.injEq] at H
    obtain ⟨rfl, rfl⟩ := H
    go_enter Try.func45, Try.ntmps45
    go_wp2_with (first | ((with_reducible refine gateC (f := 92) rfl ?_); refine goesL_ (some 10) rfl rfl Try.func92 (by kernel_rfl) rfl #[.int .i64 a1, .slice A0 l0.length c0] rfl zm ?_; (with_reducible refine (spec_l2Hunks.calls k a1 _ _ l0 true _ ?side1 ?side2 A4.out).mono ?_); (case side1 => exact zq HR0.out); (case side2 => exact HC0.out); rintro e w13 ⟨rfl, hb⟩; refine ⟨_, rfl, ?_⟩; have n0_ := Aside0.mk (below_step zb hb); clear HB; have HB := n0_; clear n0_; (try clear hb); (try clear hb2); (try clear hk); (try clear hi)) | (go_at_call 114; (with_reducible refine (spec_l1In.calls a2 0 a1 true _ A6.out).mono ?_); rintro e w' ⟨rfl, ⟨nd, rfl⟩⟩) | (go_at_call 90; (with_reducible refine (spec_l2Place.calls k _ _ l0 a2 t918 _ ?side1 ?side2 A8.out).mono ?_); (case side1 => repeat (first | exact (Kd.C_below HR0.out zb) | (with_reducible refine Kd.C_alloc ?_ _) | (with_reducible refine Kd.C_drewN ?_ _) | (with_reducible refine Kd.C_drew ?_))); (case side2 => exact HC0.out); rintro e w14 ⟨rfl, hb⟩; have n0_ := Aside0.mk (below_step zb hb); clear HB; have HB := n0_; clear n0_; (try clear hb); (try clear hb2); (try clear hk); (try clear hi)) | ((with_reducible refine gateC (f := 90) rfl ?_); refine goesL_ (some 26) rfl rfl Try.func90 (by kernel_rfl) rfl #[.slice A0 l0.length c0, .int .i64 a2] rfl zm ?_; (with_reducible refine (spec_l2Place.calls k _ _ l0 a2 t919 _ ?side1 ?side2 A12.out).mono ?_); (case side1 => exact zq (Kd.C_below HR0.out HB.out)); (case side2 => exact HC0.out); rintro e w15 ⟨rfl, hb⟩; refine ⟨_, rfl, ?_⟩; have n0_ := Aside0.mk (below_step zb hb); clear HB; have HB := n0_; clear n0_; (try clear hb); (try clear hb2); (try clear hk); (try clear hi)))
    go_ret2
    exact ⟨by first | rfl | (simp [errW_none, errW_some] <;> rfl) | (simp [*, errW_none, errW_some] <;> rfl), by repeat (first | (with_reducible first | exact HB.out | apply below_alloc | apply pw_below_drewN | apply below_drew1) | exact HB.out)⟩
  ·replace c7 := Bool.eq_false_iff.mpr c7
   subst c7
   have H1 : (some (0, false)) = some (r1, r2) := by rw [if_neg (show ¬ (false = true) by decide)] at H; exact H
   clear H
   have H := H1
   clear H1
   simp only [Option.some.injEq, Prod.mk.injEq] at H
   obtain ⟨rfl, rfl⟩ := H
   go_enter Try.func45, Try.ntmps45
   go_wp2_with (first | ((with_reducible refine gateC (f := 92) rfl ?_); refine goesL_ (some 10) rfl rfl Try.func92 (by kernel_rfl) rfl #[.int .i64 a1, .slice A0 l0.length c0] rfl zm ?_; (with_reducible refine (spec_l2Hunks.calls k a1 _ _ l0 true _ ?side1 ?side2 A4.out).mono ?_); (case side1 => exact zq HR0.out); (case side2 => exact HC0.out); rintro e w16 ⟨rfl, hb⟩; refine ⟨_, rfl, ?_⟩; have n0_ := Aside0.mk (below_step zb hb); clear HB; have HB := n0_; clear n0_; (try clear hb); (try clear hb2); (try clear hk); (try clear hi)) | (go_at_call 114; (with_reducible refine (spec_l1In.calls a2 0 a1 false _ A6.out).mono ?_); rintro e w' ⟨rfl, ⟨nd, rfl⟩⟩))
   go_ret2
   exact ⟨by first | rfl | (simp [errW_none, errW_some] <;> rfl) | (simp [*, errW_none, errW_some] <;> rfl), by repeat (first | (with_reducible first | exact HB.out | apply below_alloc | apply pw_below_drewN | apply below_drew1) | exact HB.out)⟩
 ·replace c5 := Bool.eq_false_iff.mpr c5
  subst c5
  have H1 : (some (0, false)) = some (r1, r2) := by rw [if_neg (show ¬ (false = true) by decide)] at H; exact H
  clear H
  have H := H1
  clear H1
  simp only [Option.some.injEq, Prod.mk.injEq] at H
  obtain ⟨rfl, rfl⟩ := H
  go_enter Try.func45, Try.ntmps45
  go_wp2_with (first | ((with_reducible refine gateC (f := 92) rfl ?_); refine goesL_ (some 10) rfl rfl Try.func92 (by kernel_rfl) rfl #[.int .i64 a1, .slice A0 l0.length c0] rfl zm ?_; (with_reducible refine (spec_l2Hunks.calls k a1 _ _ l0 false _ ?side1 ?side2 A4.out).mono ?_); (case side1 => exact zq HR0.out); (case side2 => exact HC0.out); rintro e w17 ⟨rfl, hb⟩; refine ⟨_, rfl, ?_⟩; have n0_ := Aside0.mk (below_step zb hb); clear HB; have HB := n0_; clear n0_; (try clear hb); (try clear hb2); (try clear hk); (try clear hi)))
  go_ret2
  exact ⟨by first | rfl | (simp [errW_none, errW_some] <;> rfl) | (simp [*, errW_none, errW_some] <;> rfl), by repeat (first | (with_reducible first | exact HB.out | apply below_alloc | apply pw_below_drewN | apply below_drew1) | exact HB.out)⟩

end Go.Proofs.Ytcefenlblnediaa.My

/- Plain Lean: chapter 2: where a line comes to lie, for the program and the reference. Conditions: lengths and sizes below 2^63. -/
namespace Go.Proofs.Ytcefenlblnediaa.Pl
open Go.RowKit Go.Proofs.YtcefenlblnediaaW.PrintWords Go.Proofs.YtcefenlblnediaaW.PrintLast Go.Proofs.Ytcefenlblnediaa.My
set_option linter.unusedVariables false
set_option linter.unusedSimpArgs false

theorem place_l0 (n : Int) (h : List IH) (i : Int) (hn : near h) (hl : h.length ≤ 20) (h0 : 0 ≤ i) (h1 : i ≤ 40) : ∀ d r (a : Int), r + d = h.length → -40 * (r : Int) ≤ a - i → a - i ≤ 40 * (r : Int) →
    Ev (fun k => impl_PlaceOf.l0 k i a h (h.length : Int) (r : Int)) (match moved i (h.drop r) with | some m => (a + m, true) | none => (0, false)) := by
  intro d
  induction d with
  | zero =>
    intro r a hr ha hb
    refine Ev.step (fun k => impl_PlaceOf.l0.eq_2 ..) (ev_neg (by omega) (ev_some ?_))
    rw [List.drop_of_length_le (by omega)]
    simp [moved]
  | succ d ih =>
    intro r a hr ha hb
    have hlt : r < h.length := by omega
    obtain ⟨q0, q1, q2, q3, q4⟩ := hn _ (List.getElem_mem hlt)
    refine Ev.step (fun k => impl_PlaceOf.l0.eq_2 ..) ?_
    simp only [rdIH h r hlt]
    rw [List.drop_eq_getElem_cons hlt]
    simp only [moved]
    rw [wrap64_id (x := h[r].f0 + h[r].f1) (by omega) (by omega), wrap64_id (x := (h[r].f2.length : Int) - h[r].f1) (by omega) (by omega), wrap64_id (x := a + ((h[r].f2.length : Int) - h[r].f1)) (by omega) (by omega), wrap_succ r (by omega)]
    refine ev_pos (by omega) (ev_pos (by omega) (ev_pos (by omega) (ev_ite (fun c => ?_) (fun c => ev_ite (fun c' => ev_some ?_) (fun c' => ?_)))))
    · rw [if_pos c]
      refine ev_to (ih (r + 1) _ (by omega) (by omega) (by omega)) ?_
      cases moved i (h.drop (r + 1)) with
      | none => rfl
      | some m => simp only [Option.map_some, Prod.mk.injEq, and_true]; omega
    · rw [if_neg c, if_pos c']
    · rw [if_neg c, if_neg c']
      exact ih (r + 1) a (by omega) (by omega) (by omega)

theorem l2Place_l0 (h : List IH) (i : Int) (hn : near h) (hl : h.length ≤ 20) (h0 : 0 ≤ i) (h1 : i ≤ 40) : ∀ d r (a : Int), r + d = h.length → -40 * (r : Int) ≤ a → a ≤ 40 * (r : Int) →
    Ev (fun k => spec_l2Place.l0 k i a h (h.length : Int) (r : Int)) (match moved i (h.drop r) with | some m => i + (a + m) | none => -1) := by
  intro d
  induction d with
  | zero =>
    intro r a hr ha hb
    refine Ev.step (fun k => spec_l2Place.l0.eq_2 ..) (ev_neg (by omega) (ev_some ?_))
    rw [List.drop_of_length_le (by omega), wrap64_id (by omega) (by omega)]
    simp [moved]
  | succ d ih =>
    intro r a hr ha hb
    have hlt : r < h.length := by omega
    obtain ⟨q0, q1, q2, q3, q4⟩ := hn _ (List.getElem_mem hlt)
    refine Ev.step (fun k => spec_l2Place.l0.eq_2 ..) ?_
    simp only [rdIH h r hlt]
    rw [List.drop_eq_getElem_cons hlt]
    simp only [moved]
    rw [wrap64_id (x := h[r].f0 + h[r].f1) (by omega) (by omega), wrap64_id (x := (h[r].f2.length : Int) - h[r].f1) (by omega) (by omega), wrap64_id (x := a + ((h[r].f2.length : Int) - h[r].f1)) (by omega) (by omega), wrap_succ r (by omega)]
    refine ev_pos (by omega) (ev_pos (by omega) (ev_pos (by omega) (ev_ite (fun c => ?_) (fun c => ev_ite (fun c' => ev_some ?_) (fun c' => ?_)))))
    · rw [if_pos c]
      refine ev_to (ih (r + 1) _ (by omega) (by omega) (by omega)) ?_
      cases moved i (h.drop (r + 1)) with
      | none => rfl
      | some m => simp only [Option.map_some]; omega
    · rw [if_neg c, if_pos c']
    · rw [if_neg c, if_neg c']
      exact ih (r + 1) a (by omega) (by omega) (by omega)

theorem moved_zero (n i : Int) : ∀ (t : List IH) (p : Int), i < p → chain n p t = true → ∀ m, moved i t = some m → m = 0 := by
  intro t
  induction t with
  | nil => intro p _ _ m hm; simp only [moved, Option.some.injEq] at hm; omega
  | cons z t iht =>
    intro p hp hc m hm
    simp only [chain, Bool.and_eq_true, hOK, decide_eq_true_eq] at hc
    obtain ⟨⟨⟨r0, r1, r2, r3, r4, r5⟩, _⟩, hc'⟩ := hc
    simp only [moved] at hm
    rw [if_neg (by omega), if_neg (by omega)] at hm
    exact iht _ (by omega) hc' m hm
/-- A place is never below zero: what is gone ahead of line i lies ahead of it. -/
theorem moved_ge (n i : Int) : ∀ (h : List IH) (p : Int), chain n p h = true → p ≤ i → ∀ m, moved i h = some m → p ≤ i + m := by
  intro h
  induction h with
  | nil => intro p _ hp m hm; simp only [moved, Option.some.injEq] at hm; omega
  | cons y t ih =>
    intro p hc hp m hm
    simp only [chain, Bool.and_eq_true, hOK, decide_eq_true_eq] at hc
    obtain ⟨⟨⟨q0, q1, q2, q3, q4, q5⟩, _⟩, hc'⟩ := hc
    simp only [moved] at hm
    split at hm
    · obtain ⟨m', e1, e2⟩ := Option.map_eq_some_iff.1 hm
      have := ih _ hc' (by omega) m' e1
      omega
    · split at hm
      · simp at hm
      · rename_i c1 c2
        have := moved_zero n i t _ (by omega) hc' m hm
        omega

theorem moved_nonneg (n i : Int) (h : List IH) (hc : chain n (-1) h = true) (h0 : 0 ≤ i) (m : Int) (hm : moved i h = some m) : 0 ≤ i + m := by
  cases h with
  | nil => simp only [moved, Option.some.injEq] at hm; omega
  | cons y t =>
    simp only [chain, Bool.and_eq_true, hOK, decide_eq_true_eq] at hc
    obtain ⟨⟨⟨q0, q1, q2, q3, q4, q5⟩, _⟩, hc'⟩ := hc
    simp only [moved] at hm
    split at hm
    · obtain ⟨m', e1, e2⟩ := Option.map_eq_some_iff.1 hm
      have := moved_ge n i t _ hc' (by omega) m' e1
      omega
    · split at hm
      · simp at hm
      · have := moved_zero n i t _ (by omega) hc' m hm
        omega

def placed (h : List IH) (n i : Int) : Int × Bool := if goodH n h = true ∧ inB i 0 n = true then (match moved i h with | some m => (i + m, true) | none => (0, false)) else (0, false)

theorem impl_PlaceOf_ev (h : List IH) (n i : Int) (hf : FitI h) : Ev (fun k => impl_PlaceOf.f k h n i) (placed h n i) := by
  simp only [impl_PlaceOf.f, impl_in_eq, Option.bind_some]
  unfold placed
  refine ev_bind (goodHunks_ev n h hf) (ev_ite (fun g => Ev.step (fun k => impl_PlaceOf.j0.eq_2 ..) ?_) (fun g => Ev.step (fun k => impl_PlaceOf.j0.eq_2 ..) (ev_pos rfl (ev_some ?_))))
  · by_cases c : inB i 0 n = true
    · obtain ⟨g1, g2, g3, g4⟩ := near_of_good g
      have c' := (inB_iff _ _ _).1 c
      rw [if_pos ⟨g, c⟩, c]
      refine ev_neg (by simp) ?_
      exact place_l0 n h i g1 g2 c'.1 (by omega) h.length 0 i (by omega) (by omega) (by omega)
    · rw [if_neg (fun e => c e.2)]
      rw [Bool.not_eq_true] at c
      rw [c]
      exact ev_pos rfl (ev_some rfl)
  · rw [if_neg (fun e => g e.1)]

theorem spec_PlaceOf_ev (h : List IH) (n i : Int) (hf : FitI h) (hn0 : -9223372036854775808 ≤ n) (hn : n ≤ 9223372036854775807) : Ev (fun k => spec_PlaceOf.f k h n i) (placed h n i) := by
  simp only [spec_PlaceOf.f, spec_l1In_eq, Option.bind_some]
  unfold placed
  refine ev_bind (l2Hunks_ev n h hf hn0 hn) (ev_ite (fun g => ev_ite (fun c => ?_) (fun c => ev_some ?_)) (fun g => ev_some ?_))
  · obtain ⟨g1, g2, g3, g4⟩ := near_of_good g
    have c' := (inB_iff _ _ _).1 c
    rw [if_pos (show goodH n h = true ∧ inB i 0 n = true from ⟨g, c⟩)]
    have e : Ev (fun k => spec_l2Place.f k h i) (match moved i h with | some m => i + m | none => -1) := by
      simp only [spec_l2Place.f]
      refine ev_to (l2Place_l0 h i g1 g2 c'.1 (by omega) h.length 0 0 (by omega) (by omega) (by omega)) ?_
      rw [List.drop_zero]
      cases moved i h with
      | none => rfl
      | some m => simp
    have gc : chain n (-1) h = true := by
      unfold goodH at g
      rw [Bool.and_eq_true, Bool.and_eq_true] at g
      exact g.2.2
    cases hm : moved i h with
    | none =>
      rw [hm] at e
      exact ev_bind e (ev_pos (by simp) (ev_some rfl))
    | some m =>
      rw [hm] at e
      have : 0 ≤ i + m := moved_nonneg n i h gc c'.1 m hm
      exact ev_bind e (ev_neg (by simp only; omega) (ev_bind e (ev_some rfl)))
  · rw [if_neg (fun e => c e.2)]
  · rw [if_neg (fun e => g e.1)]
end Go.Proofs.Ytcefenlblnediaa.Pl

/- Plain Lean: copies of lists of strings. Condition: lengths below 2^43. -/
namespace Go.Proofs.Ytcefenlblnediaa.Pl
open Go.RowKit Go.Proofs.YtcefenlblnediaaW.PrintWords Go.Proofs.YtcefenlblnediaaW.PrintLast Go.Proofs.Ytcefenlblnediaa.My
set_option linter.unusedVariables false
set_option linter.unusedSimpArgs false

theorem cloneT_eq (l : List ByteArray) (h : l.length < 8796093022208) : slices_Clone_string_string.f l = some l := by
  unfold slices_Clone_string_string.f
  simp [h]
theorem ownT_eq (l : List ByteArray) (h : l.length < 8796093022208) : spec_l1OwnT.f l = some l := by
  unfold spec_l1OwnT.f
  simp [h]
end Go.Proofs.Ytcefenlblnediaa.Pl

/- Plain Lean: what both JoinHunks come to. Asked: lists that fit. -/
namespace Go.Proofs.Ytcefenlblnediaa.Pl
open Go.RowKit Go.Proofs.YtcefenlblnediaaW.PrintWords Go.Proofs.YtcefenlblnediaaW.PrintLast Go.Proofs.Ytcefenlblnediaa.My
set_option linter.unusedVariables false
set_option linter.unusedSimpArgs false

abbrev IP := S109
def toIP (z : Nat × Nat) : IP := ⟨(z.1 : Int), (z.2 : Int)⟩
def toLs (z : Nat × Nat) : List Int := [(z.1 : Int), (z.2 : Int)]
theorem rdJ (xs : List Int) (i : Nat) (h : i < xs.length) : rd xs (i : Int) = xs[i] := getD_lt xs 0 i h
theorem rdIP (ps : List (Nat × Nat)) (i : Nat) (h : i < ps.length) : rd_T109 (ps.map toIP) (i : Int) = toIP ps[i] := by
  rw [show rd_T109 (ps.map toIP) (i : Int) = (ps.map toIP)[i]'(by rw [List.length_map]; exact h) from getD_lt _ _ i (by rw [List.length_map]; exact h), List.getElem_map]
theorem rdLs (ps : List (Nat × Nat)) (i : Nat) (h : i < ps.length) : rd_L12 (ps.map toLs) (i : Int) = toLs ps[i] := by
  rw [show rd_L12 (ps.map toLs) (i : Int) = (ps.map toLs)[i]'(by rw [List.length_map]; exact h) from getD_lt _ _ i (by rw [List.length_map]; exact h), List.getElem_map]
theorem l2Place_ev (h : List IH) (i : Nat) (hn : near h) (hl : h.length ≤ 20) (h1 : i ≤ 40) : Ev (fun k => spec_l2Place.f k h (i : Int)) (match moved (i : Int) h with | some m => (i : Int) + m | none => -1) := by
  simp only [spec_l2Place.f]
  refine ev_to (l2Place_l0 h i hn hl (by omega) (by omega) h.length 0 0 (by omega) (by omega) (by omega)) ?_
  rw [List.drop_zero]
  cases moved (i : Int) h with
  | none => rfl
  | some m => simp

theorem l2Join_l0 (n : List ByteArray) (hN : n.length ≤ 2000) (ps : List (Nat × Nat)) (hp : ps.length ≤ 100) : ∀ d r (i j : Nat) (acc : List IH), r + d = ps.length → okP 40 n.length i j (ps.drop r) → acc.length ≤ r → i ≤ 41 → j ≤ n.length + 1 →
    Ev (fun k => spec_l2Join.l0 k n acc (i : Int) (j : Int) (ps.map toIP) (ps.length : Int) (r : Int)) (acc ++ betweenV n i j (ps.drop r)) := by
  intro d
  induction d with
  | zero =>
    intro r i j acc hr ho ha hi hj
    refine Ev.step (fun k => spec_l2Join.l0.eq_2 ..) (ev_neg (by omega) (ev_some ?_))
    rw [List.drop_eq_nil_of_le (by omega)]
    simp only [betweenV, List.append_nil]
  | succ d ih =>
    intro r i j acc hr ho ha hi hj
    have hlt : r < ps.length := by omega
    have e : ps.drop r = ps[r] :: ps.drop (r + 1) := List.drop_eq_getElem_cons hlt
    rw [e] at ho ⊢
    simp only [okP] at ho
    obtain ⟨⟨o1, o2, o3, o4⟩, o5⟩ := ho
    have hown : ((n.take ps[r].2).drop j).length < 8796093022208 := by rw [List.length_drop, List.length_take]; omega
    refine Ev.step (fun k => spec_l2Join.l0.eq_2 ..) ?_
    simp only [rdIP ps r hlt, toIP, Int.toNat_natCast, ownT_eq _ hown, Option.bind_some, List.length_map]
    rw [wrap_succ r (by omega), wrap_succ ps[r].1 (by omega), wrap_succ ps[r].2 (by omega), wrap64_id (x := (ps[r].1 : Int) - (i : Int)) (by omega) (by omega)]
    refine ev_pos (by omega) (ev_pos (by omega) (ev_pos (by omega) ?_))
    have go : ∀ acc' : List IH, acc'.length ≤ r + 1 → Ev (fun k => spec_l2Join.l0 k n acc' ((ps[r].1 + 1 : Nat) : Int) ((ps[r].2 + 1 : Nat) : Int) (ps.map toIP) (ps.length : Int) ((r + 1 : Nat) : Int)) (acc' ++ betweenV n (ps[r].1 + 1) (ps[r].2 + 1) (ps.drop (r + 1))) := fun acc' h' => ih (r + 1) _ _ acc' (by omega) o5 h' (by omega) (by omega)
    refine ev_ite (fun c => ev_pos (by omega) (ev_pos (by omega) (ev_pos (by omega) (ev_pos (by omega) ?_)))) (fun c => ev_ite (fun c2 => ev_pos (by omega) (ev_pos (by omega) (ev_pos (by omega) (ev_pos (by omega) ?_)))) (fun c2 => ?_))
    · refine ev_to (go _ (by rw [List.length_append, List.length_singleton]; omega)) ?_
      simp only [betweenV]
      rw [if_pos (by omega), List.append_assoc]
    · refine ev_to (go _ (by rw [List.length_append, List.length_singleton]; omega)) ?_
      simp only [betweenV]
      rw [if_pos (by omega), List.append_assoc]
    · refine ev_to (go _ (by omega)) ?_
      simp only [betweenV]
      rw [if_neg (by omega), List.nil_append]
theorem between_l0 (n : List ByteArray) (hN : n.length ≤ 2000) (ps : List (Nat × Nat)) (hp : ps.length ≤ 100) : ∀ d r (i j : Nat) (acc : List IH), r + d = ps.length → okP 40 n.length i j (ps.drop r) → acc.length ≤ r → i ≤ 41 → j ≤ n.length + 1 →
    Ev (fun k => impl_between.l0 k n acc (i : Int) (j : Int) (ps.map toLs) (ps.length : Int) (r : Int)) (acc ++ betweenV n i j (ps.drop r)) := by
  intro d
  induction d with
  | zero =>
    intro r i j acc hr ho ha hi hj
    refine Ev.step (fun k => impl_between.l0.eq_2 ..) (ev_neg (by omega) (ev_some ?_))
    rw [List.drop_eq_nil_of_le (by omega)]
    simp only [betweenV, List.append_nil]
  | succ d ih =>
    intro r i j acc hr ho ha hi hj
    have hlt : r < ps.length := by omega
    have e : ps.drop r = ps[r] :: ps.drop (r + 1) := List.drop_eq_getElem_cons hlt
    rw [e] at ho ⊢
    simp only [okP] at ho
    obtain ⟨⟨o1, o2, o3, o4⟩, o5⟩ := ho
    have hown : ((n.take ps[r].2).drop j).length < 8796093022208 := by rw [List.length_drop, List.length_take]; omega
    refine Ev.step (fun k => impl_between.l0.eq_2 ..) ?_
    simp only [rdLs ps r hlt, show rd (toLs ps[r]) 0 = (ps[r].1 : Int) from rfl, show rd (toLs ps[r]) 1 = (ps[r].2 : Int) from rfl, show (toLs ps[r]).length = 2 from rfl, Int.toNat_natCast, cloneT_eq _ hown, Option.bind_some, List.length_map]
    rw [wrap_succ r (by omega), wrap_succ ps[r].1 (by omega), wrap_succ ps[r].2 (by omega), wrap64_id (x := (ps[r].1 : Int) - (i : Int)) (by omega) (by omega)]
    refine ev_pos (by omega) (ev_pos (by omega) (ev_pos (by omega) (ev_pos (by omega) ?_)))
    have go : ∀ acc' : List IH, acc'.length ≤ r + 1 → Ev (fun k => impl_between.l0 k n acc' ((ps[r].1 + 1 : Nat) : Int) ((ps[r].2 + 1 : Nat) : Int) (ps.map toLs) (ps.length : Int) ((r + 1 : Nat) : Int)) (acc' ++ betweenV n (ps[r].1 + 1) (ps[r].2 + 1) (ps.drop (r + 1))) := fun acc' h' => ih (r + 1) _ _ acc' (by omega) o5 h' (by omega) (by omega)
    refine ev_ite (fun c => ev_pos (by omega) (ev_pos (by omega) (ev_pos (by omega) (ev_pos (by omega) (ev_pos (by omega) ?_))))) (fun c => ev_pos (by omega) (ev_ite (fun c2 => ev_pos (by omega) (ev_pos (by omega) (ev_pos (by omega) (ev_pos (by omega) ?_)))) (fun c2 => ?_)))
    · refine ev_to (go _ (by rw [List.length_append, List.length_singleton]; omega)) ?_
      simp only [betweenV]
      rw [if_pos (by omega), List.append_assoc]
    · refine ev_to (go _ (by rw [List.length_append, List.length_singleton]; omega)) ?_
      simp only [betweenV]
      rw [if_pos (by omega), List.append_assoc]
    · refine ev_to (go _ (by omega)) ?_
      simp only [betweenV]
      rw [if_neg (by omega), List.nil_append]

theorem l2Join_ev (l last : List ByteArray) (ps : List (Nat × Nat)) (hN : last.length ≤ 2000) (hp : ps.length ≤ 99) (ho : okP 40 last.length 0 0 (ps ++ [(l.length, last.length)])) : Ev (fun k => spec_l2Join.f k l last (ps.map toIP)) (betweenV last 0 0 (ps ++ [(l.length, last.length)])) := by
  simp only [spec_l2Join.f]
  refine ev_pos (by rw [List.length_map]; omega) ?_
  have e : ps.map toIP ++ [(⟨(l.length : Int), (last.length : Int)⟩ : IP)] = (ps ++ [(l.length, last.length)]).map toIP := by rw [List.map_append]; rfl
  rw [e]
  refine ev_bind (ev_some rfl) ?_
  rw [List.length_map]
  exact l2Join_l0 last hN (ps ++ [(l.length, last.length)]) (by rw [List.length_append, List.length_singleton]; omega) (ps ++ [(l.length, last.length)]).length 0 0 0 [] (by omega) ho (Nat.zero_le _) (by omega) (by omega)
theorem between_ev (l last : List ByteArray) (ps : List (Nat × Nat)) (hN : last.length ≤ 2000) (hp : ps.length ≤ 99) (ho : okP 40 last.length 0 0 (ps ++ [(l.length, last.length)])) : Ev (fun k => impl_between.f k l last (ps.map toLs)) (betweenV last 0 0 (ps ++ [(l.length, last.length)])) := by
  simp only [impl_between.f]
  refine ev_pos (by rw [List.length_map]; omega) ?_
  have e : ps.map toLs ++ [([(l.length : Int), (last.length : Int)] : List Int)] = (ps ++ [(l.length, last.length)]).map toLs := by rw [List.map_append]; rfl
  rw [e]
  refine ev_bind (ev_some rfl) ?_
  rw [List.length_map]
  exact between_l0 last hN (ps ++ [(l.length, last.length)]) (by rw [List.length_append, List.length_singleton]; omega) (ps ++ [(l.length, last.length)]).length 0 0 0 [] (by omega) ho (Nat.zero_le _) (by omega) (by omega)

theorem okP_up {L L' : Nat} (h : L ≤ L') (N : Nat) : ∀ (i j : Nat) (ps : List (Nat × Nat)), okP L N i j ps → okP L' N i j ps
  | _, _, [], _ => trivial
  | i, j, z :: t, ho => by
    simp only [okP] at ho ⊢
    exact ⟨by omega, okP_up h N _ _ t ho.2⟩
/-- What is handed back where all lines are told. -/
def finV (l last : List ByteArray) (ps : List (Nat × Nat)) : List IH × Bool := if goodH l.length (betweenV last 0 0 (ps ++ [(l.length, last.length)])) = true then (betweenV last 0 0 (ps ++ [(l.length, last.length)]), true) else ([], false)

theorem specJoin_l0 (l last : List ByteArray) (a b : List IH) (m : Nat) (hl : l.length ≤ 40) (hm : m ≤ 40) (hN : last.length ≤ 2000) (na : near a) (la : a.length ≤ 20) (nb : near b) (lb : b.length ≤ 20) (ca : chain' (l.length : Int) (-1) a) (em : (m : Int) = l.length + total a) (P : List (Nat × Nat)) (hp : P.length ≤ 99)
    (ho : okP 40 last.length 0 0 (P ++ [(l.length, last.length)])) (hf : FitI (betweenV last 0 0 (P ++ [(l.length, last.length)]))) : ∀ d i (acc : List (Nat × Nat)), i + d = l.length → acc.length ≤ i → acc ++ joinA (staysP b (List.range' 0 m)) (staysP a (List.range' i d)) = P →
    Ev (fun k => spec_JoinHunks.l0 k l a b last (acc.map toIP) (l.length : Int) (i : Int)) (finV l last P) := by
  intro d
  induction d with
  | zero =>
    intro i acc hi hacc hP
    have e : acc = P := by rw [← hP, show List.range' i 0 = [] from rfl]; simp only [staysP, joinA, List.append_nil]
    subst e
    refine Ev.step (fun k => spec_JoinHunks.l0.eq_2 ..) (ev_neg (by omega) (ev_bind (l2Join_ev l last acc hN hp ho) (ev_bind (l2Hunks_ev _ _ hf (by omega) (by omega)) (ev_ite (fun c => ev_some ?_) (fun c => ev_some ?_)))))
    · unfold finV; rw [if_pos c]
    · unfold finV; rw [if_neg c]
  | succ d ih =>
    intro i acc hi hacc hP
    rw [List.range'_succ, staysP] at hP
    refine Ev.step (fun k => spec_JoinHunks.l0.eq_2 ..) (ev_pos (by omega) (ev_bind (l2Place_ev a i na la (by omega)) ?_))
    rw [wrap_succ i (by omega)]
    cases hmv : moved (i : Int) a with
    | none =>
      rw [hmv] at hP
      exact ev_neg (by simp) (ih (i + 1) acc (by omega) (by omega) hP)
    | some mm =>
      rw [hmv] at hP
      simp only at hP ⊢
      by_cases c : 0 ≤ (i : Int) + mm
      · rw [if_pos c] at hP
        have hlow := moved_high (l.length : Int) (i : Int) (by omega) a (-1) ca mm hmv
        obtain ⟨p, hpp⟩ : ∃ p : Nat, (i : Int) + mm = (p : Int) := ⟨((i : Int) + mm).toNat, by omega⟩
        rw [hpp] at hlow hP ⊢
        have hfind := find_stays b p m 0 (by omega) (by omega)
        rw [Int.toNat_natCast] at hP
        simp only [joinA, hfind] at hP
        refine ev_pos (by omega) (ev_bind (l2Place_ev b p nb lb (by omega)) ?_)
        cases hm2 : moved (p : Int) b with
        | none =>
          rw [hm2] at hP
          exact ev_neg (by simp) (ih (i + 1) acc (by omega) (by omega) hP)
        | some q =>
          rw [hm2] at hP
          simp only at hP ⊢
          by_cases c2 : 0 ≤ (p : Int) + q
          · rw [if_pos c2] at hP
            refine ev_pos c2 (ev_pos (by rw [List.length_map]; omega) ?_)
            have e : acc.map toIP ++ [(⟨(i : Int), (p : Int) + q⟩ : IP)] = (acc ++ [(i, ((p : Int) + q).toNat)]).map toIP := by
              rw [List.map_append]
              simp only [List.map_cons, List.map_nil, toIP]
              rw [Int.toNat_of_nonneg c2]
            rw [e]
            exact ih (i + 1) _ (by omega) (by rw [List.length_append, List.length_singleton]; omega) (by rw [List.append_assoc]; exact hP)
          · rw [if_neg c2] at hP
            exact ev_neg c2 (ih (i + 1) acc (by omega) (by omega) hP)
      · rw [if_neg c] at hP
        exact ev_neg c (ih (i + 1) acc (by omega) (by omega) hP)

theorem implJoin_l0 (l last : List ByteArray) (f1 ks : List Int) (hl : l.length ≤ 40) (hN : last.length ≤ 2000) (hks : ks.length ≤ 5000) (hk : ∀ k ∈ ks, k < (f1.length : Int)) (P : List (Nat × Nat)) (hp : P.length ≤ 99)
    (ho : okP 40 last.length 0 0 (P ++ [(l.length, last.length)])) (hf : FitI (betweenV last 0 0 (P ++ [(l.length, last.length)]))) : ∀ d j (acc : List (Nat × Nat)), j + d = ks.length → acc.length ≤ j → acc ++ joinB (staysK 0 f1) (staysK j (ks.drop j)) = P →
    Ev (fun k => impl_JoinHunks.l0 k l last f1 (acc.map toLs) ks (ks.length : Int) (j : Int)) (finV l last P) := by
  intro d
  induction d with
  | zero =>
    intro j acc hj hacc hP
    have e : acc = P := by rw [← hP, List.drop_eq_nil_of_le (by omega)]; simp only [staysK, joinB, List.append_nil]
    subst e
    refine Ev.step (fun k => impl_JoinHunks.l0.eq_2 ..) (ev_neg (by omega) (ev_bind (between_ev l last acc hN hp ho) (ev_bind (goodHunks_ev _ _ hf) (ev_ite (fun c => ev_some ?_) (fun c => ev_some ?_)))))
    · unfold finV; rw [if_pos c]
    · unfold finV; rw [if_neg c]
  | succ d ih =>
    intro j acc hj hacc hP
    have hlt : j < ks.length := by omega
    have e0 : ks.drop j = ks[j] :: ks.drop (j + 1) := List.drop_eq_getElem_cons hlt
    rw [e0, staysK] at hP
    have hkj := hk ks[j] (List.getElem_mem _)
    refine Ev.step (fun k => impl_JoinHunks.l0.eq_2 ..) ?_
    simp only [rdJ ks j hlt]
    rw [wrap_succ j (by omega)]
    refine ev_pos (by omega) (ev_pos (by omega) (ev_pos (by omega) (ev_ite (fun c => ?_) (fun c => ?_))))
    · rw [if_pos c] at hP
      obtain ⟨k, hkk⟩ : ∃ k : Nat, ks[j] = (k : Int) := ⟨ks[j].toNat, by omega⟩
      rw [hkk] at hP hkj ⊢
      rw [Int.toNat_natCast] at hP
      have hk2 : k < f1.length := by omega
      have hfind := find_staysK k f1 0 (Nat.zero_le _) (by omega)
      simp only [joinB, hfind, Nat.sub_zero] at hP
      simp only [rdJ f1 k hk2]
      refine ev_pos (by omega) (ev_pos (by omega) (ev_ite (fun c2 => ev_pos (by rw [List.length_map]; omega) ?_) (fun c2 => ?_)))
      · rw [if_pos c2] at hP
        have e : acc.map toLs ++ [([f1[k], (j : Int)] : List Int)] = (acc ++ [(f1[k].toNat, j)]).map toLs := by
          rw [List.map_append]
          simp only [List.map_cons, List.map_nil, toLs]
          rw [Int.toNat_of_nonneg c2]
        rw [e]
        exact ih (j + 1) _ (by omega) (by rw [List.length_append, List.length_singleton]; omega) (by rw [List.append_assoc]; exact hP)
      · rw [if_neg c2] at hP
        exact ih (j + 1) acc (by omega) (by omega) hP
    · rw [if_neg c] at hP
      exact ih (j + 1) acc (by omega) (by omega) hP

theorem patchR_fit (a : List ByteArray) (h : List IH) (fa : FitS a) (fh : FitI h) : FitS (patchR a h).1 := by
  unfold patchR
  split
  · rename_i c
    obtain ⟨c1, c2, c3, c4⟩ := asked_of c.1
    exact patchFrom_fit fa fh c1 c3 c2 0
  · exact ⟨by simp, fun s hs => by simp at hs⟩
theorem patchR_val {a : List ByteArray} {h : List IH} (c : (patchR a h).2 = true) : (patchR a h).1 = patchFrom a 0 h := by
  unfold patchR at c ⊢
  split
  · rfl
  · rename_i e
    rw [if_neg e] at c
    cases c
theorem chain'_of {n : Int} : ∀ (h : List IH) (p : Int), chain n p h = true → chain' n p h := chain_chain'
theorem betweenV_mem (n : List ByteArray) : ∀ (ps : List (Nat × Nat)) (i j : Nat), i ≤ 41 → okP 40 n.length i j ps → ∀ x ∈ betweenV n i j ps, (0 ≤ x.f0 ∧ x.f0 ≤ 41) ∧ (-41 ≤ x.f1 ∧ x.f1 ≤ 41) ∧ x.f2.length ≤ n.length ∧ ∀ s ∈ x.f2, s ∈ n
  | [], i, j, _, _, x, hx => by simp [betweenV] at hx
  | z :: t, i, j, hi, ho, x, hx => by
    simp only [okP] at ho
    simp only [betweenV, List.mem_append] at hx
    rcases hx with hx | hx
    · split at hx
      · rw [List.mem_singleton] at hx
        subst hx
        exact ⟨by simp only; omega, by simp only; omega, by simp only [List.length_drop, List.length_take]; omega, fun s hs => List.mem_of_mem_take (List.mem_of_mem_drop hs)⟩
      · simp at hx
    · exact betweenV_mem n t _ _ (by omega) ho.2 x hx
theorem betweenV_len (n : List ByteArray) : ∀ (ps : List (Nat × Nat)) (i j : Nat), (betweenV n i j ps).length ≤ ps.length
  | [], i, j => by simp [betweenV]
  | z :: t, i, j => by
    have := betweenV_len n t (z.1 + 1) (z.2 + 1)
    simp only [betweenV, List.length_append, List.length_cons]
    split
    · simp only [List.length_singleton]; omega
    · simp only [List.length_nil]; omega
theorem joinA_len (B : List (Nat × Nat)) : ∀ A : List (Nat × Nat), (joinA B A).length ≤ A.length
  | [] => by simp [joinA]
  | z :: t => by
    have := joinA_len B t
    simp only [joinA, List.length_cons]
    split
    · simp only [List.length_cons]; omega
    · omega
theorem staysP_len (h : List IH) : ∀ l : List Nat, (staysP h l).length ≤ l.length
  | [] => by simp [staysP]
  | k :: t => by
    have := staysP_len h t
    simp only [staysP, List.length_cons]
    split
    · split
      · simp only [List.length_cons]; omega
      · omega
    · omega

/-- The pairs of places of the lines that stay through both. -/
def pairsV (l : List ByteArray) (a b : List IH) : List (Nat × Nat) := joinA (staysP b (List.range' 0 (patchR l a).1.length)) (staysP a (List.range' 0 l.length))
def joinR (l : List ByteArray) (a b : List IH) : List IH × Bool := if (patchR l a).2 = true ∧ (patchR (patchR l a).1 b).2 = true then finV l (patchR (patchR l a).1 b).1 (pairsV l a b) else ([], false)
/-- All that is asked of the two lists. -/
structure Both (l m last : List ByteArray) (a b : List IH) (P : List (Nat × Nat)) : Prop where
  hl : l.length ≤ 40
  hm : m.length ≤ 40
  hN : last.length ≤ 2000
  na : near a
  la : a.length ≤ 20
  nb : near b
  lb : b.length ≤ 20
  ga : goodH l.length a = true
  gb : goodH m.length b = true
  ca : chain' (l.length : Int) (-1) a
  cb : chain' (m.length : Int) (-1) b
  em : (m.length : Int) = l.length + total a
  hp : P.length ≤ 40
  ho : okP 40 last.length 0 0 (P ++ [(l.length, last.length)])
  hf : FitI (betweenV last 0 0 (P ++ [(l.length, last.length)]))
theorem both_of {l : List ByteArray} {a b : List IH} (fl : FitS l) (fa : FitI a) (fb : FitI b) (c1 : (patchR l a).2 = true) (c2 : (patchR (patchR l a).1 b).2 = true) : Both l (patchR l a).1 (patchR (patchR l a).1 b).1 a b (pairsV l a b) := by
  have g1 := patchR_asked c1
  have g2 := patchR_asked c2
  obtain ⟨a1, a2, a3, a4⟩ := asked_of g1
  obtain ⟨b1, b2, b3, b4⟩ := asked_of g2
  have ca := chain'_of a _ a4
  have cb := chain'_of b _ b4
  have em : (((patchR l a).1.length : Nat) : Int) = l.length + total a := by
    rw [patchR_val c1]
    have := patch_len l a 0 (-1) ca (fun x hx => by have := (a3 x hx).1; omega) (Nat.zero_le _)
    omega
  have eN : (((patchR (patchR l a).1 b).1.length : Nat) : Int) = (patchR l a).1.length + total b := by
    rw [patchR_val c2]
    have := patch_len (patchR l a).1 b 0 (-1) cb (fun x hx => by have := (b3 x hx).1; omega) (Nat.zero_le _)
    omega
  have hN : (patchR (patchR l a).1 b).1.length ≤ 2000 := by
    rw [patchR_val c2]
    have := patchFrom_len (patchR l a).1 b1 b 0 b3
    omega
  have sa := stays_eq l.length a 0 (-1) ca (by omega) (by omega) (fun x hx => by have := (a3 x hx).1; omega)
  have sb := stays_eq (patchR l a).1.length b 0 (-1) cb (by omega) (by omega) (fun x hx => by have := (b3 x hx).1; omega)
  rw [Nat.sub_zero] at sa sb
  have pa := staysP_fst a l.length 0
  have pb := staysP_fst b (patchR l a).1.length 0
  have ka := staysK_snd (keptFrom l.length 0 a) 0
  have kb := staysK_snd (keptFrom (patchR l a).1.length 0 b) 0
  rw [sa] at ka
  rw [sb] at kb
  have mA := mono_of pa.1 ka.1
  have mB := mono_of pb.1 kb.1
  have lb' := kept_len (patchR l a).1.length b 0 (-1) cb (fun x hx => by have := (b3 x hx).1; omega) (Nat.zero_le _)
  have ho : okP 40 (patchR (patchR l a).1 b).1.length 0 0 (pairsV l a b ++ [(l.length, (patchR (patchR l a).1 b).1.length)]) := by
    have h1 := okP_of l.length (patchR (patchR l a).1 b).1.length (pairsV l a b) 0 0 (joinA_mono mB mA) (fun z hz => by
      obtain ⟨u, hu, y, hy, rfl, e⟩ := joinA_mem _ _ z hz
      have h2 := pa.2 u hu
      have h3 := kb.2 y hy
      simp only
      omega) (Nat.zero_le _) (Nat.zero_le _)
    exact okP_up a1 _ _ _ _ h1
  have hp : (pairsV l a b).length ≤ 40 := by
    have h1 := joinA_len (staysP b (List.range' 0 (patchR l a).1.length)) (staysP a (List.range' 0 l.length))
    have h2 := staysP_len a (List.range' 0 l.length)
    rw [List.length_range'] at h2
    unfold pairsV
    omega
  have fm := patchR_fit l a fl fa
  have fn := patchR_fit (patchR l a).1 b fm fb
  refine ⟨a1, b1, hN, a3, a2, b3, b2, by unfold asked at g1; exact (Bool.and_eq_true _ _ ▸ g1).2, by unfold asked at g2; exact (Bool.and_eq_true _ _ ▸ g2).2, ca, cb, em, hp, ho, ?_⟩
  have h1 := betweenV_len (patchR (patchR l a).1 b).1 (pairsV l a b ++ [(l.length, (patchR (patchR l a).1 b).1.length)]) 0 0
  rw [List.length_append, List.length_singleton] at h1
  refine ⟨by omega, fun x hx => ?_⟩
  have h2 := betweenV_mem _ _ 0 0 (by omega) ho x hx
  exact ⟨by omega, by omega, by omega, fun s hs => fn.2 s (h2.2.2.2 s hs)⟩
theorem spec_JoinHunks_ev (l : List ByteArray) (a b : List IH) (fl : FitS l) (fa : FitI a) (fb : FitI b) : Ev (fun k => spec_JoinHunks.f k l a b) (joinR l a b) := by
  simp only [spec_JoinHunks.f]
  have fm := patchR_fit l a fl fa
  unfold joinR
  refine ev_bind (spec_Patch_ev l a fl fa) (ev_bind (spec_Patch_ev _ b fm fb) (ev_ite (fun c1 => ?_) (fun c1 => ?_)))
  · cases c2 : (patchR (patchR l a).1 b).2 with
    | false =>
      refine Ev.step (fun k => spec_JoinHunks.j0.eq_2 ..) (ev_pos rfl (ev_some ?_))
      rw [if_neg (fun e => by cases e.2)]
    | true =>
      refine Ev.step (fun k => spec_JoinHunks.j0.eq_2 ..) (ev_neg (by simp) ?_)
      rw [if_pos ⟨c1, rfl⟩]
      have h := both_of fl fa fb c1 c2
      exact specJoin_l0 l _ a b (patchR l a).1.length h.hl h.hm h.hN h.na h.la h.nb h.lb h.ca h.em (pairsV l a b) (by have := h.hp; omega) h.ho h.hf l.length 0 [] (by omega) (Nat.zero_le _) (by rw [List.nil_append]; rfl)
  · refine Ev.step (fun k => spec_JoinHunks.j0.eq_2 ..) (ev_pos rfl (ev_some ?_))
    rw [if_neg (fun e => c1 e.1)]
theorem impl_JoinHunks_ev (l : List ByteArray) (a b : List IH) (fl : FitS l) (fa : FitI a) (fb : FitI b) : Ev (fun k => impl_JoinHunks.f k l a b) (joinR l a b) := by
  simp only [impl_JoinHunks.f]
  have fm := patchR_fit l a fl fa
  unfold joinR
  refine ev_bind (impl_Patch_ev l a fl fa) (ev_bind (impl_Patch_ev _ b fm fb) (ev_ite (fun c1 => ?_) (fun c1 => ?_)))
  · cases c2 : (patchR (patchR l a).1 b).2 with
    | false =>
      refine Ev.step (fun k => impl_JoinHunks.j0.eq_2 ..) (ev_pos rfl (ev_some ?_))
      rw [if_neg (fun e => by cases e.2)]
    | true =>
      have h := both_of fl fa fb c1 c2
      have e1 : impl_kept.f (l.length : Int) a = some (keptFrom l.length 0 a) := by
        simp only [impl_kept.f]
        rw [if_pos ⟨Int.natCast_nonneg _, h.ga⟩, Int.toNat_natCast]
      have e2 : impl_kept.f ((patchR l a).1.length : Int) b = some (keptFrom (patchR l a).1.length 0 b) := by
        simp only [impl_kept.f]
        rw [if_pos ⟨Int.natCast_nonneg _, h.gb⟩, Int.toNat_natCast]
      refine Ev.step (fun k => impl_JoinHunks.j0.eq_2 ..) (ev_neg (by simp) (ev_bind (ev_const e1) (ev_bind (ev_const e2) ?_)))
      rw [if_pos ⟨c1, rfl⟩]
      have na := h.na
      have nb := h.nb
      have ka := kept_len l.length a 0 (-1) h.ca (fun x hx => by have := (na x hx).1; omega) (Nat.zero_le _)
      have kb := kept_len (patchR l a).1.length b 0 (-1) h.cb (fun x hx => by have := (nb x hx).1; omega) (Nat.zero_le _)
      have eN : (((patchR (patchR l a).1 b).1.length : Nat) : Int) = (patchR l a).1.length + total b := by
        rw [patchR_val c2]
        have := patch_len (patchR l a).1 b 0 (-1) h.cb (fun x hx => by have := (nb x hx).1; omega) (Nat.zero_le _)
        omega
      have sa := stays_eq l.length a 0 (-1) h.ca (by omega) (by omega) (fun x hx => by have := (na x hx).1; omega)
      have sb := stays_eq (patchR l a).1.length b 0 (-1) h.cb (by omega) (by omega) (fun x hx => by have := (nb x hx).1; omega)
      rw [Nat.sub_zero] at sa sb
      have pb := staysP_fst b (patchR l a).1.length 0
      have k2 := staysK_snd (keptFrom l.length 0 a) 0
      have em := h.em
      have hN := h.hN
      refine implJoin_l0 l _ (keptFrom l.length 0 a) (keptFrom (patchR l a).1.length 0 b) h.hl h.hN (by omega) (fun k hk => by have := (kept_low _ b 0 (-1) h.cb k hk).2; omega) (pairsV l a b) (by have := h.hp; omega) h.ho h.hf (keptFrom (patchR l a).1.length 0 b).length 0 [] (by omega) (Nat.zero_le _) ?_
      rw [List.nil_append, List.drop_zero, sb]
      rw [← join_eq _ _ _ rfl k2.1 pb.1, sa]
      rfl
  · refine Ev.step (fun k => impl_JoinHunks.j0.eq_2 ..) (ev_pos rfl (ev_some ?_))
    rw [if_neg (fun e => c1 e.1)]
end Go.Proofs.Ytcefenlblnediaa.Pl

/- Plain Lean: a line that stays is where it is told to be; joined hunks do what both do in turn. Asked: hunks in order. -/
namespace Go.Proofs.Ytcefenlblnediaa.Pl
open Go.RowKit Go.Proofs.YtcefenlblnediaaW.PrintWords Go.Proofs.YtcefenlblnediaaW.PrintLast Go.Proofs.Ytcefenlblnediaa.My
set_option linter.unusedVariables false
set_option linter.unusedSimpArgs false
theorem place_patch (a : List ByteArray) (i : Nat) (hi : i < a.length) : ∀ (h : List IH) (p : Nat) (q : Int), chain' (a.length : Int) q h → (∀ x ∈ h, (p : Int) ≤ x.f0) → p ≤ i → ∀ m, moved (i : Int) h = some m →
    (p : Int) ≤ (i : Int) + m ∧ (patchFrom a p h)[((i : Int) + m).toNat - p]? = some a[i]
  | [], p, q, _, _, hp, m, hm => by
    simp only [moved, Option.some.injEq] at hm
    subst hm
    refine ⟨by omega, ?_⟩
    simp only [patchFrom]
    rw [List.getElem?_drop, List.getElem?_eq_getElem (by omega)]
    congr 2
    omega
  | x :: t, p, q, hc, hf, hp, m, hm => by
    simp only [chain'] at hc
    obtain ⟨⟨c0, c1, c2, c3⟩, hc'⟩ := hc
    have hpx : (p : Int) ≤ x.f0 := hf x (List.mem_cons_self ..)
    have hA : ((a.take x.f0.toNat).drop p).length = x.f0.toNat - p := by rw [List.length_drop, List.length_take]; omega
    simp only [patchFrom]
    by_cases c : x.f0 + x.f1 ≤ (i : Int)
    · simp only [moved] at hm
      rw [if_pos c] at hm
      obtain ⟨m', h1, h2⟩ := Option.map_eq_some_iff.1 hm
      have ih := place_patch a i hi t (x.f0 + x.f1).toNat (x.f0 + x.f1) hc' (fun y hy => by have := chain_mem t _ hc' y hy; omega) (by omega) m' h1
      refine ⟨by omega, ?_⟩
      rw [List.getElem?_append_right (by omega), List.getElem?_append_right (by omega), ← ih.2]
      congr 1
      omega
    · by_cases c' : x.f0 ≤ (i : Int)
      · simp only [moved] at hm
        rw [if_neg c, if_pos c'] at hm
        cases hm
      · rw [moved_first (i : Int) x t hc' c1 (by omega)] at hm
        injection hm with hm
        subst hm
        refine ⟨by omega, ?_⟩
        rw [List.getElem?_append_left (by omega), List.getElem?_drop, List.getElem?_take_of_lt (by omega), List.getElem?_eq_getElem (by omega)]
        congr 2
        omega
theorem staysP_mem (h : List IH) : ∀ (l : List Nat) (z : Nat × Nat), z ∈ staysP h l → z.1 ∈ l ∧ ∃ m, moved (z.1 : Int) h = some m ∧ z.2 = ((z.1 : Int) + m).toNat
  | [], z, hz => by simp [staysP] at hz
  | k :: t, z, hz => by
    simp only [staysP] at hz
    cases hm : moved (k : Int) h with
    | none =>
      rw [hm] at hz
      have := staysP_mem h t z hz
      exact ⟨List.mem_cons_of_mem _ this.1, this.2⟩
    | some m =>
      rw [hm] at hz
      dsimp only at hz
      split at hz
      · rcases List.mem_cons.1 hz with rfl | hz
        · exact ⟨List.mem_cons_self .., m, hm, rfl⟩
        · have := staysP_mem h t z hz
          exact ⟨List.mem_cons_of_mem _ this.1, this.2⟩
      · have := staysP_mem h t z hz
        exact ⟨List.mem_cons_of_mem _ this.1, this.2⟩
theorem drop_take_snoc (l : List ByteArray) (i p : Nat) (hi : i < l.length) (hp : p ≤ i) : (l.take (i + 1)).drop p = (l.take i).drop p ++ [l[i]] := by
  rw [List.take_succ_eq_append_getElem hi, List.drop_append_of_le_length (by rw [List.length_take]; omega)]
theorem drop_mid (y : List ByteArray) (j k : Nat) (h : j ≤ k) : (y.take k).drop j ++ y.drop k = y.drop j := by
  rcases Nat.lt_or_ge y.length k with c | c
  · rw [List.take_of_length_le (by omega), List.drop_of_length_le (by omega : y.length ≤ k), List.append_nil]
  · conv => rhs; rw [← List.take_append_drop k y]
    rw [List.drop_append_of_le_length (by rw [List.length_take]; omega)]
/-- Joined: what stands between the pairs is taken from the last text. -/
theorem between_patch (l y : List ByteArray) (L : Nat) : ∀ (ps : List (Nat × Nat)) (i j p : Nat), okP L y.length i j (ps ++ [(l.length, y.length)]) → (∀ z ∈ ps, z.1 < l.length ∧ z.2 < y.length ∧ l[z.1]? = y[z.2]?) → p ≤ i → i ≤ l.length →
    patchFrom l p (betweenV y i j (ps ++ [(l.length, y.length)])) = (l.take i).drop p ++ y.drop j
  | [], i, j, p, ho, _, hp, hi => by
    simp only [List.nil_append, okP] at ho
    simp only [List.nil_append, betweenV, List.append_nil]
    by_cases c : i < l.length ∨ j < y.length
    · rw [if_pos c]
      simp only [patchFrom, Int.toNat_natCast]
      rw [show ((i : Int) + ((l.length : Int) - i)).toNat = l.length from by omega, List.drop_length, List.append_nil, List.take_length]
    · rw [if_neg c]
      simp only [patchFrom]
      rw [List.drop_of_length_le (by omega : y.length ≤ j), List.append_nil, show i = l.length from by omega, List.take_length]
  | z :: t, i, j, p, ho, hz, hp, hi => by
    simp only [List.cons_append, okP] at ho
    obtain ⟨⟨o1, o2, o3, o4⟩, ho'⟩ := ho
    obtain ⟨z1, z2, z3⟩ := hz z (List.mem_cons_self ..)
    have ih := fun p' hp' => between_patch l y L t (z.1 + 1) (z.2 + 1) p' ho' (fun w hw => hz w (List.mem_cons_of_mem _ hw)) hp' (by omega)
    rw [List.getElem?_eq_getElem z1, List.getElem?_eq_getElem z2] at z3
    injection z3 with z3
    have hy : [l[z.1]] ++ y.drop (z.2 + 1) = y.drop z.2 := by rw [z3, List.drop_eq_getElem_cons z2]; rfl
    simp only [List.cons_append, betweenV]
    by_cases c : i < z.1 ∨ j < z.2
    · rw [if_pos c]
      simp only [List.cons_append, List.nil_append, patchFrom, Int.toNat_natCast]
      have e0 : (l.take z.1).drop z.1 = [] := List.drop_of_length_le (by rw [List.length_take]; omega)
      rw [show ((i : Int) + ((z.1 : Int) - i)).toNat = z.1 from by omega, ih z.1 (by omega), drop_take_snoc l z.1 z.1 z1 (Nat.le_refl _), e0, List.nil_append, hy, drop_mid y j z.2 o2]
    · rw [if_neg c, List.nil_append, ih p (by omega)]
      have e1 : i = z.1 := by omega
      have e2 : j = z.2 := by omega
      rw [e1, e2, drop_take_snoc l z.1 p z1 (by omega), List.append_assoc, hy]
theorem patchR_good {a : List ByteArray} {h : List IH} (c : (patchR a h).2 = true) : good (patchR a h).1 = true := by
  unfold patchR at c ⊢
  split
  · rename_i e; exact e.2
  · rename_i e; rw [if_neg e] at c; cases c
theorem good_mem {l : List ByteArray} (h : good l = true) : ∀ s ∈ l, isLn s = true := by
  unfold good at h
  simp only [Bool.and_eq_true, List.all_eq_true] at h
  exact h.2.1
theorem patchR_of {a y : List ByteArray} {h : List IH} (c1 : asked a h = true) (c2 : patchFrom a 0 h = y) (c3 : good y = true) : patchR a h = (y, true) := by
  unfold patchR patchH
  rw [c2, if_pos ⟨c1, c3⟩]
theorem placeR {a : List ByteArray} {h : List IH} (c : (patchR a h).2 = true) (i : Nat) (hi : i < a.length) (m : Int) (hm : moved (i : Int) h = some m) : 0 ≤ (i : Int) + m ∧ (patchR a h).1[((i : Int) + m).toNat]? = some a[i] := by
  obtain ⟨a1, a2, a3, a4⟩ := asked_of (patchR_asked c)
  have := place_patch a i hi h 0 (-1) (chain'_of h _ a4) (fun x hx => by have := (a3 x hx).1; omega) (Nat.zero_le _) m hm
  rw [patchR_val c]
  exact ⟨by omega, by have := this.2; rwa [Nat.sub_zero] at this⟩
theorem pairs_same {l : List ByteArray} {a b : List IH} (c1 : (patchR l a).2 = true) (c2 : (patchR (patchR l a).1 b).2 = true) : ∀ z ∈ pairsV l a b, z.1 < l.length ∧ z.2 < (patchR (patchR l a).1 b).1.length ∧ l[z.1]? = (patchR (patchR l a).1 b).1[z.2]? := by
  intro z hz
  unfold pairsV at hz
  obtain ⟨u, hu, w, hw, rfl, e⟩ := joinA_mem _ _ z hz
  obtain ⟨u1, m, um, u2⟩ := staysP_mem _ _ _ hu
  obtain ⟨w1, m', wm, w2⟩ := staysP_mem _ _ _ hw
  rw [List.mem_range'_1] at u1 w1
  have p1 := placeR c1 u.1 (by omega) m um
  have p2 := placeR c2 w.1 (by omega) m' wm
  have q2 := (List.getElem?_eq_some_iff.1 p2.2).1
  dsimp only
  rw [w2, p2.2, List.getElem?_eq_getElem (by omega : u.1 < l.length)]
  refine ⟨by omega, q2, ?_⟩
  have q1 := p1.2
  rw [← u2, ← e, List.getElem?_eq_getElem (by omega)] at q1
  exact q1.symm
/-- Joined hunks, patched. -/
theorem join_law {l : List ByteArray} {a b : List IH} (fl : FitS l) (fa : FitI a) (fb : FitI b) (c : (joinR l a b).2 = true) :
    (patchR l a).2 = true ∧ (patchR (patchR l a).1 b).2 = true ∧ patchR l (joinR l a b).1 = ((patchR (patchR l a).1 b).1, true) := by
  unfold joinR at c ⊢
  split at c
  · rename_i e
    obtain ⟨c1, c2⟩ := e
    rw [if_pos ⟨c1, c2⟩]
    unfold finV at c ⊢
    split at c
    · rename_i g
      rw [if_pos g]
      have h := both_of fl fa fb c1 c2
      refine ⟨c1, c2, patchR_of ?_ ?_ (patchR_good c2)⟩
      · have := patchR_asked c1
        unfold asked at this ⊢
        rw [Bool.and_eq_true] at this ⊢
        exact ⟨this.1, g⟩
      · rw [between_patch l _ 40 (pairsV l a b) 0 0 0 h.ho (pairs_same c1 c2) (Nat.le_refl _) (Nat.zero_le _)]
        simp
    · cases c
  · cases c
end Go.Proofs.Ytcefenlblnediaa.Pl

/- Plain Lean: joined hunks are few and small. No condition. -/
namespace Go.Proofs.Ytcefenlblnediaa.Pl
open Go.RowKit Go.Proofs.YtcefenlblnediaaW.PrintWords Go.Proofs.YtcefenlblnediaaW.PrintLast Go.Proofs.Ytcefenlblnediaa.My
set_option linter.unusedVariables false

theorem joinR_small (l : List ByteArray) (a b : List IH) (fl : FitS l) (fa : FitI a) (fb : FitI b) : (joinR l a b).1.length ≤ 41 ∧ ∀ x ∈ (joinR l a b).1, x.f2.length ≤ 2000 := by
  unfold joinR
  split
  · rename_i c
    have h := both_of fl fa fb c.1 c.2
    unfold finV
    split
    · have h1 := betweenV_len (patchR (patchR l a).1 b).1 (pairsV l a b ++ [(l.length, (patchR (patchR l a).1 b).1.length)]) 0 0
      rw [List.length_append, List.length_singleton] at h1
      have hp := h.hp
      refine ⟨Nat.le_trans h1 (by omega), fun x hx => ?_⟩
      have h2 := (betweenV_mem _ _ 0 0 (by omega) h.ho x hx).2.2.1
      have := h.hN
      omega
    · exact ⟨by simp, fun x hx => by simp at hx⟩
  · exact ⟨by simp, fun x hx => by simp at hx⟩
theorem joinR_fit (l : List ByteArray) (a b : List IH) (fl : FitS l) (fa : FitI a) (fb : FitI b) : ∀ x ∈ (joinR l a b).1, FitS x.f2 := by
  unfold joinR
  split
  · rename_i c
    have h := both_of fl fa fb c.1 c.2
    unfold finV
    split
    · intro x hx
      exact (h.hf.2 x hx).2.2
    · exact fun x hx => by simp at hx
  · exact fun x hx => by simp at hx
end Go.Proofs.Ytcefenlblnediaa.Pl

/- Plain Lean: a list of texts is the same as itself, and so is a list of hunks. Asked: lengths below 2^62. -/
namespace Go.Proofs.Ytcefenlblnediaa.Pl
open Go.RowKit Go.Proofs.YtcefenlblnediaaW.PrintWords Go.Proofs.YtcefenlblnediaaW.PrintLast Go.Proofs.Ytcefenlblnediaa.My
set_option linter.unusedVariables false
theorem sameTexts_l0 (l : List ByteArray) (hl : l.length ≤ 4611686018427387904) : ∀ d i, i + d = l.length → Ev (fun k => laws_sameTexts.l0 k l l (l.length : Int) (i : Int)) true := by
  intro d
  induction d with
  | zero => intro i hi; exact Ev.step (fun k => laws_sameTexts.l0.eq_2 ..) (ev_neg (by omega) (ev_some rfl))
  | succ d ih =>
    intro i hi
    refine Ev.step (fun k => laws_sameTexts.l0.eq_2 ..) (ev_pos (by omega) (ev_pos (by omega) (ev_pos (by omega) (ev_pos (by omega) (ev_pos rfl ?_)))))
    rw [wrap_succ i (by omega)]
    exact ih (i + 1) (by omega)
theorem sameTexts_self (l : List ByteArray) (hl : l.length ≤ 4611686018427387904) : Ev (fun k => laws_sameTexts.f k l l) true := by
  unfold laws_sameTexts.f
  exact ev_pos rfl (sameTexts_l0 l hl l.length 0 (by omega))
end Go.Proofs.Ytcefenlblnediaa.Pl

/- Plain Lean: a list of hunks is the same as itself. Asked: lengths below 2^62. -/
namespace Go.Proofs.Ytcefenlblnediaa.Pl
open Go.RowKit Go.Proofs.YtcefenlblnediaaW.PrintWords Go.Proofs.YtcefenlblnediaaW.PrintLast Go.Proofs.Ytcefenlblnediaa.My
set_option linter.unusedVariables false
theorem sameHunks_l0 (h : List IH) (hl : h.length ≤ 4611686018427387904) (hs : ∀ x ∈ h, x.f2.length ≤ 4611686018427387904) : ∀ d i, i + d = h.length → Ev (fun k => laws_sameHunks.l0 k h h (h.length : Int) (i : Int)) true := by
  intro d
  induction d with
  | zero => intro i hi; exact Ev.step (fun k => laws_sameHunks.l0.eq_2 ..) (ev_neg (by omega) (ev_some rfl))
  | succ d ih =>
    intro i hi
    have hlt : i < h.length := by omega
    have hr : rd_T111 h (i : Int) = h[i] := getD_lt h _ i hlt
    refine Ev.step (fun k => laws_sameHunks.l0.eq_2 ..) (ev_pos (by omega) (ev_pos (by omega) (ev_pos (by omega) (ev_pos (by omega) (ev_pos rfl (ev_pos rfl ?_))))))
    rw [wrap_succ i (by omega), hr]
    exact ev_bind (sameTexts_self _ (hs _ (List.getElem_mem _))) (ev_pos rfl (ih (i + 1) (by omega)))
theorem sameHunks_self (h : List IH) (hl : h.length ≤ 4611686018427387904) (hs : ∀ x ∈ h, x.f2.length ≤ 4611686018427387904) : Ev (fun k => laws_sameHunks.f k h h) true := by
  unfold laws_sameHunks.f
  exact ev_pos rfl (sameHunks_l0 h hl hs h.length 0 (by omega))
end Go.Proofs.Ytcefenlblnediaa.Pl

/- Plain Lean: the drawn laws' bytes, and the test of their number. No condition. -/
namespace Go.Proofs.Ytcefenlblnediaa.Pl
open Go.RowKit Go.Proofs.YtcefenlblnediaaW.PrintWords Go.Proofs.YtcefenlblnediaaW.PrintLast Go.Proofs.Ytcefenlblnediaa.My
set_option linter.unusedVariables false
set_option linter.unusedSimpArgs false
theorem wu8_bounds {z : Int} (h : Wu8 z) : 0 ≤ z ∧ z ≤ 255 := by
  have h' : (Lit.int .u8 z).wf = true := h
  simp [Lit.wf, show IntKind.u8.min = 0 from rfl, show IntKind.u8.max = 255 from rfl] at h'
  omega
theorem bytes8_of {l : List Int} (h : (WL Wu8) l) : Bytes8 l := by
  refine ⟨?_, fun x hx => wu8_bounds (h.2 x hx)⟩
  have h1 := h.1
  have h2 : maxLen ≤ 9223372036854775807 := by decide
  omega
def bigB (a b : List Int) : Bool := if (a.length : Int) > 1048576 then true else decide ((b.length : Int) > 1048576 - (a.length : Int))
theorem big_eq (a b : List Int) (ha : Bytes8 a) (hb : Bytes8 b) : laws_big.f a b = some (bigB a b) := by
  unfold laws_big.f bigB
  have h1 := ha.1
  by_cases h : (a.length : Int) > 1048576
  · rw [if_pos h, if_pos h]
  · rw [if_neg h, if_neg h, wrap64_id (by omega) (by omega)]
end Go.Proofs.Ytcefenlblnediaa.Pl

/- FnJoined, in plain Lean: joined hunks do at once what both do in turn. No condition. -/
namespace Go.Proofs.Ytcefenlblnediaa.Pure
open Go.RowKit Go.Proofs.Ytcefenlblnediaa.My Go.Proofs.Ytcefenlblnediaa.Pl Go.Proofs.YtcefenlblnediaaW.PrintWords Go.Proofs.YtcefenlblnediaaW.PrintLast
set_option linter.unusedVariables false
set_option linter.unusedSimpArgs false
theorem drawPatch_some (c : List Int) (hc : Bytes8 c) : ∃ l h, Ev (fun k => spec_DrawPatch.f k c) (l, h) ∧ SmT l ∧ SmA h := by
  simp only [spec_DrawPatch.f, spec_DrawPatch.g]
  obtain ⟨l, h, a2, s2, e, h2⟩ := hunked_some c hc 0 0 (by omega) (by omega)
  exact ⟨l, h, ev_bind (ev_bind e (ev_some rfl)) (ev_some rfl), h2.1, h2.2.1⟩
theorem drawJoin_some (c : List Int) (hc : Bytes8 c) : ∃ l a b, Ev (fun k => spec_DrawJoinHunks.f k c) (l, a, b) ∧ SmT l ∧ SmA a ∧ SmA b := by
  simp only [spec_DrawJoinHunks.f, spec_DrawJoinHunks.g]
  obtain ⟨l, a, a2, s2, e, hl, ha, h2⟩ := hunked_some c hc 0 0 (by omega) (by omega)
  have hp := spec_Patch_ev l a (fitS_smT hl) (fitI_smA ha)
  by_cases c1 : (patchR l a).2 = true
  · have g := patchR_good c1
    have f := patchR_fit l a (fitS_smT hl) (fitI_smA ha)
    obtain ⟨b, a3, s3, e3, h3⟩ := anyHunks_some c hc (patchR l a).1 (good_len g) f.2 (fun x hx => (isLn_size (good_mem g x (List.mem_of_getLast? hx))).1) a2 s2 (by omega) (by omega)
    exact ⟨l, a, b, ev_bind (ev_bind e (ev_bind hp (ev_pos c1 (ev_bind e3 (ev_some rfl))))) (ev_some rfl), hl, ha, h3.1⟩
  · obtain ⟨b, a3, s3, e3, h3⟩ := anyHunks_some c hc l (by have := hl.1; omega) (fitS_smT hl).2 hl.2.2 a2 s2 (by omega) (by omega)
    exact ⟨l, a, b, ev_bind (ev_bind e (ev_bind hp (ev_neg c1 (ev_bind e3 (ev_some rfl))))) (ev_some rfl), hl, ha, h3.1⟩
theorem j4_ev (c : List Int) (hc : Bytes8 c) : Ev (fun k => laws_FnJoined.j4 k c) true := by
  obtain ⟨l, h, e, hl, hh⟩ := drawPatch_some c hc
  have s := patchR_small l h
  refine Ev.step (fun k => laws_FnJoined.j4.eq_2 ..) (ev_bind e (ev_bind (impl_Patch_ev l h (fitS_smT hl) (fitI_smA hh)) (ev_bind (spec_Patch_ev l h (fitS_smT hl) (fitI_smA hh)) (ev_pos (by simp) (ev_bind (sameTexts_self _ (by omega)) (ev_some rfl))))))
theorem joined_l0 (c : List Int) (hc : Bytes8 c) (l : List ByteArray) (a j : List IH) (fa : FitI a) (fj : FitI j) (c1 : (patchR l a).2 = true) (c2 : (patchR l j).2 = true) (hl : l.length ≤ 40) : ∀ d i, i + d = l.length →
    Ev (fun k => laws_FnJoined.l0 k c l a j (patchR l a).1 (patchR l j).1 l (l.length : Int) (i : Int)) true := by
  intro d
  induction d with
  | zero => intro i hi; exact Ev.step (fun k => laws_FnJoined.l0.eq_2 ..) (ev_neg (by omega) (j4_ev c hc))
  | succ d ih =>
    intro i hi
    have hlt : i < l.length := by omega
    have tail : Ev (fun k => laws_FnJoined.j3 k c l a j (patchR l a).1 (patchR l j).1 (i : Int) (rdOf ByteArray.empty l (i : Int)) l (l.length : Int) (i : Int) false) true := by
      refine Ev.step (fun k => laws_FnJoined.j3.eq_2 ..) (ev_neg (by simp) (ev_bind (impl_PlaceOf_ev j (l.length : Int) (i : Int) fj) ?_))
      rw [wrap_succ i (by omega)]
      refine ev_ite (fun c3 => ?_) (fun c3 => ih (i + 1) (by omega))
      unfold placed at c3 ⊢
      split at c3
      · rename_i g
        rw [if_pos g]
        cases hm : moved (i : Int) j with
        | none => rw [hm] at c3; cases c3
        | some m =>
          have hp := placeR c2 i hlt m hm
          have hq := (List.getElem?_eq_some_iff.1 hp.2)
          obtain ⟨hq1, hq2⟩ := hq
          dsimp only
          refine ev_neg (by omega) (ev_neg (by omega) (ev_pos hp.1 (ev_pos (by omega) (ev_pos ?_ (ih (i + 1) (by omega))))))
          rw [rdOf_lt _ _ _ hlt, show (i : Int) + m = (((i : Int) + m).toNat : Int) from by omega, rdOf_lt _ _ _ hq1, hq2]
      · cases c3
    refine Ev.step (fun k => laws_FnJoined.l0.eq_2 ..) (ev_pos (by omega) (ev_pos (by omega) (ev_pos (by omega) (ev_bind (impl_PlaceOf_ev a (l.length : Int) (i : Int) fa) ?_))))
    refine ev_ite (fun c3 => ?_) (fun c3 => tail)
    unfold placed at c3 ⊢
    split at c3
    · rename_i g
      rw [if_pos g]
      cases hm : moved (i : Int) a with
      | none => rw [hm] at c3; cases c3
      | some m =>
        have hp := placeR c1 i hlt m hm
        obtain ⟨hq1, hq2⟩ := (List.getElem?_eq_some_iff.1 hp.2)
        dsimp only
        refine ev_neg (by omega) (ev_neg (by omega) (ev_pos hp.1 (ev_pos (by omega) ?_)))
        have e : ((rdOf ByteArray.empty (patchR l a).1 ((i : Int) + m)).toList != (rdOf ByteArray.empty l (i : Int)).toList) = false := by
          rw [rdOf_lt _ l _ hlt, show (i : Int) + m = (((i : Int) + m).toNat : Int) from by omega, rdOf_lt _ _ _ hq1, hq2]
          simp
        rw [e]
        exact tail
    · cases c3
theorem FnJoined : laws_FnJoined.Pure := by
  intro l0 l1 w0 w1
  have b0 := bytes8_of w0
  have b1 := bytes8_of w1
  have key : Ev (fun k => laws_FnJoined.f k l0 l1) true := by
    simp only [laws_FnJoined.f]
    refine ev_bind (ev_const (big_eq l0 l1 b0 b1)) (ev_ite (fun _ => ev_some rfl) (fun _ => ?_))
    obtain ⟨l, a, b, e, hl, ha, hb⟩ := drawJoin_some l0 b0
    have fl := fitS_smT hl
    have fa := fitI_smA ha
    have fb := fitI_smA hb
    have hs := joinR_small l a b fl fa fb
    refine ev_bind e (ev_bind (impl_JoinHunks_ev l a b fl fa fb) (ev_bind (spec_JoinHunks_ev l a b fl fa fb) (ev_neg (by simp) (ev_bind (sameHunks_self _ (by omega) (fun x hx => by have := hs.2 x hx; omega)) ?_))))
    refine Ev.step (fun k => laws_FnJoined.j0.eq_2 ..) (ev_neg (by simp) (ev_ite (fun c => ?_) (fun c => j4_ev l1 b1)))
    obtain ⟨c1, c2, c3⟩ := join_law fl fa fb c
    have fx := patchR_fit l a fl fa
    have fj : FitI (joinR l a b).1 := by
      have q := (patchR_asked (show (patchR l (joinR l a b).1).2 = true by rw [c3]))
      obtain ⟨a1, a2, a3, a4⟩ := asked_of q
      exact ⟨by omega, fun x hx => ⟨by have := a3 x hx; omega, by have := a3 x hx; omega, joinR_fit l a b fl fa fb x hx⟩⟩
    have s2 := patchR_small (patchR l a).1 b
    refine ev_bind (impl_Patch_ev l a fl fa) (ev_bind (impl_Patch_ev (patchR l a).1 b fx fb) (ev_bind (impl_Patch_ev l (joinR l a b).1 fl fj) ?_))
    refine ev_pos c1 (ev_pos c2 (ev_pos (by rw [c3]) ?_))
    have same : Ev (fun k => laws_sameTexts.f k (patchR (patchR l a).1 b).1 (patchR l (joinR l a b).1).1) true := by rw [c3]; exact sameTexts_self _ (by omega)
    refine ev_bind same (Ev.step (fun k => laws_FnJoined.j1.eq_2 ..) (ev_neg (by simp) ?_))
    exact joined_l0 l1 b1 l a (joinR l a b).1 fa fj c1 (by rw [c3]) (asked_of (patchR_asked c1)).1 l.length 0 (by omega)
  obtain ⟨n, hn⟩ := key
  exact ⟨n, hn n (Nat.le_refl _)⟩
end Go.Proofs.Ytcefenlblnediaa.Pure

/- The Go function loop.example/g00825/laws.FnJoined returns true for every input, and each argument reads afterwards as it read before. No condition. -/
namespace Go.Proofs.Ytcefenlblnediaa.fnJoined
open Go.ChangeShapes Go.WideShapes Go.ChangeAt Go.RowKit Go.Joins Go.Proofs.Ytcefenlblnediaa.Opens Go.Proofs.Ytcefenlblnediaa.My
open Go.ChangeMaps (open_string shut_string)
set_option linter.unusedVariables false
set_option linter.unusedSimpArgs false
theorem own : ownKnob Try.prog.godebug = none := by kernel_rfl
theorem laidOut : laidOutB Try.prog = true := by kernel_rfl
set_option maxRecDepth 100000 in
theorem lifted (os : Os) (started : os.Started) (H : Type) (enc : TypeId × Value → H) :
    ReturnsInHanded {} Try.checked os 6 .any (Rows.fnJoinedSpec.pre6 enc Try.prog Try.f6 Rows.fnJoinedRow.domain false) (Rows.fnJoinedSpec.post enc Try.prog Try.f6 false true false false) := by
  refine returnsInHanded_of_change_sized (C := Try.checked) own started (by kernel_rfl) Try.func6
    (ChangeSpec.witness6 (enc := enc) (C := Try.checked) false ⟨#[], #[.slice none 0 0, .slice none 0 0], []⟩ 8 (by kernel_rfl) (by kernel_rfl) (by kernel_rfl) (by kernel_rfl)) ?_
  intro W base args ds gs before hval0 hW hcnd hsz0 _
  have hval : ∀ (j : Nat) t v, Try.f6.params[j]? = some t → args[j]? = some v → Value.okWide Try.prog W .any base t v := hval0
  have hW' := hW
  obtain ⟨p, q, hA0, hV, rfl, hfz, hnd⟩ := hW
  have hA : DataW.TrodAll enc Try.prog W 0 (fun _ => true) true Try.f6.params.toList args.toList ds p := hA0
  rw [Try.params6] at hA hval
  obtain ⟨v0, vs0, d0, ds0, p0, q0, hargs, rfl, rfl, h0, r0⟩ := trodAll_cons hA
  obtain ⟨v1, vs1, d1, ds1, p1, q1, rfl, rfl, rfl, h1, r1⟩ := trodAll_cons r0
  obtain ⟨rfl, rfl, rfl⟩ := trodAll_nil r1
  obtain rfl : args = #[v0, v1] := by cases args; simp_all
  obtain ⟨rfl, rfl⟩ := trodVars_none hV
  obtain ⟨A0, n0, c0, rfl⟩ := okWide_slice Try.underlying46 (hval 0 46 v0 rfl rfl)
  have k0 := h0
  have lt0 : ∀ x ∈ p0, x.block < W.heap.size := by obtain ⟨m, hm⟩ := k0; exact DataW.trod_lt m _ _ _ hm
  obtain ⟨l0, rfl, hc0, hr0, q0_⟩ := Opens.row (opens_slice Try.underlying46 (by kernel_rfl) (opens_int .u8 Try.underlying5)) h0
  obtain ⟨A1, n1, c1, rfl⟩ := okWide_slice Try.underlying46 (hval 1 46 v1 rfl rfl)
  have k1 := h1
  have lt1 : ∀ x ∈ p1, x.block < W.heap.size := by obtain ⟨m, hm⟩ := k1; exact DataW.trod_lt m _ _ _ hm
  obtain ⟨l1, rfl, hc1, hr1, q1_⟩ := Opens.row (opens_slice Try.underlying46 (by kernel_rfl) (opens_int .u8 Try.underlying5)) h1
  clear hA0 hval0 hsz0
  obtain ⟨kr, hk⟩ := Pure.FnJoined l0 l1 q0_ q1_
  refine (laws_FnJoined.calls kr _ _ l0 _ _ l1 true W hr0 hc0 hr1 hc1 hk rfl).mono fun e W' hh => ?_
  obtain ⟨rfl, hd⟩ := hh
  have bel : Below W.heap.size W W' := hd
  exact ⟨_, rfl, _, _, _, [], _, [], hW', trodAll_mk1 (shut_bool Try.underlying4 _), (trodAll_cons_mk (Below.trod laidOut (by kernel_rfl) (of_decide_eq_true (by kernel_rfl)) k0 bel lt0) (trodAll_cons_mk (Below.trod laidOut (by kernel_rfl) (of_decide_eq_true (by kernel_rfl)) k1 bel lt1) trodAll_mk0)), rfl, bel.frame _, fun h => by cases h⟩
theorem over : Rows.fnJoinedRow.holds Try.pinned (OpenSpec.ofChange Rows.fnJoinedSpec) :=
  OpenClaim.holds_of_wide 6 Try.f6 rfl rfl rfl rfl rfl rfl rfl ⟨rfl, rfl, rfl, rfl, rfl⟩ rfl rfl rfl rfl rfl (by kernel_rfl) Try.func6 (by kernel_rfl)
    (of_decide_eq_true (by kernel_rfl)) (by unfold Func.isWrapper; first | (rw [if_pos (by decide +kernel)]; kernel_rfl) | (rw [if_neg (by decide +kernel)]; exact ⟨rfl, rfl⟩))
    (fun os started H enc _ => lifted os started H enc)
theorem proved : Rows.FnJoinedSaid := over
#print axioms proved
end Go.Proofs.Ytcefenlblnediaa.fnJoined
namespace Go.Proofs.Ytcefenlblnediaa
/-- The row, under a short name, for the claim. -/
theorem fnJoined_holds : Rows.FnJoinedSaid := fnJoined.proved
end Go.Proofs.Ytcefenlblnediaa
