/- Part 6 of 6 of a proof of this sentence: The Go function loop.example/g00825/laws.FnExactStepsHunks returns true for every input, and each argument reads afterwards as it read before. No condition. -/
import Derived.Lib.Bytealg
import Derived.Test.YtcefenlblnediaaRows
import Derived.WalkKit
import Derived.ProofKit
import Derived.OpenShut
import Derived.ShutString
import Derived.ChangeOld
import Derived.Below
import Derived.SizedLaws
import Derived.Lib.SmallJoins
import Derived.Test.YtcefenlblnediaaCFnExactStepsHunks5
/- The walk through FnExactStepsHunks where the helpers answer as they should, and where a size is too large. Asked: their answers. -/
namespace Go.Proofs.Ytcefenlblnediaa.My
open Go.RowKit Go.Proofs.YtcefenlblnediaaW.PrintWords Go.Proofs.YtcefenlblnediaaW.PrintLast Go.Proofs.YtcefenlblnediaaW.PrintMore Go.Proofs.Ytcefenlblnediaa.Pl
set_option linter.unusedVariables false
set_option linter.unusedSimpArgs false

set_option maxHeartbeats 4000000 in
set_option maxRecDepth 100000 in
theorem laws_FnExactStepsHunks_early0 (k : Nat) (A0 : Option Addr) (c0 : Nat) (l0 : List ByteArray) (A1 : Option Addr) (c1 : Nat) (l1 : List LT) (w : World) (hr0 : Kd.C Kd.string w A0 l0.length l0) (hc0 : l0.length ≤ c0) (hr1 : Kd.C k140 w A1 l1.length l1) (hc1 : l1.length ≤ c1)
    (s0 : Int) (es0 : laws_szStringS.f k l0 1048576 = some s0) (ns0 : s0 < 0) :
    Calls Try.prog 10 #[.slice A0 l0.length c0, .slice A1 l1.length c1] w fun e w' => e = .returned (.bool true) ∧ Below w.heap.size w w' := by
 have hr0_ := Aside0.mk hr0
 clear hr0
 have hr0 := hr0_
 clear hr0_
 have hc0_ := Aside0.mk hc0
 clear hc0
 have hc0 := hc0_
 clear hc0_
 have hr1_ := Aside0.mk hr1
 clear hr1
 have hr1 := hr1_
 clear hr1_
 have hc1_ := Aside0.mk hc1
 clear hc1
 have hc1 := hc1_
 clear hc1_
 have n0 : decide (s0 < 0) = true := decide_eq_true ns0
 clear ns0
 have es0_ := Aside0.mk es0
 clear es0
 have es0 := es0_
 clear es0_
 have HB := Aside0.mk (Below.refl w.heap.size w)
 go_enter Try.func10, Try.ntmps10
 go_wp2_with fail
 refine (laws_szStringS.calls k A0 c0 l0 1048576 s0 _ (Kd.C_below hr0.out HB.out) hc0.out es0.out).mono ?_
 rintro e w1 ⟨rfl, hb0⟩
 have hb : Below w.heap.size w w1 := by first | exact hb0 | (obtain ⟨nd_, e_⟩ := hb0; rw [e_]; exact pw_below_drewN (Below.refl _ _) nd_)
 clear hb0
 have HB_ := Aside0.mk (below_step HB.out hb)
 have Zw1 := Aside0.mk hb.size
 clear HB hb
 have HB := HB_
 clear HB_
 go_wp2
 go_ret
 exact ⟨rfl, HB.out⟩

set_option maxHeartbeats 4000000 in
set_option maxRecDepth 100000 in
theorem laws_FnExactStepsHunks_early1 (k : Nat) (A0 : Option Addr) (c0 : Nat) (l0 : List ByteArray) (A1 : Option Addr) (c1 : Nat) (l1 : List LT) (w : World) (hr0 : Kd.C Kd.string w A0 l0.length l0) (hc0 : l0.length ≤ c0) (hr1 : Kd.C k140 w A1 l1.length l1) (hc1 : l1.length ≤ c1)
    (s0 : Int) (es0 : laws_szStringS.f k l0 1048576 = some s0) (ns0 : ¬ s0 < 0)
    (s1 : Int) (es1 : laws_szStepS.f k l1 s0 = some s1) (ns1 : s1 < 0) :
    Calls Try.prog 10 #[.slice A0 l0.length c0, .slice A1 l1.length c1] w fun e w' => e = .returned (.bool true) ∧ Below w.heap.size w w' := by
 have hr0_ := Aside0.mk hr0
 clear hr0
 have hr0 := hr0_
 clear hr0_
 have hc0_ := Aside0.mk hc0
 clear hc0
 have hc0 := hc0_
 clear hc0_
 have hr1_ := Aside0.mk hr1
 clear hr1
 have hr1 := hr1_
 clear hr1_
 have hc1_ := Aside0.mk hc1
 clear hc1
 have hc1 := hc1_
 clear hc1_
 have n0 : decide (s0 < 0) = false := decide_eq_false ns0
 clear ns0
 have es0_ := Aside0.mk es0
 clear es0
 have es0 := es0_
 clear es0_
 have n1 : decide (s1 < 0) = true := decide_eq_true ns1
 clear ns1
 have es1_ := Aside0.mk es1
 clear es1
 have es1 := es1_
 clear es1_
 have HB := Aside0.mk (Below.refl w.heap.size w)
 go_enter Try.func10, Try.ntmps10
 go_wp2_with fail
 refine (laws_szStringS.calls k A0 c0 l0 1048576 s0 _ (Kd.C_below hr0.out HB.out) hc0.out es0.out).mono ?_
 rintro e w1 ⟨rfl, hb0⟩
 have hb : Below w.heap.size w w1 := by first | exact hb0 | (obtain ⟨nd_, e_⟩ := hb0; rw [e_]; exact pw_below_drewN (Below.refl _ _) nd_)
 clear hb0
 have HB_ := Aside0.mk (below_step HB.out hb)
 have Zw1 := Aside0.mk hb.size
 clear HB hb
 have HB := HB_
 clear HB_
 go_wp2_with fail
 refine (laws_szStepS.calls k A1 c1 l1 s0 s1 _ (Kd.C_below hr1.out HB.out) hc1.out es1.out).mono ?_
 rintro e w2 ⟨rfl, hb0⟩
 have hb : Below w1.heap.size w1 w2 := by first | exact hb0 | (obtain ⟨nd_, e_⟩ := hb0; rw [e_]; exact pw_below_drewN (Below.refl _ _) nd_)
 clear hb0
 have HB_ := Aside0.mk (below_step HB.out hb)
 have Zw2 := Aside0.mk hb.size
 clear HB hb
 have HB := HB_
 clear HB_
 go_wp2
 go_ret
 exact ⟨rfl, HB.out⟩

set_option maxHeartbeats 16000000 in
set_option maxRecDepth 100000 in
theorem laws_FnExactStepsHunks_true (k : Nat) (A0 : Option Addr) (c0 : Nat) (l0 : List ByteArray) (A1 : Option Addr) (c1 : Nat) (l1 : List LT) (w : World) (hr0 : Kd.C Kd.string w A0 l0.length l0) (hc0 : l0.length ≤ c0) (hr1 : Kd.C k140 w A1 l1.length l1) (hc1 : l1.length ≤ c1)
    (s0 : Int) (es0 : laws_szStringS.f k l0 1048576 = some s0) (ns0 : ¬ s0 < 0)
    (s1 : Int) (es1 : laws_szStepS.f k l1 s0 = some s1) (ns1 : ¬ s1 < 0)
    (x0 : List ByteArray) (et0 : laws_toStringS.f k l0 = some x0) (ee0 : laws_eqStringS.f k x0 x0 = some true)
    (x1 : List IT) (et1 : laws_toStepS.f k l1 = some x1) (ee1 : laws_eqStepS.f k x1 x1 = some true)
    (v : List IH) (r0 : Int) (r1 : Bool) (esp : spec_StepsHunks.f k x0 x1 = some (v, r0, r1)) (eim : impl_StepsHunks.f k x0 x1 = some (v, r0, r1)) (eev : laws_eqHunkS.f k v v = some true)
    (em0 : laws_markStringS.f k x0 ((1 : Nat) : Int) = some ((((1 + x0.length) : Nat) : Int), marks 1 x0.length))
    (hm1 : (endT x1 (1 + x0.length)) ≤ 1099511627776) (hL1 : x1.length ≤ 1099511627776)
    (hmv : (endH v 1) ≤ 1099511627776) (hLv : v.length ≤ 1099511627776) (ehv : laws_heldHunkS.f k (mkHs v 1) 1 = some (((endH v 1) : Nat) : Int)) :
    Calls Try.prog 10 #[.slice A0 l0.length c0, .slice A1 l1.length c1] w fun e w' => e = .returned (.bool true) ∧ Below w.heap.size w w' := by
 have n0 : decide (s0 < 0) = false := decide_eq_false ns0
 clear ns0
 have hr0_ := Aside0.mk hr0
 clear hr0
 have hr0 := hr0_
 clear hr0_
 have hc0_ := Aside0.mk hc0
 clear hc0
 have hc0 := hc0_
 clear hc0_
 have es0_ := Aside0.mk es0
 clear es0
 have es0 := es0_
 clear es0_
 have et0_ := Aside0.mk et0
 clear et0
 have et0 := et0_
 clear et0_
 have ee0_ := Aside0.mk ee0
 clear ee0
 have ee0 := ee0_
 clear ee0_
 have em0_ := Aside0.mk em0
 clear em0
 have em0 := em0_
 clear em0_
 have n1 : decide (s1 < 0) = false := decide_eq_false ns1
 clear ns1
 have hr1_ := Aside0.mk hr1
 clear hr1
 have hr1 := hr1_
 clear hr1_
 have hc1_ := Aside0.mk hc1
 clear hc1
 have hc1 := hc1_
 clear hc1_
 have es1_ := Aside0.mk es1
 clear es1
 have es1 := es1_
 clear es1_
 have et1_ := Aside0.mk et1
 clear et1
 have et1 := et1_
 clear et1_
 have ee1_ := Aside0.mk ee1
 clear ee1
 have ee1 := ee1_
 clear ee1_
 have hm1_ := Aside0.mk hm1
 clear hm1
 have hm1 := hm1_
 clear hm1_
 have hL1_ := Aside0.mk hL1
 clear hL1
 have hL1 := hL1_
 clear hL1_
 have esp_ := Aside0.mk esp
 clear esp
 have esp := esp_
 clear esp_
 have eim_ := Aside0.mk eim
 clear eim
 have eim := eim_
 clear eim_
 have eev_ := Aside0.mk eev
 clear eev
 have eev := eev_
 clear eev_
 have ehv_ := Aside0.mk ehv
 clear ehv
 have ehv := ehv_
 clear ehv_
 have hmv_ := Aside0.mk hmv
 clear hmv
 have hmv := hmv_
 clear hmv_
 have hLv_ := Aside0.mk hLv
 clear hLv
 have hLv := hLv_
 clear hLv_
 have nm0 : decide (((((1 + x0.length) : Nat) : Int)) < 0) = false := decide_eq_false (Int.not_lt.2 (Int.natCast_nonneg _))
 have nm1 : decide (((((endT x1 (1 + x0.length)) : Nat) : Int)) < 0) = false := decide_eq_false (Int.not_lt.2 (Int.natCast_nonneg _))
 have nv : decide (((((endH v 1) : Nat) : Int)) < 0) = false := decide_eq_false (Int.not_lt.2 (Int.natCast_nonneg _))
 have HB := Aside0.mk (Below.refl w.heap.size w)
 go_enter Try.func10, Try.ntmps10
 go_wp2_with fail
 refine (laws_szStringS.calls k A0 c0 l0 1048576 s0 _ (Kd.C_below hr0.out HB.out) hc0.out es0.out).mono ?_
 rintro e w1 ⟨rfl, hb0⟩
 have hb : Below w.heap.size w w1 := by first | exact hb0 | (obtain ⟨nd_, e_⟩ := hb0; rw [e_]; exact pw_below_drewN (Below.refl _ _) nd_)
 clear hb0
 have HB_ := Aside0.mk (below_step HB.out hb)
 have Zw1 := Aside0.mk hb.size
 clear HB hb
 have HB := HB_
 clear HB_
 go_wp2_with fail
 refine (laws_szStepS.calls k A1 c1 l1 s0 s1 _ (Kd.C_below hr1.out HB.out) hc1.out es1.out).mono ?_
 rintro e w2 ⟨rfl, hb0⟩
 have hb : Below w1.heap.size w1 w2 := by first | exact hb0 | (obtain ⟨nd_, e_⟩ := hb0; rw [e_]; exact pw_below_drewN (Below.refl _ _) nd_)
 clear hb0
 have HB_ := Aside0.mk (below_step HB.out hb)
 have Zw2 := Aside0.mk hb.size
 clear HB hb
 have HB := HB_
 clear HB_
 go_wp2_with fail
 refine (laws_toStringS.calls k A0 c0 l0 x0 _ (Kd.C_below hr0.out HB.out) hc0.out et0.out).mono ?_
 rintro e w3 ⟨vv, rfl, ho, hb⟩
 obtain ⟨AY0, cY0, rfl⟩ := Kd.R_slice ho
 have Y0 := Aside0.mk (Kd.R_mono (ok' := fun k_ => w2.heap.size ≤ k_ ∧ k_ < w3.heap.size) (Kd.R_lower (Kd.R_bound ho) HB.out.size) (fun k_ h_ => ⟨h_.2.1, h_.2.2.1⟩))
 clear ho
 have HB_ := Aside0.mk (below_step HB.out hb)
 have Zw3 := Aside0.mk hb.size
 clear HB hb
 have HB := HB_
 clear HB_
 go_wp2_with fail
 refine (laws_toStepS.calls k A1 c1 l1 x1 _ (Kd.C_below hr1.out HB.out) hc1.out et1.out).mono ?_
 rintro e w4 ⟨vv, rfl, ho, hb⟩
 obtain ⟨AY1, cY1, rfl⟩ := Kd.S_slice ho
 have Y0_ := Aside0.mk (Kd.R_below Y0.out hb)
 clear Y0
 have Y0 := Y0_
 clear Y0_
 have Y1 := Aside0.mk (Kd.S_mono (ok' := fun k_ => w3.heap.size ≤ k_ ∧ k_ < w4.heap.size) (Kd.S_lower (Kd.S_bound ho) HB.out.size) (fun k_ h_ => ⟨h_.2.1, h_.2.2.1⟩))
 clear ho
 have HB_ := Aside0.mk (below_step HB.out hb)
 have Zw4 := Aside0.mk hb.size
 clear HB hb
 have HB := HB_
 clear HB_
 go_wp2_with fail
 refine (spec_StepsHunks.calls k AY0 cY0 x0 AY1 cY1 x1 v r0 r1 _ (Kd.R_reads' Y0.out).2.2 (Kd.R_reads' Y0.out).2.1 (Kd.S_reads' Y1.out).2.2 (Kd.S_reads' Y1.out).2.1 esp.out).mono ?_
 rintro e w5 ⟨vv, rfl, ho, hb⟩
 obtain ⟨AVW, cVW, rfl⟩ := Kd.S_slice ho
 have Y0_ := Aside0.mk (Kd.R_below Y0.out hb)
 clear Y0
 have Y0 := Y0_
 clear Y0_
 have Y1_ := Aside0.mk (Kd.S_below Y1.out hb)
 clear Y1
 have Y1 := Y1_
 clear Y1_
 have VW := Aside0.mk (Kd.S_mono (ok' := fun k_ => w4.heap.size ≤ k_ ∧ k_ < w5.heap.size) (Kd.S_lower (Kd.S_bound ho) HB.out.size) (fun k_ h_ => ⟨h_.2.1, h_.2.2.1⟩))
 clear ho
 have HB_ := Aside0.mk (below_step HB.out hb)
 have Zw5 := Aside0.mk hb.size
 clear HB hb
 have HB := HB_
 clear HB_
 clear Y0
 clear Y1
 go_wp2_with fail
 refine (laws_toStringS.calls k A0 c0 l0 x0 _ (Kd.C_below hr0.out HB.out) hc0.out et0.out).mono ?_
 rintro e w6 ⟨vv, rfl, ho, hb⟩
 obtain ⟨AX0, cX0, rfl⟩ := Kd.R_slice ho
 have VW_ := Aside0.mk (Kd.S_below VW.out hb)
 clear VW
 have VW := VW_
 clear VW_
 have X0 := Aside0.mk (Kd.R_mono (ok' := fun k_ => w5.heap.size ≤ k_ ∧ k_ < w6.heap.size) (Kd.R_lower (Kd.R_bound ho) HB.out.size) (fun k_ h_ => ⟨h_.2.1, h_.2.2.1⟩))
 clear ho
 have HB_ := Aside0.mk (below_step HB.out hb)
 have Zw6 := Aside0.mk hb.size
 clear HB hb
 have HB := HB_
 clear HB_
 go_wp2_with fail
 refine (laws_toStepS.calls k A1 c1 l1 x1 _ (Kd.C_below hr1.out HB.out) hc1.out et1.out).mono ?_
 rintro e w7 ⟨vv, rfl, ho, hb⟩
 obtain ⟨AX1, cX1, rfl⟩ := Kd.S_slice ho
 have VW_ := Aside0.mk (Kd.S_below VW.out hb)
 clear VW
 have VW := VW_
 clear VW_
 have X0_ := Aside0.mk (Kd.R_below X0.out hb)
 clear X0
 have X0 := X0_
 clear X0_
 have X1 := Aside0.mk (Kd.S_mono (ok' := fun k_ => w6.heap.size ≤ k_ ∧ k_ < w7.heap.size) (Kd.S_lower (Kd.S_bound ho) HB.out.size) (fun k_ h_ => ⟨h_.2.1, h_.2.2.1⟩))
 clear ho
 have HB_ := Aside0.mk (below_step HB.out hb)
 have Zw7 := Aside0.mk hb.size
 clear HB hb
 have HB := HB_
 clear HB_
 go_wp2_with fail
 refine (impl_StepsHunks.calls k AX0 cX0 x0 AX1 cX1 x1 v r0 r1 _ (Kd.R_reads' X0.out).2.2 (Kd.R_reads' X0.out).2.1 (Kd.S_reads' X1.out).2.2 (Kd.S_reads' X1.out).2.1 eim.out).mono ?_
 rintro e w8 ⟨vv, rfl, ho, hb⟩
 obtain ⟨AVG, cVG, rfl⟩ := Kd.S_slice ho
 have VW_ := Aside0.mk (Kd.S_below VW.out hb)
 clear VW
 have VW := VW_
 clear VW_
 have X0_ := Aside0.mk (Kd.R_below X0.out hb)
 clear X0
 have X0 := X0_
 clear X0_
 have X1_ := Aside0.mk (Kd.S_below X1.out hb)
 clear X1
 have X1 := X1_
 clear X1_
 have VG := Aside0.mk (Kd.S_mono (ok' := fun k_ => w7.heap.size ≤ k_ ∧ k_ < w8.heap.size) (Kd.S_lower (Kd.S_bound ho) HB.out.size) (fun k_ h_ => ⟨h_.2.1, h_.2.2.1⟩))
 clear ho
 have HB_ := Aside0.mk (below_step HB.out hb)
 have Zw8 := Aside0.mk hb.size
 clear HB hb
 have HB := HB_
 clear HB_
 go_wp2_with fail
 refine (laws_eqHunkS.calls k AVG cVG v AVW cVW v true _ (Kd.S_reads' VG.out).2.2 (Kd.S_reads' VG.out).2.1 (Kd.S_reads' VW.out).2.2 (Kd.S_reads' VW.out).2.1 eev.out).mono ?_
 rintro e w9 ⟨rfl, hb0⟩
 have hb : Below w8.heap.size w8 w9 := by first | exact hb0 | (obtain ⟨nd_, e_⟩ := hb0; rw [e_]; exact pw_below_drewN (Below.refl _ _) nd_)
 clear hb0
 have VW_ := Aside0.mk (Kd.S_below VW.out hb)
 clear VW
 have VW := VW_
 clear VW_
 have X0_ := Aside0.mk (Kd.R_below X0.out hb)
 clear X0
 have X0 := X0_
 clear X0_
 have X1_ := Aside0.mk (Kd.S_below X1.out hb)
 clear X1
 have X1 := X1_
 clear X1_
 have VG_ := Aside0.mk (Kd.S_below VG.out hb)
 clear VG
 have VG := VG_
 clear VG_
 have HB_ := Aside0.mk (below_step HB.out hb)
 have Zw9 := Aside0.mk hb.size
 clear HB hb
 have HB := HB_
 clear HB_
 go_wp2_with fail
 refine (laws_toStringS.calls k A0 c0 l0 x0 _ (Kd.C_below hr0.out HB.out) hc0.out et0.out).mono ?_
 rintro e w10 ⟨vv, rfl, ho, hb⟩
 obtain ⟨AQ0, cQ0, rfl⟩ := Kd.R_slice ho
 have VW_ := Aside0.mk (Kd.S_below VW.out hb)
 clear VW
 have VW := VW_
 clear VW_
 have X0_ := Aside0.mk (Kd.R_below X0.out hb)
 clear X0
 have X0 := X0_
 clear X0_
 have X1_ := Aside0.mk (Kd.S_below X1.out hb)
 clear X1
 have X1 := X1_
 clear X1_
 have VG_ := Aside0.mk (Kd.S_below VG.out hb)
 clear VG
 have VG := VG_
 clear VG_
 have Q0 := Aside0.mk (Kd.R_mono (ok' := fun k_ => w9.heap.size ≤ k_ ∧ k_ < w10.heap.size) (Kd.R_lower (Kd.R_bound ho) HB.out.size) (fun k_ h_ => ⟨h_.2.1, h_.2.2.1⟩))
 clear ho
 have HB_ := Aside0.mk (below_step HB.out hb)
 have Zw10 := Aside0.mk hb.size
 clear HB hb
 have HB := HB_
 clear HB_
 go_wp2_with fail
 refine (laws_eqStringS.calls k AX0 cX0 x0 AQ0 cQ0 x0 true _ (Kd.R_reads' X0.out).2.2 (Kd.R_reads' X0.out).2.1 (Kd.R_reads' Q0.out).2.2 (Kd.R_reads' Q0.out).2.1 ee0.out).mono ?_
 rintro e w11 ⟨rfl, hb0⟩
 have hb : Below w10.heap.size w10 w11 := by first | exact hb0 | (obtain ⟨nd_, e_⟩ := hb0; rw [e_]; exact pw_below_drewN (Below.refl _ _) nd_)
 clear hb0
 have VW_ := Aside0.mk (Kd.S_below VW.out hb)
 clear VW
 have VW := VW_
 clear VW_
 have X0_ := Aside0.mk (Kd.R_below X0.out hb)
 clear X0
 have X0 := X0_
 clear X0_
 have X1_ := Aside0.mk (Kd.S_below X1.out hb)
 clear X1
 have X1 := X1_
 clear X1_
 have VG_ := Aside0.mk (Kd.S_below VG.out hb)
 clear VG
 have VG := VG_
 clear VG_
 have Q0_ := Aside0.mk (Kd.R_below Q0.out hb)
 clear Q0
 have Q0 := Q0_
 clear Q0_
 have HB_ := Aside0.mk (below_step HB.out hb)
 have Zw11 := Aside0.mk hb.size
 clear HB hb
 have HB := HB_
 clear HB_
 clear Q0
 go_wp2_with fail
 refine (laws_toStepS.calls k A1 c1 l1 x1 _ (Kd.C_below hr1.out HB.out) hc1.out et1.out).mono ?_
 rintro e w12 ⟨vv, rfl, ho, hb⟩
 obtain ⟨AQ1, cQ1, rfl⟩ := Kd.S_slice ho
 have VW_ := Aside0.mk (Kd.S_below VW.out hb)
 clear VW
 have VW := VW_
 clear VW_
 have X0_ := Aside0.mk (Kd.R_below X0.out hb)
 clear X0
 have X0 := X0_
 clear X0_
 have X1_ := Aside0.mk (Kd.S_below X1.out hb)
 clear X1
 have X1 := X1_
 clear X1_
 have VG_ := Aside0.mk (Kd.S_below VG.out hb)
 clear VG
 have VG := VG_
 clear VG_
 have Q1 := Aside0.mk (Kd.S_mono (ok' := fun k_ => w11.heap.size ≤ k_ ∧ k_ < w12.heap.size) (Kd.S_lower (Kd.S_bound ho) HB.out.size) (fun k_ h_ => ⟨h_.2.1, h_.2.2.1⟩))
 clear ho
 have HB_ := Aside0.mk (below_step HB.out hb)
 have Zw12 := Aside0.mk hb.size
 clear HB hb
 have HB := HB_
 clear HB_
 go_wp2_with fail
 refine (laws_eqStepS.calls k AX1 cX1 x1 AQ1 cQ1 x1 true _ (Kd.S_reads' X1.out).2.2 (Kd.S_reads' X1.out).2.1 (Kd.S_reads' Q1.out).2.2 (Kd.S_reads' Q1.out).2.1 ee1.out).mono ?_
 rintro e w13 ⟨rfl, hb0⟩
 have hb : Below w12.heap.size w12 w13 := by first | exact hb0 | (obtain ⟨nd_, e_⟩ := hb0; rw [e_]; exact pw_below_drewN (Below.refl _ _) nd_)
 clear hb0
 have VW_ := Aside0.mk (Kd.S_below VW.out hb)
 clear VW
 have VW := VW_
 clear VW_
 have X0_ := Aside0.mk (Kd.R_below X0.out hb)
 clear X0
 have X0 := X0_
 clear X0_
 have X1_ := Aside0.mk (Kd.S_below X1.out hb)
 clear X1
 have X1 := X1_
 clear X1_
 have VG_ := Aside0.mk (Kd.S_below VG.out hb)
 clear VG
 have VG := VG_
 clear VG_
 have Q1_ := Aside0.mk (Kd.S_below Q1.out hb)
 clear Q1
 have Q1 := Q1_
 clear Q1_
 have HB_ := Aside0.mk (below_step HB.out hb)
 have Zw13 := Aside0.mk hb.size
 clear HB hb
 have HB := HB_
 clear HB_
 clear Q1
 go_wp2_with fail
 refine (laws_markStringS.calls k (fun k_ => w5.heap.size ≤ k_ ∧ k_ < w6.heap.size) _ x0 _ _ _ w _ HB.out X0.out em0.out).mono ?_
 rintro e w14 ⟨rfl, hR, hb, hk⟩
 have VW_ := Aside0.mk (Kd.S_kept VW.out hk (fun k_ h1_ h2_ => Nat.lt_irrefl k_ (Nat.lt_of_lt_of_le h1_.2 (Nat.le_trans (Nat.le_refl _) h2_.1))))
 clear VW
 have VW := VW_
 clear VW_
 have X1_ := Aside0.mk (Kd.S_kept X1.out hk (fun k_ h1_ h2_ => Nat.lt_irrefl k_ (Nat.lt_of_lt_of_le h2_.2 (Nat.le_trans (Nat.le_refl _) h1_.1))))
 clear X1
 have X1 := X1_
 clear X1_
 have VG_ := Aside0.mk (Kd.S_kept VG.out hk (fun k_ h1_ h2_ => Nat.lt_irrefl k_ (Nat.lt_of_lt_of_le h2_.2 (Nat.le_trans (Nat.le_trans (Nat.le_refl _) Zw7.out) h1_.1))))
 clear VG
 have VG := VG_
 clear VG_
 clear X0 hR
 have Zw14 := Aside0.mk hk.1
 clear hk HB
 have HB := Aside0.mk hb
 clear hb
 go_wp2_with fail
 refine (laws_markStepS_made (fun k_ => w6.heap.size ≤ k_ ∧ k_ < w7.heap.size) _ x1 (1 + x0.length) w _ hm1.out hL1.out HB.out X1.out).mono ?_
 rintro e w15 ⟨rfl, hR, hb, hk⟩
 have VW_ := Aside0.mk (Kd.S_kept VW.out hk (fun k_ h1_ h2_ => Nat.lt_irrefl k_ (Nat.lt_of_lt_of_le h1_.2 (Nat.le_trans (Nat.le_trans (Nat.le_refl _) Zw6.out) h2_.1))))
 clear VW
 have VW := VW_
 clear VW_
 have VG_ := Aside0.mk (Kd.S_kept VG.out hk (fun k_ h1_ h2_ => Nat.lt_irrefl k_ (Nat.lt_of_lt_of_le h2_.2 (Nat.le_trans (Nat.le_refl _) h1_.1))))
 clear VG
 have VG := VG_
 clear VG_
 clear X1 hR
 have Zw15 := Aside0.mk hk.1
 clear hk HB
 have HB := Aside0.mk hb
 clear hb
 go_wp2_with fail
 refine (laws_eqHunkS.calls k AVG cVG v AVW cVW v true _ (Kd.S_reads' VG.out).2.2 (Kd.S_reads' VG.out).2.1 (Kd.S_reads' VW.out).2.2 (Kd.S_reads' VW.out).2.1 eev.out).mono ?_
 rintro e w16 ⟨rfl, hb0⟩
 have hb : Below w15.heap.size w15 w16 := by first | exact hb0 | (obtain ⟨nd_, e_⟩ := hb0; rw [e_]; exact pw_below_drewN (Below.refl _ _) nd_)
 clear hb0
 have VW_ := Aside0.mk (Kd.S_below VW.out hb)
 clear VW
 have VW := VW_
 clear VW_
 have VG_ := Aside0.mk (Kd.S_below VG.out hb)
 clear VG
 have VG := VG_
 clear VG_
 have HB_ := Aside0.mk (below_step HB.out hb)
 have Zw16 := Aside0.mk hb.size
 clear HB hb
 have HB := HB_
 clear HB_
 go_wp2_with fail
 refine (laws_markHunkS_made (fun k_ => w7.heap.size ≤ k_ ∧ k_ < w8.heap.size) _ v 1 w _ hmv.out hLv.out HB.out VG.out).mono ?_
 rintro e w17 ⟨rfl, hR, hb, hk⟩
 have VW_ := Aside0.mk (Kd.S_kept VW.out hk (fun k_ h1_ h2_ => Nat.lt_irrefl k_ (Nat.lt_of_lt_of_le h1_.2 (Nat.le_trans (Nat.le_trans (Nat.le_trans (Nat.le_refl _) Zw6.out) Zw7.out) h2_.1))))
 clear VW
 have VW := VW_
 clear VW_
 have VG_ := Aside0.mk hR
 clear VG hR
 have VG := VG_
 clear VG_
 have Zw17 := Aside0.mk hk.1
 clear hk HB
 have HB := Aside0.mk hb
 clear hb
 go_wp2_with fail
 have eLen := (Kd.S_reads' VG.out).1
 refine calls_of_args (args' := #[.slice AVG ((mkHs v 1) : List IH).length cVG, .int .i64 1]) (by rw [← eLen]) ?_
 refine (laws_heldHunkS.calls k AVG cVG (mkHs v 1) 1 _ _ (Kd.S_reads' VG.out).2.2 (by rw [← eLen]; exact (Kd.S_reads' VG.out).2.1) ehv.out).mono ?_
 rintro e w18 ⟨rfl, hb0⟩
 clear eLen
 have hb : Below w17.heap.size w17 w18 := by first | exact hb0 | (obtain ⟨nd_, e_⟩ := hb0; rw [e_]; exact pw_below_drewN (Below.refl _ _) nd_)
 clear hb0
 have VW_ := Aside0.mk (Kd.S_below VW.out hb)
 clear VW
 have VW := VW_
 clear VW_
 have VG_ := Aside0.mk (Kd.S_below VG.out hb)
 clear VG
 have VG := VG_
 clear VG_
 have HB_ := Aside0.mk (below_step HB.out hb)
 have Zw18 := Aside0.mk hb.size
 clear HB hb
 have HB := HB_
 clear HB_
 go_wp2_with fail
 refine (laws_toStringS.calls k A0 c0 l0 x0 _ (Kd.C_below hr0.out HB.out) hc0.out et0.out).mono ?_
 rintro e w19 ⟨vv, rfl, ho, hb⟩
 obtain ⟨AY0, cY0, rfl⟩ := Kd.R_slice ho
 have VW_ := Aside0.mk (Kd.S_below VW.out hb)
 clear VW
 have VW := VW_
 clear VW_
 have VG_ := Aside0.mk (Kd.S_below VG.out hb)
 clear VG
 have VG := VG_
 clear VG_
 have Y0 := Aside0.mk (Kd.R_mono (ok' := fun k_ => w18.heap.size ≤ k_ ∧ k_ < w19.heap.size) (Kd.R_lower (Kd.R_bound ho) HB.out.size) (fun k_ h_ => ⟨h_.2.1, h_.2.2.1⟩))
 clear ho
 have HB_ := Aside0.mk (below_step HB.out hb)
 have Zw19 := Aside0.mk hb.size
 clear HB hb
 have HB := HB_
 clear HB_
 go_wp2_with fail
 refine (laws_toStepS.calls k A1 c1 l1 x1 _ (Kd.C_below hr1.out HB.out) hc1.out et1.out).mono ?_
 rintro e w20 ⟨vv, rfl, ho, hb⟩
 obtain ⟨AY1, cY1, rfl⟩ := Kd.S_slice ho
 have VW_ := Aside0.mk (Kd.S_below VW.out hb)
 clear VW
 have VW := VW_
 clear VW_
 have VG_ := Aside0.mk (Kd.S_below VG.out hb)
 clear VG
 have VG := VG_
 clear VG_
 have Y0_ := Aside0.mk (Kd.R_below Y0.out hb)
 clear Y0
 have Y0 := Y0_
 clear Y0_
 have Y1 := Aside0.mk (Kd.S_mono (ok' := fun k_ => w19.heap.size ≤ k_ ∧ k_ < w20.heap.size) (Kd.S_lower (Kd.S_bound ho) HB.out.size) (fun k_ h_ => ⟨h_.2.1, h_.2.2.1⟩))
 clear ho
 have HB_ := Aside0.mk (below_step HB.out hb)
 have Zw20 := Aside0.mk hb.size
 clear HB hb
 have HB := HB_
 clear HB_
 go_wp2_with fail
 refine (impl_StepsHunks.calls k AY0 cY0 x0 AY1 cY1 x1 v r0 r1 _ (Kd.R_reads' Y0.out).2.2 (Kd.R_reads' Y0.out).2.1 (Kd.S_reads' Y1.out).2.2 (Kd.S_reads' Y1.out).2.1 eim.out).mono ?_
 rintro e w21 ⟨vv, rfl, ho, hb⟩
 obtain ⟨AVH, cVH, rfl⟩ := Kd.S_slice ho
 have VW_ := Aside0.mk (Kd.S_below VW.out hb)
 clear VW
 have VW := VW_
 clear VW_
 have VG_ := Aside0.mk (Kd.S_below VG.out hb)
 clear VG
 have VG := VG_
 clear VG_
 have Y0_ := Aside0.mk (Kd.R_below Y0.out hb)
 clear Y0
 have Y0 := Y0_
 clear Y0_
 have Y1_ := Aside0.mk (Kd.S_below Y1.out hb)
 clear Y1
 have Y1 := Y1_
 clear Y1_
 have VH := Aside0.mk (Kd.S_mono (ok' := fun k_ => w20.heap.size ≤ k_ ∧ k_ < w21.heap.size) (Kd.S_lower (Kd.S_bound ho) HB.out.size) (fun k_ h_ => ⟨h_.2.1, h_.2.2.1⟩))
 clear ho
 have HB_ := Aside0.mk (below_step HB.out hb)
 have Zw21 := Aside0.mk hb.size
 clear HB hb
 have HB := HB_
 clear HB_
 clear Y0
 clear Y1
 go_wp2_with fail
 refine (laws_eqHunkS.calls k AVH cVH v AVW cVW v true _ (Kd.S_reads' VH.out).2.2 (Kd.S_reads' VH.out).2.1 (Kd.S_reads' VW.out).2.2 (Kd.S_reads' VW.out).2.1 eev.out).mono ?_
 rintro e w22 ⟨rfl, hb0⟩
 have hb : Below w21.heap.size w21 w22 := by first | exact hb0 | (obtain ⟨nd_, e_⟩ := hb0; rw [e_]; exact pw_below_drewN (Below.refl _ _) nd_)
 clear hb0
 have VW_ := Aside0.mk (Kd.S_below VW.out hb)
 clear VW
 have VW := VW_
 clear VW_
 have VG_ := Aside0.mk (Kd.S_below VG.out hb)
 clear VG
 have VG := VG_
 clear VG_
 have VH_ := Aside0.mk (Kd.S_below VH.out hb)
 clear VH
 have VH := VH_
 clear VH_
 have HB_ := Aside0.mk (below_step HB.out hb)
 have Zw22 := Aside0.mk hb.size
 clear HB hb
 have HB := HB_
 clear HB_
 clear VH VW
 go_wp2_with fail
 have eLen := (Kd.S_reads' VG.out).1
 refine calls_of_args (args' := #[.slice AVG ((mkHs v 1) : List IH).length cVG, .int .i64 1]) (by rw [← eLen]) ?_
 refine (laws_heldHunkS.calls k AVG cVG (mkHs v 1) 1 _ _ (Kd.S_reads' VG.out).2.2 (by rw [← eLen]; exact (Kd.S_reads' VG.out).2.1) ehv.out).mono ?_
 rintro e w23 ⟨rfl, hb0⟩
 clear eLen
 have hb : Below w22.heap.size w22 w23 := by first | exact hb0 | (obtain ⟨nd_, e_⟩ := hb0; rw [e_]; exact pw_below_drewN (Below.refl _ _) nd_)
 clear hb0
 have VG_ := Aside0.mk (Kd.S_below VG.out hb)
 clear VG
 have VG := VG_
 clear VG_
 have HB_ := Aside0.mk (below_step HB.out hb)
 have Zw23 := Aside0.mk hb.size
 clear HB hb
 have HB := HB_
 clear HB_
 go_wp2
 go_ret
 exact ⟨rfl, HB.out⟩
end Go.Proofs.Ytcefenlblnediaa.My

/- Plain Lean: whether a number lies between two. No condition. -/
namespace Go.Proofs.Ytcefenlblnediaa.Pl
open Go.RowKit Go.Proofs.YtcefenlblnediaaW.PrintWords Go.Proofs.YtcefenlblnediaaW.PrintLast Go.Proofs.Ytcefenlblnediaa.My
set_option linter.unusedVariables false
set_option linter.unusedSimpArgs false

def inB (n lo hi : Int) : Bool := decide (lo ≤ n) && decide (n ≤ hi)
theorem inB_iff (a b c : Int) : inB a b c = true ↔ b ≤ a ∧ a ≤ c := by
  unfold inB
  rw [Bool.and_eq_true, decide_eq_true_eq, decide_eq_true_eq]
theorem impl_in_eq (a b c : Int) : impl_in.f a b c = some (inB a b c) := by
  unfold impl_in.f inB
  by_cases h : b ≤ a
  · rw [if_pos h]; simp [h]
  · rw [if_neg (by omega)]; simp [h]
theorem spec_l1In_eq (a b c : Int) : spec_l1In.f a b c = some (inB a b c) := by
  unfold spec_l1In.f inB
  by_cases h : b ≤ a
  · rw [if_pos h]; simp [h]
  · rw [if_neg (by omega)]; simp [h]
end Go.Proofs.Ytcefenlblnediaa.Pl

/- Plain Lean: chapter 1: what a line and good lines are, for the program and the reference. Conditions: lengths and sizes below 2^63. -/
namespace Go.Proofs.Ytcefenlblnediaa.Pl
open Go.RowKit Go.Proofs.YtcefenlblnediaaW.PrintWords Go.Proofs.YtcefenlblnediaaW.PrintLast Go.Proofs.Ytcefenlblnediaa.My
set_option linter.unusedVariables false
set_option linter.unusedSimpArgs false

/-- A line. -/
def isLn (s : ByteArray) : Bool := !(s.data.toList.dropLast.contains 10) && inB s.size 1 30
/-- Its last byte is 10. -/
def ends (s : ByteArray) : Bool := s.data.toList.getLast? == some 10
def good (l : List ByteArray) : Bool := decide (l.length ≤ 40) && (l.all isLn && l.dropLast.all ends)

theorem toList_one (c : UInt8) : (⟨#[c]⟩ : ByteArray).toList = [c] := by rw [Lib.toList_data]
theorem size_one (c : UInt8) : (⟨#[c]⟩ : ByteArray).size = 1 := rfl
theorem bt_one (c : UInt8) : bt ⟨#[c]⟩ 0 = (c.toNat : Int) := rfl

theorem index_ev (s : ByteArray) (c : UInt8) : Ev (fun k => strings_Index.f k s ⟨#[c]⟩) (Lib.indexByte s.data.toList c) := by
  have hj : ∀ b : Bool, (b = true → Lib.indexByte s.data.toList c = 0) → Ev (fun k => stringslite_Index.j0 k s ⟨#[c]⟩ 1 b) (Lib.indexByte s.data.toList c) := by
    intro b hb
    refine Ev.step (fun k => stringslite_Index.j0.eq_2 ..) ?_
    refine ev_ite (fun h => ev_some (hb h).symm) (fun _ => ?_)
    refine ev_pos rfl (ev_pos (by rw [size_one]; decide) ?_)
    refine ev_const ?_
    rw [bt_one]
    simp [stringslite_IndexByte.f]
  have h2 : Ev (fun k => stringslite_Index.f k s ⟨#[c]⟩) (Lib.indexByte s.data.toList c) := by
    simp only [stringslite_Index.f]
    refine ev_neg (by rw [size_one]; decide) ?_
    refine hj _ (fun h => ?_)
    have e : s.data.toList = [c] := by
      have := beq_iff_eq.1 h
      rw [toList_one, Lib.toList_data] at this
      exact this.symm
    rw [e]
    simp [Lib.indexByte]
  simp only [strings_Index.f]
  exact ev_bind h2 (ev_some rfl)

theorem indexByte_nonneg (l : List UInt8) (c : UInt8) : decide (Lib.indexByte l c ≥ 0) = l.contains c := by
  induction l with
  | nil => simp [Lib.indexByte]
  | cons b l ih =>
    have hge := Lib.indexByte_ge l c
    unfold Lib.indexByte
    by_cases h : (b == c) = true
    · have : b = c := beq_iff_eq.1 h
      simp [this]
    · have hb : (b == c) = false := by simpa using h
      have hne : ¬ c = b := fun e => h (by simp [e])
      rw [List.contains_cons, ← ih]
      simp only [hb]
      by_cases h2 : Lib.indexByte l c = -1
      · simp [h2, hne]
      · have h3 : (Lib.indexByte l c == -1) = false := by simpa using h2
        simp only [h3]
        have : Lib.indexByte l c ≥ 0 := by omega
        simp [hne, this]
        omega

theorem contains_ev (s : ByteArray) (c : UInt8) : Ev (fun k => strings_Contains.f k s ⟨#[c]⟩) (s.data.toList.contains c) := by
  simp only [strings_Contains.f]
  exact ev_bind (index_ev s c) (ev_some (indexByte_nonneg _ _))

theorem extract_data (s : ByteArray) (a b : Nat) : (s.extract a b).data.toList = (s.data.toList.take b).drop a := by
  rw [ByteArray.data_extract, Array.toList_extract, List.extract_eq_take_drop, ← List.drop_take]

theorem isLine_ev (s : ByteArray) (hs : s.size ≤ 9223372036854775807) : Ev (fun k => impl_isLine.f k s) (isLn s) := by
  simp only [impl_isLine.f, impl_in_eq, Option.bind_some]
  refine ev_ite (fun h => ?_) (fun h => ev_some (by unfold isLn; simp at h; simp [h]))
  have h1 : 1 ≤ s.size ∧ s.size ≤ 30 := by
    simp [inB] at h
    omega
  rw [wrap_pred s.size (by omega) hs]
  refine ev_pos (by omega) (ev_pos (by omega) ?_)
  refine ev_bind (contains_ev _ 10) (ev_some ?_)
  rw [Int.toNat_natCast, extract_data, List.drop_zero, ← data_length, ← List.dropLast_eq_take]
  unfold isLn
  rw [h]
  simp

theorem l1Line_l0 (s : ByteArray) (hs : s.size ≤ 9223372036854775807) : ∀ d i, i + d = s.size - 1 → Ev (fun k => spec_l1Line.l0 k s (i : Int)) (!((s.data.toList.dropLast.drop i).contains 10) && inB s.size 1 30) := by
  intro d
  have hl : s.data.toList.length = s.size := data_length s
  induction d with
  | zero =>
    intro i hi
    refine Ev.step (fun k => spec_l1Line.l0.eq_2 ..) ?_
    refine ev_neg (by rw [wrap64_id (by omega) (by omega)]; omega) ?_
    refine ev_const ?_
    rw [spec_l1In_eq, List.drop_of_length_le (by rw [List.length_dropLast]; omega)]
    rfl
  | succ d ih =>
    intro i hi
    refine Ev.step (fun k => spec_l1Line.l0.eq_2 ..) ?_
    refine ev_pos (by rw [wrap64_id (by omega) (by omega)]; omega) (ev_pos (by omega) (ev_pos (by omega) ?_))
    have hd : s.data.toList.dropLast.drop i = s.data.toList[i] :: s.data.toList.dropLast.drop (i + 1) := by
      rw [List.drop_eq_getElem_cons (by rw [List.length_dropLast]; omega), List.getElem_dropLast]
    rw [hd, List.contains_cons, bt_nat s i (by omega)]
    refine ev_ite (fun h => ev_some ?_) (fun h => ?_)
    · have : s.data.toList[i] = 10 := u8_eq h
      rw [this]
      simp
    · rw [wrap_succ i (by omega)]
      refine ev_to (ih (i + 1) (by omega)) ?_
      have : ((10 : UInt8) == s.data.toList[i]) = false := by
        rw [beq_eq_false_iff_ne]
        exact u8_ne h
      rw [this, Bool.false_or]

theorem l1Line_ev (s : ByteArray) (hs : s.size ≤ 9223372036854775807) : Ev (fun k => spec_l1Line.f k s) (isLn s) := by
  simp only [spec_l1Line.f]
  exact l1Line_l0 s hs (s.size - 1) 0 (by omega)

theorem isLn_size {s : ByteArray} (h : isLn s = true) : 1 ≤ s.size ∧ s.size ≤ 30 := by
  simp [isLn, inB] at h
  omega

theorem ends_last {s : ByteArray} (h : 1 ≤ s.size) : ends s = (bt s ((s.size - 1 : Nat) : Int) == 10) := by
  have hl : s.data.toList.length = s.size := data_length s
  have hq : s.data.toList.getLast? = some (s.data.toList[s.size - 1]'(by omega)) := by
    rw [List.getLast?_eq_getElem?, List.getElem?_eq_getElem (by omega)]
    simp only [hl]
  unfold ends
  rw [bt_nat s _ (by omega), hq]
  rw [Bool.eq_iff_iff]
  simp only [beq_iff_eq, Option.some.injEq]
  constructor
  · intro e; rw [e]; rfl
  · intro e; exact u8_eq e

theorem l1Ends_eq (s : ByteArray) (h : 1 ≤ s.size) (hs : s.size ≤ 9223372036854775807) : spec_l1Ends.f s = some (ends s) := by
  unfold spec_l1Ends.f
  rw [wrap_pred s.size (by omega) hs, if_pos (by omega), if_pos (by omega), ends_last h]

theorem hasSuffix_eq (s : ByteArray) (c : UInt8) (hs : s.size ≤ 9223372036854775807) : strings_HasSuffix.f s ⟨#[c]⟩ = some (s.data.toList.getLast? == some c) := by
  have hl : s.data.toList.length = s.size := data_length s
  unfold strings_HasSuffix.f stringslite_HasSuffix.f
  rw [size_one]
  by_cases h : 1 ≤ s.size
  · rw [if_pos (by omega), show ((1 : Nat) : Int) = 1 from rfl, wrap_pred s.size (by omega) hs, if_pos (by omega), if_pos (by omega), Option.bind_some, toList_one, Lib.toList_data, Int.toNat_natCast, extract_data, ← hl, List.take_length]
    have e : s.data.toList.drop (s.data.toList.length - 1) = [s.data.toList[s.data.toList.length - 1]'(by omega)] := by
      rw [List.drop_eq_getElem_cons (by omega), List.drop_of_length_le (by omega)]
    rw [e, List.getLast?_eq_getElem?, List.getElem?_eq_getElem (by omega)]
    congr 1
    rw [Bool.eq_iff_iff]
    simp
  · rw [if_neg (by omega), Option.bind_some]
    have : s.data.toList = [] := List.eq_nil_of_length_eq_zero (by omega)
    simp [this]

theorem isEnded_eq (s : ByteArray) (hs : s.size ≤ 9223372036854775807) : impl_isEnded.f s = some (ends s) := by
  unfold impl_isEnded.f
  rw [hasSuffix_eq s 10 hs]
  rfl

theorem areLines_l0 (l : List ByteArray) (hf : FitS l) : ∀ d i, i + d = l.length → ∃ j : Int, Ev (fun k => slices_IndexFunc_string_string__impl_areLines_1.l0 k l (l.length : Int) (i : Int)) j ∧ decide (j ≥ 0) = !((l.drop i).all isLn) := by
  intro d
  induction d with
  | zero =>
    intro i hi
    refine ⟨-1, Ev.step (fun k => slices_IndexFunc_string_string__impl_areLines_1.l0.eq_2 ..) (ev_neg (by omega) (ev_some rfl)), ?_⟩
    rw [List.drop_of_length_le (by omega)]
    rfl
  | succ d ih =>
    intro i hi
    have hlt : i < l.length := by omega
    have hev : Ev (fun k => impl_areLines_1.f k (rdOf ByteArray.empty l (i : Int))) (!isLn l[i]) := by
      rw [rdOf_lt _ _ _ hlt]
      simp only [impl_areLines_1.f]
      exact ev_bind (isLine_ev _ (hf.2 _ (List.getElem_mem _))) (ev_some rfl)
    obtain ⟨j, hj, hjj⟩ := ih (i + 1) (by omega)
    rw [drop_cons l i hlt, List.all_cons]
    by_cases h : isLn l[i] = true
    · refine ⟨j, Ev.step (fun k => slices_IndexFunc_string_string__impl_areLines_1.l0.eq_2 ..) (ev_pos (by omega) (ev_pos (by omega) (ev_pos (by omega) (ev_bind hev (ev_neg (by simp [h]) ?_))))), by rw [hjj, h]; simp⟩
      rw [wrap_succ i (by have := hf.1; omega)]
      exact hj
    · refine ⟨(i : Int), Ev.step (fun k => slices_IndexFunc_string_string__impl_areLines_1.l0.eq_2 ..) (ev_pos (by omega) (ev_pos (by omega) (ev_pos (by omega) (ev_bind hev (ev_pos (by simp [h]) (ev_some rfl)))))), ?_⟩
      simp [h]

theorem areLines_ev (l : List ByteArray) (hf : FitS l) : Ev (fun k => impl_areLines.f k l) (decide (l.length ≤ 40) && l.all isLn) := by
  simp only [impl_areLines.f]
  refine ev_ite (fun h => ?_) (fun h => ev_some ?_)
  · obtain ⟨j, hj, hjj⟩ := areLines_l0 l hf l.length 0 (by omega)
    simp only [slices_ContainsFunc_string_string__impl_areLines_1.f, slices_IndexFunc_string_string__impl_areLines_1.f]
    refine ev_bind (ev_bind hj (ev_some rfl)) (ev_some ?_)
    have : l.length ≤ 40 := by omega
    rw [hjj]
    simp [this]
  · have : ¬ l.length ≤ 40 := by omega
    simp [this]

theorem goodLines_l0 (l : List ByteArray) (hf : FitS l) : ∀ d i, i + d = l.length → Ev (fun k => impl_goodLines.l0 k l l (l.length : Int) (i : Int)) ((l.dropLast.drop i).all ends) := by
  intro d
  have hL := hf.1
  induction d with
  | zero =>
    intro i hi
    refine Ev.step (fun k => impl_goodLines.l0.eq_2 ..) (ev_neg (by omega) (ev_some ?_))
    rw [List.drop_of_length_le (by rw [List.length_dropLast]; omega)]
    rfl
  | succ d ih =>
    intro i hi
    have hlt : i < l.length := by omega
    refine Ev.step (fun k => impl_goodLines.l0.eq_2 ..) (ev_pos (by omega) (ev_pos (by omega) (ev_pos (by omega) ?_)))
    rw [wrap_pred l.length (by omega) hL, rdOf_lt _ _ _ hlt, isEnded_eq _ (hf.2 _ (List.getElem_mem _)), wrap_succ i (by omega)]
    simp only [Option.bind_some]
    refine ev_ite (fun h => ?_) (fun h => ?_)
    · have hd : l.dropLast.drop i = l[i] :: l.dropLast.drop (i + 1) := by
        rw [List.drop_eq_getElem_cons (by rw [List.length_dropLast]; omega), List.getElem_dropLast]
      rw [hd, List.all_cons]
      refine ev_ite (fun h => ?_) (fun h => ev_some (by simp [h]))
      rw [h, Bool.true_and]
      exact ih (i + 1) (by omega)
    · have e1 : l.dropLast.drop i = [] := List.drop_of_length_le (by rw [List.length_dropLast]; omega)
      have e2 : l.dropLast.drop (i + 1) = [] := List.drop_of_length_le (by rw [List.length_dropLast]; omega)
      have := ih (i + 1) (by omega)
      rw [e2] at this
      rw [e1]
      exact this

theorem goodLines_ev (l : List ByteArray) (hf : FitS l) : Ev (fun k => impl_goodLines.f k l) (good l) := by
  simp only [impl_goodLines.f]
  refine ev_bind (areLines_ev l hf) (ev_ite (fun h => ?_) (fun h => ev_some ?_))
  · refine ev_to (goodLines_l0 l hf l.length 0 (by omega)) ?_
    rw [List.drop_zero]
    unfold good
    rw [← Bool.and_assoc, h, Bool.true_and]
  · unfold good
    rw [← Bool.and_assoc]
    simp at h
    simp
    intro h1 h2
    exact absurd (h h1) (by simpa using h2)

theorem l1Good_l0 (l : List ByteArray) (hf : FitS l) : ∀ d i, i + d = l.length → Ev (fun k => spec_l1Good.l0 k l l (l.length : Int) (i : Int)) ((l.drop i).all isLn && (l.dropLast.drop i).all ends && decide (l.length ≤ 40)) := by
  intro d
  have hL := hf.1
  induction d with
  | zero =>
    intro i hi
    refine Ev.step (fun k => spec_l1Good.l0.eq_2 ..) (ev_neg (by omega) (ev_some ?_))
    rw [List.drop_of_length_le (by omega), List.drop_of_length_le (by rw [List.length_dropLast]; omega)]
    simp
    omega
  | succ d ih =>
    intro i hi
    have hlt : i < l.length := by omega
    refine Ev.step (fun k => spec_l1Good.l0.eq_2 ..) (ev_pos (by omega) (ev_pos (by omega) (ev_pos (by omega) ?_)))
    simp only [rdOf_lt _ _ _ hlt]
    rw [wrap_pred l.length (by omega) hL, wrap_succ i (by omega), drop_cons l i hlt, List.all_cons]
    refine ev_bind (l1Line_ev _ (hf.2 _ (List.getElem_mem _))) (ev_ite (fun h => ?_) (fun h => ev_some (by simp [h])))
    rw [h, Bool.true_and, l1Ends_eq _ (isLn_size h).1 (hf.2 _ (List.getElem_mem _))]
    simp only [Option.bind_some]
    refine ev_ite (fun h => ?_) (fun h => ?_)
    · have hd : l.dropLast.drop i = l[i] :: l.dropLast.drop (i + 1) := by
        rw [List.drop_eq_getElem_cons (by rw [List.length_dropLast]; omega), List.getElem_dropLast]
      rw [hd, List.all_cons]
      refine ev_ite (fun h => ?_) (fun h => ev_some (by simp [h]))
      rw [h, Bool.true_and]
      exact ih (i + 1) (by omega)
    · have e1 : l.dropLast.drop i = [] := List.drop_of_length_le (by rw [List.length_dropLast]; omega)
      have e2 : l.dropLast.drop (i + 1) = [] := List.drop_of_length_le (by rw [List.length_dropLast]; omega)
      have := ih (i + 1) (by omega)
      rw [e2] at this
      rw [e1]
      exact this

theorem l1Good_ev (l : List ByteArray) (hf : FitS l) : Ev (fun k => spec_l1Good.f k l) (good l) := by
  simp only [spec_l1Good.f]
  refine ev_to (l1Good_l0 l hf l.length 0 (by omega)) ?_
  rw [List.drop_zero, List.drop_zero]
  unfold good
  rw [Bool.and_comm]
end Go.Proofs.Ytcefenlblnediaa.Pl

/- Plain Lean: chapter 2: when hunks are good, for the program and the reference. Conditions: lengths and sizes below 2^63. -/
namespace Go.Proofs.Ytcefenlblnediaa.Pl
open Go.RowKit Go.Proofs.YtcefenlblnediaaW.PrintWords Go.Proofs.YtcefenlblnediaaW.PrintLast Go.Proofs.Ytcefenlblnediaa.My
set_option linter.unusedVariables false
set_option linter.unusedSimpArgs false

/-- What one hunk must be, the last one having ended at p. -/
def hNum (n p : Int) (x : IH) : Prop := 0 ≤ x.f0 ∧ 0 ≤ x.f1 ∧ x.f0 + x.f1 ≤ n ∧ ¬ (x.f1 = 0 ∧ x.f2.length = 0) ∧ x.f2.length ≤ 40 ∧ p < x.f0
instance (n p : Int) (x : IH) : Decidable (hNum n p x) := by unfold hNum; infer_instance
def hOK (n p : Int) (x : IH) : Bool := decide (hNum n p x) && x.f2.all isLn
/-- Each starts past the last one's end. -/
def chain (n : Int) : Int → List IH → Bool
  | _, [] => true
  | p, x :: t => hOK n p x && chain n (x.f0 + x.f1) t
def goodH (n : Int) (h : List IH) : Bool := inB n 0 40 && (decide (h.length ≤ 20) && chain n (-1) h)

/-- Where the last one before place i ended. -/
def before (n : Int) (h : List IH) (i : Nat) (p : Int) : Prop := (i = 0 ∧ p = -1) ∨ ∃ (j : Nat) (hj : j < h.length), i = j + 1 ∧ p = h[j].f0 + h[j].f1 ∧ 0 ≤ h[j].f0 ∧ 0 ≤ h[j].f1 ∧ p ≤ n

theorem chain_cons (n p : Int) (h : List IH) (i : Nat) (hi : i < h.length) : chain n p (h.drop i) = (hOK n p h[i] && chain n (h[i].f0 + h[i].f1) (h.drop (i + 1))) := by
  rw [List.drop_eq_getElem_cons hi]
  rfl

theorem goodHunks_l0 (n : Int) (h : List IH) (hf : FitI h) (h0 : 0 ≤ n) (h1 : n ≤ 40) : ∀ d i p, i + d = h.length → before n h i p → Ev (fun k => impl_goodHunks.l0 k n h h (h.length : Int) (i : Int)) (chain n p (h.drop i)) := by
  intro d
  have hL := hf.1
  induction d with
  | zero =>
    intro i p hi hp
    refine Ev.step (fun k => impl_goodHunks.l0.eq_2 ..) (ev_neg (by omega) (ev_some ?_))
    rw [List.drop_of_length_le (by omega)]
    rfl
  | succ d ih =>
    intro i p hi hp
    have hlt : i < h.length := by omega
    obtain ⟨b0, b1, b2⟩ := hf.2 _ (List.getElem_mem hlt)
    refine Ev.step (fun k => impl_goodHunks.l0.eq_2 ..) ?_
    simp only [rdIH h i hlt, impl_in_eq, Option.bind_some, chain_cons n p h i hlt]
    generalize hx : h[i] = x at *
    have bad : ¬ (hNum n (-1) x ∧ x.f2.all isLn = true) → Ev (fun k => impl_goodHunks.j2 k n h (i : Int) h (h.length : Int) (i : Int) true x.f0 x.f1 x.f2) (hOK n p x && chain n (x.f0 + x.f1) (h.drop (i + 1))) := by
      intro hb
      refine Ev.step (fun k => impl_goodHunks.j2.eq_2 ..) (ev_pos rfl (ev_some ?_))
      have : hOK n p x = false := by
        rw [Bool.eq_false_iff]
        intro ht
        unfold hOK at ht
        rw [Bool.and_eq_true, decide_eq_true_eq] at ht
        obtain ⟨⟨q0, q1, q2, q3, q4, q5⟩, q6⟩ := ht
        exact hb ⟨⟨q0, q1, q2, q3, q4, by omega⟩, q6⟩
      rw [this]
      rfl
    have ok : hNum n (-1) x → x.f2.all isLn = true → Ev (fun k => impl_goodHunks.j2 k n h (i : Int) h (h.length : Int) (i : Int) false x.f0 x.f1 x.f2) (hOK n p x && chain n (x.f0 + x.f1) (h.drop (i + 1))) := by
      intro hb hl
      obtain ⟨q0, q1, q2, q3, q4, q5⟩ := hb
      have nx : before n h (i + 1) (x.f0 + x.f1) := .inr ⟨i, hlt, rfl, by rw [hx], by rw [hx]; exact q0, by rw [hx]; exact q1, q2⟩
      have go : p < x.f0 → Ev (fun k => impl_goodHunks.l0 k n h h (h.length : Int) (wrap64 ((i : Int) + 1))) (hOK n p x && chain n (x.f0 + x.f1) (h.drop (i + 1))) := by
        intro hp
        rw [wrap_succ i (by omega)]
        refine ev_to (ih (i + 1) _ (by omega) nx) ?_
        have : hOK n p x = true := by
          unfold hOK
          rw [Bool.and_eq_true, decide_eq_true_eq]
          exact ⟨⟨q0, q1, q2, q3, q4, hp⟩, hl⟩
        rw [this, Bool.true_and]
      refine Ev.step (fun k => impl_goodHunks.j2.eq_2 ..) (ev_neg (by simp) (ev_ite (fun hi0 => ?_) (fun hi0 => go ?_)))
      · rcases hp with ⟨e, _⟩ | ⟨j, hj, rfl, rfl, r0, r1, r2⟩
        · omega
        · have ew : wrap64 (((j + 1 : Nat) : Int) - 1) = (j : Int) := by rw [wrap64_id (by omega) (by omega)]; omega
          simp only [ew, rdIH h j hj]
          rw [wrap64_id (by omega) (by omega)]
          refine ev_pos (by omega) (ev_pos (by omega) (ev_ite (fun hc => ev_some ?_) (fun hc => go (by omega))))
          have : hOK n (h[j].f0 + h[j].f1) x = false := by
            rw [Bool.eq_false_iff]
            intro ht
            unfold hOK at ht
            rw [Bool.and_eq_true, decide_eq_true_eq] at ht
            have := ht.1.2.2.2.2.2
            omega
          rw [this]
          rfl
      · rcases hp with ⟨_, e⟩ | ⟨j, hj, e, _⟩ <;> omega
    refine ev_pos (by omega) (ev_pos (by omega) (ev_pos (by omega) (ev_ite (fun c0 => ?_) (fun c0 => bad (fun hb => c0 ?_)))))
    · rw [inB_iff] at c0
      rw [wrap64_id (by omega) (by omega)]
      refine ev_ite (fun c1 => ?_) (fun c1 => bad (fun hb => c1 ?_))
      · rw [inB_iff] at c1
        refine ev_bind (areLines_ev x.f2 b2) (ev_ite (fun c2 => ?_) (fun c2 => bad (fun hb => c2 ?_)))
        · rw [Bool.and_eq_true, decide_eq_true_eq] at c2
          refine ev_ite (fun c3 => ?_) (fun c3 => ok ⟨c0.1, c1.1, by omega, fun e => c3 e.1, c2.1, by omega⟩ c2.2)
          by_cases c4 : x.f2.length = 0
          · rw [show (((x.f2.length : Int) == 0) = true) from by rw [c4]; rfl]
            exact bad (fun hb => hb.1.2.2.2.1 ⟨c3, c4⟩)
          · rw [show (((x.f2.length : Int) == 0) = false) from by rw [beq_eq_false_iff_ne]; omega]
            exact ok ⟨c0.1, c1.1, by omega, fun e => c4 e.2, c2.1, by omega⟩ c2.2
        · rw [Bool.and_eq_true, decide_eq_true_eq]
          exact ⟨hb.1.2.2.2.2.1, hb.2⟩
      · rw [inB_iff]
        obtain ⟨⟨q0, q1, q2, q3, q4, q5⟩, q6⟩ := hb
        omega
    · rw [inB_iff]
      obtain ⟨⟨q0, q1, q2, q3, q4, q5⟩, q6⟩ := hb
      omega

theorem goodHunks_ev (n : Int) (h : List IH) (hf : FitI h) : Ev (fun k => impl_goodHunks.f k n h) (goodH n h) := by
  simp only [impl_goodHunks.f, impl_in_eq, Option.bind_some]
  unfold goodH
  refine ev_ite (fun c => ?_) (fun c => ?_)
  · rw [c, Bool.true_and]
    rw [inB_iff] at c
    refine Ev.step (fun k => impl_goodHunks.j0.eq_2 ..) (ev_ite (fun e => ev_some ?_) (fun e => ?_))
    · rw [decide_eq_true_eq] at e
      rw [decide_eq_false (by omega), Bool.false_and]
    · rw [decide_eq_true_eq] at e
      rw [decide_eq_true (by omega), Bool.true_and]
      exact goodHunks_l0 n h hf c.1 c.2 h.length 0 (-1) (by omega) (.inl ⟨rfl, rfl⟩)
  · refine Ev.step (fun k => impl_goodHunks.j0.eq_2 ..) (ev_pos rfl (ev_some ?_))
    rw [Bool.not_eq_true] at c
    rw [c, Bool.false_and]
end Go.Proofs.Ytcefenlblnediaa.Pl

/- Plain Lean: chapter 2: when hunks are good for the reference: as for the program. Conditions: lengths and sizes below 2^63. -/
namespace Go.Proofs.Ytcefenlblnediaa.Pl
open Go.RowKit Go.Proofs.YtcefenlblnediaaW.PrintWords Go.Proofs.YtcefenlblnediaaW.PrintLast Go.Proofs.Ytcefenlblnediaa.My
set_option linter.unusedVariables false
set_option linter.unusedSimpArgs false

theorem wrap_zero (a : Int) (m : Nat) (h0 : 0 ≤ a) (h1 : a ≤ 9223372036854775807) (h2 : m ≤ 9223372036854775807) : wrap64 (a + (m : Int)) = 0 ↔ a = 0 ∧ m = 0 := by
  unfold wrap64
  omega

theorem l2Hunks_l0 (n : Int) (h : List IH) (hf : FitI h) (hn0 : -9223372036854775808 ≤ n) (hn : n ≤ 9223372036854775807) : ∀ d i p, i + d = h.length → before n h i p → Ev (fun k => spec_l2Hunks.l0 k n h h (h.length : Int) (i : Int)) (chain n p (h.drop i) && (decide (h.length ≤ 20) && inB n 0 40)) := by
  intro d
  have hL := hf.1
  induction d with
  | zero =>
    intro i p hi hp
    refine Ev.step (fun k => spec_l2Hunks.l0.eq_2 ..) (ev_neg (by omega) ?_)
    rw [List.drop_of_length_le (by omega)]
    simp only [spec_l1In_eq, Option.bind_some]
    refine ev_ite (fun c => ev_some ?_) (fun c => ev_some ?_)
    · rw [decide_eq_true (by omega)]
      rfl
    · rw [decide_eq_false (by omega)]
      rfl
  | succ d ih =>
    intro i p hi hp
    have hlt : i < h.length := by omega
    obtain ⟨b0, b1, b2⟩ := hf.2 _ (List.getElem_mem hlt)
    refine Ev.step (fun k => spec_l2Hunks.l0.eq_2 ..) ?_
    simp only [rdIH h i hlt, chain_cons n p h i hlt]
    generalize hx : h[i] = x at *
    have no : ¬ (hNum n p x ∧ x.f2.all isLn = true) → hOK n p x = false := by
      intro hb
      rw [Bool.eq_false_iff]
      intro ht
      unfold hOK at ht
      rw [Bool.and_eq_true, decide_eq_true_eq] at ht
      exact hb ht
    have bad : ¬ hNum n p x → Ev (fun k => spec_l2Hunks.j1 k n h h (h.length : Int) (i : Int) true x.f0 x.f1 x.f2) (hOK n p x && chain n (x.f0 + x.f1) (h.drop (i + 1)) && (decide (h.length ≤ 20) && inB n 0 40)) := by
      intro hb
      refine Ev.step (fun k => spec_l2Hunks.j1.eq_2 ..) (ev_pos rfl (ev_some ?_))
      rw [no (fun c => hb c.1)]
      rfl
    have ok : hNum n p x → Ev (fun k => spec_l2Hunks.j1 k n h h (h.length : Int) (i : Int) false x.f0 x.f1 x.f2) (hOK n p x && chain n (x.f0 + x.f1) (h.drop (i + 1)) && (decide (h.length ≤ 20) && inB n 0 40)) := by
      intro hb
      have nx : before n h (i + 1) (x.f0 + x.f1) := .inr ⟨i, hlt, rfl, by rw [hx], by rw [hx]; exact hb.1, by rw [hx]; exact hb.2.1, hb.2.2.1⟩
      have lp : ∀ e r, r + e = x.f2.length → Ev (fun k => spec_l2Hunks.l1 k n h h (h.length : Int) (i : Int) x.f2 (x.f2.length : Int) (r : Int)) (((x.f2.drop r).all isLn && chain n (x.f0 + x.f1) (h.drop (i + 1))) && (decide (h.length ≤ 20) && inB n 0 40)) := by
        intro e
        have hT := b2.1
        induction e with
        | zero =>
          intro r hr
          refine Ev.step (fun k => spec_l2Hunks.l1.eq_2 ..) (ev_neg (by omega) ?_)
          rw [List.drop_of_length_le (l := x.f2) (by omega), wrap_succ i (by omega), List.all_nil, Bool.true_and]
          exact ih (i + 1) _ (by omega) nx
        | succ e ihe =>
          intro r hr
          have hrt : r < x.f2.length := by omega
          refine Ev.step (fun k => spec_l2Hunks.l1.eq_2 ..) (ev_pos (by omega) (ev_pos (by omega) (ev_pos (by omega) ?_)))
          rw [rdOf_lt _ _ _ hrt, drop_cons x.f2 r hrt, List.all_cons]
          refine ev_bind (l1Line_ev _ (b2.2 _ (List.getElem_mem hrt))) (ev_ite (fun c => ?_) (fun c => ev_some ?_))
          · rw [wrap_succ r (by omega), c, Bool.true_and]
            exact ihe (r + 1) (by omega)
          · rw [Bool.not_eq_true] at c
            rw [c]
            rfl
      refine Ev.step (fun k => spec_l2Hunks.j1.eq_2 ..) (ev_neg (by simp) (ev_to (lp x.f2.length 0 (by omega)) ?_))
      unfold hOK
      rw [decide_eq_true hb, Bool.true_and, List.drop_zero]
    refine ev_pos (by omega) (ev_pos (by omega) (ev_pos (by omega) (ev_ite (fun c => bad (fun hb => ?_)) (fun c0 => ev_ite (fun c => bad (fun hb => ?_)) (fun c1 => ev_ite (fun c => bad (fun hb => ?_)) (fun c2 => ?_))))))
    · have := hb.1
      omega
    · have := hb.2.1
      omega
    · obtain ⟨q0, q1, q2, q3, q4, q5⟩ := hb
      omega
    rw [wrap64_id (x := n - x.f1) (by omega) (by omega)]
    refine ev_ite (fun c => bad (fun hb => ?_)) (fun c3 => ev_ite (fun c => bad (fun hb => ?_)) (fun c4 => ev_ite (fun c => bad (fun hb => ?_)) (fun c5 => ?_)))
    · have := hb.2.2.1
      omega
    · rw [wrap_zero _ _ (by omega) (by omega) b2.1] at c
      exact hb.2.2.2.1 c
    · have := hb.2.2.2.2.1
      omega
    rw [wrap_zero _ _ (by omega) (by omega) b2.1] at c4
    rcases hp with ⟨rfl, rfl⟩ | ⟨j, hj, rfl, rfl, r0, r1, r2⟩
    · refine ev_neg (by omega) (ok ⟨by omega, by omega, by omega, c4, by omega, by omega⟩)
    · have ew : wrap64 (((j + 1 : Nat) : Int) - 1) = (j : Int) := by rw [wrap64_id (by omega) (by omega)]; omega
      simp only [ew, rdIH h j hj]
      rw [wrap64_id (x := h[j].f0 + h[j].f1) (by omega) (by omega)]
      refine ev_pos (by omega) (ev_pos (by omega) (ev_pos (by omega) ?_))
      by_cases c : x.f0 ≤ h[j].f0 + h[j].f1
      · rw [decide_eq_true c]
        refine bad (fun hb => ?_)
        have := hb.2.2.2.2.2
        omega
      · rw [decide_eq_false c]
        exact ok ⟨by omega, by omega, by omega, c4, by omega, by omega⟩

theorem l2Hunks_ev (n : Int) (h : List IH) (hf : FitI h) (hn0 : -9223372036854775808 ≤ n) (hn : n ≤ 9223372036854775807) : Ev (fun k => spec_l2Hunks.f k n h) (goodH n h) := by
  simp only [spec_l2Hunks.f]
  refine ev_to (l2Hunks_l0 n h hf hn0 hn h.length 0 (-1) (by omega) (.inl ⟨rfl, rfl⟩)) ?_
  unfold goodH
  rw [List.drop_zero]
  cases inB n 0 40 <;> cases chain n (-1) h <;> cases decide (h.length ≤ 20) <;> rfl
end Go.Proofs.Ytcefenlblnediaa.Pl

/- Plain Lean: chapter 2: good hunks' numbers are small. No condition. -/
namespace Go.Proofs.Ytcefenlblnediaa.Pl
open Go.RowKit Go.Proofs.YtcefenlblnediaaW.PrintWords Go.Proofs.YtcefenlblnediaaW.PrintLast Go.Proofs.Ytcefenlblnediaa.My
set_option linter.unusedVariables false
set_option linter.unusedSimpArgs false

/-- All numbers small. -/
def near (h : List IH) : Prop := ∀ x ∈ h, 0 ≤ x.f0 ∧ x.f0 ≤ 40 ∧ 0 ≤ x.f1 ∧ x.f1 ≤ 40 ∧ x.f2.length ≤ 40

theorem near_of_chain {n : Int} (hn : n ≤ 40) : ∀ (h : List IH) (p : Int), chain n p h = true → near h := by
  intro h
  induction h with
  | nil => intro p _ x hx; simp at hx
  | cons y t ih =>
    intro p hc x hx
    simp only [chain, Bool.and_eq_true, hOK, decide_eq_true_eq] at hc
    rcases List.mem_cons.1 hx with rfl | hx
    · obtain ⟨⟨⟨q0, q1, q2, q3, q4, q5⟩, _⟩, _⟩ := hc
      omega
    · exact ih _ hc.2 x hx
theorem near_of_good {n : Int} {h : List IH} (g : goodH n h = true) : near h ∧ h.length ≤ 20 ∧ 0 ≤ n ∧ n ≤ 40 := by
  unfold goodH at g
  rw [Bool.and_eq_true, Bool.and_eq_true, inB_iff, decide_eq_true_eq] at g
  exact ⟨near_of_chain g.1.2 h _ g.2.2, g.2.1, g.1.1, g.1.2⟩

end Go.Proofs.Ytcefenlblnediaa.Pl

/- Plain Lean: answers where both are good lines. No condition. -/
namespace Go.Proofs.Ytcefenlblnediaa.Pl
open Go.RowKit Go.Proofs.YtcefenlblnediaaW.PrintWords Go.Proofs.YtcefenlblnediaaW.PrintLast Go.Proofs.Ytcefenlblnediaa.My
set_option linter.unusedVariables false
set_option linter.unusedSimpArgs false

/-- Where both are good lines. -/
def both {α : Type} (a b : List ByteArray) (z v : α) : α × Bool := if good a = true then (if good b = true then (v, true) else (z, false)) else (z, false)

theorem good_len {l : List ByteArray} (h : good l = true) : l.length ≤ 40 := by
  unfold good at h
  rw [Bool.and_eq_true] at h
  exact of_decide_eq_true h.1

theorem both_ev {α : Type} {G : Nat → List ByteArray → Option Bool} {F : Nat → Option α} {a b : List ByteArray} {z v : α} (hg : ∀ l, FitS l → Ev (fun k => G k l) (good l)) (fa : FitS a) (fb : FitS b) (hF : good a = true → good b = true → Ev F v) :
    Ev (fun k => (G k a).bind fun t => (if t = true then ((G k b).bind fun t' => (if t' = true then ((F k).bind fun x => (some (x, true))) else (some (z, false)))) else (some (z, false)))) (both a b z v) := by
  unfold both
  refine ev_bind (hg a fa) (ev_ite (fun h => ?_) (fun h => ev_some (by rw [if_neg h])))
  rw [if_pos h]
  refine ev_bind (hg b fb) (ev_ite (fun h' => ?_) (fun h' => ev_some (by rw [if_neg h'])))
  rw [if_pos h']
  exact ev_bind (hF h h') (ev_some rfl)
end Go.Proofs.Ytcefenlblnediaa.Pl

/- Written by this session's program (wip/gen): a plain function with the same answers as the Go function, and the proof that the Go code comes to them. Asked: that the plain function has an answer. -/
namespace Go.Proofs.Ytcefenlblnediaa.My
open Go.RowKit Go.Proofs.YtcefenlblnediaaW.PrintWords Go.Proofs.YtcefenlblnediaaW.PrintLast Go.Proofs.YtcefenlblnediaaW.PrintMore
attribute [local go_sem] max2_int min2_int max_two min_two max_three min_three max_four min_four
set_option linter.unusedVariables false
set_option linter.unusedSimpArgs false

/-! ### impl_patched: function 101 -/
def impl_patched.l0 : Nat → List ByteArray → List ByteArray → Int → List (S111) → Int → Int → Option (List ByteArray)
 | 0, _, _, _, _, _, _ => none
 | k + 1, x0, x5, x6, x10, x11, x12 => if x12 < x11 then (if 0 ≤ x12 then (if x12 < (x10.length : Int) then (if 0 ≤ x6 then (if x6 ≤ ((rd_T111 x10 x12).f0) then (if ((rd_T111 x10 x12).f0) ≤ (x0.length : Int) then (if x5.length + ((x0.take (((rd_T111 x10 x12).f0) : Int).toNat).drop (x6 : Int).toNat).length < 8796093022208 then ((some (x5 ++ ((x0.take (((rd_T111 x10 x12).f0) : Int).toNat).drop (x6 : Int).toNat) : List ByteArray)).bind fun y443 => (if y443.length + ((rd_T111 x10 x12).f2).length < 8796093022208 then (impl_patched.l0 k x0 (y443 ++ ((rd_T111 x10 x12).f2)) (wrap64 (((rd_T111 x10 x12).f0) + ((rd_T111 x10 x12).f1))) x10 x11 (wrap64 (x12 + 1))) else (none))) else (none)) else (none)) else (none)) else (none)) else (none)) else (none)) else (if 0 ≤ x6 then (if x6 ≤ (x0.length : Int) then (if x5.length + (x0.drop (x6 : Int).toNat).length < 8796093022208 then (some (x5 ++ (x0.drop (x6 : Int).toNat))) else (none)) else (none)) else (none))
def impl_patched.f (k : Nat) (l0 : List ByteArray) (l1 : List (S111)) : Option (List ByteArray) := impl_patched.l0 k l0 (([] : List ByteArray)) 0 l1 (l1.length : Int) 0
def impl_patched.T5 : Bool × List (List Nat × List Nat) := (true, [([], []), ([], []), ([], []), ([], []), ([3], [3]), ([1, 2, 4], [1, 2, 4]), ([0, 5], [0, 5]), ([], []), ([7], [7]), ([6, 8, 6], [6, 8]), ([9, 9, 0, 1, 2, 3, 4, 5, 6, 7, 8, 9], [0, 9])])
def impl_patched.B5 : List Nat := [0, 0, 0, 0, 8, 30, 63, 0, 128, 511, 1023]
theorem impl_patched.tab5 : rtab .any (opsOf Try.f101 5) = impl_patched.T5 := by kernel_rfl
theorem impl_patched.bits5 : waitsOk impl_patched.T5.2 impl_patched.B5 = true := by kernel_rfl
set_option maxHeartbeats 8000000 in
set_option maxRecDepth 100000 in
theorem impl_patched.calls (k : Nat) (A0 : Option Addr) (c0 : Nat) (l0 : List ByteArray) (A1 : Option Addr) (c1 : Nat) (l1 : List (S111)) (r : List ByteArray) (w : World) (hr0 : Kd.C Kd.string w A0 l0.length l0) (hc0 : l0.length ≤ c0) (hr1 : Kd.C k111 w A1 l1.length l1) (hc1 : l1.length ≤ c1) (h : impl_patched.f k l0 l1 = some r) :
  Calls Try.prog 101 #[.slice A0 l0.length c0, .slice A1 l1.length c1] w fun e w' => ∃ v0_ : Value, e = .returned (v0_) ∧ Kd.R Kd.string 9 w' w.heap.size (fun _ => True) v0_ r ∧ Below w.heap.size w w' := by
 have hu111 := Try.underlying111
 have HR0 := Aside0.mk hr0
 have HC0 := Aside0.mk hc0
 clear hr0 hc0
 have HR1 := Aside0.mk hr1
 have HC1 := Aside0.mk hc1
 clear hr1 hc1
 have HB := Aside0.mk (Below.refl w.heap.size w)
 have H : (impl_patched.l0 k l0 (([] : List ByteArray)) 0 l1 (l1.length : Int) 0) = some r := h
 clear h
 obtain ⟨y437, hy437⟩ : ∃ y_ : List ByteArray, y_ = (([] : List ByteArray)) := ⟨_, rfl⟩
 replace H : (impl_patched.l0 k l0 y437 0 l1 (l1.length : Int) 0) = some r := by first | (rw [hy437]; with_reducible exact H) | (have H2_ := (Option.bind_some _ _).symm.trans H; rw [hy437]; with_reducible exact H2_) | (have H2_ := (Option.bind_some _ _).symm.trans H; with_reducible exact H2_) | with_reducible exact H | (rw [hy437]; exact H) | exact H
 have Ny437 := Aside0.mk hy437
 clear hy437
 have H' := Aside0.mk H
 clear H
 go_enter Try.func101, Try.ntmps101
 go_wp2_with (first | ((with_reducible refine gate_dst (N := 9) rfl ?_); refine Kd.R_lit Kd.string _ 9 ?hg (N := 9) ?hd (xs := ([] : List ByteArray)) (inner := []) (ok := fun _ => True) (okp := fun _ => True) ?hr ?hp (fun _ hk => hk) trivial (Below.refl _ _) (Nat.le_refl _) (by simp) ?_; (case hd => rfl); (case hg => rfl); (case hr => first | (go_simp; done) | (go_simp; rfl)); (case hp => exact (Reps.none _ _)); intro v438 w3 ho4 hb hg_ hnew_; clear hg_ hnew_; (first | rw [← Ny437.out] at ho4 | (simp only [Int.reduceToNat] at ho4; rw [← Ny437.out] at ho4)); have n0_ := Aside0.mk (Kd.R_lower ho4 (below_size zb)); have n1_ := Aside0.mk (below_step zb hb); clear HB; have HO439 := n0_; have HB := n1_; clear n0_ n1_; clear hb ho4))
 go_loopg [5, 6, 12] k (fun kq v5 v6 v12 w' => ∃ (x5_1 : List ByteArray) (x6_1 : Int) (x12_1 : Int), v6 = .int .i64 x6_1 ∧ v12 = .int .i64 x12_1 ∧ Aside0 (impl_patched.l0 kq l0 x5_1 x6_1 l1 (l1.length : Int) x12_1 = some r) ∧ Aside0 (kq ≤ k) ∧ Aside0 (Kd.R Kd.string 9 w' w.heap.size (fun _ => True) v5 x5_1) ∧ Aside0 (Below w.heap.size w w'))
 case atStart => exact ⟨(y437), (0), (0), zf, zf, H', ⟨Nat.le_refl _⟩, ⟨by (with_reducible repeat (first | apply Kd.R_alloc | apply Kd.R_drewN | apply Kd.R_drew)); exact HO439.out⟩, ⟨by repeat (first | (with_reducible first | exact HB.out | apply below_alloc | apply pw_below_drewN | apply below_drew1) | exact HB.out)⟩⟩
 case round =>
  clear H'
  try clear c1
  try clear p2
  obtain ⟨x5_1, x6_1, x12_1, rfl, rfl, HA, HK1, HO_5, HB⟩ := hrel
  cases gk with
  | zero => exact absurd HA.out (by simp [impl_patched.l0])
  | succ k1 =>
   have H := HA.out
   clear HA
   simp only [impl_patched.l0] at H
   by_cases c5 : x12_1 < (l1.length : Int)
   ·rw [if_pos c5] at H
    have c5b0 : decide (x12_1 < (l1.length : Int)) = true := decide_eq_true c5
    clear c5
    by_cases c6 : 0 ≤ x12_1
    ·rw [if_pos c6] at H
     have c6b0 : decide (0 ≤ x12_1) = true := decide_eq_true c6
     clear c6
     by_cases c7 : x12_1 < (l1.length : Int)
     ·rw [if_pos c7] at H
      have c7b0 : decide (x12_1 < (l1.length : Int)) = true := decide_eq_true c7
      clear c7
      by_cases c8 : 0 ≤ x6_1
      ·rw [if_pos c8] at H
       have c8b0 := eq_true c8
       have c8b1 : decide (0 ≤ x6_1) = true := decide_eq_true c8
       clear c8
       by_cases c9 : x6_1 ≤ ((rd_T111 l1 x12_1).f0)
       ·rw [if_pos c9] at H
        have c9b0 := eq_true c9
        have c9b1 : decide (x6_1 ≤ ((rd_T111 l1 x12_1).f0)) = true := decide_eq_true c9
        clear c9
        by_cases c10 : ((rd_T111 l1 x12_1).f0) ≤ (l0.length : Int)
        ·rw [if_pos c10] at H
         have c10b0 := eq_true c10
         have c10b1 : decide (((rd_T111 l1 x12_1).f0) ≤ (l0.length : Int)) = true := decide_eq_true c10
         clear c10
         by_cases c11 : x5_1.length + ((l0.take (((rd_T111 l1 x12_1).f0) : Int).toNat).drop (x6_1 : Int).toNat).length < 8796093022208
         ·rw [if_pos c11] at H
          have LMc11 := Aside0.mk c11
          clear c11
          obtain ⟨y443, hy443⟩ : ∃ y_ : List ByteArray, y_ = (x5_1 ++ ((l0.take (((rd_T111 l1 x12_1).f0) : Int).toNat).drop (x6_1 : Int).toNat)) := ⟨_, rfl⟩
          replace H : (if y443.length + ((rd_T111 l1 x12_1).f2).length < 8796093022208 then (impl_patched.l0 k1 l0 (y443 ++ ((rd_T111 l1 x12_1).f2)) (wrap64 (((rd_T111 l1 x12_1).f0) + ((rd_T111 l1 x12_1).f1))) l1 (l1.length : Int) (wrap64 (x12_1 + 1))) else (none)) = some r := by first | (rw [hy443]; with_reducible exact H) | (have H2_ := (Option.bind_some _ _).symm.trans H; rw [hy443]; with_reducible exact H2_) | (have H2_ := (Option.bind_some _ _).symm.trans H; with_reducible exact H2_) | with_reducible exact H | (rw [hy443]; exact H) | exact H
          have Ny443 := Aside0.mk hy443
          clear hy443
          by_cases c12 : y443.length + ((rd_T111 l1 x12_1).f2).length < 8796093022208
          ·rw [if_pos c12] at H
           have LMc12 := Aside0.mk c12
           clear c12
           obtain ⟨y446, hy446⟩ : ∃ y_ : List ByteArray, y_ = (y443 ++ ((rd_T111 l1 x12_1).f2)) := ⟨_, rfl⟩
           replace H : (impl_patched.l0 k1 l0 y446 (wrap64 (((rd_T111 l1 x12_1).f0) + ((rd_T111 l1 x12_1).f1))) l1 (l1.length : Int) (wrap64 (x12_1 + 1))) = some r := by first | (rw [hy446]; with_reducible exact H) | (have H2_ := (Option.bind_some _ _).symm.trans H; rw [hy446]; with_reducible exact H2_) | (have H2_ := (Option.bind_some _ _).symm.trans H; with_reducible exact H2_) | with_reducible exact H | (rw [hy446]; exact H) | exact H
           have Ny446 := Aside0.mk hy446
           clear hy446
           have H' := Aside0.mk H
           clear H
           have p440 : 0 ≤ (x12_1 : Int) := oa
           have q440 : x12_1 < (l1.length : Int) := oa
           obtain ⟨ad440, A440_2, c440_2, e440, hx440_0, hx440_1, hx440_2, hl440_2, hi440_2⟩ := at_T111 HR1.out x12_1 p440 q440
           cases e440
           replace hx440_0 := (HB.out.cell (World.block_lt_of_cell? w _ hx440_0)).trans hx440_0
           replace hx440_1 := (HB.out.cell (World.block_lt_of_cell? w _ hx440_1)).trans hx440_1
           replace hx440_2 := (HB.out.cell (World.block_lt_of_cell? w _ hx440_2)).trans hx440_2
           have HR440_2 := Aside0.mk hi440_2
           have HC440_2 := Aside0.mk hl440_2
           clear hi440_2 hl440_2
           replace p440 := eq_true p440
           replace q440 := eq_true q440
           try go_wp2_with (first | ((with_reducible refine gate_dst (N := 8) rfl ?_); refine box_event ?hg (N := 8) ?hd (cs := #[.int .i64 0, .int .i64 0, .slice none 0 0]) (t := 111) ?hr ?_; (case hd => rfl); (case hg => rfl); (case hr => first | (go_simp; done) | (go_simp; rfl)); intro gb441 hg w13 hbox hb; have n0_ := Aside0.mk (Kd.R_below (zr HO_5.out) hb); have n1_ := Aside0.mk (below_step zb hb); have n2_ := Aside0.mk (hbox); have n3_ := Aside0.mk ((by rw [hg]; exact (below_size zb) : w.heap.size ≤ gb441)); have n4_ := Aside0.mk ((by rw [hg]; exact (below_size zb) : w.heap.size ≤ gb441)); clear HO_5; clear HB; have HO_5 := n0_; have HB := n1_; have BK441 := n2_; have GW441 := n3_; have GE441 := n4_; clear n0_ n1_ n2_ n3_ n4_; clear hb hbox hg; have hcz14_0 : w13.cell? ⟨gb441, 0, none⟩ = some (.int .i64 0) := (blk_cell BK441.out 0).trans rfl; have hcz14_1 : w13.cell? ⟨gb441, 1, none⟩ = some (.int .i64 0) := (blk_cell BK441.out 1).trans rfl; have hcz14_2 : w13.cell? ⟨gb441, 2, none⟩ = some (.slice none 0 0) := (blk_cell BK441.out 2).trans rfl; have hfz14_0 := blk_frozen BK441.out 0; have hfz14_1 := blk_frozen BK441.out 1; have hfz14_2 := blk_frozen BK441.out 2))
           have n0_ : Aside0 (Kd.R Kd.string 9 (((w13.setCell ⟨gb441, 0, none⟩ (.int .i64 ((rd_T111 l1 x12_1).f0))).setCell ⟨gb441, 1, none⟩ (.int .i64 ((rd_T111 l1 x12_1).f1))).setCell ⟨gb441, 2, none⟩ (.slice A440_2 ((rd_T111 l1 x12_1).f2).length c440_2)) w.heap.size (fun _ => True) u5 x5_1) := ⟨by (with_reducible repeat (first | apply Kd.R_alloc | apply Kd.R_drewN | apply Kd.R_drew)); exact Kd.R_mono (Kd.R_far (p := ⟨gb441, 2, none⟩) (Kd.R_far (p := ⟨gb441, 1, none⟩) (Kd.R_far (p := ⟨gb441, 0, none⟩) (Kd.R_types HO_5.out BK441.out (by decide)) (fun _ hk => hk.2) (.int .i64 ((rd_T111 l1 x12_1).f0))) (fun _ hk => hk.2) (.int .i64 ((rd_T111 l1 x12_1).f1))) (fun _ hk => hk.2) (.slice A440_2 ((rd_T111 l1 x12_1).f2).length c440_2)) (fun _ hk => trivial)⟩
           have n1_ : Aside0 ((((w13.setCell ⟨gb441, 0, none⟩ (.int .i64 ((rd_T111 l1 x12_1).f0))).setCell ⟨gb441, 1, none⟩ (.int .i64 ((rd_T111 l1 x12_1).f1))).setCell ⟨gb441, 2, none⟩ (.slice A440_2 ((rd_T111 l1 x12_1).f2).length c440_2)).heap[gb441]? = some (.cells #[.int .i64 ((rd_T111 l1 x12_1).f0), .int .i64 ((rd_T111 l1 x12_1).f1), .slice A440_2 ((rd_T111 l1 x12_1).f2).length c440_2] 111 (0, 0))) := ⟨by (with_reducible repeat (first | refine blk_drewN ?_ _ | refine blk_drew ?_ | refine blk_alloc ?_ _)); refine blk_put (cs := #[.int .i64 ((rd_T111 l1 x12_1).f0), .int .i64 ((rd_T111 l1 x12_1).f1), .slice none 0 0]) ?_ 2 _ rfl; (with_reducible repeat (first | refine blk_drewN ?_ _ | refine blk_drew ?_ | refine blk_alloc ?_ _)); refine blk_put (cs := #[.int .i64 ((rd_T111 l1 x12_1).f0), .int .i64 0, .slice none 0 0]) ?_ 1 _ rfl; (with_reducible repeat (first | refine blk_drewN ?_ _ | refine blk_drew ?_ | refine blk_alloc ?_ _)); refine blk_put (cs := #[.int .i64 0, .int .i64 0, .slice none 0 0]) ?_ 0 _ rfl; (with_reducible repeat (first | refine blk_drewN ?_ _ | refine blk_drew ?_ | refine blk_alloc ?_ _)); exact BK441.out⟩
           have n2_ : Aside0 (Below w.heap.size w (((w13.setCell ⟨gb441, 0, none⟩ (.int .i64 ((rd_T111 l1 x12_1).f0))).setCell ⟨gb441, 1, none⟩ (.int .i64 ((rd_T111 l1 x12_1).f1))).setCell ⟨gb441, 2, none⟩ (.slice A440_2 ((rd_T111 l1 x12_1).f2).length c440_2))) := ⟨by repeat (first | (with_reducible first | exact HB.out | apply below_alloc | apply pw_below_drewN | apply below_drew1 | refine below_set ?_ GE441.out) | exact HB.out)⟩
           (try clear HO_5)
           (try clear BK441)
           (try clear HB)
           (try simp only [show ∀ (w_ : World) (n_ : Nat) (p_ : Addr) (v_ : Value), (w_.drewN n_).setCell p_ v_ = (w_.setCell p_ v_).drewN n_ from fun _ _ _ _ => rfl])
           generalize (((w13.setCell ⟨gb441, 0, none⟩ (.int .i64 ((rd_T111 l1 x12_1).f0))).setCell ⟨gb441, 1, none⟩ (.int .i64 ((rd_T111 l1 x12_1).f1))).setCell ⟨gb441, 2, none⟩ (.slice A440_2 ((rd_T111 l1 x12_1).f2).length c440_2)) = w15 at n0_ n1_ n2_ ⊢
           have HO_5 := n0_
           have BK441 := n1_
           have HB := n2_
           clear n0_ n1_ n2_
           have n0_ := Aside0.mk (Kd.R_drew HO_5.out)
           have n1_ := Aside0.mk (blk_drew BK441.out)
           have n2_ := Aside0.mk (below_drew1 HB.out)
           clear HO_5
           clear BK441
           clear HB
           have HO_5 := n0_
           have BK441 := n1_
           have HB := n2_
           clear n0_ n1_ n2_
           obtain ⟨i017, hi017, _, hsz17, _⟩ := info_parts info9
           obtain ⟨A17, hcut17, hA17, hC17⟩ := print_mid_of (P := Try.prog) Value.string (⟨#[]⟩ : ByteArray) 22 9 .i64 .i64 Try.underlying22 hi017 hsz17 A0 c0 l0 x6_1 ((rd_T111 l1 x12_1).f0) oa (by first | omega | exact oa) oa HC0.out
           have HR442 := Aside0.mk (Kd.C_of_reads (h1 := fun _ => rfl) (hA17 _ (Kd.reads_of_C HR0.out)))
           have HC442 := Aside0.mk hC17
           clear hA17 hC17 hi017 hsz17
           refine start_ (n := 11) (S := fun w' => w'.cell? ⟨gb441, 0, none⟩ = some (.int .i64 ((rd_T111 l1 x12_1).f0)) ∧ w'.cell? ⟨gb441, 1, none⟩ = some (.int .i64 ((rd_T111 l1 x12_1).f1)) ∧ w'.cell? ⟨gb441, 2, none⟩ = some (.slice A440_2 ((rd_T111 l1 x12_1).f2).length c440_2)) (ds := []) #[O,O,O,O,O,O,O,O,O,O,O] (by kernel_rfl) rfl rfl ⟨(blk_cell BK441.out 0).trans rfl, (blk_cell BK441.out 1).trans rfl, (blk_cell BK441.out 2).trans rfl⟩ (fun hHeld => ?_); refine with_tabW impl_patched.tab5 impl_patched.bits5 (fun HT_ HW_ => ?_)
           generalize w15.drew = w16 at HO_5 BK441 HB HR442 hHeld ⊢
           refine pure_ (i := 0) (N := some 16) (v := ?_) (a' := ?_) #[Y,O,O,O,O,O,O,O,O,O,O] rfl rfl zx (fun _ _ _ h => h) (Or.inl ⟨by rfl, ?_⟩) ?_ ?_
           rotate_left; (intro w'; go_simp; with_reducible rfl); rotate_left; (simp only [Act.put,qa,qb,qc,i64_w,i32_w]; rfl)
           refine pure_ (i := 1) (N := some 17) (v := ?_) (a' := ?_) #[Y,Y,O,O,O,O,O,O,O,O,O] rfl rfl zx (fun _ _ _ h => h) (Or.inl ⟨by rfl, ?_⟩) ?_ ?_
           rotate_left; (intro w'; go_simp; with_reducible rfl); rotate_left; (simp only [Act.put,qa,qb,qc,i64_w,i32_w]; rfl)
           refine pure_ (i := 2) (N := some 18) (v := ?_) (a' := ?_) #[Y,Y,Y,O,O,O,O,O,O,O,O] rfl rfl zx (fun _ _ _ h => h) (Or.inl ⟨by rfl, ?_⟩) ?_ ?_
           rotate_left; (intro w'; go_simp; with_reducible rfl); rotate_left; (simp only [Act.put,qa,qb,qc,i64_w,i32_w]; rfl)
           refine pure_ (i := 3) (N := some 19) (v := ?_) (a' := ?_) #[Y,Y,Y,Y,O,O,O,O,O,O,O] rfl rfl zx (fun _ _ _ h => h) (Or.inl ⟨by rfl, ?_⟩) ?_ ?_
           rotate_left; (intro w'; go_simp; with_reducible rfl); rotate_left; (simp only [Act.put,qa,qb,qc,i64_w,i32_w]; rfl)
           refine pure_ (i := 7) (N := some 23) (v := ?_) (a' := ?_) #[Y,Y,Y,Y,O,O,O,Y,O,O,O] rfl rfl zx (fun _ _ _ h => h) (Or.inl ⟨by rfl, ?_⟩) ?_ ?_
           rotate_left; (intro w'; go_simp; with_reducible rfl); rotate_left; (simp only [Act.put,qa,qb,qc,i64_w,i32_w]; rfl)
           refine take_ (i := 4) (N := some 20) (v := ?_) (a' := ?_) #[Y,Y,Y,Y,Y,O,O,Y,O,O,O] rfl rfl (take_ofW HT_.out HW_.out (by kernel_rfl)) (fun _ _ _ h => h) (Or.inl ⟨by rfl, ?_⟩) hHeld ?_ ?_
           rotate_left; (rintro w' ⟨s0, s1, s2⟩; go_simp; with_reducible rfl); rotate_left; (simp only [Act.put,qa,qb,qc,i64_w,i32_w]; rfl)
           refine pure_ (i := 5) (N := some 21) (v := ?_) (a' := ?_) #[Y,Y,Y,Y,Y,Y,O,Y,O,O,O] rfl rfl zx (fun _ _ _ h => h) (Or.inl ⟨by rfl, ?_⟩) ?_ ?_
           rotate_left; (intro w'; go_simp; with_reducible rfl); rotate_left; (simp only [Act.put,qa,qb,qc,i64_w,i32_w]; rfl)
           refine take_ (i := 8) (N := some 24) (v := ?_) (a' := ?_) #[Y,Y,Y,Y,Y,Y,O,Y,Y,O,O] rfl rfl (take_ofW HT_.out HW_.out (by kernel_rfl)) (fun _ _ _ h => h) (Or.inl ⟨by rfl, ?_⟩) hHeld ?_ ?_
           rotate_left; (rintro w' ⟨s0, s1, s2⟩; go_simp; with_reducible rfl); rotate_left; (simp only [Act.put,qa,qb,qc,i64_w,i32_w]; rfl)
           refine one_ (i := 6) (N := some 22) #[Y,Y,Y,Y,Y,Y,Y,Y,Y,O,O] rfl rfl (one_of HT_.out (by kernel_rfl)) (by decide) (fun K hK => ?_)
           refine Kd.R_append_rows_step Kd.string (w0 := w) w.heap.size (by rfl) (.tmp 16) (.tmp 21) 22 9 (.string ⟨#[]⟩) 16 rfl Try.underlying22 info9 rfl (by decide) (by omega) u5 x5_1 ((l0.take (((rd_T111 l1 x12_1).f0) : Int).toNat).drop (x6_1 : Int).toNat) _ _ _ (fun _ => True) (fun _ => False) rfl rfl ?aO ?aR (fun _ _ h => h) (fun _ h => h.elim) ?aF ?aB ?aS ?aL ?_
           (case aR => first | (rw [← show ((l0.take (((rd_T111 l1 x12_1).f0) : Int).toNat).drop (x6_1 : Int).toNat).length = (((rd_T111 l1 x12_1).f0).toNat - x6_1.toNat) from (by rw [List.length_drop, List.length_take]; have h_ : (((rd_T111 l1 x12_1).f0) : Int) ≤ (l0.length : Int) := oa; omega)]; exact zq (Kd.C_below HR442.out HB.out)) | (exact zq (Kd.C_below HR442.out HB.out)))
           (case aB => exact (by repeat (first | (with_reducible first | exact HB.out | apply below_alloc | apply pw_below_drewN | apply below_drew1 | refine below_set ?_ GE441.out) | exact HB.out)))
           (case aF => exact (fun _ _ => trivial))
           (case aO => exact (zr HO_5.out))
           (case aS => exact (below_size (by repeat (first | (with_reducible first | exact HB.out | apply below_alloc | apply pw_below_drewN | apply below_drew1 | refine below_set ?_ GE441.out) | exact HB.out))))
           (case aL => have := LMc11.out; have hlx_ := (show ((l0.take (((rd_T111 l1 x12_1).f0) : Int).toNat).drop (x6_1 : Int).toNat).length = (((rd_T111 l1 x12_1).f0).toNat - x6_1.toNat) from (by rw [List.length_drop, List.length_take]; have h_ : (((rd_T111 l1 x12_1).f0) : Int) ≤ (l0.length : Int) := oa; omega)); omega)
           intro v444 w18 ho hb hg hat
           rw [← Ny443.out] at ho
           have n0_ := Aside0.mk (blk_grown (g := gb441) (o := .cells #[.int .i64 ((rd_T111 l1 x12_1).f0), .int .i64 ((rd_T111 l1 x12_1).f1), .slice A440_2 ((rd_T111 l1 x12_1).f2).length c440_2] 111 (0, 0)) (zk BK441.out) hg (Kd.R_ne HO_5.out BK441.out (by decide)))
           have n1_ := Aside0.mk (hb)
           have n2_ := Aside0.mk (ho)
           clear BK441
           clear HB
           clear HO_5
           have BK441 := n0_
           have HB := n1_
           have HO445 := n2_
           clear n0_ n1_ n2_
           clear ho hb hg hat
           refine hK.out _ _ ⟨(blk_cell BK441.out 0).trans rfl, (blk_cell BK441.out 1).trans rfl, (blk_cell BK441.out 2).trans rfl⟩ (fun hHeld => ?_)
           clear hK K
           refine norm_ (a' := ?_) ?_ ?_
           rotate_left
           ·show Act.put _ (some 22) _ = _
            simp only [Act.put,qa,qb,qc,i64_w,i32_w]
            rfl
           refine one_ (i := 9) (N := some 25) #[Y,Y,Y,Y,Y,Y,Y,Y,Y,Y,O] rfl rfl (one_of HT_.out (by kernel_rfl)) (by decide) (fun K hK => ?_)
           refine Kd.R_append_rows_step Kd.string (w0 := w) w.heap.size (by rfl) (.tmp 22) (.tmp 24) 22 9 (.string ⟨#[]⟩) 16 rfl Try.underlying22 info9 rfl (by decide) (by omega) v444 y443 ((rd_T111 l1 x12_1).f2) _ _ _ (fun _ => True) (fun _ => False) rfl rfl ?aO ?aR (fun _ _ h => h) (fun _ h => h.elim) ?aF ?aB ?aS ?aL ?_
           (case aR => exact zq (Kd.C_below HR440_2.out HB.out))
           (case aB => exact (by repeat (first | (with_reducible first | exact HB.out | apply below_alloc | apply pw_below_drewN | apply below_drew1 | refine below_set ?_ GE441.out) | exact HB.out)))
           (case aF => exact (fun _ _ => trivial))
           (case aO => exact (zr HO445.out))
           (case aS => exact (below_size (by repeat (first | (with_reducible first | exact HB.out | apply below_alloc | apply pw_below_drewN | apply below_drew1 | refine below_set ?_ GE441.out) | exact HB.out))))
           (case aL => have := LMc12.out; omega)
           intro v447 w19 ho hb hg hat
           rw [← Ny446.out] at ho
           have n0_ := Aside0.mk (blk_grown (g := gb441) (o := .cells #[.int .i64 ((rd_T111 l1 x12_1).f0), .int .i64 ((rd_T111 l1 x12_1).f1), .slice A440_2 ((rd_T111 l1 x12_1).f2).length c440_2] 111 (0, 0)) (zk BK441.out) hg (Kd.R_ne HO445.out BK441.out (by decide)))
           have n1_ := Aside0.mk (hb)
           have n2_ := Aside0.mk (ho)
           clear BK441
           clear HB
           clear HO445
           have BK441 := n0_
           have HB := n1_
           have HO448 := n2_
           clear n0_ n1_ n2_
           clear ho hb hg hat
           refine hK.out _ _ ⟨(blk_cell BK441.out 0).trans rfl, (blk_cell BK441.out 1).trans rfl, (blk_cell BK441.out 2).trans rfl⟩ (fun hHeld => ?_)
           clear hK K
           refine norm_ (a' := ?_) ?_ ?_
           rotate_left
           ·show Act.put _ (some 25) _ = _
            simp only [Act.put,qa,qb,qc,i64_w,i32_w]
            rfl
           refine pure_ (i := 10) (N := some 5) (v := ?_) (a' := ?_) #[Y,Y,Y,Y,Y,Y,Y,Y,Y,Y,Y] rfl rfl zx (fun _ _ _ h => h) (Or.inl ⟨by rfl, ?_⟩) ?_ ?_
           rotate_left; (intro w'; go_simp; with_reducible rfl); rotate_left; (simp only [Act.put,qa,qb,qc,i64_w,i32_w]; rfl)
           refine done_ (done_of HT_.out (by kernel_rfl)) ?_
           have hcz20_0 : w19.cell? ⟨gb441, 0, none⟩ = some (.int .i64 ((rd_T111 l1 x12_1).f0)) := (blk_cell BK441.out 0).trans rfl
           have hcz20_1 : w19.cell? ⟨gb441, 1, none⟩ = some (.int .i64 ((rd_T111 l1 x12_1).f1)) := (blk_cell BK441.out 1).trans rfl
           have hcz20_2 : w19.cell? ⟨gb441, 2, none⟩ = some (.slice A440_2 ((rd_T111 l1 x12_1).f2).length c440_2) := (blk_cell BK441.out 2).trans rfl
           have hfz20_0 := blk_frozen BK441.out 0
           have hfz20_1 := blk_frozen BK441.out 1
           have hfz20_2 := blk_frozen BK441.out 2
           try go_wp2
           go_roundg k1
           case measure => have := HK1.out; omega
           case rel => exact ⟨(y446), (wrap64 (((rd_T111 l1 x12_1).f0) + ((rd_T111 l1 x12_1).f1))), (wrap64 (x12_1 + 1)), zf, zf, H', ⟨by have := HK1.out; omega⟩, ⟨by (with_reducible repeat (first | apply Kd.R_alloc | apply Kd.R_drewN | apply Kd.R_drew)); exact HO448.out⟩, ⟨by repeat (first | (with_reducible first | exact HB.out | apply below_alloc | apply pw_below_drewN | apply below_drew1 | refine below_set ?_ GE441.out) | exact HB.out)⟩⟩
          ·rw [if_neg c12] at H
           exact absurd H (by simp)
         ·rw [if_neg c11] at H
          exact absurd H (by simp)
        ·rw [if_neg c10] at H
         exact absurd H (by simp)
       ·rw [if_neg c9] at H
        exact absurd H (by simp)
      ·rw [if_neg c8] at H
       exact absurd H (by simp)
     ·rw [if_neg c7] at H
      exact absurd H (by simp)
    ·rw [if_neg c6] at H
     exact absurd H (by simp)
   ·rw [if_neg c5] at H
    have c5b0 : decide (x12_1 < (l1.length : Int)) = false := decide_eq_false c5
    clear c5
    by_cases c21 : 0 ≤ x6_1
    ·rw [if_pos c21] at H
     have c21b0 := eq_true c21
     have c21b1 : decide (0 ≤ x6_1) = true := decide_eq_true c21
     clear c21
     by_cases c22 : x6_1 ≤ (l0.length : Int)
     ·rw [if_pos c22] at H
      have c22b0 := eq_true c22
      have c22b1 : decide (x6_1 ≤ (l0.length : Int)) = true := decide_eq_true c22
      clear c22
      by_cases c23 : x5_1.length + (l0.drop (x6_1 : Int).toNat).length < 8796093022208
      ·rw [if_pos c23] at H
       have LMc23 := Aside0.mk c23
       clear c23
       obtain ⟨y450, hy450⟩ : ∃ y_ : List ByteArray, y_ = (x5_1 ++ (l0.drop (x6_1 : Int).toNat)) := ⟨_, rfl⟩
       replace H : (some y450) = some r := by first | (rw [hy450]; with_reducible exact H) | (have H2_ := (Option.bind_some _ _).symm.trans H; rw [hy450]; with_reducible exact H2_) | (have H2_ := (Option.bind_some _ _).symm.trans H; with_reducible exact H2_) | with_reducible exact H | (rw [hy450]; exact H) | exact H
       have Ny450 := Aside0.mk hy450
       clear hy450
       obtain rfl := Option.some.inj H
       obtain ⟨i024, hi024, _, hsz24, _⟩ := info_parts info9
       obtain ⟨A24, hcut24, hA24, hC24⟩ := print_drop_of (P := Try.prog) Value.string (⟨#[]⟩ : ByteArray) 22 9 .i64 Try.underlying22 hi024 hsz24 A0 c0 l0 x6_1 oa oa HC0.out
       have HR449 := Aside0.mk (Kd.C_of_reads (h1 := fun _ => rfl) (hA24 _ (Kd.reads_of_C HR0.out)))
       have HC449 := Aside0.mk hC24
       clear hA24 hC24 hi024 hsz24
       go_wp2_with (first | ((with_reducible refine gateB (b := .append) (xs := #[.tmp 32, .tmp 35]) rfl ?_); at_builtin; refine Kd.R_append_rows Kd.string (w0 := w) w.heap.size rfl (.tmp 32) (.tmp 35) 22 9 (.string ⟨#[]⟩) 16 rfl Try.underlying22 info9 rfl (by decide) (by omega) u5 x5_1 (l0.drop (x6_1 : Int).toNat) _ _ _ (fun _ => True) (fun _ => False) rfl rfl ?aO ?aR (fun _ _ h => h) (fun _ h => h.elim) ?aF ?aB ?aS ?aL ?_; (case aR => first | (rw [← show (l0.drop (x6_1 : Int).toNat).length = (l0.length - x6_1.toNat) from List.length_drop]; exact zq (Kd.C_below HR449.out HB.out)) | (exact zq (Kd.C_below HR449.out HB.out))); (case aB => exact zb); (case aF => exact (fun _ _ => trivial)); (case aO => exact (zr HO_5.out)); (case aS => exact (below_size zb)); (case aL => have := LMc23.out; have hlx_ := (show (l0.drop (x6_1 : Int).toNat).length = (l0.length - x6_1.toNat) from List.length_drop); omega); intro v451 w25 ho hb hg hat; rw [← Ny450.out] at ho; have n0_ := Aside0.mk (hb); have n1_ := Aside0.mk (ho); clear HB; clear HO_5; have HB := n0_; have HO452 := n1_; clear n0_ n1_; clear ho hb hg hat))
       go_ret
       exact ⟨_, by first | rfl | (simp [errW_none, errW_some] <;> rfl) | (simp [*, errW_none, errW_some] <;> rfl), by (with_reducible repeat (first | apply Kd.R_alloc | apply Kd.R_drewN | apply Kd.R_drew)); exact HO452.out, by repeat (first | (with_reducible first | exact HB.out | apply below_alloc | apply pw_below_drewN | apply below_drew1) | exact HB.out)⟩
      ·rw [if_neg c23] at H
       exact absurd H (by simp)
     ·rw [if_neg c22] at H
      exact absurd H (by simp)
    ·rw [if_neg c21] at H
     exact absurd H (by simp)

end Go.Proofs.Ytcefenlblnediaa.My

/- Written by this session's program (wip/gen): a plain function with the same answers as the Go function, and the proof that the Go code comes to them. Asked: that the plain function has an answer. -/
namespace Go.Proofs.Ytcefenlblnediaa.My
open Go.RowKit Go.Proofs.YtcefenlblnediaaW.PrintWords Go.Proofs.YtcefenlblnediaaW.PrintLast Go.Proofs.YtcefenlblnediaaW.PrintMore
attribute [local go_sem] max2_int min2_int max_two min_two max_three min_three max_four min_four
set_option linter.unusedVariables false
set_option linter.unusedSimpArgs false

/-! ### impl_Patch: function 35 -/
def impl_Patch.j0 : Nat → List ByteArray → List (S111) → Bool → Option (List ByteArray × Bool)
 | 0, _, _, _ => none
 | k + 1, x0, x1, x16 => if x16 = true then (some (([] : List ByteArray), false)) else ((impl_patched.f k x0 x1).bind fun t455 => ((impl_goodLines.f k t455).bind fun t458 => (if t458 = true then (some (t455, true)) else (some (([] : List ByteArray), false)))))
def impl_Patch.f (k : Nat) (l0 : List ByteArray) (l1 : List (S111)) : Option (List ByteArray × Bool) := (impl_goodLines.f k l0).bind fun t453 => (if t453 = true then ((impl_goodHunks.f k (l0.length : Int) l1).bind fun t454 => (impl_Patch.j0 k l0 l1 (!t454))) else (impl_Patch.j0 k l0 l1 true))
set_option maxHeartbeats 8000000 in
set_option maxRecDepth 100000 in
theorem impl_Patch.calls (k : Nat) (A0 : Option Addr) (c0 : Nat) (l0 : List ByteArray) (A1 : Option Addr) (c1 : Nat) (l1 : List (S111)) (r1 : List ByteArray) (r2 : Bool) (w : World) (hr0 : Kd.C Kd.string w A0 l0.length l0) (hc0 : l0.length ≤ c0) (hr1 : Kd.C k111 w A1 l1.length l1) (hc1 : l1.length ≤ c1) (h : impl_Patch.f k l0 l1 = some (r1, r2)) :
  Calls Try.prog 35 #[.slice A0 l0.length c0, .slice A1 l1.length c1] w fun e w' => ∃ v0_ : Value, e = .returned (.tuple #[v0_, .bool r2]) ∧ Kd.R Kd.string 9 w' w.heap.size (fun _ => True) v0_ r1 ∧ Below w.heap.size w w' := by
 have HR0 := Aside0.mk hr0
 have HC0 := Aside0.mk hc0
 clear hr0 hc0
 have HR1 := Aside0.mk hr1
 have HC1 := Aside0.mk hc1
 clear hr1 hc1
 have HB := Aside0.mk (Below.refl w.heap.size w)
 have H : ((impl_goodLines.f k l0).bind fun t453 => (if t453 = true then ((impl_goodHunks.f k (l0.length : Int) l1).bind fun t454 => (impl_Patch.j0 k l0 l1 (!t454))) else (impl_Patch.j0 k l0 l1 true))) = some (r1, r2) := h
 clear h
 have HC3 := Aside0.mk H
 clear H
 go_enter Try.func35, Try.ntmps35
 go_upto_region 1 with (fail)
 go_cut [16] (fun v16 wc => ∃ (kq : Nat) (x16_2 : Bool), v16 = .bool x16_2 ∧ Aside0 (impl_Patch.j0 kq l0 l1 x16_2 = some (r1, r2)) ∧ Aside0 (kq ≤ k) ∧ Aside0 (Below w.heap.size w wc))
 case first =>
  have H := HC3.out
  clear HC3
  replace H := Option.bind_eq_some_iff.mp H
  obtain ⟨t453, A40, H⟩ := H
  replace H : (if t453 = true then ((impl_goodHunks.f k (l0.length : Int) l1).bind fun t454 => (impl_Patch.j0 k l0 l1 (!t454))) else (impl_Patch.j0 k l0 l1 true)) = some (r1, r2) := H
  have A4 := Aside0.mk A40
  clear A40
  by_cases c5 : t453 = true
  ·subst c5
   have H1 : ((impl_goodHunks.f k (l0.length : Int) l1).bind fun t454 => (impl_Patch.j0 k l0 l1 (!t454))) = some (r1, r2) := by rw [if_pos rfl] at H; exact H
   clear H
   have H := H1
   clear H1
   replace H := Option.bind_eq_some_iff.mp H
   obtain ⟨t454, A60, H⟩ := H
   replace H : (impl_Patch.j0 k l0 l1 (!t454)) = some (r1, r2) := H
   have A6 := Aside0.mk A60
   clear A60
   have H' := Aside0.mk H
   clear H
   go_wp2_with (first | ((with_reducible refine gateC (f := 80) rfl ?_); refine goesL_ (some 8) rfl rfl Try.func80 (by kernel_rfl) rfl #[.slice A0 l0.length c0] rfl zm ?_; (with_reducible refine (impl_goodLines.calls k _ _ l0 true _ ?side1 ?side2 A4.out).mono ?_); (case side1 => exact zq (Kd.C_below HR0.out HB.out)); (case side2 => exact HC0.out); rintro e w' ⟨rfl, ⟨nd, rfl⟩⟩; refine ⟨_, rfl, ?_⟩) | (go_at_call 96; (with_reducible refine (impl_goodHunks.calls k (l0.length : Int) _ _ l1 t454 _ ?side1 ?side2 A6.out).mono ?_); (case side1 => repeat (first | exact (Kd.C_below HR1.out zb) | (with_reducible refine Kd.C_alloc ?_ _) | (with_reducible refine Kd.C_drewN ?_ _) | (with_reducible refine Kd.C_drew ?_))); (case side2 => exact HC1.out); rintro e w7 ⟨rfl, hb⟩; have n0_ := Aside0.mk (below_step zb hb); clear HB; have HB := n0_; clear n0_; (try clear hb); (try clear hb2); (try clear hk); (try clear hi)))
   go_meet
   case rel => exact ⟨_, (!t454), zf, H', ⟨by first | omega | exact Nat.le_refl _⟩, ⟨by repeat (first | (with_reducible first | exact HB.out | apply below_alloc | apply pw_below_drewN | apply below_drew1) | exact HB.out)⟩⟩
  ·replace c5 := Bool.eq_false_iff.mpr c5
   subst c5
   have H1 : (impl_Patch.j0 k l0 l1 true) = some (r1, r2) := by rw [if_neg (show ¬ (false = true) by decide)] at H; exact H
   clear H
   have H := H1
   clear H1
   have H' := Aside0.mk H
   clear H
   go_wp2_with (first | ((with_reducible refine gateC (f := 80) rfl ?_); refine goesL_ (some 8) rfl rfl Try.func80 (by kernel_rfl) rfl #[.slice A0 l0.length c0] rfl zm ?_; (with_reducible refine (impl_goodLines.calls k _ _ l0 false _ ?side1 ?side2 A4.out).mono ?_); (case side1 => exact zq (Kd.C_below HR0.out HB.out)); (case side2 => exact HC0.out); rintro e w' ⟨rfl, ⟨nd, rfl⟩⟩; refine ⟨_, rfl, ?_⟩))
   go_meet
   case rel => exact ⟨_, (true), zf, H', ⟨by first | omega | exact Nat.le_refl _⟩, ⟨by repeat (first | (with_reducible first | exact HB.out | apply below_alloc | apply pw_below_drewN | apply below_drew1) | exact HB.out)⟩⟩
 case rest =>
  clear HC3
  try clear c1
  try clear p2
  try clear c3
  try clear c5
  obtain ⟨kq, x16_2, rfl, HA, HJ2, HB⟩ := hcut
  cases kq with
  | zero => exact absurd HA.out (by simp [impl_Patch.j0])
  | succ kj2 =>
   have H := HA.out
   clear HA
   simp only [impl_Patch.j0] at H
   by_cases c8 : x16_2 = true
   ·subst c8
    have H1 : (some (([] : List ByteArray), false)) = some (r1, r2) := by rw [if_pos rfl] at H; exact H
    clear H
    have H := H1
    clear H1
    simp only [Option.some.injEq, Prod.mk.injEq] at H
    obtain ⟨rfl, rfl⟩ := H
    go_wp2
    go_ret2
    exact ⟨_, by first | rfl | (simp [errW_none, errW_some] <;> rfl) | (simp [*, errW_none, errW_some] <;> rfl), by first | exact Kd.R_nil _ _ _ _ _ | exact Kd.Q_nil _ _ _ _ _ | exact Kd.S_nil _ _ _ _ _, by repeat (first | (with_reducible first | exact HB.out | apply below_alloc | apply pw_below_drewN | apply below_drew1) | exact HB.out)⟩
   ·replace c8 := Bool.eq_false_iff.mpr c8
    subst c8
    have H1 : ((impl_patched.f kj2 l0 l1).bind fun t455 => ((impl_goodLines.f kj2 t455).bind fun t458 => (if t458 = true then (some (t455, true)) else (some (([] : List ByteArray), false))))) = some (r1, r2) := by rw [if_neg (show ¬ (false = true) by decide)] at H; exact H
    clear H
    have H := H1
    clear H1
    replace H := Option.bind_eq_some_iff.mp H
    obtain ⟨t455, A90, H⟩ := H
    replace H : ((impl_goodLines.f kj2 t455).bind fun t458 => (if t458 = true then (some (t455, true)) else (some (([] : List ByteArray), false)))) = some (r1, r2) := H
    have A9 := Aside0.mk A90
    clear A90
    replace H := Option.bind_eq_some_iff.mp H
    obtain ⟨t458, A100, H⟩ := H
    replace H : (if t458 = true then (some (t455, true)) else (some (([] : List ByteArray), false))) = some (r1, r2) := H
    have A10 := Aside0.mk A100
    clear A100
    by_cases c11 : t458 = true
    ·subst c11
     have H1 : (some (t455, true)) = some (r1, r2) := by rw [if_pos rfl] at H; exact H
     clear H
     have H := H1
     clear H1
     simp only [Option.some.injEq, Prod.mk.injEq] at H
     obtain ⟨rfl, rfl⟩ := H
     go_wp2_with (first | ((with_reducible refine gateC (f := 101) rfl ?_); refine goesL_ (some 19) rfl rfl Try.func101 (by kernel_rfl) rfl #[.slice A0 l0.length c0, .slice A1 l1.length c1] rfl zm ?_; (with_reducible refine (impl_patched.calls kj2 _ _ l0 _ _ l1 t455 _ ?side1 ?side2 ?side3 ?side4 A9.out).mono ?_); (case side1 => exact zq (Kd.C_below HR0.out HB.out)); (case side2 => exact HC0.out); (case side3 => exact zq (Kd.C_below HR1.out HB.out)); (case side4 => exact HC1.out); rintro e w12 ⟨v456, rfl, ho0, hb⟩; refine ⟨_, rfl, ?_⟩; have n0_ := Aside0.mk (Kd.R_lower ho0 (below_size zb)); have n1_ := Aside0.mk (below_step zb hb); clear HB; have HO457 := n0_; have HB := n1_; clear n0_ n1_; (try clear hb); (try clear hb2); (try clear hk); (try clear hi); (try clear ho0); obtain ⟨Ao13, co13, eo13⟩ := Kd.R_slice HO457.out; subst eo13) | ((with_reducible refine gateC (f := 80) rfl ?_); refine goesL_ (some 21) rfl rfl Try.func80 (by kernel_rfl) rfl #[.slice Ao13 t455.length co13] rfl zm ?_; (with_reducible refine (impl_goodLines.calls kj2 _ _ t455 true _ ?side1 ?side2 A10.out).mono ?_); (case side1 => repeat (first | exact (Kd.R_reads' HO457.out).2.2 | (with_reducible refine Kd.C_alloc ?_ _) | (with_reducible refine Kd.C_drewN ?_ _) | (with_reducible refine Kd.C_drew ?_))); (case side2 => exact (Kd.R_reads' HO457.out).2.1); rintro e w' ⟨rfl, ⟨nd, rfl⟩⟩; refine ⟨_, rfl, ?_⟩))
     go_ret2
     exact ⟨_, by first | rfl | (simp [errW_none, errW_some] <;> rfl) | (simp [*, errW_none, errW_some] <;> rfl), by (with_reducible repeat (first | apply Kd.R_alloc | apply Kd.R_drewN | apply Kd.R_drew)); exact HO457.out, by repeat (first | (with_reducible first | exact HB.out | apply below_alloc | apply pw_below_drewN | apply below_drew1) | exact HB.out)⟩
    ·replace c11 := Bool.eq_false_iff.mpr c11
     subst c11
     have H1 : (some (([] : List ByteArray), false)) = some (r1, r2) := by rw [if_neg (show ¬ (false = true) by decide)] at H; exact H
     clear H
     have H := H1
     clear H1
     simp only [Option.some.injEq, Prod.mk.injEq] at H
     obtain ⟨rfl, rfl⟩ := H
     go_wp2_with (first | ((with_reducible refine gateC (f := 101) rfl ?_); refine goesL_ (some 19) rfl rfl Try.func101 (by kernel_rfl) rfl #[.slice A0 l0.length c0, .slice A1 l1.length c1] rfl zm ?_; (with_reducible refine (impl_patched.calls kj2 _ _ l0 _ _ l1 t455 _ ?side1 ?side2 ?side3 ?side4 A9.out).mono ?_); (case side1 => exact zq (Kd.C_below HR0.out HB.out)); (case side2 => exact HC0.out); (case side3 => exact zq (Kd.C_below HR1.out HB.out)); (case side4 => exact HC1.out); rintro e w14 ⟨v456, rfl, ho0, hb⟩; refine ⟨_, rfl, ?_⟩; have n0_ := Aside0.mk (Kd.R_lower ho0 (below_size zb)); have n1_ := Aside0.mk (below_step zb hb); clear HB; have HO457 := n0_; have HB := n1_; clear n0_ n1_; (try clear hb); (try clear hb2); (try clear hk); (try clear hi); (try clear ho0); obtain ⟨Ao15, co15, eo15⟩ := Kd.R_slice HO457.out; subst eo15) | ((with_reducible refine gateC (f := 80) rfl ?_); refine goesL_ (some 21) rfl rfl Try.func80 (by kernel_rfl) rfl #[.slice Ao15 t455.length co15] rfl zm ?_; (with_reducible refine (impl_goodLines.calls kj2 _ _ t455 false _ ?side1 ?side2 A10.out).mono ?_); (case side1 => repeat (first | exact (Kd.R_reads' HO457.out).2.2 | (with_reducible refine Kd.C_alloc ?_ _) | (with_reducible refine Kd.C_drewN ?_ _) | (with_reducible refine Kd.C_drew ?_))); (case side2 => exact (Kd.R_reads' HO457.out).2.1); rintro e w' ⟨rfl, ⟨nd, rfl⟩⟩; refine ⟨_, rfl, ?_⟩))
     go_ret2
     exact ⟨_, by first | rfl | (simp [errW_none, errW_some] <;> rfl) | (simp [*, errW_none, errW_some] <;> rfl), by first | exact Kd.R_nil _ _ _ _ _ | exact Kd.Q_nil _ _ _ _ _ | exact Kd.S_nil _ _ _ _ _, by repeat (first | (with_reducible first | exact HB.out | apply below_alloc | apply pw_below_drewN | apply below_drew1) | exact HB.out)⟩

end Go.Proofs.Ytcefenlblnediaa.My

/- Written by this session's program (wip/gen): a plain function with the same answers as the Go function, and the proof that the Go code comes to them. Asked: that the plain function has an answer. -/
namespace Go.Proofs.Ytcefenlblnediaa.My
open Go.RowKit Go.Proofs.YtcefenlblnediaaW.PrintWords Go.Proofs.YtcefenlblnediaaW.PrintLast Go.Proofs.YtcefenlblnediaaW.PrintMore
attribute [local go_sem] max2_int min2_int max_two min_two max_three min_three max_four min_four
set_option linter.unusedVariables false
set_option linter.unusedSimpArgs false

/-! ### spec_l2Asked: function 103 -/
def spec_l2Asked.f (k : Nat) (l0 : List ByteArray) (l1 : List (S111)) : Option (Bool) := (spec_l1Good.f k l0).bind fun t347 => (if t347 = true then ((spec_l2Hunks.f k (l0.length : Int) l1).bind fun t348 => (some t348)) else (some false))
set_option maxHeartbeats 8000000 in
set_option maxRecDepth 100000 in
theorem spec_l2Asked.calls (k : Nat) (A0 : Option Addr) (c0 : Nat) (l0 : List ByteArray) (A1 : Option Addr) (c1 : Nat) (l1 : List (S111)) (r : Bool) (w : World) (hr0 : Kd.C Kd.string w A0 l0.length l0) (hc0 : l0.length ≤ c0) (hr1 : Kd.C k111 w A1 l1.length l1) (hc1 : l1.length ≤ c1) (h : spec_l2Asked.f k l0 l1 = some r) :
  Calls Try.prog 103 #[.slice A0 l0.length c0, .slice A1 l1.length c1] w fun e w' => e = .returned (.bool r) ∧ Below w.heap.size w w' := by
 have HR0 := Aside0.mk hr0
 have HC0 := Aside0.mk hc0
 clear hr0 hc0
 have HR1 := Aside0.mk hr1
 have HC1 := Aside0.mk hc1
 clear hr1 hc1
 have HB := Aside0.mk (Below.refl w.heap.size w)
 have H : ((spec_l1Good.f k l0).bind fun t347 => (if t347 = true then ((spec_l2Hunks.f k (l0.length : Int) l1).bind fun t348 => (some t348)) else (some false))) = some r := h
 clear h
 replace H := Option.bind_eq_some_iff.mp H
 obtain ⟨t347, A30, H⟩ := H
 replace H : (if t347 = true then ((spec_l2Hunks.f k (l0.length : Int) l1).bind fun t348 => (some t348)) else (some false)) = some r := H
 have A3 := Aside0.mk A30
 clear A30
 by_cases c4 : t347 = true
 ·subst c4
  have H1 : ((spec_l2Hunks.f k (l0.length : Int) l1).bind fun t348 => (some t348)) = some r := by rw [if_pos rfl] at H; exact H
  clear H
  have H := H1
  clear H1
  replace H := Option.bind_eq_some_iff.mp H
  obtain ⟨t348, A50, H⟩ := H
  replace H : (some t348) = some r := H
  have A5 := Aside0.mk A50
  clear A50
  obtain rfl := Option.some.inj H
  go_enter Try.func103, Try.ntmps103
  go_wp2_with (first | ((with_reducible refine gateC (f := 78) rfl ?_); refine goesL_ (some 6) rfl rfl Try.func78 (by kernel_rfl) rfl #[.slice A0 l0.length c0] rfl zm ?_; (with_reducible refine (spec_l1Good.calls k _ _ l0 true _ ?side1 ?side2 A3.out).mono ?_); (case side1 => exact zq HR0.out); (case side2 => exact HC0.out); rintro e w' ⟨rfl, ⟨nd, rfl⟩⟩; refine ⟨_, rfl, ?_⟩) | (go_at_call 92; (with_reducible refine (spec_l2Hunks.calls k (l0.length : Int) _ _ l1 t348 _ ?side1 ?side2 A5.out).mono ?_); (case side1 => exact zq HR1.out); (case side2 => exact HC1.out); rintro e w6 ⟨rfl, hb⟩; have n0_ := Aside0.mk (below_step zb hb); clear HB; have HB := n0_; clear n0_; (try clear hb); (try clear hb2); (try clear hk); (try clear hi)))
  go_ret
  exact ⟨by first | rfl | (simp [errW_none, errW_some] <;> rfl) | (simp [*, errW_none, errW_some] <;> rfl), by repeat (first | (with_reducible first | exact HB.out | apply below_alloc | apply pw_below_drewN | apply below_drew1) | exact HB.out)⟩
 ·replace c4 := Bool.eq_false_iff.mpr c4
  subst c4
  have H1 : (some false) = some r := by rw [if_neg (show ¬ (false = true) by decide)] at H; exact H
  clear H
  have H := H1
  clear H1
  obtain rfl := Option.some.inj H
  go_enter Try.func103, Try.ntmps103
  go_wp2_with (first | ((with_reducible refine gateC (f := 78) rfl ?_); refine goesL_ (some 6) rfl rfl Try.func78 (by kernel_rfl) rfl #[.slice A0 l0.length c0] rfl zm ?_; (with_reducible refine (spec_l1Good.calls k _ _ l0 false _ ?side1 ?side2 A3.out).mono ?_); (case side1 => exact zq HR0.out); (case side2 => exact HC0.out); rintro e w' ⟨rfl, ⟨nd, rfl⟩⟩; refine ⟨_, rfl, ?_⟩))
  go_ret
  exact ⟨by first | rfl | (simp [errW_none, errW_some] <;> rfl) | (simp [*, errW_none, errW_some] <;> rfl), by repeat (first | (with_reducible first | exact HB.out | apply below_alloc | apply pw_below_drewN | apply below_drew1) | exact HB.out)⟩

end Go.Proofs.Ytcefenlblnediaa.My

/- Written by this session's program (wip/gen): a plain function with the same answers as the Go function, and the proof that the Go code comes to them. Asked: that the plain function has an answer. -/
namespace Go.Proofs.Ytcefenlblnediaa.My
open Go.RowKit Go.Proofs.YtcefenlblnediaaW.PrintWords Go.Proofs.YtcefenlblnediaaW.PrintLast Go.Proofs.YtcefenlblnediaaW.PrintMore
attribute [local go_sem] max2_int min2_int max_two min_two max_three min_three max_four min_four
set_option linter.unusedVariables false
set_option linter.unusedSimpArgs false

/-! ### spec_l2Patch: function 104 -/
def spec_l2Patch.l0 : Nat → List ByteArray → List ByteArray → Int → List (S111) → Int → Int → Option (List ByteArray)
 | 0, _, _, _, _, _, _ => none
 | k + 1, x0, x5, x6, x9, x10, x11 => if x11 < x10 then (if 0 ≤ x11 then (if x11 < (x9.length : Int) then (if 0 ≤ x6 then (if x6 ≤ ((rd_T111 x9 x11).f0) then (if ((rd_T111 x9 x11).f0) ≤ (x0.length : Int) then (if x5.length + ((x0.take (((rd_T111 x9 x11).f0) : Int).toNat).drop (x6 : Int).toNat).length < 8796093022208 then ((some (x5 ++ ((x0.take (((rd_T111 x9 x11).f0) : Int).toNat).drop (x6 : Int).toNat) : List ByteArray)).bind fun y352 => (if y352.length + ((rd_T111 x9 x11).f2).length < 8796093022208 then (spec_l2Patch.l0 k x0 (y352 ++ ((rd_T111 x9 x11).f2)) (wrap64 (((rd_T111 x9 x11).f0) + ((rd_T111 x9 x11).f1))) x9 x10 (wrap64 (x11 + 1))) else (none))) else (none)) else (none)) else (none)) else (none)) else (none)) else (none)) else (if 0 ≤ x6 then (if x6 ≤ (x0.length : Int) then (if x5.length + (x0.drop (x6 : Int).toNat).length < 8796093022208 then (some (x5 ++ (x0.drop (x6 : Int).toNat))) else (none)) else (none)) else (none))
def spec_l2Patch.f (k : Nat) (l0 : List ByteArray) (l1 : List (S111)) : Option (List ByteArray) := spec_l2Patch.l0 k l0 ([] : List ByteArray) 0 l1 (l1.length : Int) 0
set_option maxHeartbeats 8000000 in
set_option maxRecDepth 100000 in
theorem spec_l2Patch.calls (k : Nat) (A0 : Option Addr) (c0 : Nat) (l0 : List ByteArray) (A1 : Option Addr) (c1 : Nat) (l1 : List (S111)) (r : List ByteArray) (w : World) (hr0 : Kd.C Kd.string w A0 l0.length l0) (hc0 : l0.length ≤ c0) (hr1 : Kd.C k111 w A1 l1.length l1) (hc1 : l1.length ≤ c1) (h : spec_l2Patch.f k l0 l1 = some r) :
  Calls Try.prog 104 #[.slice A0 l0.length c0, .slice A1 l1.length c1] w fun e w' => ∃ v0_ : Value, e = .returned (v0_) ∧ Kd.R Kd.string 9 w' w.heap.size (fun _ => True) v0_ r ∧ Below w.heap.size w w' := by
 have hu111 := Try.underlying111
 have HR0 := Aside0.mk hr0
 have HC0 := Aside0.mk hc0
 clear hr0 hc0
 have HR1 := Aside0.mk hr1
 have HC1 := Aside0.mk hc1
 clear hr1 hc1
 have HB := Aside0.mk (Below.refl w.heap.size w)
 have H : (spec_l2Patch.l0 k l0 ([] : List ByteArray) 0 l1 (l1.length : Int) 0) = some r := h
 clear h
 have H' := Aside0.mk H
 clear H
 go_enter Try.func104, Try.ntmps104
 go_wp2
 go_loopg [5, 6, 11] k (fun kq v5 v6 v11 w' => ∃ (x5_1 : List ByteArray) (x6_1 : Int) (x11_1 : Int), v6 = .int .i64 x6_1 ∧ v11 = .int .i64 x11_1 ∧ Aside0 (spec_l2Patch.l0 kq l0 x5_1 x6_1 l1 (l1.length : Int) x11_1 = some r) ∧ Aside0 (kq ≤ k) ∧ Aside0 (Kd.R Kd.string 9 w' w.heap.size (fun _ => True) v5 x5_1) ∧ Aside0 (Below w.heap.size w w'))
 case atStart => exact ⟨(([] : List ByteArray)), (0), (0), zf, zf, H', ⟨Nat.le_refl _⟩, ⟨by first | exact Kd.R_nil _ _ _ _ _ | exact Kd.Q_nil _ _ _ _ _ | exact Kd.S_nil _ _ _ _ _⟩, ⟨by repeat (first | (with_reducible first | exact HB.out | apply below_alloc | apply pw_below_drewN | apply below_drew1) | exact HB.out)⟩⟩
 case round =>
  clear H'
  try clear c1
  try clear p2
  obtain ⟨x5_1, x6_1, x11_1, rfl, rfl, HA, HK1, HO_5, HB⟩ := hrel
  cases gk with
  | zero => exact absurd HA.out (by simp [spec_l2Patch.l0])
  | succ k1 =>
   have H := HA.out
   clear HA
   simp only [spec_l2Patch.l0] at H
   by_cases c3 : x11_1 < (l1.length : Int)
   ·rw [if_pos c3] at H
    have c3b0 : decide (x11_1 < (l1.length : Int)) = true := decide_eq_true c3
    clear c3
    by_cases c4 : 0 ≤ x11_1
    ·rw [if_pos c4] at H
     have c4b0 : decide (0 ≤ x11_1) = true := decide_eq_true c4
     clear c4
     by_cases c5 : x11_1 < (l1.length : Int)
     ·rw [if_pos c5] at H
      have c5b0 : decide (x11_1 < (l1.length : Int)) = true := decide_eq_true c5
      clear c5
      by_cases c6 : 0 ≤ x6_1
      ·rw [if_pos c6] at H
       have c6b0 := eq_true c6
       have c6b1 : decide (0 ≤ x6_1) = true := decide_eq_true c6
       clear c6
       by_cases c7 : x6_1 ≤ ((rd_T111 l1 x11_1).f0)
       ·rw [if_pos c7] at H
        have c7b0 := eq_true c7
        have c7b1 : decide (x6_1 ≤ ((rd_T111 l1 x11_1).f0)) = true := decide_eq_true c7
        clear c7
        by_cases c8 : ((rd_T111 l1 x11_1).f0) ≤ (l0.length : Int)
        ·rw [if_pos c8] at H
         have c8b0 := eq_true c8
         have c8b1 : decide (((rd_T111 l1 x11_1).f0) ≤ (l0.length : Int)) = true := decide_eq_true c8
         clear c8
         by_cases c9 : x5_1.length + ((l0.take (((rd_T111 l1 x11_1).f0) : Int).toNat).drop (x6_1 : Int).toNat).length < 8796093022208
         ·rw [if_pos c9] at H
          have LMc9 := Aside0.mk c9
          clear c9
          obtain ⟨y352, hy352⟩ : ∃ y_ : List ByteArray, y_ = (x5_1 ++ ((l0.take (((rd_T111 l1 x11_1).f0) : Int).toNat).drop (x6_1 : Int).toNat)) := ⟨_, rfl⟩
          replace H : (if y352.length + ((rd_T111 l1 x11_1).f2).length < 8796093022208 then (spec_l2Patch.l0 k1 l0 (y352 ++ ((rd_T111 l1 x11_1).f2)) (wrap64 (((rd_T111 l1 x11_1).f0) + ((rd_T111 l1 x11_1).f1))) l1 (l1.length : Int) (wrap64 (x11_1 + 1))) else (none)) = some r := by first | (rw [hy352]; with_reducible exact H) | (have H2_ := (Option.bind_some _ _).symm.trans H; rw [hy352]; with_reducible exact H2_) | (have H2_ := (Option.bind_some _ _).symm.trans H; with_reducible exact H2_) | with_reducible exact H | (rw [hy352]; exact H) | exact H
          have Ny352 := Aside0.mk hy352
          clear hy352
          by_cases c10 : y352.length + ((rd_T111 l1 x11_1).f2).length < 8796093022208
          ·rw [if_pos c10] at H
           have LMc10 := Aside0.mk c10
           clear c10
           obtain ⟨y355, hy355⟩ : ∃ y_ : List ByteArray, y_ = (y352 ++ ((rd_T111 l1 x11_1).f2)) := ⟨_, rfl⟩
           replace H : (spec_l2Patch.l0 k1 l0 y355 (wrap64 (((rd_T111 l1 x11_1).f0) + ((rd_T111 l1 x11_1).f1))) l1 (l1.length : Int) (wrap64 (x11_1 + 1))) = some r := by first | (rw [hy355]; with_reducible exact H) | (have H2_ := (Option.bind_some _ _).symm.trans H; rw [hy355]; with_reducible exact H2_) | (have H2_ := (Option.bind_some _ _).symm.trans H; with_reducible exact H2_) | with_reducible exact H | (rw [hy355]; exact H) | exact H
           have Ny355 := Aside0.mk hy355
           clear hy355
           have H' := Aside0.mk H
           clear H
           have p349 : 0 ≤ (x11_1 : Int) := oa
           have q349 : x11_1 < (l1.length : Int) := oa
           obtain ⟨ad349, A349_2, c349_2, e349, hx349_0, hx349_1, hx349_2, hl349_2, hi349_2⟩ := at_T111 HR1.out x11_1 p349 q349
           cases e349
           replace hx349_0 := (HB.out.cell (World.block_lt_of_cell? w _ hx349_0)).trans hx349_0
           replace hx349_1 := (HB.out.cell (World.block_lt_of_cell? w _ hx349_1)).trans hx349_1
           replace hx349_2 := (HB.out.cell (World.block_lt_of_cell? w _ hx349_2)).trans hx349_2
           have HR349_2 := Aside0.mk hi349_2
           have HC349_2 := Aside0.mk hl349_2
           clear hi349_2 hl349_2
           replace p349 := eq_true p349
           replace q349 := eq_true q349
           go_wp2_with (first | ((with_reducible refine gate_dst (N := 8) rfl ?_); refine box_event ?hg (N := 8) ?hd (cs := #[.int .i64 0, .int .i64 0, .slice none 0 0]) (t := 111) ?hr ?_; (case hd => rfl); (case hg => rfl); (case hr => first | (go_simp; done) | (go_simp; rfl)); intro gb350 hg w11 hbox hb; have n0_ := Aside0.mk (Kd.R_below (zr HO_5.out) hb); have n1_ := Aside0.mk (below_step zb hb); have n2_ := Aside0.mk (hbox); have n3_ := Aside0.mk ((by rw [hg]; exact (below_size zb) : w.heap.size ≤ gb350)); have n4_ := Aside0.mk ((by rw [hg]; exact (below_size zb) : w.heap.size ≤ gb350)); clear HO_5; clear HB; have HO_5 := n0_; have HB := n1_; have BK350 := n2_; have GW350 := n3_; have GE350 := n4_; clear n0_ n1_ n2_ n3_ n4_; clear hb hbox hg; have hcz12_0 : w11.cell? ⟨gb350, 0, none⟩ = some (.int .i64 0) := (blk_cell BK350.out 0).trans rfl; have hcz12_1 : w11.cell? ⟨gb350, 1, none⟩ = some (.int .i64 0) := (blk_cell BK350.out 1).trans rfl; have hcz12_2 : w11.cell? ⟨gb350, 2, none⟩ = some (.slice none 0 0) := (blk_cell BK350.out 2).trans rfl; have hfz12_0 := blk_frozen BK350.out 0; have hfz12_1 := blk_frozen BK350.out 1; have hfz12_2 := blk_frozen BK350.out 2; obtain ⟨i013, hi013, _, hsz13, _⟩ := info_parts info9; obtain ⟨A13, hcut13, hA13, hC13⟩ := print_mid_of (P := Try.prog) Value.string (⟨#[]⟩ : ByteArray) 22 9 .i64 .i64 Try.underlying22 hi013 hsz13 A0 c0 l0 x6_1 ((rd_T111 l1 x11_1).f0) oa (by first | omega | exact oa) oa HC0.out; have HR351 := Aside0.mk (Kd.C_of_reads (h1 := fun _ => rfl) (hA13 _ (Kd.reads_of_C HR0.out))); have HC351 := Aside0.mk hC13; clear hA13 hC13 hi013 hsz13) | ((with_reducible refine gateB (b := .append) (xs := #[.tmp 15, .tmp 20]) rfl ?_); at_builtin; refine Kd.R_append_rows Kd.string (w0 := w) w.heap.size rfl (.tmp 15) (.tmp 20) 22 9 (.string ⟨#[]⟩) 16 rfl Try.underlying22 info9 rfl (by decide) (by omega) u5 x5_1 ((l0.take (((rd_T111 l1 x11_1).f0) : Int).toNat).drop (x6_1 : Int).toNat) _ _ _ (fun _ => True) (fun _ => False) rfl rfl ?aO ?aR (fun _ _ h => h) (fun _ h => h.elim) ?aF ?aB ?aS ?aL ?_; (case aR => first | (rw [← show ((l0.take (((rd_T111 l1 x11_1).f0) : Int).toNat).drop (x6_1 : Int).toNat).length = (((rd_T111 l1 x11_1).f0).toNat - x6_1.toNat) from (by rw [List.length_drop, List.length_take]; have h_ : (((rd_T111 l1 x11_1).f0) : Int) ≤ (l0.length : Int) := oa; omega)]; exact Kd.C_below HR351.out (by repeat (first | (with_reducible first | exact HB.out | apply below_alloc | apply pw_below_drewN | apply below_drew1 | refine below_set ?_ GE350.out) | exact HB.out))) | (exact Kd.C_below HR351.out (by repeat (first | (with_reducible first | exact HB.out | apply below_alloc | apply pw_below_drewN | apply below_drew1 | refine below_set ?_ GE350.out) | exact HB.out)))); (case aB => exact (by repeat (first | (with_reducible first | exact HB.out | apply below_alloc | apply pw_below_drewN | apply below_drew1 | refine below_set ?_ GE350.out) | exact HB.out))); (case aF => exact (fun _ _ => trivial)); (case aO => exact (by (with_reducible repeat (first | apply Kd.R_alloc | apply Kd.R_drewN | apply Kd.R_drew)); exact Kd.R_mono (Kd.R_far (p := ⟨gb350, 2, none⟩) (Kd.R_far (p := ⟨gb350, 1, none⟩) (Kd.R_far (p := ⟨gb350, 0, none⟩) (Kd.R_types HO_5.out BK350.out (by decide)) (fun _ hk => hk.2) (.int .i64 ((rd_T111 l1 x11_1).f0))) (fun _ hk => hk.2) (.int .i64 ((rd_T111 l1 x11_1).f1))) (fun _ hk => hk.2) (.slice A349_2 ((rd_T111 l1 x11_1).f2).length c349_2)) (fun _ hk => trivial))); (case aS => exact (below_size (by repeat (first | (with_reducible first | exact HB.out | apply below_alloc | apply pw_below_drewN | apply below_drew1 | refine below_set ?_ GE350.out) | exact HB.out)))); (case aL => have := LMc9.out; have hlx_ := (show ((l0.take (((rd_T111 l1 x11_1).f0) : Int).toNat).drop (x6_1 : Int).toNat).length = (((rd_T111 l1 x11_1).f0).toNat - x6_1.toNat) from (by rw [List.length_drop, List.length_take]; have h_ : (((rd_T111 l1 x11_1).f0) : Int) ≤ (l0.length : Int) := oa; omega)); omega); intro v353 w14 ho hb hg hat; rw [← Ny352.out] at ho; have n0_ := Aside0.mk (blk_grown (g := gb350) (o := .cells #[.int .i64 ((rd_T111 l1 x11_1).f0), .int .i64 ((rd_T111 l1 x11_1).f1), .slice A349_2 ((rd_T111 l1 x11_1).f2).length c349_2] 111 (0, 0)) (by (with_reducible repeat (first | refine blk_drewN ?_ _ | refine blk_drew ?_ | refine blk_alloc ?_ _)); refine blk_put (cs := #[.int .i64 ((rd_T111 l1 x11_1).f0), .int .i64 ((rd_T111 l1 x11_1).f1), .slice none 0 0]) ?_ 2 _ rfl; (with_reducible repeat (first | refine blk_drewN ?_ _ | refine blk_drew ?_ | refine blk_alloc ?_ _)); refine blk_put (cs := #[.int .i64 ((rd_T111 l1 x11_1).f0), .int .i64 0, .slice none 0 0]) ?_ 1 _ rfl; (with_reducible repeat (first | refine blk_drewN ?_ _ | refine blk_drew ?_ | refine blk_alloc ?_ _)); refine blk_put (cs := #[.int .i64 0, .int .i64 0, .slice none 0 0]) ?_ 0 _ rfl; (with_reducible repeat (first | refine blk_drewN ?_ _ | refine blk_drew ?_ | refine blk_alloc ?_ _)); exact BK350.out) hg (Kd.R_ne HO_5.out BK350.out (by decide))); have n1_ := Aside0.mk (hb); have n2_ := Aside0.mk (ho); clear BK350; clear HB; clear HO_5; have BK350 := n0_; have HB := n1_; have HO354 := n2_; clear n0_ n1_ n2_; clear ho hb hg hat; have hcz15_0 : w14.cell? ⟨gb350, 0, none⟩ = some (.int .i64 ((rd_T111 l1 x11_1).f0)) := (blk_cell BK350.out 0).trans rfl; have hcz15_1 : w14.cell? ⟨gb350, 1, none⟩ = some (.int .i64 ((rd_T111 l1 x11_1).f1)) := (blk_cell BK350.out 1).trans rfl; have hcz15_2 : w14.cell? ⟨gb350, 2, none⟩ = some (.slice A349_2 ((rd_T111 l1 x11_1).f2).length c349_2) := (blk_cell BK350.out 2).trans rfl; have hfz15_0 := blk_frozen BK350.out 0; have hfz15_1 := blk_frozen BK350.out 1; have hfz15_2 := blk_frozen BK350.out 2) | ((with_reducible refine gateB (b := .append) (xs := #[.tmp 22, .tmp 24]) rfl ?_); at_builtin; refine Kd.R_append_rows Kd.string (w0 := w) w.heap.size rfl (.tmp 22) (.tmp 24) 22 9 (.string ⟨#[]⟩) 16 rfl Try.underlying22 info9 rfl (by decide) (by omega) v353 y352 ((rd_T111 l1 x11_1).f2) _ _ _ (fun _ => True) (fun _ => False) rfl rfl ?aO ?aR (fun _ _ h => h) (fun _ h => h.elim) ?aF ?aB ?aS ?aL ?_; (case aR => exact zq (Kd.C_below HR349_2.out HB.out)); (case aB => exact (by repeat (first | (with_reducible first | exact HB.out | apply below_alloc | apply pw_below_drewN | apply below_drew1 | refine below_set ?_ GE350.out) | exact HB.out))); (case aF => exact (fun _ _ => trivial)); (case aO => exact (zr HO354.out)); (case aS => exact (below_size (by repeat (first | (with_reducible first | exact HB.out | apply below_alloc | apply pw_below_drewN | apply below_drew1 | refine below_set ?_ GE350.out) | exact HB.out)))); (case aL => have := LMc10.out; omega); intro v356 w16 ho hb hg hat; rw [← Ny355.out] at ho; have n0_ := Aside0.mk (blk_grown (g := gb350) (o := .cells #[.int .i64 ((rd_T111 l1 x11_1).f0), .int .i64 ((rd_T111 l1 x11_1).f1), .slice A349_2 ((rd_T111 l1 x11_1).f2).length c349_2] 111 (0, 0)) (zk BK350.out) hg (Kd.R_ne HO354.out BK350.out (by decide))); have n1_ := Aside0.mk (hb); have n2_ := Aside0.mk (ho); clear BK350; clear HB; clear HO354; have BK350 := n0_; have HB := n1_; have HO357 := n2_; clear n0_ n1_ n2_; clear ho hb hg hat; have hcz17_0 : w16.cell? ⟨gb350, 0, none⟩ = some (.int .i64 ((rd_T111 l1 x11_1).f0)) := (blk_cell BK350.out 0).trans rfl; have hcz17_1 : w16.cell? ⟨gb350, 1, none⟩ = some (.int .i64 ((rd_T111 l1 x11_1).f1)) := (blk_cell BK350.out 1).trans rfl; have hcz17_2 : w16.cell? ⟨gb350, 2, none⟩ = some (.slice A349_2 ((rd_T111 l1 x11_1).f2).length c349_2) := (blk_cell BK350.out 2).trans rfl; have hfz17_0 := blk_frozen BK350.out 0; have hfz17_1 := blk_frozen BK350.out 1; have hfz17_2 := blk_frozen BK350.out 2))
           go_roundg k1
           case measure => have := HK1.out; omega
           case rel => exact ⟨(y355), (wrap64 (((rd_T111 l1 x11_1).f0) + ((rd_T111 l1 x11_1).f1))), (wrap64 (x11_1 + 1)), zf, zf, H', ⟨by have := HK1.out; omega⟩, ⟨by (with_reducible repeat (first | apply Kd.R_alloc | apply Kd.R_drewN | apply Kd.R_drew)); exact HO357.out⟩, ⟨by repeat (first | (with_reducible first | exact HB.out | apply below_alloc | apply pw_below_drewN | apply below_drew1 | refine below_set ?_ GE350.out) | exact HB.out)⟩⟩
          ·rw [if_neg c10] at H
           exact absurd H (by simp)
         ·rw [if_neg c9] at H
          exact absurd H (by simp)
        ·rw [if_neg c8] at H
         exact absurd H (by simp)
       ·rw [if_neg c7] at H
        exact absurd H (by simp)
      ·rw [if_neg c6] at H
       exact absurd H (by simp)
     ·rw [if_neg c5] at H
      exact absurd H (by simp)
    ·rw [if_neg c4] at H
     exact absurd H (by simp)
   ·rw [if_neg c3] at H
    have c3b0 : decide (x11_1 < (l1.length : Int)) = false := decide_eq_false c3
    clear c3
    by_cases c18 : 0 ≤ x6_1
    ·rw [if_pos c18] at H
     have c18b0 := eq_true c18
     have c18b1 : decide (0 ≤ x6_1) = true := decide_eq_true c18
     clear c18
     by_cases c19 : x6_1 ≤ (l0.length : Int)
     ·rw [if_pos c19] at H
      have c19b0 := eq_true c19
      have c19b1 : decide (x6_1 ≤ (l0.length : Int)) = true := decide_eq_true c19
      clear c19
      by_cases c20 : x5_1.length + (l0.drop (x6_1 : Int).toNat).length < 8796093022208
      ·rw [if_pos c20] at H
       have LMc20 := Aside0.mk c20
       clear c20
       obtain ⟨y359, hy359⟩ : ∃ y_ : List ByteArray, y_ = (x5_1 ++ (l0.drop (x6_1 : Int).toNat)) := ⟨_, rfl⟩
       replace H : (some y359) = some r := by first | (rw [hy359]; with_reducible exact H) | (have H2_ := (Option.bind_some _ _).symm.trans H; rw [hy359]; with_reducible exact H2_) | (have H2_ := (Option.bind_some _ _).symm.trans H; with_reducible exact H2_) | with_reducible exact H | (rw [hy359]; exact H) | exact H
       have Ny359 := Aside0.mk hy359
       clear hy359
       obtain rfl := Option.some.inj H
       obtain ⟨i021, hi021, _, hsz21, _⟩ := info_parts info9
       obtain ⟨A21, hcut21, hA21, hC21⟩ := print_drop_of (P := Try.prog) Value.string (⟨#[]⟩ : ByteArray) 22 9 .i64 Try.underlying22 hi021 hsz21 A0 c0 l0 x6_1 oa oa HC0.out
       have HR358 := Aside0.mk (Kd.C_of_reads (h1 := fun _ => rfl) (hA21 _ (Kd.reads_of_C HR0.out)))
       have HC358 := Aside0.mk hC21
       clear hA21 hC21 hi021 hsz21
       go_wp2_with (first | ((with_reducible refine gateB (b := .append) (xs := #[.tmp 32, .tmp 35]) rfl ?_); at_builtin; refine Kd.R_append_rows Kd.string (w0 := w) w.heap.size rfl (.tmp 32) (.tmp 35) 22 9 (.string ⟨#[]⟩) 16 rfl Try.underlying22 info9 rfl (by decide) (by omega) u5 x5_1 (l0.drop (x6_1 : Int).toNat) _ _ _ (fun _ => True) (fun _ => False) rfl rfl ?aO ?aR (fun _ _ h => h) (fun _ h => h.elim) ?aF ?aB ?aS ?aL ?_; (case aR => first | (rw [← show (l0.drop (x6_1 : Int).toNat).length = (l0.length - x6_1.toNat) from List.length_drop]; exact zq (Kd.C_below HR358.out HB.out)) | (exact zq (Kd.C_below HR358.out HB.out))); (case aB => exact zb); (case aF => exact (fun _ _ => trivial)); (case aO => exact (zr HO_5.out)); (case aS => exact (below_size zb)); (case aL => have := LMc20.out; have hlx_ := (show (l0.drop (x6_1 : Int).toNat).length = (l0.length - x6_1.toNat) from List.length_drop); omega); intro v360 w22 ho hb hg hat; rw [← Ny359.out] at ho; have n0_ := Aside0.mk (hb); have n1_ := Aside0.mk (ho); clear HB; clear HO_5; have HB := n0_; have HO361 := n1_; clear n0_ n1_; clear ho hb hg hat))
       go_ret
       exact ⟨_, by first | rfl | (simp [errW_none, errW_some] <;> rfl) | (simp [*, errW_none, errW_some] <;> rfl), by (with_reducible repeat (first | apply Kd.R_alloc | apply Kd.R_drewN | apply Kd.R_drew)); exact HO361.out, by repeat (first | (with_reducible first | exact HB.out | apply below_alloc | apply pw_below_drewN | apply below_drew1) | exact HB.out)⟩
      ·rw [if_neg c20] at H
       exact absurd H (by simp)
     ·rw [if_neg c19] at H
      exact absurd H (by simp)
    ·rw [if_neg c18] at H
     exact absurd H (by simp)

end Go.Proofs.Ytcefenlblnediaa.My

/- Written by this session's program (wip/gen): a plain function with the same answers as the Go function, and the proof that the Go code comes to them. Asked: that the plain function has an answer. -/
namespace Go.Proofs.Ytcefenlblnediaa.My
open Go.RowKit Go.Proofs.YtcefenlblnediaaW.PrintWords Go.Proofs.YtcefenlblnediaaW.PrintLast Go.Proofs.YtcefenlblnediaaW.PrintMore
attribute [local go_sem] max2_int min2_int max_two min_two max_three min_three max_four min_four
set_option linter.unusedVariables false
set_option linter.unusedSimpArgs false

/-! ### spec_Patch: function 39 -/
def spec_Patch.f (k : Nat) (l0 : List ByteArray) (l1 : List (S111)) : Option (List ByteArray × Bool) := (spec_l2Asked.f k l0 l1).bind fun t362 => (if t362 = true then ((spec_l2Patch.f k l0 l1).bind fun t363 => ((spec_l1Good.f k t363).bind fun t366 => (if t366 = true then (some (t363, true)) else (some (([] : List ByteArray), false))))) else (some (([] : List ByteArray), false)))
set_option maxHeartbeats 8000000 in
set_option maxRecDepth 100000 in
theorem spec_Patch.calls (k : Nat) (A0 : Option Addr) (c0 : Nat) (l0 : List ByteArray) (A1 : Option Addr) (c1 : Nat) (l1 : List (S111)) (r1 : List ByteArray) (r2 : Bool) (w : World) (hr0 : Kd.C Kd.string w A0 l0.length l0) (hc0 : l0.length ≤ c0) (hr1 : Kd.C k111 w A1 l1.length l1) (hc1 : l1.length ≤ c1) (h : spec_Patch.f k l0 l1 = some (r1, r2)) :
  Calls Try.prog 39 #[.slice A0 l0.length c0, .slice A1 l1.length c1] w fun e w' => ∃ v0_ : Value, e = .returned (.tuple #[v0_, .bool r2]) ∧ Kd.R Kd.string 9 w' w.heap.size (fun _ => True) v0_ r1 ∧ Below w.heap.size w w' := by
 have HR0 := Aside0.mk hr0
 have HC0 := Aside0.mk hc0
 clear hr0 hc0
 have HR1 := Aside0.mk hr1
 have HC1 := Aside0.mk hc1
 clear hr1 hc1
 have HB := Aside0.mk (Below.refl w.heap.size w)
 have H : ((spec_l2Asked.f k l0 l1).bind fun t362 => (if t362 = true then ((spec_l2Patch.f k l0 l1).bind fun t363 => ((spec_l1Good.f k t363).bind fun t366 => (if t366 = true then (some (t363, true)) else (some (([] : List ByteArray), false))))) else (some (([] : List ByteArray), false)))) = some (r1, r2) := h
 clear h
 replace H := Option.bind_eq_some_iff.mp H
 obtain ⟨t362, A30, H⟩ := H
 replace H : (if t362 = true then ((spec_l2Patch.f k l0 l1).bind fun t363 => ((spec_l1Good.f k t363).bind fun t366 => (if t366 = true then (some (t363, true)) else (some (([] : List ByteArray), false))))) else (some (([] : List ByteArray), false))) = some (r1, r2) := H
 have A3 := Aside0.mk A30
 clear A30
 by_cases c4 : t362 = true
 ·subst c4
  have H1 : ((spec_l2Patch.f k l0 l1).bind fun t363 => ((spec_l1Good.f k t363).bind fun t366 => (if t366 = true then (some (t363, true)) else (some (([] : List ByteArray), false))))) = some (r1, r2) := by rw [if_pos rfl] at H; exact H
  clear H
  have H := H1
  clear H1
  replace H := Option.bind_eq_some_iff.mp H
  obtain ⟨t363, A50, H⟩ := H
  replace H : ((spec_l1Good.f k t363).bind fun t366 => (if t366 = true then (some (t363, true)) else (some (([] : List ByteArray), false)))) = some (r1, r2) := H
  have A5 := Aside0.mk A50
  clear A50
  replace H := Option.bind_eq_some_iff.mp H
  obtain ⟨t366, A60, H⟩ := H
  replace H : (if t366 = true then (some (t363, true)) else (some (([] : List ByteArray), false))) = some (r1, r2) := H
  have A6 := Aside0.mk A60
  clear A60
  by_cases c7 : t366 = true
  ·subst c7
   have H1 : (some (t363, true)) = some (r1, r2) := by rw [if_pos rfl] at H; exact H
   clear H
   have H := H1
   clear H1
   simp only [Option.some.injEq, Prod.mk.injEq] at H
   obtain ⟨rfl, rfl⟩ := H
   go_enter Try.func39, Try.ntmps39
   go_wp2_with (first | ((with_reducible refine gateC (f := 103) rfl ?_); refine goesL_ (some 9) rfl rfl Try.func103 (by kernel_rfl) rfl #[.slice A0 l0.length c0, .slice A1 l1.length c1] rfl zm ?_; (with_reducible refine (spec_l2Asked.calls k _ _ l0 _ _ l1 true _ ?side1 ?side2 ?side3 ?side4 A3.out).mono ?_); (case side1 => exact zq HR0.out); (case side2 => exact HC0.out); (case side3 => exact zq HR1.out); (case side4 => exact HC1.out); rintro e w8 ⟨rfl, hb⟩; refine ⟨_, rfl, ?_⟩; have n0_ := Aside0.mk (below_step zb hb); clear HB; have HB := n0_; clear n0_; (try clear hb); (try clear hb2); (try clear hk); (try clear hi)) | ((with_reducible refine gateC (f := 104) rfl ?_); refine goesL_ (some 13) rfl rfl Try.func104 (by kernel_rfl) rfl #[.slice A0 l0.length c0, .slice A1 l1.length c1] rfl zm ?_; (with_reducible refine (spec_l2Patch.calls k _ _ l0 _ _ l1 t363 _ ?side1 ?side2 ?side3 ?side4 A5.out).mono ?_); (case side1 => exact zq (Kd.C_below HR0.out HB.out)); (case side2 => exact HC0.out); (case side3 => exact zq (Kd.C_below HR1.out HB.out)); (case side4 => exact HC1.out); rintro e w9 ⟨v364, rfl, ho0, hb⟩; refine ⟨_, rfl, ?_⟩; have n0_ := Aside0.mk (Kd.R_lower ho0 (below_size zb)); have n1_ := Aside0.mk (below_step zb hb); clear HB; have HO365 := n0_; have HB := n1_; clear n0_ n1_; (try clear hb); (try clear hb2); (try clear hk); (try clear hi); (try clear ho0); obtain ⟨Ao10, co10, eo10⟩ := Kd.R_slice HO365.out; subst eo10) | ((with_reducible refine gateC (f := 78) rfl ?_); refine goesL_ (some 15) rfl rfl Try.func78 (by kernel_rfl) rfl #[.slice Ao10 t363.length co10] rfl zm ?_; (with_reducible refine (spec_l1Good.calls k _ _ t363 true _ ?side1 ?side2 A6.out).mono ?_); (case side1 => repeat (first | exact (Kd.R_reads' HO365.out).2.2 | (with_reducible refine Kd.C_alloc ?_ _) | (with_reducible refine Kd.C_drewN ?_ _) | (with_reducible refine Kd.C_drew ?_))); (case side2 => exact (Kd.R_reads' HO365.out).2.1); rintro e w' ⟨rfl, ⟨nd, rfl⟩⟩; refine ⟨_, rfl, ?_⟩))
   go_ret2
   exact ⟨_, by first | rfl | (simp [errW_none, errW_some] <;> rfl) | (simp [*, errW_none, errW_some] <;> rfl), by (with_reducible repeat (first | apply Kd.R_alloc | apply Kd.R_drewN | apply Kd.R_drew)); exact HO365.out, by repeat (first | (with_reducible first | exact HB.out | apply below_alloc | apply pw_below_drewN | apply below_drew1) | exact HB.out)⟩
  ·replace c7 := Bool.eq_false_iff.mpr c7
   subst c7
   have H1 : (some (([] : List ByteArray), false)) = some (r1, r2) := by rw [if_neg (show ¬ (false = true) by decide)] at H; exact H
   clear H
   have H := H1
   clear H1
   simp only [Option.some.injEq, Prod.mk.injEq] at H
   obtain ⟨rfl, rfl⟩ := H
   go_enter Try.func39, Try.ntmps39
   go_wp2_with (first | ((with_reducible refine gateC (f := 103) rfl ?_); refine goesL_ (some 9) rfl rfl Try.func103 (by kernel_rfl) rfl #[.slice A0 l0.length c0, .slice A1 l1.length c1] rfl zm ?_; (with_reducible refine (spec_l2Asked.calls k _ _ l0 _ _ l1 true _ ?side1 ?side2 ?side3 ?side4 A3.out).mono ?_); (case side1 => exact zq HR0.out); (case side2 => exact HC0.out); (case side3 => exact zq HR1.out); (case side4 => exact HC1.out); rintro e w11 ⟨rfl, hb⟩; refine ⟨_, rfl, ?_⟩; have n0_ := Aside0.mk (below_step zb hb); clear HB; have HB := n0_; clear n0_; (try clear hb); (try clear hb2); (try clear hk); (try clear hi)) | ((with_reducible refine gateC (f := 104) rfl ?_); refine goesL_ (some 13) rfl rfl Try.func104 (by kernel_rfl) rfl #[.slice A0 l0.length c0, .slice A1 l1.length c1] rfl zm ?_; (with_reducible refine (spec_l2Patch.calls k _ _ l0 _ _ l1 t363 _ ?side1 ?side2 ?side3 ?side4 A5.out).mono ?_); (case side1 => exact zq (Kd.C_below HR0.out HB.out)); (case side2 => exact HC0.out); (case side3 => exact zq (Kd.C_below HR1.out HB.out)); (case side4 => exact HC1.out); rintro e w12 ⟨v364, rfl, ho0, hb⟩; refine ⟨_, rfl, ?_⟩; have n0_ := Aside0.mk (Kd.R_lower ho0 (below_size zb)); have n1_ := Aside0.mk (below_step zb hb); clear HB; have HO365 := n0_; have HB := n1_; clear n0_ n1_; (try clear hb); (try clear hb2); (try clear hk); (try clear hi); (try clear ho0); obtain ⟨Ao13, co13, eo13⟩ := Kd.R_slice HO365.out; subst eo13) | ((with_reducible refine gateC (f := 78) rfl ?_); refine goesL_ (some 15) rfl rfl Try.func78 (by kernel_rfl) rfl #[.slice Ao13 t363.length co13] rfl zm ?_; (with_reducible refine (spec_l1Good.calls k _ _ t363 false _ ?side1 ?side2 A6.out).mono ?_); (case side1 => repeat (first | exact (Kd.R_reads' HO365.out).2.2 | (with_reducible refine Kd.C_alloc ?_ _) | (with_reducible refine Kd.C_drewN ?_ _) | (with_reducible refine Kd.C_drew ?_))); (case side2 => exact (Kd.R_reads' HO365.out).2.1); rintro e w' ⟨rfl, ⟨nd, rfl⟩⟩; refine ⟨_, rfl, ?_⟩))
   go_ret2
   exact ⟨_, by first | rfl | (simp [errW_none, errW_some] <;> rfl) | (simp [*, errW_none, errW_some] <;> rfl), by first | exact Kd.R_nil _ _ _ _ _ | exact Kd.Q_nil _ _ _ _ _ | exact Kd.S_nil _ _ _ _ _, by repeat (first | (with_reducible first | exact HB.out | apply below_alloc | apply pw_below_drewN | apply below_drew1) | exact HB.out)⟩
 ·replace c4 := Bool.eq_false_iff.mpr c4
  subst c4
  have H1 : (some (([] : List ByteArray), false)) = some (r1, r2) := by rw [if_neg (show ¬ (false = true) by decide)] at H; exact H
  clear H
  have H := H1
  clear H1
  simp only [Option.some.injEq, Prod.mk.injEq] at H
  obtain ⟨rfl, rfl⟩ := H
  go_enter Try.func39, Try.ntmps39
  go_wp2_with (first | ((with_reducible refine gateC (f := 103) rfl ?_); refine goesL_ (some 9) rfl rfl Try.func103 (by kernel_rfl) rfl #[.slice A0 l0.length c0, .slice A1 l1.length c1] rfl zm ?_; (with_reducible refine (spec_l2Asked.calls k _ _ l0 _ _ l1 false _ ?side1 ?side2 ?side3 ?side4 A3.out).mono ?_); (case side1 => exact zq HR0.out); (case side2 => exact HC0.out); (case side3 => exact zq HR1.out); (case side4 => exact HC1.out); rintro e w14 ⟨rfl, hb⟩; refine ⟨_, rfl, ?_⟩; have n0_ := Aside0.mk (below_step zb hb); clear HB; have HB := n0_; clear n0_; (try clear hb); (try clear hb2); (try clear hk); (try clear hi)))
  go_ret2
  exact ⟨_, by first | rfl | (simp [errW_none, errW_some] <;> rfl) | (simp [*, errW_none, errW_some] <;> rfl), by first | exact Kd.R_nil _ _ _ _ _ | exact Kd.Q_nil _ _ _ _ _ | exact Kd.S_nil _ _ _ _ _, by repeat (first | (with_reducible first | exact HB.out | apply below_alloc | apply pw_below_drewN | apply below_drew1) | exact HB.out)⟩

end Go.Proofs.Ytcefenlblnediaa.My

/- Plain Lean: chapter 2: hunks carried out, for the program and the reference. Conditions: lengths and sizes below 2^62. -/
namespace Go.Proofs.Ytcefenlblnediaa.Pl
open Go.RowKit Go.Proofs.YtcefenlblnediaaW.PrintWords Go.Proofs.YtcefenlblnediaaW.PrintLast Go.Proofs.Ytcefenlblnediaa.My
set_option linter.unusedVariables false
set_option linter.unusedSimpArgs false

/-- What is left of the lines from p on, the hunks carried out. -/
def patchFrom (a : List ByteArray) : Nat → List IH → List ByteArray
  | p, [] => a.drop p
  | p, x :: t => (a.take x.f0.toNat).drop p ++ (x.f2 ++ patchFrom a (x.f0 + x.f1).toNat t)
theorem patchFrom_mem (a : List ByteArray) (s : ByteArray) : ∀ (h : List IH) (p : Nat), s ∈ patchFrom a p h → s ∈ a ∨ ∃ x ∈ h, s ∈ x.f2 := by
  intro h
  induction h with
  | nil => intro p hs; exact .inl (List.mem_of_mem_drop hs)
  | cons y t ih =>
    intro p hs
    simp only [patchFrom, List.mem_append] at hs
    rcases hs with hs | hs | hs
    · exact .inl (List.mem_of_mem_take (List.mem_of_mem_drop hs))
    · exact .inr ⟨y, List.mem_cons_self .., hs⟩
    · rcases ih _ hs with hs | ⟨x, hx, hs⟩
      · exact .inl hs
      · exact .inr ⟨x, List.mem_cons_of_mem _ hx, hs⟩
theorem patchFrom_len (a : List ByteArray) (ha : a.length ≤ 40) : ∀ (h : List IH) (p : Nat), near h → (patchFrom a p h).length ≤ 40 + 80 * h.length := by
  intro h
  induction h with
  | nil => intro p _; simp only [patchFrom, List.length_drop, List.length_nil]; omega
  | cons y t ih =>
    intro p hn
    have h1 := ih (y.f0 + y.f1).toNat (fun x hx => hn x (List.mem_cons_of_mem _ hx))
    have h2 := hn y (List.mem_cons_self ..)
    simp only [patchFrom, List.length_append, List.length_drop, List.length_take, List.length_cons]
    omega
theorem patchFrom_fit {a : List ByteArray} {h : List IH} (fa : FitS a) (fh : FitI h) (ha : a.length ≤ 40) (hn : near h) (hl : h.length ≤ 20) (p : Nat) : FitS (patchFrom a p h) := by
  have := patchFrom_len a ha h p hn
  refine ⟨by omega, fun s hs => ?_⟩
  rcases patchFrom_mem a s h p hs with hs | ⟨x, hx, hs⟩
  · exact fa.2 s hs
  · exact (fh.2 x hx).2.2.2 s hs

theorem patched_l0 (a : List ByteArray) (h : List IH) (hn : a.length ≤ 40) (hl : h.length ≤ 20) : ∀ d i (q : Int) (p : Nat) (acc : List ByteArray), i + d = h.length → chain a.length q (h.drop i) = true → (p : Int) ≤ q + 1 → p ≤ a.length → acc.length ≤ 40 * i + p →
    Ev (fun k => impl_patched.l0 k a acc (p : Int) h (h.length : Int) (i : Int)) (acc ++ patchFrom a p (h.drop i)) := by
  intro d
  induction d with
  | zero =>
    intro i q p acc hi hc hpq hp hacc
    refine Ev.step (fun k => impl_patched.l0.eq_2 ..) (ev_neg (by omega) (ev_pos (by omega) (ev_pos (by omega) (ev_pos ?_ (ev_some ?_)))))
    · rw [List.length_drop]
      omega
    · rw [List.drop_of_length_le (l := h) (by omega), Int.toNat_natCast]
      rfl
  | succ d ih =>
    intro i q p acc hi hc hpq hp hacc
    have hlt : i < h.length := by omega
    rw [List.drop_eq_getElem_cons hlt] at hc
    rw [List.drop_eq_getElem_cons hlt]
    simp only [chain, Bool.and_eq_true, hOK, decide_eq_true_eq] at hc
    obtain ⟨⟨⟨q0, q1, q2, q3, q4, q5⟩, _⟩, hc'⟩ := hc
    refine Ev.step (fun k => impl_patched.l0.eq_2 ..) ?_
    simp only [rdIH h i hlt, Option.bind_some]
    have e1 : wrap64 (h[i].f0 + h[i].f1) = (((h[i].f0 + h[i].f1).toNat : Nat) : Int) := by rw [wrap64_id (by omega) (by omega)]; omega
    rw [e1, wrap_succ i (by omega), Int.toNat_natCast]
    have e2 : ((a.take h[i].f0.toNat).drop p).length = h[i].f0.toNat - p := by rw [List.length_drop, List.length_take]; omega
    refine ev_pos (by omega) (ev_pos (by omega) (ev_pos (by omega) (ev_pos (by omega) (ev_pos (by omega) (ev_pos (by omega) (ev_pos (by rw [e2]; omega) (ev_pos (by rw [List.length_append, e2]; omega) ?_)))))))
    refine ev_to (ih (i + 1) _ _ _ (by omega) hc' (by omega) (by omega) (by rw [List.length_append, List.length_append, e2]; omega)) ?_
    simp only [patchFrom, List.append_assoc]

theorem l2Patch_l0 (a : List ByteArray) (h : List IH) (hn : a.length ≤ 40) (hl : h.length ≤ 20) : ∀ d i (q : Int) (p : Nat) (acc : List ByteArray), i + d = h.length → chain a.length q (h.drop i) = true → (p : Int) ≤ q + 1 → p ≤ a.length → acc.length ≤ 40 * i + p →
    Ev (fun k => spec_l2Patch.l0 k a acc (p : Int) h (h.length : Int) (i : Int)) (acc ++ patchFrom a p (h.drop i)) := by
  intro d
  induction d with
  | zero =>
    intro i q p acc hi hc hpq hp hacc
    refine Ev.step (fun k => spec_l2Patch.l0.eq_2 ..) (ev_neg (by omega) (ev_pos (by omega) (ev_pos (by omega) (ev_pos ?_ (ev_some ?_)))))
    · rw [List.length_drop]
      omega
    · rw [List.drop_of_length_le (l := h) (by omega), Int.toNat_natCast]
      rfl
  | succ d ih =>
    intro i q p acc hi hc hpq hp hacc
    have hlt : i < h.length := by omega
    rw [List.drop_eq_getElem_cons hlt] at hc
    rw [List.drop_eq_getElem_cons hlt]
    simp only [chain, Bool.and_eq_true, hOK, decide_eq_true_eq] at hc
    obtain ⟨⟨⟨q0, q1, q2, q3, q4, q5⟩, _⟩, hc'⟩ := hc
    refine Ev.step (fun k => spec_l2Patch.l0.eq_2 ..) ?_
    simp only [rdIH h i hlt, Option.bind_some]
    have e1 : wrap64 (h[i].f0 + h[i].f1) = (((h[i].f0 + h[i].f1).toNat : Nat) : Int) := by rw [wrap64_id (by omega) (by omega)]; omega
    rw [e1, wrap_succ i (by omega), Int.toNat_natCast]
    have e2 : ((a.take h[i].f0.toNat).drop p).length = h[i].f0.toNat - p := by rw [List.length_drop, List.length_take]; omega
    refine ev_pos (by omega) (ev_pos (by omega) (ev_pos (by omega) (ev_pos (by omega) (ev_pos (by omega) (ev_pos (by omega) (ev_pos (by rw [e2]; omega) (ev_pos (by rw [List.length_append, e2]; omega) ?_)))))))
    refine ev_to (ih (i + 1) _ _ _ (by omega) hc' (by omega) (by omega) (by rw [List.length_append, List.length_append, e2]; omega)) ?_
    simp only [patchFrom, List.append_assoc]

def asked (a : List ByteArray) (h : List IH) : Bool := good a && goodH a.length h
def patchH (a : List ByteArray) (h : List IH) : List ByteArray := patchFrom a 0 h
def patchR (a : List ByteArray) (h : List IH) : List ByteArray × Bool := if asked a h = true ∧ good (patchH a h) = true then (patchH a h, true) else ([], false)
theorem asked_of {a : List ByteArray} {h : List IH} (c : asked a h = true) : a.length ≤ 40 ∧ h.length ≤ 20 ∧ near h ∧ chain a.length (-1) h = true := by
  unfold asked at c
  rw [Bool.and_eq_true] at c
  obtain ⟨g1, g2, g3, g4⟩ := near_of_good c.2
  have := c.2
  unfold goodH at this
  rw [Bool.and_eq_true, Bool.and_eq_true] at this
  exact ⟨good_len c.1, g2, g1, this.2.2⟩
theorem patched_ev {a : List ByteArray} {h : List IH} (c : asked a h = true) : Ev (fun k => impl_patched.f k a h) (patchH a h) := by
  obtain ⟨c1, c2, c3, c4⟩ := asked_of c
  simp only [impl_patched.f]
  exact patched_l0 a h c1 c2 h.length 0 (-1) 0 [] (by omega) c4 (by omega) (by omega) (Nat.zero_le _)
theorem l2Patch_ev {a : List ByteArray} {h : List IH} (c : asked a h = true) : Ev (fun k => spec_l2Patch.f k a h) (patchH a h) := by
  obtain ⟨c1, c2, c3, c4⟩ := asked_of c
  simp only [spec_l2Patch.f]
  exact l2Patch_l0 a h c1 c2 h.length 0 (-1) 0 [] (by omega) c4 (by omega) (by omega) (Nat.zero_le _)
theorem l2Asked_ev (a : List ByteArray) (h : List IH) (fa : FitS a) (fh : FitI h) : Ev (fun k => spec_l2Asked.f k a h) (asked a h) := by
  simp only [spec_l2Asked.f]
  unfold asked
  have hL := fa.1
  refine ev_bind (l1Good_ev a fa) (ev_ite (fun c => ?_) (fun c => ev_some ?_))
  · rw [c, Bool.true_and]
    exact ev_bind (l2Hunks_ev _ h fh (by omega) (by omega)) (ev_some rfl)
  · rw [Bool.not_eq_true] at c
    rw [c, Bool.false_and]
theorem patchR_small (a : List ByteArray) (h : List IH) : (patchR a h).1.length ≤ 40 := by
  unfold patchR
  split
  · rename_i c
    exact good_len c.2
  · exact Nat.zero_le _
theorem impl_Patch_ev (a : List ByteArray) (h : List IH) (fa : FitS a) (fh : FitI h) : Ev (fun k => impl_Patch.f k a h) (patchR a h) := by
  simp only [impl_Patch.f]
  unfold patchR
  have fin : asked a h = false → Ev (fun k => impl_Patch.j0 k a h true) (if asked a h = true ∧ good (patchH a h) = true then (patchH a h, true) else (([] : List ByteArray), false)) := by
    intro c
    rw [if_neg (fun e => by rw [c] at e; cases e.1)]
    exact Ev.step (fun k => impl_Patch.j0.eq_2 ..) (ev_pos rfl (ev_some rfl))
  refine ev_bind (goodLines_ev a fa) (ev_ite (fun c => ?_) (fun c => ?_))
  · refine ev_bind (goodHunks_ev _ h fh) ?_
    cases g : goodH a.length h with
    | false =>
      refine fin ?_
      unfold asked
      rw [g, Bool.and_false]
    | true =>
      have ca : asked a h = true := by unfold asked; rw [c, g]; rfl
      obtain ⟨c1, c2, c3, c4⟩ := asked_of ca
      refine Ev.step (fun k => impl_Patch.j0.eq_2 ..) (ev_neg (by simp) (ev_bind (patched_ev ca) (ev_bind (goodLines_ev _ (patchFrom_fit fa fh c1 c3 c2 0)) (ev_ite (fun c5 => ev_some ?_) (fun c5 => ev_some ?_)))))
      · rw [if_pos ⟨ca, c5⟩]
      · rw [if_neg (fun e => c5 e.2)]
  · refine fin ?_
    unfold asked
    rw [Bool.not_eq_true] at c
    rw [c, Bool.false_and]
theorem spec_Patch_ev (a : List ByteArray) (h : List IH) (fa : FitS a) (fh : FitI h) : Ev (fun k => spec_Patch.f k a h) (patchR a h) := by
  simp only [spec_Patch.f]
  unfold patchR
  refine ev_bind (l2Asked_ev a h fa fh) (ev_ite (fun ca => ?_) (fun ca => ev_some ?_))
  · obtain ⟨c1, c2, c3, c4⟩ := asked_of ca
    refine ev_bind (l2Patch_ev ca) (ev_bind (l1Good_ev _ (patchFrom_fit fa fh c1 c3 c2 0)) (ev_ite (fun c5 => ev_some ?_) (fun c5 => ev_some ?_)))
    · rw [if_pos (show asked a h = true ∧ good (patchH a h) = true from ⟨ca, c5⟩)]
    · rw [if_neg (show ¬ (asked a h = true ∧ good (patchH a h) = true) from fun e => c5 e.2)]
  · rw [if_neg (show ¬ (asked a h = true ∧ good (patchH a h) = true) from fun e => ca e.1)]
theorem patchR_asked {a : List ByteArray} {h : List IH} (c : (patchR a h).2 = true) : asked a h = true := by
  unfold patchR at c
  split at c
  · rename_i e
    exact e.1
  · cases c
end Go.Proofs.Ytcefenlblnediaa.Pl

/- Plain Lean: copies of lists of strings. Condition: lengths below 2^43. -/
namespace Go.Proofs.Ytcefenlblnediaa.Pl
open Go.RowKit Go.Proofs.YtcefenlblnediaaW.PrintWords Go.Proofs.YtcefenlblnediaaW.PrintLast Go.Proofs.Ytcefenlblnediaa.My
set_option linter.unusedVariables false
set_option linter.unusedSimpArgs false

theorem cloneT_eq (l : List ByteArray) (h : l.length < 8796093022208) : slices_Clone_string_string.f l = some l := by
  unfold slices_Clone_string_string.f
  simp [h]
theorem ownT_eq (l : List ByteArray) (h : l.length < 8796093022208) : spec_l1OwnT.f l = some l := by
  unfold spec_l1OwnT.f
  simp [h]
end Go.Proofs.Ytcefenlblnediaa.Pl

/- Plain Lean: chapter 5: a step for each hunk, for the program and the reference. Conditions: lengths and sizes below 2^62. -/
namespace Go.Proofs.Ytcefenlblnediaa.Pl
open Go.RowKit Go.Proofs.YtcefenlblnediaaW.PrintWords Go.Proofs.YtcefenlblnediaaW.PrintLast Go.Proofs.Ytcefenlblnediaa.My
set_option linter.unusedVariables false
set_option linter.unusedSimpArgs false

/-- The number by which a place is written. -/
def numI (f m : Int) : Int := if m > 0 then f + 1 else f
theorem numberOf_eq (f m : Int) (h : -1000000 ≤ f ∧ f ≤ 1000000) : impl_numberOf.f f m = some (numI f m) := by
  unfold impl_numberOf.f numI
  rw [wrap64_id (by omega) (by omega)]
  split <;> rfl
theorem endOf_eq (f m : Int) (h : -1000000 ≤ f + m ∧ f + m ≤ 1000000) : impl_endOf.f f m = some (f + m) := by
  unfold impl_endOf.f
  rw [wrap64_id (by omega) (by omega)]
/-- A hunk's step, the text ahead having moved by s. -/
def stepOne (a : List ByteArray) (s : Int) (x : IH) : IT := ⟨numI x.f0 x.f1, x.f0 + x.f1, (a.take (x.f0 + x.f1).toNat).drop x.f0.toNat, numI (x.f0 + s) (x.f2.length : Int), x.f0 + s + (x.f2.length : Int), x.f2⟩
def stepsFrom (a : List ByteArray) : Int → List IH → List IT
  | _, [] => []
  | s, x :: t => stepOne a s x :: stepsFrom a (s + ((x.f2.length : Int) - x.f1)) t
theorem stepsFrom_len (a : List ByteArray) : ∀ (h : List IH) (s : Int), (stepsFrom a s h).length = h.length
  | [], _ => rfl
  | x :: t, s => by simp only [stepsFrom, List.length_cons, stepsFrom_len a t]
theorem stepsFrom_mem (a : List ByteArray) : ∀ (h : List IH) (s : Int) (y : IT), y ∈ stepsFrom a s h → y.f2.length ≤ a.length ∧ (∀ z ∈ y.f2, z ∈ a) ∧ ∃ x ∈ h, y.f5 = x.f2
  | [], _, y, hy => by simp [stepsFrom] at hy
  | x :: t, s, y, hy => by
    simp only [stepsFrom, List.mem_cons] at hy
    rcases hy with rfl | hy
    · exact ⟨by unfold stepOne; rw [List.length_drop, List.length_take]; omega, fun z hz => List.mem_of_mem_take (List.mem_of_mem_drop hz), x, List.mem_cons_self .., rfl⟩
    · obtain ⟨h1, h2, z, hz, e⟩ := stepsFrom_mem a t _ y hy
      exact ⟨h1, h2, z, List.mem_cons_of_mem _ hz, e⟩

theorem steps_l0 (a : List ByteArray) (h : List IH) (hn : a.length ≤ 40) (hl : h.length ≤ 20) : ∀ d i (q s : Int) (acc : List IT), i + d = h.length → chain a.length q (h.drop i) = true → -40 * (i : Int) ≤ s → s ≤ 40 * (i : Int) → acc.length ≤ i →
    Ev (fun k => impl_stepsOf.l0 k a acc s h (h.length : Int) (i : Int)) (acc ++ stepsFrom a s (h.drop i)) := by
  intro d
  induction d with
  | zero =>
    intro i q s acc hi hc h1 h2 hacc
    refine Ev.step (fun k => impl_stepsOf.l0.eq_2 ..) (ev_neg (by omega) (ev_some ?_))
    rw [List.drop_of_length_le (l := h) (by omega)]
    simp only [stepsFrom, List.append_nil]
  | succ d ih =>
    intro i q s acc hi hc h1 h2 hacc
    have hlt : i < h.length := by omega
    rw [List.drop_eq_getElem_cons hlt] at hc
    rw [List.drop_eq_getElem_cons hlt]
    simp only [chain, Bool.and_eq_true, hOK, decide_eq_true_eq] at hc
    obtain ⟨⟨⟨q0, q1, q2, q3, q4, q5⟩, _⟩, hc'⟩ := hc
    refine Ev.step (fun k => impl_stepsOf.l0.eq_2 ..) ?_
    simp only [rdIH h i hlt]
    rw [endOf_eq h[i].f0 h[i].f1 (by omega), wrap64_id (x := h[i].f0 + h[i].f1) (by omega) (by omega), wrap64_id (x := h[i].f0 + s) (by omega) (by omega), wrap64_id (x := (h[i].f2.length : Int) - h[i].f1) (by omega) (by omega), wrap64_id (x := s + ((h[i].f2.length : Int) - h[i].f1)) (by omega) (by omega), wrap_succ i (by omega)]
    have e2 : ((a.take (h[i].f0 + h[i].f1).toNat).drop h[i].f0.toNat).length < 8796093022208 := by rw [List.length_drop, List.length_take]; omega
    rw [cloneT_eq _ e2, cloneT_eq h[i].f2 (by omega), numberOf_eq h[i].f0 h[i].f1 (by omega), numberOf_eq (h[i].f0 + s) (h[i].f2.length : Int) (by omega), endOf_eq (h[i].f0 + s) (h[i].f2.length : Int) (by omega)]
    simp only [Option.bind_some]
    refine ev_pos (by omega) (ev_pos (by omega) (ev_pos (by omega) (ev_pos (by omega) (ev_pos (by omega) (ev_pos (by omega) (ev_pos (by omega) ?_))))))
    refine ev_to (ih (i + 1) _ _ _ (by omega) hc' (by omega) (by omega) (by rw [List.length_append, List.length_singleton]; omega)) ?_
    simp only [stepsFrom, stepOne, List.append_assoc, List.singleton_append]

end Go.Proofs.Ytcefenlblnediaa.Pl

/- Plain Lean: whether lines are good, as chapter 5 of the reference asks. Conditions: lengths and sizes below 2^63. -/
namespace Go.Proofs.Ytcefenlblnediaa.Pl
open Go.RowKit Go.Proofs.YtcefenlblnediaaW.PrintWords Go.Proofs.YtcefenlblnediaaW.PrintLast Go.Proofs.Ytcefenlblnediaa.My
set_option linter.unusedVariables false
set_option linter.unusedSimpArgs false

theorem l5Lines_l0 (l : List ByteArray) (hf : FitS l) : ∀ d i, i + d = l.length → Ev (fun k => spec_l5Lines.l0 k l l (l.length : Int) (i : Int)) ((l.drop i).all isLn && (l.dropLast.drop i).all ends && decide (l.length ≤ 40)) := by
  intro d
  have hL := hf.1
  induction d with
  | zero =>
    intro i hi
    refine Ev.step (fun k => spec_l5Lines.l0.eq_2 ..) (ev_neg (by omega) (ev_some ?_))
    rw [List.drop_of_length_le (by omega), List.drop_of_length_le (by rw [List.length_dropLast]; omega)]
    simp
    omega
  | succ d ih =>
    intro i hi
    have hlt : i < l.length := by omega
    refine Ev.step (fun k => spec_l5Lines.l0.eq_2 ..) (ev_pos (by omega) (ev_pos (by omega) (ev_pos (by omega) ?_)))
    simp only [rdOf_lt _ _ _ hlt]
    rw [wrap_pred l.length (by omega) hL, wrap_succ i (by omega), drop_cons l i hlt, List.all_cons]
    refine ev_bind (l1Line_ev _ (hf.2 _ (List.getElem_mem _))) (ev_ite (fun h => ?_) (fun h => ev_some (by simp [h])))
    rw [h, Bool.true_and, l1Ends_eq _ (isLn_size h).1 (hf.2 _ (List.getElem_mem _))]
    simp only [Option.bind_some]
    refine ev_ite (fun h => ?_) (fun h => ?_)
    · have hd : l.dropLast.drop i = l[i] :: l.dropLast.drop (i + 1) := by
        rw [List.drop_eq_getElem_cons (by rw [List.length_dropLast]; omega), List.getElem_dropLast]
      rw [hd, List.all_cons]
      refine ev_ite (fun h => ?_) (fun h => ev_some (by simp [h]))
      rw [h, Bool.true_and]
      exact ih (i + 1) (by omega)
    · have e1 : l.dropLast.drop i = [] := List.drop_of_length_le (by rw [List.length_dropLast]; omega)
      have e2 : l.dropLast.drop (i + 1) = [] := List.drop_of_length_le (by rw [List.length_dropLast]; omega)
      have := ih (i + 1) (by omega)
      rw [e2] at this
      rw [e1]
      exact this

theorem l5Lines_ev (l : List ByteArray) (hf : FitS l) : Ev (fun k => spec_l5Lines.f k l) (good l) := by
  simp only [spec_l5Lines.f]
  refine ev_to (l5Lines_l0 l hf l.length 0 (by omega)) ?_
  rw [List.drop_zero, List.drop_zero]
  unfold good
  rw [Bool.and_comm]

end Go.Proofs.Ytcefenlblnediaa.Pl

/- Plain Lean: chapter 5: when steps are good, for the program's inner function and the reference. Conditions: lengths and sizes below 2^63. -/
namespace Go.Proofs.Ytcefenlblnediaa.Pl
open Go.RowKit Go.Proofs.YtcefenlblnediaaW.PrintWords Go.Proofs.YtcefenlblnediaaW.PrintLast Go.Proofs.Ytcefenlblnediaa.My
set_option linter.unusedVariables false
set_option linter.unusedSimpArgs false

/-- A side's numbers tell of its lines. -/
def tellB (f t : Int) (l : List ByteArray) : Bool := if (l.length : Int) = 0 then f == t else if f ≥ 1 then wrap64 (wrap64 (t - f) + 1) == (l.length : Int) else false
def toldB (f t : Int) (l : List ByteArray) : Bool := inB f 0 1000 && (inB t 0 1000 && (good l && tellB f t l))
theorem isTold_ev (f t : Int) (l : List ByteArray) (hf : FitS l) : Ev (fun k => impl_isTold.f k f t l) (toldB f t l) := by
  simp only [impl_isTold.f, impl_in_eq, Option.bind_some]
  unfold toldB
  have fin : ∀ b, b = false → Ev (fun k => impl_isTold.j0 k f t l true) b := fun b hb => Ev.step (fun k => impl_isTold.j0.eq_2 ..) (ev_pos rfl (ev_some hb.symm))
  refine ev_ite (fun c => ?_) (fun c => fin _ (by rw [Bool.not_eq_true] at c; rw [c]; rfl))
  rw [c, Bool.true_and]
  refine ev_ite (fun c => ?_) (fun c => fin _ (by rw [Bool.not_eq_true] at c; rw [c]; rfl))
  rw [c, Bool.true_and]
  refine ev_bind (goodLines_ev l hf) (Ev.step (fun k => impl_isTold.j0.eq_2 ..) ?_)
  cases good l with
  | false => exact ev_pos rfl (ev_some rfl)
  | true =>
    rw [Bool.true_and]
    unfold tellB
    refine ev_neg (by simp) (ev_ite (fun e => ev_some (by rw [if_pos e])) (fun e => ?_))
    rw [if_neg e]
    exact ev_ite (fun e => ev_some (by rw [if_pos e])) (fun e => ev_some (by rw [if_neg e]))
theorem l5Side_ev (f t : Int) (l : List ByteArray) (hf : FitS l) : Ev (fun k => spec_l5Side.f k f t l) (toldB f t l) := by
  simp only [spec_l5Side.f, spec_l1In_eq, Option.bind_some]
  unfold toldB
  have fin : ∀ b, b = false → Ev (fun k => spec_l5Side.j0 k f t l true) b := fun b hb => Ev.step (fun k => spec_l5Side.j0.eq_2 ..) (ev_pos rfl (ev_some hb.symm))
  refine ev_ite (fun c => ?_) (fun c => fin _ (by rw [Bool.not_eq_true] at c; rw [c]; rfl))
  rw [c, Bool.true_and]
  refine ev_ite (fun c => ?_) (fun c => fin _ (by rw [Bool.not_eq_true] at c; rw [c]; rfl))
  rw [c, Bool.true_and]
  refine ev_bind (l5Lines_ev l hf) (Ev.step (fun k => spec_l5Side.j0.eq_2 ..) ?_)
  cases good l with
  | false => exact ev_pos rfl (ev_some rfl)
  | true =>
    rw [Bool.true_and]
    unfold tellB
    refine ev_neg (by simp) (ev_ite (fun e => ev_some (by rw [if_pos e, Bool.beq_comm])) (fun e => ?_))
    rw [if_neg e]
    exact ev_ite (fun e => ev_some (by rw [if_pos e])) (fun e => ev_some (by rw [if_neg e]))
theorem told_len {f t : Int} {l : List ByteArray} (h : toldB f t l = true) : l.length ≤ 40 := by
  unfold toldB at h
  rw [Bool.and_eq_true, Bool.and_eq_true, Bool.and_eq_true] at h
  exact good_len h.2.2.1

def stepB (x : IT) : Bool := toldB x.f0 x.f1 x.f2 && (toldB x.f3 x.f4 x.f5 && decide (0 < x.f2.length + x.f5.length))
theorem badStep_ev (x : IT) (hf : FitS x.f2 ∧ FitS x.f5) : Ev (fun k => impl_goodSteps_1.f k x.f0 x.f1 x.f2 x.f3 x.f4 x.f5) (!stepB x) := by
  simp only [impl_goodSteps_1.f]
  unfold stepB
  refine ev_bind (isTold_ev _ _ _ hf.1) (ev_ite (fun c => ?_) (fun c => ev_some (by rw [Bool.not_eq_true] at c; rw [c]; rfl)))
  refine ev_bind (isTold_ev _ _ _ hf.2) (ev_ite (fun c' => ev_some ?_) (fun c' => ev_some (by rw [Bool.not_eq_true] at c'; rw [c', c]; rfl)))
  have h1 := told_len c
  have h2 := told_len c'
  rw [c, c', wrap_add _ _ (by omega), Bool.true_and, Bool.true_and]
  by_cases e : 0 < x.f2.length + x.f5.length
  · rw [decide_eq_true e]
    simp only [Bool.not_true, beq_eq_false_iff_ne, ne_eq]
    omega
  · rw [decide_eq_false e, show x.f2.length + x.f5.length = 0 from by omega]
    rfl
theorem l5Step_ev (x : IT) (hf : FitS x.f2 ∧ FitS x.f5) : Ev (fun k => spec_l5Step.f k x.f0 x.f1 x.f2 x.f3 x.f4 x.f5) (stepB x) := by
  simp only [spec_l5Step.f]
  unfold stepB
  refine ev_bind (l5Side_ev _ _ _ hf.1) (ev_ite (fun c => ?_) (fun c => ev_some (by rw [Bool.not_eq_true] at c; rw [c]; rfl)))
  refine ev_bind (l5Side_ev _ _ _ hf.2) (ev_ite (fun c' => ev_some ?_) (fun c' => ev_some (by rw [Bool.not_eq_true] at c'; rw [c', c]; rfl)))
  have h1 := told_len c
  have h2 := told_len c'
  rw [c, c', wrap_add _ _ (by omega), Bool.true_and, Bool.true_and]
  by_cases e : 0 < x.f2.length + x.f5.length
  · rw [decide_eq_true e, decide_eq_true (by omega)]
  · rw [decide_eq_false e, decide_eq_false (by omega)]
def goodT (l : List IT) : Bool := decide (l.length ≤ 20) && l.all stepB
theorem goodSteps_l0 (l : List IT) (hf : FitIT l) : ∀ d i, i + d = l.length → ∃ j : Int, Ev (fun k => slices_IndexFunc_impl_Step_impl_Step__impl_goodSteps_1.l0 k l (l.length : Int) (i : Int)) j ∧ decide (j ≥ 0) = !((l.drop i).all stepB) := by
  intro d
  induction d with
  | zero =>
    intro i hi
    refine ⟨-1, Ev.step (fun k => slices_IndexFunc_impl_Step_impl_Step__impl_goodSteps_1.l0.eq_2 ..) (ev_neg (by omega) (ev_some rfl)), ?_⟩
    rw [List.drop_of_length_le (by omega)]
    rfl
  | succ d ih =>
    intro i hi
    have hlt : i < l.length := by omega
    have hev : Ev (fun k => impl_goodSteps_1.f k (rd_T144 l (i : Int)).f0 (rd_T144 l (i : Int)).f1 (rd_T144 l (i : Int)).f2 (rd_T144 l (i : Int)).f3 (rd_T144 l (i : Int)).f4 (rd_T144 l (i : Int)).f5) (!stepB l[i]) := by
      rw [rdIT l i hlt]
      exact badStep_ev _ (hf.2 _ (List.getElem_mem hlt))
    obtain ⟨j, hj, hjj⟩ := ih (i + 1) (by omega)
    rw [List.drop_eq_getElem_cons hlt, List.all_cons]
    by_cases h : stepB l[i] = true
    · refine ⟨j, Ev.step (fun k => slices_IndexFunc_impl_Step_impl_Step__impl_goodSteps_1.l0.eq_2 ..) (ev_pos (by omega) (ev_pos (by omega) (ev_pos (by omega) (ev_bind hev (ev_neg (by simp [h]) ?_))))), by rw [hjj, h]; simp⟩
      rw [wrap_succ i (by have := hf.1; omega)]
      exact hj
    · refine ⟨(i : Int), Ev.step (fun k => slices_IndexFunc_impl_Step_impl_Step__impl_goodSteps_1.l0.eq_2 ..) (ev_pos (by omega) (ev_pos (by omega) (ev_pos (by omega) (ev_bind hev (ev_pos (by simp [h]) (ev_some rfl)))))), ?_⟩
      simp [h]

theorem goodSteps_ev (l : List IT) (hf : FitIT l) : Ev (fun k => impl_goodSteps.f k l) (goodT l) := by
  simp only [impl_goodSteps.f]
  unfold goodT
  refine ev_ite (fun h => ?_) (fun h => ev_some ?_)
  · obtain ⟨j, hj, hjj⟩ := goodSteps_l0 l hf l.length 0 (by omega)
    simp only [slices_ContainsFunc_impl_Step_impl_Step__impl_goodSteps_1.f, slices_IndexFunc_impl_Step_impl_Step__impl_goodSteps_1.f]
    refine ev_bind (ev_bind hj (ev_some rfl)) (ev_some ?_)
    have : l.length ≤ 20 := by omega
    rw [hjj]
    simp [this]
  · have : ¬ l.length ≤ 20 := by omega
    simp [this]
theorem specGoodSteps_l0 (l : List IT) (hf : FitIT l) : ∀ d i, i + d = l.length → Ev (fun k => spec_GoodSteps.l0 k l l (l.length : Int) (i : Int)) ((l.drop i).all stepB && decide (l.length ≤ 20)) := by
  intro d
  have hL := hf.1
  induction d with
  | zero =>
    intro i hi
    refine Ev.step (fun k => spec_GoodSteps.l0.eq_2 ..) (ev_neg (by omega) (ev_some ?_))
    rw [List.drop_of_length_le (by omega)]
    simp
    omega
  | succ d ih =>
    intro i hi
    have hlt : i < l.length := by omega
    refine Ev.step (fun k => spec_GoodSteps.l0.eq_2 ..) (ev_pos (by omega) (ev_pos (by omega) (ev_pos (by omega) ?_)))
    simp only [rdIT _ _ hlt]
    rw [wrap_succ i (by omega), List.drop_eq_getElem_cons hlt, List.all_cons]
    refine ev_bind (l5Step_ev _ (hf.2 _ (List.getElem_mem _))) (ev_ite (fun h => ?_) (fun h => ev_some (by simp [h])))
    rw [h, Bool.true_and]
    exact ih (i + 1) (by omega)
theorem spec_GoodSteps_ev (l : List IT) (hf : FitIT l) : Ev (fun k => spec_GoodSteps.f k l) (goodT l) := by
  simp only [spec_GoodSteps.f]
  refine ev_to (specGoodSteps_l0 l hf l.length 0 (by omega)) ?_
  unfold goodT
  rw [List.drop_zero, Bool.and_comm]
end Go.Proofs.Ytcefenlblnediaa.Pl

/- Plain Lean: whether texts are the same, the library's and the reference's. Conditions: lengths below 2^63. -/
namespace Go.Proofs.Ytcefenlblnediaa.Pl
open Go.RowKit Go.Proofs.YtcefenlblnediaaW.PrintWords Go.Proofs.YtcefenlblnediaaW.PrintLast Go.Proofs.Ytcefenlblnediaa.My
set_option linter.unusedVariables false
set_option linter.unusedSimpArgs false
theorem equalT_l0 (a b : List ByteArray) (hab : a.length = b.length) (hL : a.length ≤ 9223372036854775807) : ∀ d i, i + d = a.length → Ev (fun k => slices_Equal_string_string.l0 k a b (a.length : Int) (i : Int)) (decide (a.drop i = b.drop i)) := by
  intro d
  induction d with
  | zero =>
    intro i hi
    refine Ev.step (fun k => slices_Equal_string_string.l0.eq_2 ..) (ev_neg (by omega) (ev_some ?_))
    rw [List.drop_of_length_le (by omega), List.drop_of_length_le (by omega)]
    simp
  | succ d ih =>
    intro i hi
    have h1 : i < a.length := by omega
    have h2 : i < b.length := by omega
    refine Ev.step (fun k => slices_Equal_string_string.l0.eq_2 ..) (ev_pos (by omega) (ev_pos (by omega) (ev_pos (by omega) (ev_pos (by omega) ?_))))
    rw [rdOf_lt _ _ _ h1, rdOf_lt _ _ _ h2, drop_cons a i h1, drop_cons b i h2]
    refine ev_ite (fun h => ?_) (fun h => ev_some ?_)
    · rw [wrap_succ i (by omega)]
      refine ev_to (ih (i + 1) (by omega)) ?_
      rw [ba_ext h]
      simp only [List.cons.injEq, true_and]
    · have : ¬ a[i] = b[i] := fun e => h (by rw [e])
      simp only [List.cons.injEq, this, false_and, decide_false]

theorem equalT_ev (a b : List ByteArray) (hL : a.length ≤ 9223372036854775807) : Ev (fun k => slices_Equal_string_string.f k a b) (decide (a = b)) := by
  simp only [slices_Equal_string_string.f]
  refine ev_ite (fun h => ?_) (fun h => ev_some ?_)
  · exact equalT_l0 a b (by omega) hL a.length 0 (by omega)
  · have : ¬ a = b := fun e => h (by rw [e])
    simp [this]

theorem l1SameT_l0 (a b : List ByteArray) (hab : a.length = b.length) (hL : a.length ≤ 9223372036854775807) : ∀ d i, i + d = a.length → Ev (fun k => spec_l1SameT.l0 k a b (a.length : Int) (i : Int)) (decide (a.drop i = b.drop i)) := by
  intro d
  induction d with
  | zero =>
    intro i hi
    refine Ev.step (fun k => spec_l1SameT.l0.eq_2 ..) (ev_neg (by omega) (ev_some ?_))
    rw [List.drop_of_length_le (by omega), List.drop_of_length_le (by omega)]
    simp
  | succ d ih =>
    intro i hi
    have h1 : i < a.length := by omega
    have h2 : i < b.length := by omega
    refine Ev.step (fun k => spec_l1SameT.l0.eq_2 ..) (ev_pos (by omega) (ev_pos (by omega) (ev_pos (by omega) (ev_pos (by omega) ?_))))
    rw [rdOf_lt _ _ _ h1, rdOf_lt _ _ _ h2, drop_cons a i h1, drop_cons b i h2]
    refine ev_ite (fun h => ?_) (fun h => ev_some ?_)
    · rw [wrap_succ i (by omega)]
      refine ev_to (ih (i + 1) (by omega)) ?_
      rw [ba_ext h]
      simp only [List.cons.injEq, true_and]
    · have : ¬ a[i] = b[i] := fun e => h (by rw [e])
      simp only [List.cons.injEq, this, false_and, decide_false]

theorem l1SameT_ev (a b : List ByteArray) (hL : a.length ≤ 9223372036854775807) : Ev (fun k => spec_l1SameT.f k a b) (decide (a = b)) := by
  simp only [spec_l1SameT.f]
  refine ev_ite (fun h => ?_) (fun h => ev_some ?_)
  · exact l1SameT_l0 a b (by omega) hL a.length 0 (by omega)
  · have : ¬ a = b := fun e => h (by rw [e])
    simp [this]

end Go.Proofs.Ytcefenlblnediaa.Pl

/- Plain Lean: the hunks that steps tell of, checked against their text, the program's and the reference's. Asked: texts and sizes below 2^63. -/
namespace Go.Proofs.Ytcefenlblnediaa.Pl
open Go.RowKit Go.Proofs.YtcefenlblnediaaW.PrintWords Go.Proofs.YtcefenlblnediaaW.PrintLast Go.Proofs.Ytcefenlblnediaa.My
set_option linter.unusedVariables false
set_option linter.unusedSimpArgs false
structure StepIn (x : IT) : Prop where
  a0 : 0 ≤ x.f0 ∧ x.f0 ≤ 1000
  a1 : 0 ≤ x.f1 ∧ x.f1 ≤ 1000
  a3 : 0 ≤ x.f3 ∧ x.f3 ≤ 1000
  a4 : 0 ≤ x.f4 ∧ x.f4 ≤ 1000
  l2 : x.f2.length ≤ 40
  l5 : x.f5.length ≤ 40
  i2 : ∀ s ∈ x.f2, isLn s = true
  i5 : ∀ s ∈ x.f5, isLn s = true
theorem goodLn {l : List ByteArray} (h : good l = true) : ∀ s ∈ l, isLn s = true := by
  unfold good at h
  rw [Bool.and_eq_true, Bool.and_eq_true] at h
  exact fun s hs => List.all_eq_true.1 h.2.1 s hs
theorem stepIn_of {x : IT} (h : stepB x = true) : StepIn x := by
  unfold stepB at h
  rw [Bool.and_eq_true, Bool.and_eq_true] at h
  obtain ⟨h1, h2, _⟩ := h
  have e1 := told_len h1
  have e2 := told_len h2
  unfold toldB at h1 h2
  rw [Bool.and_eq_true, Bool.and_eq_true, Bool.and_eq_true, inB_iff, inB_iff] at h1 h2
  exact ⟨h1.1, h1.2.1, h2.1, h2.2.1, e1, e2, goodLn h1.2.2.1, goodLn h2.2.2.1⟩
theorem goodT_in {l : List IT} (h : goodT l = true) : l.length ≤ 20 ∧ ∀ x ∈ l, StepIn x := by
  unfold goodT at h
  rw [Bool.and_eq_true, decide_eq_true_eq, List.all_eq_true] at h
  exact ⟨h.1, fun x hx => stepIn_of (h.2 x hx)⟩
def hunkOf (x : IT) : IH := ⟨if 0 < x.f2.length then x.f0 - 1 else x.f0, (x.f2.length : Int), x.f5⟩
theorem l5Base_eq (a : Int) (l : List ByteArray) (h : -1000000 ≤ a ∧ a ≤ 1000000) : spec_l5Base.f a l = some (if 0 < l.length then a - 1 else a) := by
  unfold spec_l5Base.f
  by_cases c : 0 < l.length
  · rw [if_pos (by omega), if_pos c, wrap64_id (by omega) (by omega)]
  · rw [if_neg (by omega), if_neg c]
theorem fitH_of {p : List IT} (hp : p.length ≤ 20) (h : ∀ x ∈ p, StepIn x) : FitI (p.map hunkOf) := by
  refine ⟨by rw [List.length_map]; omega, fun y hy => ?_⟩
  obtain ⟨x, hx, rfl⟩ := List.mem_map.1 hy
  have q := h x hx
  have := q.a0
  have := q.l2
  have := q.l5
  refine ⟨?_, ⟨by simp only [hunkOf]; omega, by simp only [hunkOf]; omega⟩, by simp only [hunkOf]; omega, fun s hs => by have := (isLn_size (q.i5 s hs)).2; omega⟩
  simp only [hunkOf]
  split <;> omega
theorem hunksOf_l0 (p : List IT) (hp : p.length ≤ 20) (h : ∀ x ∈ p, StepIn x) : ∀ d i (acc : List IH), i + d = p.length → acc.length ≤ i →
    Ev (fun k => impl_hunksOf.l0 k acc p (p.length : Int) (i : Int)) (acc ++ (p.drop i).map hunkOf) := by
  intro d
  induction d with
  | zero =>
    intro i acc hi ha
    refine Ev.step (fun k => impl_hunksOf.l0.eq_2 ..) (ev_neg (by omega) (ev_some ?_))
    rw [List.drop_of_length_le (by omega)]
    simp
  | succ d ih =>
    intro i acc hi ha
    have hlt : i < p.length := by omega
    have q := h _ (List.getElem_mem hlt)
    have q0 := q.a0
    have q5 := q.l5
    refine Ev.step (fun k => impl_hunksOf.l0.eq_2 ..) (ev_pos (by omega) (ev_pos (by omega) (ev_pos (by omega) ?_)))
    rw [rdIT p i hlt, wrap_succ i (by omega), cloneT_eq _ (by omega)]
    simp only [Option.bind_some]
    have nx : ∀ y, y = hunkOf p[i] → Ev (fun k => impl_hunksOf.l0 k (acc ++ [y]) p (p.length : Int) ((i + 1 : Nat) : Int)) (acc ++ (p.drop i).map hunkOf) := by
      intro y hy
      refine ev_to (ih (i + 1) _ (by omega) (by rw [List.length_append, List.length_singleton]; omega)) ?_
      rw [List.drop_eq_getElem_cons hlt, List.map_cons, List.append_assoc, hy]
      rfl
    refine ev_ite (fun c => ev_pos (by omega) (nx _ ?_)) (fun c => ev_pos (by omega) (nx _ ?_))
    · unfold hunkOf
      rw [if_pos (by omega), wrap64_id (by omega) (by omega)]
    · unfold hunkOf
      rw [if_neg (by omega)]
theorem far_l0 (n : Int) (p : List IT) (hp : p.length ≤ 20) : ∀ d i, i + d = p.length → ∃ j : Int, Ev (fun k => stepsIx.l0 n k p (p.length : Int) (i : Int)) j ∧ decide (j ≥ 0) = (p.drop i).any (fun x => decide (x.f1 > n)) := by
  intro d
  induction d with
  | zero =>
    intro i hi
    refine ⟨-1, Ev.step (fun k => stepsIx.l0.eq_2 ..) (ev_neg (by omega) (ev_some rfl)), ?_⟩
    rw [List.drop_of_length_le (by omega)]
    rfl
  | succ d ih =>
    intro i hi
    have hlt : i < p.length := by omega
    obtain ⟨j, hj, hjj⟩ := ih (i + 1) (by omega)
    rw [List.drop_eq_getElem_cons hlt, List.any_cons]
    by_cases c : p[i].f1 > n
    · refine ⟨(i : Int), Ev.step (fun k => stepsIx.l0.eq_2 ..) (ev_pos (by omega) (ev_pos (by omega) (ev_pos (by omega) ?_))), ?_⟩
      · rw [rdIT p i hlt]
        simp only [stepsFar.f, Option.bind_some]
        exact ev_pos (decide_eq_true c) (ev_some rfl)
      · rw [decide_eq_true c, Bool.true_or]
        simp
    · refine ⟨j, Ev.step (fun k => stepsIx.l0.eq_2 ..) (ev_pos (by omega) (ev_pos (by omega) (ev_pos (by omega) ?_))), ?_⟩
      · rw [rdIT p i hlt, wrap_succ i (by omega)]
        simp only [stepsFar.f, Option.bind_some]
        exact ev_neg (by rw [decide_eq_false c]; simp) hj
      · rw [decide_eq_false c, Bool.false_or]
        exact hjj
def farB (n : Int) (p : List IT) : Bool := p.any (fun x => decide (x.f1 > n))
theorem far_ev (n : Int) (p : List IT) (hp : p.length ≤ 20) : Ev (fun k => stepsCF.f k n p) (farB n p) := by
  obtain ⟨j, hj, hjj⟩ := far_l0 n p hp p.length 0 (by omega)
  simp only [stepsCF.f, stepsIx.f]
  exact ev_bind hj (ev_some hjj)
/-- Whether steps tell of what stands in the text. -/
def sameFrom (a : List ByteArray) : Int → List IT → Bool
  | _, [] => true
  | s, x :: t => decide ((stepOne a s (hunkOf x)).f2 = x.f2) && (decide ((stepOne a s (hunkOf x)).f3 = x.f3) && sameFrom a (s + ((x.f5.length : Int) - (x.f2.length : Int))) t)
def restR (H : List IH) (b : Bool) : List IH × Int × Bool := if b = true then (H, 0, true) else ([], 2, true)
theorem implSame_l0 (a : List ByteArray) (p : List IT) (H : List IH) (hp : p.length ≤ 20) (h : ∀ x ∈ p, StepIn x) : ∀ d i (s : Int) (S : List IT), i + d = p.length → S.length = p.length → S.drop i = stepsFrom a s ((p.drop i).map hunkOf) → (∀ y ∈ S, y.f2.length ≤ 40) →
    Ev (fun k => impl_StepsHunks.l0 k p H S (S.length : Int) (i : Int)) (restR H (sameFrom a s (p.drop i))) := by
  intro d
  induction d with
  | zero =>
    intro i s S hi hl hS h2
    refine Ev.step (fun k => impl_StepsHunks.l0.eq_2 ..) (ev_neg (by omega) (ev_some ?_))
    rw [List.drop_of_length_le (by omega)]
    rfl
  | succ d ih =>
    intro i s S hi hl hS h2
    have hlt : i < p.length := by omega
    have hlS : i < S.length := by omega
    rw [List.drop_eq_getElem_cons hlt, List.map_cons, List.drop_eq_getElem_cons hlS] at hS
    simp only [stepsFrom, List.cons.injEq] at hS
    have hm := h2 _ (List.getElem_mem hlS)
    refine Ev.step (fun k => impl_StepsHunks.l0.eq_2 ..) (ev_pos (by omega) (ev_pos (by omega) (ev_pos (by omega) (ev_pos (by omega) ?_))))
    rw [rdIT p i hlt, rdIT S i hlS, wrap_succ i (by omega), List.drop_eq_getElem_cons hlt]
    refine ev_bind (equalT_ev S[i].f2 p[i].f2 (by omega)) ?_
    rw [hS.1]
    simp only [sameFrom]
    refine ev_ite (fun c => ev_ite (fun c2 => ?_) (fun c2 => ev_some ?_)) (fun c => ev_some ?_)
    · rw [c, decide_eq_true c2, Bool.true_and, Bool.true_and]
      exact ih (i + 1) _ S (by omega) hl hS.2 h2
    · rw [decide_eq_false c2, Bool.false_and, Bool.and_false]
      rfl
    · rw [Bool.not_eq_true] at c
      rw [c, Bool.false_and]
      rfl
def stepsHunksR (a : List ByteArray) (p : List IT) : List IH × Int × Bool :=
  if good a = true ∧ goodT p = true then (if farB a.length p = true ∨ goodH a.length (p.map hunkOf) = false then ([], 3, true) else restR (p.map hunkOf) (sameFrom a 0 p)) else ([], 0, false)
theorem impl_StepsHunks_ev (a : List ByteArray) (p : List IT) (fa : FitS a) (fp : FitIT p) : Ev (fun k => impl_StepsHunks.f k a p) (stepsHunksR a p) := by
  simp only [impl_StepsHunks.f]
  unfold stepsHunksR
  have bad : ∀ b, b = true → Ev (fun k => impl_StepsHunks.j0 k p a b) (([] : List IH), 0, false) := fun b hb => Ev.step (fun k => impl_StepsHunks.j0.eq_2 ..) (ev_pos hb (ev_some rfl))
  refine ev_bind (goodLines_ev a fa) (ev_ite (fun c => ev_bind (goodSteps_ev p fp) ?_) (fun c => ?_))
  · cases c2 : goodT p with
    | false =>
      rw [if_neg (fun e => by cases e.2)]
      exact bad _ rfl
    | true =>
      rw [if_pos ⟨c, rfl⟩]
      obtain ⟨hp, hin⟩ := goodT_in c2
      have hf := fitH_of hp hin
      have ha := good_len c
      refine Ev.step (fun k => impl_StepsHunks.j0.eq_2 ..) (ev_neg (by simp) ?_)
      have e1 : Ev (fun k => impl_hunksOf.f k p) (p.map hunkOf) := by
        simp only [impl_hunksOf.f]
        exact ev_to (hunksOf_l0 p hp hin p.length 0 [] (by omega) (Nat.le_refl _)) (by simp)
      have far3 : ∀ b, b = true → Ev (fun k => impl_StepsHunks.j1 k p a (p.map hunkOf) b) (([] : List IH), 3, true) := fun b hb => Ev.step (fun k => impl_StepsHunks.j1.eq_2 ..) (ev_pos hb (ev_some rfl))
      refine ev_bind e1 (ev_bind (far_ev a.length p hp) (ev_ite (fun c3 => ?_) (fun c3 => ev_bind (goodHunks_ev _ _ hf) ?_)))
      · rw [if_pos (.inl c3)]
        exact far3 _ rfl
      · cases c4 : goodH a.length (p.map hunkOf) with
        | false =>
          rw [if_pos (.inr rfl)]
          exact far3 _ rfl
        | true =>
          rw [if_neg (by rintro (e | e); exact c3 e; cases e)]
          have c4' := c4
          unfold goodH at c4'
          rw [Bool.and_eq_true, Bool.and_eq_true] at c4'
          have hS : Ev (fun k => impl_stepsOf.f k a (p.map hunkOf)) (stepsFrom a 0 (p.map hunkOf)) := by
            simp only [impl_stepsOf.f]
            exact ev_to (steps_l0 a (p.map hunkOf) ha (by rw [List.length_map]; exact hp) (p.map hunkOf).length 0 (-1) 0 [] (by omega) c4'.2.2 (by omega) (by omega) (Nat.zero_le _)) (by simp)
          refine Ev.step (fun k => impl_StepsHunks.j1.eq_2 ..) (ev_neg (by simp) (ev_bind hS ?_))
          exact implSame_l0 a p _ hp hin p.length 0 0 _ (by omega) (by rw [stepsFrom_len, List.length_map]) rfl (fun y hy => by have := (stepsFrom_mem a _ _ y hy).1; omega)
  · rw [if_neg (fun e => c e.1)]
    exact bad _ rfl
/-! ### The reference's -/
theorem specSame_l1 (a : List ByteArray) (ha : a.length ≤ 40) (p : List IT) (hp : p.length ≤ 20) (h : ∀ x ∈ p, StepIn x) (hn : near (p.map hunkOf)) : ∀ d i (q s : Int), i + d = p.length → chain a.length q ((p.map hunkOf).drop i) = true → -40 * (i : Int) ≤ s → s ≤ 40 * (i : Int) →
    Ev (fun k => spec_l5Hunks.l1 k a (p.map hunkOf) s p (p.length : Int) (i : Int)) (if sameFrom a s (p.drop i) = true then (p.map hunkOf, 0) else ([], 2)) := by
  intro d
  induction d with
  | zero =>
    intro i q s hi hc s0 s1
    refine Ev.step (fun k => spec_l5Hunks.l1.eq_2 ..) (ev_neg (by omega) (ev_some ?_))
    rw [List.drop_of_length_le (by omega)]
    rfl
  | succ d ih =>
    intro i q s hi hc s0 s1
    have hlt : i < p.length := by omega
    have hlm : i < (p.map hunkOf).length := by rw [List.length_map]; exact hlt
    have hg : (p.map hunkOf)[i] = hunkOf p[i] := List.getElem_map ..
    have q5 := h _ (List.getElem_mem hlt)
    have q3 := q5.a3
    have ql5 := q5.l5
    have ql2 := q5.l2
    rw [List.drop_eq_getElem_cons hlm, hg] at hc
    simp only [chain, hOK, Bool.and_eq_true, decide_eq_true_eq] at hc
    obtain ⟨⟨⟨c0, c1, c2, c4, c5, c3⟩, c6⟩, hc'⟩ := hc
    have hb := hn _ (List.getElem_mem hlm)
    rw [hg] at hb
    have ef1 : (hunkOf p[i]).f1 = (p[i].f2.length : Int) := rfl
    refine Ev.step (fun k => spec_l5Hunks.l1.eq_2 ..) (ev_pos (by omega) (ev_pos (by omega) (ev_pos (by omega) (ev_pos (by omega) ?_))))
    rw [rdIT p i hlt, rdIH _ i hlm, hg, wrap_succ i (by omega), wrap64_id (x := (hunkOf p[i]).f0 + (hunkOf p[i]).f1) (by omega) (by omega), l5Base_eq _ _ (by omega), wrap64_id (x := (hunkOf p[i]).f0 + s) (by omega) (by omega),
      wrap64_id (x := (p[i].f5.length : Int) - (hunkOf p[i]).f1) (by omega) (by omega), wrap64_id (x := s + ((p[i].f5.length : Int) - (hunkOf p[i]).f1)) (by omega) (by omega)]
    simp only [Option.bind_some]
    refine ev_pos c0 (ev_pos (by omega) (ev_pos c2 (ev_bind (l1SameT_ev _ p[i].f2 (by rw [List.length_drop, List.length_take]; omega)) ?_)))
    have es : sameFrom a s (p.drop i) = (decide ((a.take ((hunkOf p[i]).f0 + (hunkOf p[i]).f1).toNat).drop (hunkOf p[i]).f0.toNat = p[i].f2) && (decide (numI ((hunkOf p[i]).f0 + s) (p[i].f5.length : Int) = p[i].f3) && sameFrom a (s + ((p[i].f5.length : Int) - (hunkOf p[i]).f1)) (p.drop (i + 1)))) := by
      rw [List.drop_eq_getElem_cons hlt]
      rfl
    rw [es]
    have key : ((if 0 < p[i].f5.length then p[i].f3 - 1 else p[i].f3) = (hunkOf p[i]).f0 + s) ↔ numI ((hunkOf p[i]).f0 + s) (p[i].f5.length : Int) = p[i].f3 := by
      unfold numI
      by_cases c : 0 < p[i].f5.length
      · rw [if_pos c, if_pos (by omega)]; omega
      · rw [if_neg c, if_neg (by omega)]; omega
    refine ev_ite (fun d1 => ev_ite (fun d2 => ?_) (fun d2 => ev_some ?_)) (fun d1 => ev_some ?_)
    · rw [d1, decide_eq_true (key.1 d2), Bool.true_and, Bool.true_and]
      exact ih (i + 1) _ _ (by omega) hc' (by omega) (by omega)
    · rw [decide_eq_false (fun e => d2 (key.2 e)), Bool.false_and, Bool.and_false]
      rfl
    · rw [Bool.not_eq_true] at d1
      rw [d1, Bool.false_and]
      rfl
theorem specHunks_l0 (a : List ByteArray) (ha : a.length ≤ 40) (p : List IT) (hp : p.length ≤ 20) (h : ∀ x ∈ p, StepIn x) : ∀ d i, i + d = p.length →
    Ev (fun k => spec_l5Hunks.l0 k a p ((p.take i).map hunkOf) p (p.length : Int) (i : Int)) (if farB a.length (p.drop i) = true ∨ goodH a.length (p.map hunkOf) = false then ([], 3) else if sameFrom a 0 p = true then (p.map hunkOf, 0) else ([], 2)) := by
  intro d
  induction d with
  | zero =>
    intro i hi
    have hf := fitH_of hp h
    refine Ev.step (fun k => spec_l5Hunks.l0.eq_2 ..) (ev_neg (by omega) ?_)
    rw [List.drop_of_length_le (by omega), List.take_of_length_le (by omega)]
    refine ev_bind (l2Hunks_ev _ _ hf (by omega) (by omega)) ?_
    cases c4 : goodH a.length (p.map hunkOf) with
    | false =>
      rw [if_pos (.inr rfl)]
      exact ev_neg (by simp) (ev_some rfl)
    | true =>
      rw [if_neg (by rintro (e | e); cases e; cases e)]
      refine ev_pos rfl ?_
      obtain ⟨n1, n2, n3, n4⟩ := near_of_good c4
      unfold goodH at c4
      rw [Bool.and_eq_true, Bool.and_eq_true] at c4
      exact ev_to (specSame_l1 a ha p hp h n1 p.length 0 (-1) 0 (by omega) c4.2.2 (by omega) (by omega)) (by rw [List.drop_zero])
  | succ d ih =>
    intro i hi
    have hlt : i < p.length := by omega
    have q := h _ (List.getElem_mem hlt)
    have q0 := q.a0
    have q5 := q.l5
    refine Ev.step (fun k => spec_l5Hunks.l0.eq_2 ..) (ev_pos (by omega) (ev_pos (by omega) (ev_pos (by omega) ?_)))
    rw [rdIT p i hlt, wrap_succ i (by omega), l5Base_eq _ _ (by omega), ownT_eq _ (by omega)]
    simp only [Option.bind_some]
    have ed : farB a.length (p.drop i) = (decide (p[i].f1 > (a.length : Int)) || farB a.length (p.drop (i + 1))) := by
      unfold farB
      rw [List.drop_eq_getElem_cons hlt, List.any_cons]
    refine ev_ite (fun c => ev_some ?_) (fun c => ev_pos (by rw [List.length_map, List.length_take]; omega) ?_)
    · rw [if_pos (.inl (by rw [ed, decide_eq_true c, Bool.true_or]))]
    · rw [ed, decide_eq_false c, Bool.false_or]
      have e : (p.take i).map hunkOf ++ [(⟨if 0 < p[i].f2.length then p[i].f0 - 1 else p[i].f0, (p[i].f2.length : Int), p[i].f5⟩ : IH)] = (p.take (i + 1)).map hunkOf := by
        rw [List.take_succ_eq_append_getElem hlt, List.map_append]
        rfl
      rw [e]
      exact ih (i + 1) (by omega)
theorem spec_StepsHunks_ev (a : List ByteArray) (p : List IT) (fa : FitS a) (fp : FitIT p) : Ev (fun k => spec_StepsHunks.f k a p) (stepsHunksR a p) := by
  simp only [spec_StepsHunks.f]
  unfold stepsHunksR
  refine ev_bind (l1Good_ev a fa) (ev_ite (fun c => ev_bind (spec_GoodSteps_ev p fp) (ev_ite (fun c2 => ?_) (fun c2 => ev_some ?_))) (fun c => ev_some ?_))
  · rw [if_pos ⟨c, c2⟩]
    obtain ⟨hp, hin⟩ := goodT_in c2
    simp only [spec_l5Hunks.f]
    refine ev_bind (specHunks_l0 a (good_len c) p hp hin p.length 0 (by omega)) (ev_some ?_)
    rw [List.drop_zero]
    unfold restR
    split
    · rfl
    · split <;> rfl
  · rw [if_neg (fun e => c2 e.2)]
  · rw [if_neg (fun e => c e.1)]
theorem stepsHunksR_small (a : List ByteArray) (p : List IT) : (stepsHunksR a p).1.length ≤ 20 ∧ ∀ x ∈ (stepsHunksR a p).1, x.f2.length ≤ 40 := by
  unfold stepsHunksR
  split
  · rename_i c
    obtain ⟨hp, hin⟩ := goodT_in c.2
    split
    · exact ⟨Nat.zero_le _, fun x hx => by cases hx⟩
    · unfold restR
      split
      · refine ⟨by simp only [List.length_map]; exact hp, fun x hx => ?_⟩
        obtain ⟨y, hy, rfl⟩ := List.mem_map.1 hx
        exact (hin y hy).l5
      · exact ⟨Nat.zero_le _, fun x hx => by cases hx⟩
  · exact ⟨Nat.zero_le _, fun x hx => by cases hx⟩
theorem stepsHunksR_fitI (a : List ByteArray) (p : List IT) : FitI (stepsHunksR a p).1 := by
  unfold stepsHunksR
  have nil : FitI ([] : List IH) := ⟨Nat.zero_le _, fun x hx => by cases hx⟩
  split
  · rename_i c
    obtain ⟨hp, hin⟩ := goodT_in c.2
    split
    · exact nil
    · unfold restR
      split
      · exact fitH_of hp hin
      · exact nil
  · exact nil
end Go.Proofs.Ytcefenlblnediaa.Pl

/- Plain Lean: the marks by which the laws see whether memory is shared. Conditions: lengths below 2^40. -/
namespace Go.Proofs.Ytcefenlblnediaa.Pl
open Go.RowKit Go.Proofs.YtcefenlblnediaaW.PrintWords Go.Proofs.YtcefenlblnediaaW.PrintLast Go.Proofs.Ytcefenlblnediaa.My
set_option linter.unusedVariables false
set_option linter.unusedSimpArgs false

theorem heldStringS_l0 (n m : Nat) (hn : n ≤ 1099511627776) (hm : m ≤ 1099511627776) : ∀ d i, i + d = n → Ev (fun k => laws_heldStringS.l0 k (marks m n) ((m + i : Nat) : Int) (i : Int)) ((m + n : Nat) : Int) := by
  intro d
  induction d with
  | zero =>
    intro i hi
    refine Ev.step (fun k => laws_heldStringS.l0.eq_2 ..) (ev_neg (by rw [marks_length]; omega) (ev_some ?_))
    rw [show i = n from by omega]
  | succ d ih =>
    intro i hi
    refine Ev.step (fun k => laws_heldStringS.l0.eq_2 ..) (ev_pos (by rw [marks_length]; omega) (ev_pos (by omega) (ev_bind (mark_ev (m + i) (by omega)) (ev_pos ?_ ?_))))
    · rw [rdOf_lt _ _ _ (by rw [marks_length]; omega), marks_get m n i (by omega)]
    · rw [wrap_succ i (by omega), wrap_succ (m + i) (by omega)]
      exact ih (i + 1) (by omega)

theorem heldStringS_ev (m n : Nat) (hn : n ≤ 1099511627776) (hm : m ≤ 1099511627776) : Ev (fun k => laws_heldStringS.f k (marks m n) (m : Int)) ((m + n : Nat) : Int) := by
  simp only [laws_heldStringS.f]
  exact heldStringS_l0 n m hn hm n 0 (by omega)
end Go.Proofs.Ytcefenlblnediaa.Pl

/- Plain Lean: how far marks of hunks go, and that they are told again. Conditions: at most 2^40 marks. -/
namespace Go.Proofs.Ytcefenlblnediaa.Pl
open Go.RowKit Go.Proofs.YtcefenlblnediaaW.PrintWords Go.Proofs.YtcefenlblnediaaW.PrintLast Go.Proofs.Ytcefenlblnediaa.My
set_option linter.unusedVariables false
set_option linter.unusedSimpArgs false

theorem bnd2 {e m s c : Nat} (h : e ≤ m + 2 * s) (hm : m ≤ c) (hs : s ≤ 1048576) : e ≤ c + 2097152 := by omega
theorem bnd4 {e m s c : Nat} (h : e ≤ m + 4 * s) (hm : m ≤ c) (hs : s ≤ 1048576) : e ≤ c + 4194304 := by omega
theorem endH_szH : ∀ (h : List LH) (m : Nat), endH (h.map toH) m ≤ m + 2 * szH h
  | [], m => by simp [endH]
  | x :: t, m => by
    have := endH_szH t (m + 2 + x.f2.length)
    simp only [szH, szS, List.map_cons, List.sum_cons, List.length_cons, endH, toH] at this ⊢
    omega
theorem endH_le : ∀ (v : List IH) (B m : Nat), (∀ x ∈ v, x.f2.length ≤ B) → endH v m ≤ m + (2 + B) * v.length
  | [], B, m, _ => by simp [endH]
  | x :: t, B, m, h => by
    have h1 := endH_le t B (m + 2 + x.f2.length) (fun y hy => h y (List.mem_cons_of_mem _ hy))
    have h2 := h x (List.mem_cons_self ..)
    simp only [List.length_cons, endH, Nat.mul_add] at h1 ⊢
    omega
end Go.Proofs.Ytcefenlblnediaa.Pl

/- Plain Lean: whether hunks are the same, of which no number is asked. Conditions: lengths and sizes below 2^63. -/
namespace Go.Proofs.Ytcefenlblnediaa.Pl
open Go.RowKit Go.Proofs.YtcefenlblnediaaW.PrintWords Go.Proofs.YtcefenlblnediaaW.PrintLast Go.Proofs.Ytcefenlblnediaa.My
set_option linter.unusedVariables false
set_option linter.unusedSimpArgs false

theorem eqHunkS_l0' (a b : List IH) (hab : a.length = b.length) (hL : a.length ≤ 9223372036854775807) (hf : ∀ x ∈ a, FitS x.f2) : ∀ d i, i + d = a.length → Ev (fun k => laws_eqHunkS.l0 k a b (i : Int)) (decide (a.drop i = b.drop i)) := by
  intro d
  induction d with
  | zero =>
    intro i hi
    refine Ev.step (fun k => laws_eqHunkS.l0.eq_2 ..) (ev_neg (by omega) (ev_some ?_))
    rw [List.drop_of_length_le (by omega), List.drop_of_length_le (by omega)]
    simp
  | succ d ih =>
    intro i hi
    have h1 : i < a.length := by omega
    have h2 : i < b.length := by omega
    refine Ev.step (fun k => laws_eqHunkS.l0.eq_2 ..) (ev_pos (by omega) (ev_pos (by omega) (ev_pos (by omega) ?_)))
    simp only [rdIH _ _ h1, rdIH _ _ h2, drop_cons a i h1, drop_cons b i h2]
    refine ev_bind (eqHunk_ev _ _ (hf _ (List.getElem_mem h1))) (ev_ite (fun h => ?_) (fun h => ev_some ?_))
    · rw [wrap_succ i (by omega)]
      refine ev_to (ih (i + 1) (by omega)) ?_
      rw [of_decide_eq_true h]
      simp only [List.cons.injEq, true_and]
    · have : ¬ a[i] = b[i] := fun e => h (decide_eq_true e)
      simp only [List.cons.injEq, this, false_and, decide_false]

theorem eqHunkS_ev' (a b : List IH) (hL : a.length ≤ 9223372036854775807) (hf : ∀ x ∈ a, FitS x.f2) : Ev (fun k => laws_eqHunkS.f k a b) (decide (a = b)) := by
  simp only [laws_eqHunkS.f]
  refine ev_ite (fun h => ?_) (fun h => ev_some ?_)
  · exact eqHunkS_l0' a b (by omega) hL hf a.length 0 (by omega)
  · have : ¬ a = b := fun e => h (by rw [e])
    simp [this]
end Go.Proofs.Ytcefenlblnediaa.Pl

/- Plain Lean: marks of hunks are told again. Conditions: at most 2^40 marks. -/
namespace Go.Proofs.Ytcefenlblnediaa.Pl
open Go.RowKit Go.Proofs.YtcefenlblnediaaW.PrintWords Go.Proofs.YtcefenlblnediaaW.PrintLast Go.Proofs.Ytcefenlblnediaa.My
set_option linter.unusedVariables false
set_option linter.unusedSimpArgs false

theorem heldHunkS_l0 (L : List IH) (E : Nat) (hE : E ≤ 1099511627776) (hL : L.length ≤ 1099511627776) : ∀ (vs : List IH) (i mm : Nat), L.drop i = mkHs vs mm → i + vs.length = L.length → endH vs mm = E → Ev (fun k => laws_heldHunkS.l0 k L (mm : Int) (i : Int)) (E : Int) := by
  intro vs
  induction vs with
  | nil =>
    intro i mm _ hi he
    refine Ev.step (fun k => laws_heldHunkS.l0.eq_2 ..) (ev_neg (by simp only [List.length_nil] at hi; omega) (ev_some ?_))
    rw [← he]
    rfl
  | cons x t ih =>
    intro i mm hd hi he
    simp only [List.length_cons] at hi
    have hlt : i < L.length := by omega
    rw [List.drop_eq_getElem_cons hlt] at hd
    simp only [mkHs, List.cons.injEq] at hd
    simp only [endH] at he
    have hge := endH_ge t (mm + 2 + x.f2.length)
    rw [he] at hge
    have hrd : rd_T111 L (i : Int) = mkH x mm := (rdIH L i hlt).trans hd.1
    refine Ev.step (fun k => laws_heldHunkS.l0.eq_2 ..) ?_
    simp only [hrd, mkH]
    rw [wr2 mm x.f2.length E hge hE, wrap_succ i (by omega)]
    exact ev_pos (by omega) (ev_pos (by omega) (ev_pos trivial (ev_pos trivial (ev_bind (heldStringS_ev (mm + 2) x.f2.length (le_a _ _ _ hge hE) (le_b _ _ _ hge hE)) (ev_neg (by omega) (ih (i + 1) _ hd.2 (by omega) he))))))
theorem mkHs_length : ∀ (v : List IH) (m : Nat), (mkHs v m).length = v.length
  | [], _ => rfl
  | x :: t, m => by simp only [mkHs, List.length_cons, mkHs_length t]
theorem heldHunkS_ev (v : List IH) (m : Nat) (hE : endH v m ≤ 1099511627776) (hL : v.length ≤ 1099511627776) : Ev (fun k => laws_heldHunkS.f k (mkHs v m) (m : Int)) ((endH v m : Nat) : Int) := by
  simp only [laws_heldHunkS.f]
  exact heldHunkS_l0 (mkHs v m) _ hE (by rw [mkHs_length]; exact hL) v 0 m rfl (by rw [mkHs_length]; omega) rfl
end Go.Proofs.Ytcefenlblnediaa.Pl

/- Plain Lean: how far marks of steps go. Conditions: at most 2^40 marks. -/
namespace Go.Proofs.Ytcefenlblnediaa.Pl
open Go.RowKit Go.Proofs.YtcefenlblnediaaW.PrintWords Go.Proofs.YtcefenlblnediaaW.PrintLast Go.Proofs.Ytcefenlblnediaa.My
set_option linter.unusedVariables false
set_option linter.unusedSimpArgs false

theorem endT_szT : ∀ (h : List LT) (m : Nat), endT (h.map toT) m ≤ m + 4 * szT h
  | [], m => by simp [endT]
  | x :: t, m => by
    have := endT_szT t (m + 2 + x.f2.length + 2 + x.f5.length)
    simp only [szT, szOne, szS, List.map_cons, List.sum_cons, List.length_cons, endT, toT] at this ⊢
    omega
theorem endT_le : ∀ (v : List IT) (B m : Nat), (∀ x ∈ v, x.f2.length ≤ B ∧ x.f5.length ≤ B) → endT v m ≤ m + (4 + 2 * B) * v.length
  | [], B, m, _ => by simp [endT]
  | x :: t, B, m, h => by
    have h1 := endT_le t B (m + 2 + x.f2.length + 2 + x.f5.length) (fun y hy => h y (List.mem_cons_of_mem _ hy))
    have h2 := h x (List.mem_cons_self ..)
    simp only [List.length_cons, endT, Nat.mul_add] at h1 ⊢
    omega
end Go.Proofs.Ytcefenlblnediaa.Pl

/- Plain Lean: the hunks that steps tell of are few and small. No condition. -/
namespace Go.Proofs.Ytcefenlblnediaa.Pl
open Go.RowKit Go.Proofs.YtcefenlblnediaaW.PrintWords Go.Proofs.YtcefenlblnediaaW.PrintLast Go.Proofs.Ytcefenlblnediaa.My
set_option linter.unusedVariables false
theorem stepsHunksR_fit (a : List ByteArray) (p : List IT) (fa : FitS a) (fp : FitIT p) : ∀ x ∈ (stepsHunksR a p).1, FitS x.f2 := fun x hx => ((stepsHunksR_fitI a p).2 x hx).2.2
theorem stepsHunksR_end (a : List ByteArray) (p : List IT) (fa : FitS a) (fp : FitIT p) : endH (stepsHunksR a p).1 1 ≤ 1099511627776 ∧ (stepsHunksR a p).1.length ≤ 1099511627776 := by
  have hs := stepsHunksR_small a p
  exact ⟨Nat.le_trans (endH_le _ 40 1 (fun x hx => hs.2 x hx)) (Nat.le_trans (Nat.add_le_add_left (Nat.mul_le_mul_left _ hs.1) 1) (by decide)), Nat.le_trans hs.1 (by decide)⟩
end Go.Proofs.Ytcefenlblnediaa.Pl

/- StepsHunks's law: the walk and what its helpers come to, joined. No condition but the inputs' own. -/
namespace Go.Proofs.Ytcefenlblnediaa.Pure
open Go.RowKit Go.Proofs.Ytcefenlblnediaa.My Go.Proofs.Ytcefenlblnediaa.Pl Go.Proofs.YtcefenlblnediaaW.PrintWords Go.Proofs.YtcefenlblnediaaW.PrintLast
set_option linter.unusedVariables false
theorem FnExactStepsHunks (l0 : List ByteArray) (l1 : List LT) (q0 : (WL Wstr) l0) (q1 : (WL W140) l1) (A0 : Option Addr) (c0 : Nat) (A1 : Option Addr) (c1 : Nat) (W : World) (hr0 : Kd.C Kd.string W A0 l0.length l0) (hc0 : l0.length ≤ c0) (hr1 : Kd.C k140 W A1 l1.length l1) (hc1 : l1.length ≤ c1) :
    Calls Try.prog 10 #[.slice A0 l0.length c0, .slice A1 l1.length c1] W fun e w' => e = .returned (.bool true) ∧ Below W.heap.size W w' := by
  have f0 := fitS_of_wl q0
  have f1 := fitT_of_wl q1
  obtain ⟨s0, hs0, hl0⟩ := szStringS_ev l0 f0 1048576 (by omega) (by omega)
  obtain ⟨ks0, es0⟩ := hs0
  by_cases h0 : s0 < 0
  · exact laws_FnExactStepsHunks_early0 (ks0) A0 c0 l0 A1 c1 l1 W hr0 hc0 hr1 hc1 s0 (es0 _ (by omega)) h0
  have z0 : szS l0 ≤ 1048576 ∧ 0 ≤ s0 ∧ s0 ≤ 1048576 := by rcases hl0 with hl0 | hl0 <;> omega
  obtain ⟨s1, hs1, hl1⟩ := szStepS_ev l1 f1 s0 (by omega) (by omega)
  obtain ⟨ks1, es1⟩ := hs1
  by_cases h1 : s1 < 0
  · exact laws_FnExactStepsHunks_early1 (ks0 + ks1) A0 c0 l0 A1 c1 l1 W hr0 hc0 hr1 hc1 s0 (es0 _ (by omega)) h0 s1 (es1 _ (by omega)) h1
  have z1 : szT l1 ≤ 1048576 ∧ 0 ≤ s1 ∧ s1 ≤ 1048576 := by rcases hl1 with hl1 | hl1 <;> omega
  obtain ⟨kt0, et0⟩ := toStringS_ev l0 (by have := z0.1; unfold szS at this; omega)
  have g0 := f0
  have len0 : l0.length ≤ 1048576 := by have := z0.1; unfold szS at this; omega
  obtain ⟨ke0, ee0⟩ := eqStringS_ev l0 l0 g0.1
  obtain ⟨kt1, et1⟩ := toStepS_ev l1 (smallT z1.1)
  have g1 := fitIT_of f1
  have len1 : (l1.map toT).length ≤ 1048576 := by have := z1.1; rw [List.length_map]; unfold szT at this; omega
  obtain ⟨ke1, ee1⟩ := eqStepS_ev (l1.map toT) (l1.map toT) g1
  obtain ⟨kp, ep⟩ := spec_StepsHunks_ev l0 (l1.map toT) g0 g1
  obtain ⟨ki, ei⟩ := impl_StepsHunks_ev l0 (l1.map toT) g0 g1
  have hve := stepsHunksR_end l0 (l1.map toT) g0 g1
  have hvf := stepsHunksR_fit l0 (l1.map toT) g0 g1
  generalize hq0 : (stepsHunksR l0 (l1.map toT)).1 = v at *
  generalize hq1 : (stepsHunksR l0 (l1.map toT)).2.1 = r0 at *
  generalize hq2 : (stepsHunksR l0 (l1.map toT)).2.2 = r1 at *
  have hp : stepsHunksR l0 (l1.map toT) = (v, r0, r1) := (Prod.ext hq0 (Prod.ext hq1 hq2))
  rw [hp] at ep ei
  have hb_ : (1 : Nat) ≤ 1 := Nat.le_refl _
  have hb0 : (1 + l0.length) ≤ 1048577 := Nat.add_le_add hb_ len0
  obtain ⟨km0, em0⟩ := markStringS_ev l0 1 (Nat.le_trans len0 (by decide)) (Nat.le_trans hb_ (by decide))
  have hb1 : (endT (l1.map toT) (1 + l0.length)) ≤ 5242881 := bnd4 (endT_szT l1 (1 + l0.length)) hb0 z1.1
  obtain ⟨kh, eh⟩ := heldHunkS_ev v 1 hve.1 hve.2
  obtain ⟨kv, ev⟩ := eqHunkS_ev' v v (Nat.le_trans hve.2 (by decide)) hvf
  obtain ⟨k, hk⟩ : ∃ k, ks0 + ks1 + kt0 + ke0 + kt1 + ke1 + kp + ki + km0 + kh + kv ≤ k := ⟨_, Nat.le_refl _⟩
  exact laws_FnExactStepsHunks_true k A0 c0 l0 A1 c1 l1 W hr0 hc0 hr1 hc1 s0 (es0 k (by omega)) h0 s1 (es1 k (by omega)) h1 l0 (et0 k (by omega)) ((ee0 k (by omega)).trans (by simp)) (l1.map toT) (et1 k (by omega)) ((ee1 k (by omega)).trans (by simp)) v r0 r1 (ep k (by omega)) (ei k (by omega)) ((ev k (by omega)).trans (by simp)) (em0 k (by omega)) (Nat.le_trans hb1 (by decide)) (Nat.le_trans len1 (by decide)) hve.1 hve.2 (eh k (by omega))
end Go.Proofs.Ytcefenlblnediaa.Pure

/- The Go function loop.example/g00825/laws.FnExactStepsHunks returns true for every input, and each argument reads afterwards as it read before. No condition. -/
namespace Go.Proofs.Ytcefenlblnediaa.fnExactStepsHunks
open Go.ChangeShapes Go.WideShapes Go.ChangeAt Go.RowKit Go.Joins Go.Proofs.Ytcefenlblnediaa.Opens Go.Proofs.Ytcefenlblnediaa.My
open Go.ChangeMaps (open_string shut_string)
set_option linter.unusedVariables false
set_option linter.unusedSimpArgs false
theorem own : ownKnob Try.prog.godebug = none := by kernel_rfl
theorem laidOut : laidOutB Try.prog = true := by kernel_rfl
set_option maxRecDepth 100000 in
theorem lifted (os : Os) (started : os.Started) (H : Type) (enc : TypeId × Value → H) :
    ReturnsInHanded {} Try.checked os 10 .any (Rows.fnExactStepsHunksSpec.pre6 enc Try.prog Try.f10 Rows.fnExactStepsHunksRow.domain false) (Rows.fnExactStepsHunksSpec.post enc Try.prog Try.f10 false true false false) := by
  refine returnsInHanded_of_change_sized (C := Try.checked) own started (by kernel_rfl) Try.func10
    (ChangeSpec.witness6 (enc := enc) (C := Try.checked) false ⟨#[], #[.slice none 0 0, .slice none 0 0], []⟩ 8 (by kernel_rfl) (by kernel_rfl) (by kernel_rfl) (by kernel_rfl)) ?_
  intro W base args ds gs before hval0 hW hcnd hsz0 _
  have hval : ∀ (j : Nat) t v, Try.f10.params[j]? = some t → args[j]? = some v → Value.okWide Try.prog W .any base t v := hval0
  have hW' := hW
  obtain ⟨p, q, hA0, hV, rfl, hfz, hnd⟩ := hW
  have hA : DataW.TrodAll enc Try.prog W 0 (fun _ => true) true Try.f10.params.toList args.toList ds p := hA0
  rw [Try.params10] at hA hval
  obtain ⟨v0, vs0, d0, ds0, p0, q0, hargs, rfl, rfl, h0, r0⟩ := trodAll_cons hA
  obtain ⟨v1, vs1, d1, ds1, p1, q1, rfl, rfl, rfl, h1, r1⟩ := trodAll_cons r0
  obtain ⟨rfl, rfl, rfl⟩ := trodAll_nil r1
  obtain rfl : args = #[v0, v1] := by cases args; simp_all
  obtain ⟨rfl, rfl⟩ := trodVars_none hV
  obtain ⟨A0, n0, c0, rfl⟩ := okWide_slice Try.underlying22 (hval 0 22 v0 rfl rfl)
  have k0 := h0
  have lt0 : ∀ x ∈ p0, x.block < W.heap.size := by obtain ⟨m, hm⟩ := k0; exact DataW.trod_lt m _ _ _ hm
  obtain ⟨l0, rfl, hc0, hr0, q0_⟩ := Opens.row (opens_slice Try.underlying22 (by kernel_rfl) (opens_string Try.underlying9)) h0
  obtain ⟨A1, n1, c1, rfl⟩ := okWide_slice Try.underlying70 (hval 1 70 v1 rfl rfl)
  have k1 := h1
  have lt1 : ∀ x ∈ p1, x.block < W.heap.size := by obtain ⟨m, hm⟩ := k1; exact DataW.trod_lt m _ _ _ hm
  obtain ⟨l1, rfl, hc1, hr1, q1_⟩ := Opens.row (opens_slice Try.underlying70 (by kernel_rfl) opens140) h1
  clear hA0 hval0 hsz0
  refine (Pure.FnExactStepsHunks l0 l1 q0_ q1_ _ _ _ _ W hr0 hc0 hr1 hc1).mono fun e W' hh => ?_
  obtain ⟨rfl, hd⟩ := hh
  have bel : Below W.heap.size W W' := hd
  exact ⟨_, rfl, _, _, _, [], _, [], hW', trodAll_mk1 (shut_bool Try.underlying4 _), (trodAll_cons_mk (Below.trod laidOut (by kernel_rfl) (of_decide_eq_true (by kernel_rfl)) k0 bel lt0) (trodAll_cons_mk (Below.trod laidOut (by kernel_rfl) (of_decide_eq_true (by kernel_rfl)) k1 bel lt1) trodAll_mk0)), rfl, bel.frame _, fun h => by cases h⟩
theorem over : Rows.fnExactStepsHunksRow.holds Try.pinned (OpenSpec.ofChange Rows.fnExactStepsHunksSpec) :=
  OpenClaim.holds_of_wide 10 Try.f10 rfl rfl rfl rfl rfl rfl rfl ⟨rfl, rfl, rfl, rfl, rfl⟩ rfl rfl rfl rfl rfl (by kernel_rfl) Try.func10 (by kernel_rfl)
    (of_decide_eq_true (by kernel_rfl)) (by unfold Func.isWrapper; first | (rw [if_pos (by decide +kernel)]; kernel_rfl) | (rw [if_neg (by decide +kernel)]; exact ⟨rfl, rfl⟩))
    (fun os started H enc _ => lifted os started H enc)
theorem proved : Rows.FnExactStepsHunksSaid := over
#print axioms proved
end Go.Proofs.Ytcefenlblnediaa.fnExactStepsHunks
namespace Go.Proofs.Ytcefenlblnediaa
/-- The row, under a short name, for the claim. -/
theorem fnExactStepsHunks_holds : Rows.FnExactStepsHunksSaid := fnExactStepsHunks.proved
end Go.Proofs.Ytcefenlblnediaa
