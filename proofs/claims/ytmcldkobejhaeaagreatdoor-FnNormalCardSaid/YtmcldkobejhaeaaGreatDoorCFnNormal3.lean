/- Part 3 of 7 of a proof of this sentence: The Go function loop.example/g00825/laws.FnNormal returns true for every input, and each argument reads afterwards as it read before. No condition. -/
import Derived.Shelf.Small.Utf8
import Derived.Shelf.Small.Strs
import Derived.Shelf.LaysM
import Derived.Shelf.Strconv.Itoa3
import Derived.Shelf.LaysC
import Derived.Shelf.Strconv.AtoiAll
import Derived.Shelf.Strconv.ErrVarAll
import Derived.Shelf.Strings.Runes
import Derived.Shelf.Strings.IndexAny
import Derived.Shelf.Strings.IndexAnyAll
import Derived.Test.YtmcldkobejhaeaaGreatDoorProg
import Derived.Lib.SmallJoins
import Derived.Lib.AppendIntMem
import Derived.Lib.AtoiErrMem
import Derived.Lib.AtoiAllCases
import Derived.Lib.LaidTab
import Derived.Stop.LaidErr
import Derived.Test.YtmcldkobejhaeaaGreatDoorCFnNormal2
namespace Go.Proofs.YtmcldkobejhaeaaGreatDoor.My
open Go.RowKit Go.Proofs.YtmcldkobejhaeaaGreatDoorW.PrintWords Go.Proofs.YtmcldkobejhaeaaGreatDoorW.PrintLast Go.Proofs.YtmcldkobejhaeaaGreatDoorW.PrintMore
attribute [local go_sem] max2_int min2_int max_two min_two max_three min_three max_four min_four
set_option linter.unusedVariables false
set_option linter.unusedSimpArgs false
def impl_ApplySteps.j0 : Nat → List ByteArray → List (S60) → Int → Bool → Bool → Option (List ByteArray × Int × Bool)
 | 0, _, _, _, _, _ => none
 | k + 1, x0, x7, x8, x9, x24 => if x24 = true then (some (([] : List ByteArray), x8, x9)) else ((impl_Patch.f k x0 x7).bind fun bt849 => (if bt849.2 = true then (some (bt849.1, 0, true)) else (some (([] : List ByteArray), 2, true))))
def impl_ApplySteps.f (k : Nat) (l0 : List ByteArray) (l1 : List (S52)) : Option (List ByteArray × Int × Bool) := (impl_StepsHunks.f k l0 l1).bind fun bt844 => (if bt844.2.2 = true then (impl_ApplySteps.j0 k l0 bt844.1 bt844.2.1 bt844.2.2 (bt844.2.1 != 0)) else (impl_ApplySteps.j0 k l0 bt844.1 bt844.2.1 bt844.2.2 true))
set_option maxHeartbeats 8000000 in
set_option maxRecDepth 100000 in
theorem impl_ApplySteps.calls (k : Nat) (A0 : Option Addr) (c0 : Nat) (l0 : List ByteArray) (A1 : Option Addr) (c1 : Nat) (l1 : List (S52)) (r1 : List ByteArray) (r2 : Int) (r3 : Bool) (w : World) (hr0 : Kd.C Kd.string w A0 l0.length l0) (hc0 : l0.length ≤ c0) (hr1 : Kd.C k52 w A1 l1.length l1) (hc1 : l1.length ≤ c1) (h : impl_ApplySteps.f k l0 l1 = some (r1, r2, r3)) :
  Calls Tryz.prog 13 #[.slice A0 l0.length c0, .slice A1 l1.length c1] w fun e w' => ∃ v0_ : Value, e = .returned (.tuple #[v0_, .int .i64 r2, .bool r3]) ∧ Kd.R Kd.string 9 w' w.heap.size (fun _ => True) v0_ r1 ∧ Below w.heap.size w w' := by
 have HR0 := am hr0
 have HC0 := am hc0
 clear hr0 hc0
 have HR1 := am hr1
 have HC1 := am hc1
 clear hr1 hc1
 have HB := am (Below.refl w.heap.size w)
 have H := h
 clear h
 unfold impl_ApplySteps.f at H
 replace H := Option.bind_eq_some_iff.mp H
 obtain ⟨⟨t844, t845, t846⟩, A30, H⟩ := H
 dsimp only at H
 have A3 := am A30
 clear A30
 have HC4 := am H
 clear H
 go_enter Tryz.func13, Tryz.ntmps13
 go_upto_region 2 with (((with_reducible refine gateC (f := 12) rfl ?_); refine goesL_ (some 15) rfl rfl Tryz.func12 (by kernel_rfl) rfl #[.slice A0 l0.length c0, .slice A1 l1.length c1] rfl zm ?_; (with_reducible refine (impl_StepsHunks.calls k _ _ l0 _ _ l1 t844 t845 t846 _ ?side1 ?side2 ?side3 ?side4 A3.out).mono ?_); (case side1 => exact zq HR0.out); (case side2 => exact HC0.out); (case side3 => exact zq HR1.out); (case side4 => exact HC1.out); rintro e w5 ⟨v847, rfl, ho0, hb⟩; refine ⟨_, rfl, ?_⟩; have HO848 := am (Kd.S_lower ho0 (below_size zb)); replace HB := am (below_step zb hb); (try clear hb); (try clear ho0)))
 go_cut [24] (fun v24 wc => ∃ (kq : Nat) (x24_3 : Bool), v24 = .bool x24_3 ∧ Aside0 (impl_ApplySteps.j0 kq l0 t844 t845 t846 x24_3 = some (r1, r2, r3)) ∧ Aside0 (kq ≤ k) ∧ Aside0 (Kd.S k60 60 wc w.heap.size (fun _ => True) v847 t844) ∧ Aside0 (Below w.heap.size w wc))
 case first =>
  have H := HC4.out
  clear HC4
  by_cases c6 : t846 = true
  ·subst c6
   rw [if_pos rfl] at H
   have H' := am H
   clear H
   go_wp2
   go_meet
   case rel => exact ⟨_, ((t845 != 0)), zf, H', ⟨by omega⟩, ⟨zs HO848.out⟩, ⟨zb⟩⟩
  ·replace c6 := Bool.eq_false_iff.mpr c6
   subst c6
   rw [if_neg nofun] at H
   have H' := am H
   clear H
   go_wp2
   go_meet
   case rel => exact ⟨_, (true), zf, H', ⟨by omega⟩, ⟨zs HO848.out⟩, ⟨zb⟩⟩
 case rest =>
  clear HC4
  obtain ⟨kq, x24_3, rfl, HA, HJ3, HO_7, HB⟩ := hcut
  cases kq with
  | zero => exact absurd HA.out (by simp [impl_ApplySteps.j0])
  | succ kj3 =>
   have H := HA.out
   clear HA
   simp only [impl_ApplySteps.j0] at H
   by_cases c7 : x24_3 = true
   ·subst c7
    rw [if_pos rfl] at H
    simp only [Option.some.injEq, Prod.mk.injEq] at H
    obtain ⟨rfl, rfl, rfl⟩ := H
    go_wp2
    go_ret3
    exact ⟨_, by rfl, by exact Kd.R_nil _ _ _ _ _, zb⟩
   ·replace c7 := Bool.eq_false_iff.mpr c7
    subst c7
    rw [if_neg nofun] at H
    replace H := Option.bind_eq_some_iff.mp H
    obtain ⟨⟨t849, t850⟩, A80, H⟩ := H
    dsimp only at H
    have A8 := am A80
    clear A80
    by_cases c9 : t850 = true
    ·subst c9
     rw [if_pos rfl] at H
     simp only [Option.some.injEq, Prod.mk.injEq] at H
     obtain ⟨rfl, rfl, rfl⟩ := H
     obtain ⟨Ao10, co10, eo10⟩ := Kd.S_slice HO_7.out
     subst eo10
     go_wp2_with (((with_reducible refine gateC (f := 14) rfl ?_); refine goesL_ (some 30) rfl rfl Tryz.func14 (by kernel_rfl) rfl #[.slice A0 l0.length c0, .slice Ao10 t844.length co10] rfl zm ?_; (with_reducible refine (impl_Patch.calls kj3 _ _ l0 _ _ t844 t849 true _ ?side1 ?side2 ?side3 ?side4 A8.out).mono ?_); (case side1 => exact zq (Kd.C_below HR0.out HB.out)); (case side2 => exact HC0.out); (case side3 => repeat (exact (Kd.S_reads' HO_7.out).2.2)); (case side4 => exact (Kd.S_reads' HO_7.out).2.1); rintro e w11 ⟨v851, rfl, ho0, hb⟩; refine ⟨_, rfl, ?_⟩; replace HO_7 := am (Kd.S_elder' (zs HO_7.out) (Kd.R_base ho0) hb); have HO852 := am (Kd.R_lower ho0 (below_size zb)); replace HB := am (below_step zb hb); (try clear hb); (try clear ho0)))
     go_ret3
     exact ⟨_, by rfl, zr HO852.out, zb⟩
    ·replace c9 := Bool.eq_false_iff.mpr c9
     subst c9
     rw [if_neg nofun] at H
     simp only [Option.some.injEq, Prod.mk.injEq] at H
     obtain ⟨rfl, rfl, rfl⟩ := H
     obtain ⟨Ao12, co12, eo12⟩ := Kd.S_slice HO_7.out
     subst eo12
     go_wp2_with (((with_reducible refine gateC (f := 14) rfl ?_); refine goesL_ (some 30) rfl rfl Tryz.func14 (by kernel_rfl) rfl #[.slice A0 l0.length c0, .slice Ao12 t844.length co12] rfl zm ?_; (with_reducible refine (impl_Patch.calls kj3 _ _ l0 _ _ t844 t849 false _ ?side1 ?side2 ?side3 ?side4 A8.out).mono ?_); (case side1 => exact zq (Kd.C_below HR0.out HB.out)); (case side2 => exact HC0.out); (case side3 => repeat (exact (Kd.S_reads' HO_7.out).2.2)); (case side4 => exact (Kd.S_reads' HO_7.out).2.1); rintro e w13 ⟨v851, rfl, ho0, hb⟩; refine ⟨_, rfl, ?_⟩; replace HO_7 := am (Kd.S_elder' (zs HO_7.out) (Kd.R_base ho0) hb); have HO852 := am (Kd.R_lower ho0 (below_size zb)); replace HB := am (below_step zb hb); (try clear hb); (try clear ho0)))
     go_ret3
     exact ⟨_, by rfl, by exact Kd.R_nil _ _ _ _ _, zb⟩

def impl_GoodSteps.f (k : Nat) (l0 : List (S52)) : Option (Bool) := (impl_goodSteps.f k l0).bind fun t838 => (some t838)
set_option maxHeartbeats 8000000 in
set_option maxRecDepth 100000 in
theorem impl_GoodSteps.calls (k : Nat) (A0 : Option Addr) (c0 : Nat) (l0 : List (S52)) (r : Bool) (w : World) (hr0 : Kd.C k52 w A0 l0.length l0) (hc0 : l0.length ≤ c0) (h : impl_GoodSteps.f k l0 = some r) :
  Calls Tryz.prog 15 #[.slice A0 l0.length c0] w fun e w' => e = .returned (.bool r) ∧ Below w.heap.size w w' := by
 have HR0 := am hr0
 have HC0 := am hc0
 clear hr0 hc0
 have HB := am (Below.refl w.heap.size w)
 have H : ((impl_goodSteps.f k l0).bind fun t838 => (some t838)) = some r := h
 clear h
 replace H := Option.bind_eq_some_iff.mp H
 obtain ⟨t838, A20, H⟩ := H
 replace H : (some t838) = some r := H
 have A2 := am A20
 clear A20
 obtain rfl := Option.some.inj H
 go_enter Tryz.func15, Tryz.ntmps15
 go_wp2_with (first | ((with_reducible refine gateC (f := 33) rfl ?_); refine goesL_ (some 4) rfl rfl Tryz.func33 (by kernel_rfl) rfl #[.slice A0 l0.length c0] rfl zm ?_; (with_reducible refine (impl_goodSteps.calls k _ _ l0 t838 _ ?side1 ?side2 A2.out).mono ?_); (case side1 => exact zq HR0.out); (case side2 => exact HC0.out); rintro e w3 ⟨rfl, hb⟩; refine ⟨_, rfl, ?_⟩; have n0_ := am (below_step zb hb); clear HB; have HB := n0_; clear n0_; (try clear hb)))
 go_ret
 exact ⟨by first | rfl | (simp [errW_none, errW_some] <;> rfl) | (simp [*, errW_none, errW_some] <;> rfl), zb⟩

def impl_NormalSteps.f (k : Nat) (l0 : List ByteArray) (l1 : List (S60)) : Option ((List (S52)) × Bool) := (impl_Patch.f k l0 l1).bind fun bt727 => (if bt727.2 = true then ((impl_stepsOf.f k l0 l1).bind fun t731 => (some (t731, true))) else (some (([] : List (S52)), false)))
set_option maxHeartbeats 8000000 in
set_option maxRecDepth 100000 in
theorem impl_NormalSteps.calls (k : Nat) (A0 : Option Addr) (c0 : Nat) (l0 : List ByteArray) (A1 : Option Addr) (c1 : Nat) (l1 : List (S60)) (r1 : List (S52)) (r2 : Bool) (w : World) (hr0 : Kd.C Kd.string w A0 l0.length l0) (hc0 : l0.length ≤ c0) (hr1 : Kd.C k60 w A1 l1.length l1) (hc1 : l1.length ≤ c1) (h : impl_NormalSteps.f k l0 l1 = some (r1, r2)) :
  Calls Tryz.prog 7 #[.slice A0 l0.length c0, .slice A1 l1.length c1] w fun e w' => ∃ v0_ : Value, e = .returned (.tuple #[v0_, .bool r2]) ∧ Kd.S k52 52 w' w.heap.size (fun _ => True) v0_ r1 ∧ Below w.heap.size w w' := by
 have HR0 := am hr0
 have HC0 := am hc0
 clear hr0 hc0
 have HR1 := am hr1
 have HC1 := am hc1
 clear hr1 hc1
 have HB := am (Below.refl w.heap.size w)
 have H := h
 clear h
 unfold impl_NormalSteps.f at H
 replace H := Option.bind_eq_some_iff.mp H
 obtain ⟨⟨t727, t728⟩, A30, H⟩ := H
 dsimp only at H
 have A3 := am A30
 clear A30
 by_cases c4 : t728 = true
 ·subst c4
  rw [if_pos rfl] at H
  replace H := Option.bind_eq_some_iff.mp H
  obtain ⟨t731, A50, H⟩ := H
  replace H : (some (t731, true)) = some (r1, r2) := H
  have A5 := am A50
  clear A50
  simp only [Option.some.injEq, Prod.mk.injEq] at H
  obtain ⟨rfl, rfl⟩ := H
  go_enter Tryz.func7, Tryz.ntmps7
  go_wp2_with (first | ((with_reducible refine gateC (f := 14) rfl ?_); refine goesL_ (some 11) rfl rfl Tryz.func14 (by kernel_rfl) rfl #[.slice A0 l0.length c0, .slice A1 l1.length c1] rfl zm ?_; (with_reducible refine (impl_Patch.calls k _ _ l0 _ _ l1 t727 true _ ?side1 ?side2 ?side3 ?side4 A3.out).mono ?_); (case side1 => exact zq HR0.out); (case side2 => exact HC0.out); (case side3 => exact zq HR1.out); (case side4 => exact HC1.out); rintro e w6 ⟨v729, rfl, ho0, hb⟩; refine ⟨_, rfl, ?_⟩; have HO730 := am (Kd.R_lower ho0 (below_size zb)); replace HB := am (below_step zb hb); (try clear hb); (try clear ho0)) | ((with_reducible refine gateC (f := 27) rfl ?_); refine goesL_ (some 18) rfl rfl Tryz.func27 (by kernel_rfl) rfl #[.slice A0 l0.length c0, .slice A1 l1.length c1] rfl zm ?_; (with_reducible refine (impl_stepsOf.calls k _ _ l0 _ _ l1 t731 _ ?side1 ?side2 ?side3 ?side4 A5.out).mono ?_); (case side1 => exact zq (Kd.C_below HR0.out HB.out)); (case side2 => exact HC0.out); (case side3 => exact zq (Kd.C_below HR1.out HB.out)); (case side4 => exact HC1.out); rintro e w7 ⟨v732, rfl, ho0, hb⟩; refine ⟨_, rfl, ?_⟩; have HO733 := am (Kd.S_lower (Kd.S_new' ho0 (Kd.R_lt (zr HO730.out))) (below_size zb)); replace HO730 := am (Kd.R_below (zr HO730.out) hb); replace HB := am (below_step zb hb); (try clear hb); (try clear ho0)))
  go_ret2
  exact ⟨_, by rfl, by exact Kd.S_mono HO733.out (fun _ hk => trivial), zb⟩
 ·replace c4 := Bool.eq_false_iff.mpr c4
  subst c4
  rw [if_neg nofun] at H
  simp only [Option.some.injEq, Prod.mk.injEq] at H
  obtain ⟨rfl, rfl⟩ := H
  go_enter Tryz.func7, Tryz.ntmps7
  go_wp2_with (((with_reducible refine gateC (f := 14) rfl ?_); refine goesL_ (some 11) rfl rfl Tryz.func14 (by kernel_rfl) rfl #[.slice A0 l0.length c0, .slice A1 l1.length c1] rfl zm ?_; (with_reducible refine (impl_Patch.calls k _ _ l0 _ _ l1 t727 false _ ?side1 ?side2 ?side3 ?side4 A3.out).mono ?_); (case side1 => exact zq HR0.out); (case side2 => exact HC0.out); (case side3 => exact zq HR1.out); (case side4 => exact HC1.out); rintro e w8 ⟨v729, rfl, ho0, hb⟩; refine ⟨_, rfl, ?_⟩; have HO730 := am (Kd.R_lower ho0 (below_size zb)); replace HB := am (below_step zb hb); (try clear hb); (try clear ho0)))
  go_ret2
  exact ⟨_, by rfl, by exact Kd.S_nil _ _ _ _ _, zb⟩

def impl_short.f (a0 : ByteArray) : Option (ByteArray × Bool) := if (a0.size : Int) > 3000 then (some ((⟨#[]⟩ : ByteArray), false)) else (some (a0, true))
set_option maxHeartbeats 8000000 in
set_option maxRecDepth 100000 in
theorem impl_short.calls (a0 : ByteArray) (r1 : ByteArray) (r2 : Bool) (w : World) (h : impl_short.f a0 = some (r1, r2)) :
  Calls Tryz.prog 63 #[.string a0] w fun e w' => e = .returned (.tuple #[.string r1, .bool r2]) ∧ Drawn0 w w' := by
 have H : (if (a0.size : Int) > 3000 then (some ((⟨#[]⟩ : ByteArray), false)) else (some (a0, true))) = some (r1, r2) := h
 clear h
 by_cases c2 : (a0.size : Int) > 3000
 ·rw [if_pos c2] at H
  have c2b0 : decide (3000 < (a0.size : Int)) = true := decide_eq_true c2
  have c2b1 : decide (3000 < a0.size) = true := decide_eq_true (by omega)
  clear c2
  simp only [Option.some.injEq, Prod.mk.injEq] at H
  obtain ⟨rfl, rfl⟩ := H
  go_enter Tryz.func63, Tryz.ntmps63
  go_wp2
  go_ret2
  exact ⟨by first | rfl | (simp; done) | (simp [*]; done), by repeat (first | exact Drawn0.refl _ | apply Drawn0.step)⟩
 ·rw [if_neg c2] at H
  have c2b0 : decide (3000 < (a0.size : Int)) = false := decide_eq_false c2
  have c2b1 : decide (3000 < a0.size) = false := decide_eq_false (by omega)
  clear c2
  simp only [Option.some.injEq, Prod.mk.injEq] at H
  obtain ⟨rfl, rfl⟩ := H
  go_enter Tryz.func63, Tryz.ntmps63
  go_wp2
  go_ret2
  exact ⟨by first | rfl | (simp; done) | (simp [*]; done), by repeat (first | exact Drawn0.refl _ | apply Drawn0.step)⟩

def impl_shown.f (a0 : ByteArray) (a1 : ByteArray) : Option (ByteArray) := (impl_isEnded.f a1).bind fun t304 => (if t304 = true then (if a0.size + a1.size ≤ 9223372036854775807 then (some (a0 ++ a1)) else (none)) else (if a0.size + a1.size ≤ 9223372036854775807 then (if (a0 ++ a1).size + 1 ≤ 9223372036854775807 then (if ((a0 ++ a1) ++ (⟨#[10]⟩ : ByteArray)).size + 7 ≤ 9223372036854775807 then (some (((a0 ++ a1) ++ (⟨#[10]⟩ : ByteArray)) ++ (⟨#[92, 32, 110, 111, 110, 101, 10]⟩ : ByteArray))) else (none)) else (none)) else (none)))
set_option maxHeartbeats 8000000 in
set_option maxRecDepth 100000 in
theorem impl_shown.calls (a0 : ByteArray) (a1 : ByteArray) (r : ByteArray) (w : World) (h : impl_shown.f a0 a1 = some r) :
  Calls Tryz.prog 116 #[.string a0, .string a1] w fun e w' => e = .returned (.string r) ∧ Drawn0 w w' := by
 have H := h
 clear h
 unfold impl_shown.f at H
 replace H := Option.bind_eq_some_iff.mp H
 obtain ⟨t304, A30, H⟩ := H
 replace H : (if t304 = true then (if a0.size + a1.size ≤ 9223372036854775807 then (some (a0 ++ a1)) else (none)) else (if a0.size + a1.size ≤ 9223372036854775807 then (if (a0 ++ a1).size + 1 ≤ 9223372036854775807 then (if ((a0 ++ a1) ++ (⟨#[10]⟩ : ByteArray)).size + 7 ≤ 9223372036854775807 then (some (((a0 ++ a1) ++ (⟨#[10]⟩ : ByteArray)) ++ (⟨#[92, 32, 110, 111, 110, 101, 10]⟩ : ByteArray))) else (none)) else (none)) else (none))) = some r := H
 have A3 := am A30
 clear A30
 by_cases c4 : t304 = true
 ·subst c4
  rw [if_pos rfl] at H
  obtain ⟨c5, H⟩ := itn H
  have c5b0 := eq_true c5
  have c5b1 := decide_eq_true c5
  try have c5b2 : (9223372036854775807 < a0.size + a1.size) = False := eq_false (Nat.not_lt.2 c5)
  obtain rfl := Option.some.inj H
  go_enter Tryz.func116, Tryz.ntmps116
  go_wp2_with (((with_reducible refine gateC (f := 65) rfl ?_); refine goesL_ (some 6) rfl rfl Tryz.func65 (by kernel_rfl) rfl #[.string a1] rfl zm ?_; (with_reducible refine (impl_isEnded.calls a1 true _ A3.out).mono ?_); rintro e w' ⟨rfl, ⟨nd, rfl⟩⟩; refine ⟨_, rfl, ?_⟩))
  go_ret
  exact ⟨by rfl, by repeat (first | exact Drawn0.refl _ | apply Drawn0.step)⟩
 ·replace c4 := Bool.eq_false_iff.mpr c4
  subst c4
  rw [if_neg nofun] at H
  obtain ⟨c6, H⟩ := itn H
  have c6b0 := eq_true c6
  have c6b1 := decide_eq_true c6
  try have c6b2 : (9223372036854775807 < a0.size + a1.size) = False := eq_false (Nat.not_lt.2 c6)
  obtain ⟨c7, H⟩ := itn H
  have c7b0 := eq_true c7
  have c7b1 := decide_eq_true c7
  try have c7b2 : (9223372036854775807 < (a0 ++ a1).size + 1) = False := eq_false (Nat.not_lt.2 c7)
  try have c7b9 := c7
  try simp only [ByteArray.size_append] at c7b9
  try have c7b8 := eq_false (Nat.not_lt.2 c7b9)
  try replace c7b9 := eq_true c7b9
  obtain ⟨c8, H⟩ := itn H
  have c8b0 := eq_true c8
  have c8b1 := decide_eq_true c8
  try have c8b2 : (9223372036854775807 < ((a0 ++ a1) ++ (⟨#[10]⟩ : ByteArray)).size + 7) = False := eq_false (Nat.not_lt.2 c8)
  try have c8b9 := c8
  try simp only [ByteArray.size_append, show (⟨#[10]⟩ : ByteArray).size = 1 from rfl] at c8b9
  try have c8b8 := eq_false (Nat.not_lt.2 c8b9)
  try replace c8b9 := eq_true c8b9
  obtain rfl := Option.some.inj H
  go_enter Tryz.func116, Tryz.ntmps116
  go_wp2_with (((with_reducible refine gateC (f := 65) rfl ?_); refine goesL_ (some 6) rfl rfl Tryz.func65 (by kernel_rfl) rfl #[.string a1] rfl zm ?_; (with_reducible refine (impl_isEnded.calls a1 false _ A3.out).mono ?_); rintro e w' ⟨rfl, ⟨nd, rfl⟩⟩; refine ⟨_, rfl, ?_⟩))
  go_ret
  exact ⟨by rfl, by repeat (first | exact Drawn0.refl _ | apply Drawn0.step)⟩

def impl_allShown.l0 : Nat → ByteArray → ByteArray → List ByteArray → Int → Int → Option (ByteArray)
 | 0, _, _, _, _, _ => none
 | k + 1, x0, x5, x8, x9, x10 => if x10 < x9 then (if 0 ≤ x10 then (if x10 < (x8.length : Int) then ((impl_shown.f x0 (rdOf ByteArray.empty x8 x10)).bind fun t306 => (if x5.size + t306.size ≤ 9223372036854775807 then (impl_allShown.l0 k x0 (x5 ++ t306) x8 x9 (wrap64 (x10 + 1))) else (none))) else (none)) else (none)) else (some x5)
def impl_allShown.f (k : Nat) (a0 : ByteArray) (l1 : List ByteArray) : Option (ByteArray) := impl_allShown.l0 k a0 (⟨#[]⟩ : ByteArray) l1 (l1.length : Int) 0
set_option maxHeartbeats 8000000 in
set_option maxRecDepth 100000 in
theorem impl_allShown.calls (k : Nat) (a0 : ByteArray) (A1 : Option Addr) (c1 : Nat) (l1 : List ByteArray) (r : ByteArray) (w : World) (hr1 : Kd.C Kd.string w A1 l1.length l1) (hc1 : l1.length ≤ c1) (h : impl_allShown.f k a0 l1 = some r) :
  Calls Tryz.prog 90 #[.string a0, .slice A1 l1.length c1] w fun e w' => e = .returned (.string r) ∧ Drawn0 w w' := by
 have HR1 := am hr1
 have HC1 := am hc1
 clear hr1 hc1
 have H := h
 clear h
 unfold impl_allShown.f at H
 have H' := am H
 clear H
 go_enter Tryz.func90, Tryz.ntmps90
 go_wp2
 go_loopg [5, 10] k (fun kq v5 v10 w' => ∃ (x5_1 : ByteArray) (x10_1 : Int), v5 = .string x5_1 ∧ v10 = .int .i64 x10_1 ∧ Aside0 (impl_allShown.l0 kq a0 x5_1 l1 (l1.length : Int) x10_1 = some r) ∧ Aside0 (kq ≤ k) ∧ Drawn0 w w')
 case atStart => exact ⟨((⟨#[]⟩ : ByteArray)), (0), zf, zf, H', ⟨Nat.le_refl _⟩, by repeat (exact Drawn0.refl _)⟩
 case round =>
  clear H'
  obtain ⟨x5_1, x10_1, rfl, rfl, HA, HK1, ⟨m1, rfl⟩⟩ := hrel
  cases gk with
  | zero => exact absurd HA.out (by simp [impl_allShown.l0])
  | succ k1 =>
   have H := HA.out
   clear HA
   simp only [impl_allShown.l0] at H
   by_cases c3 : x10_1 < (l1.length : Int)
   ·rw [if_pos c3] at H
    have c3b0 : decide (x10_1 < (l1.length : Int)) = true := decide_eq_true c3
    clear c3
    obtain ⟨c4, H⟩ := itn H
    have c4b0 := decide_eq_true c4
    clear c4
    obtain ⟨c5, H⟩ := itn H
    have c5b0 := decide_eq_true c5
    clear c5
    replace H := Option.bind_eq_some_iff.mp H
    obtain ⟨t306, A60, H⟩ := H
    replace H : (if x5_1.size + t306.size ≤ 9223372036854775807 then (impl_allShown.l0 k1 a0 (x5_1 ++ t306) l1 (l1.length : Int) (wrap64 (x10_1 + 1))) else (none)) = some r := H
    have A6 := am A60
    clear A60
    obtain ⟨c7, H⟩ := itn H
    have c7b0 := eq_true c7
    have c7b1 := decide_eq_true c7
    try have c7b2 : (9223372036854775807 < x5_1.size + t306.size) = False := eq_false (Nat.not_lt.2 c7)
    have H' := am H
    clear H
    have p305 : 0 ≤ (x10_1 : Int) := oa
    have q305 : x10_1 < (l1.length : Int) := oa
    obtain ⟨ad305, e305, hx305_0⟩ := Kd.at_string HR1.out x10_1 p305 q305
    cases e305
    replace p305 := eq_true p305
    replace q305 := eq_true q305
    go_wp2_with (((with_reducible refine gateC (f := 116) rfl ?_); refine goesL_ (some 17) rfl rfl Tryz.func116 (by kernel_rfl) rfl #[.string a0, .string (rdOf ByteArray.empty l1 x10_1)] rfl zm ?_; (with_reducible refine (impl_shown.calls a0 (rdOf ByteArray.empty l1 x10_1) t306 _ A6.out).mono ?_); rintro e w' ⟨rfl, ⟨nd, rfl⟩⟩; refine ⟨_, rfl, ?_⟩))
    go_roundg k1
    case measure => have := HK1.out; omega
    case rel => exact ⟨(x5_1 ++ t306), (wrap64 (x10_1 + 1)), zf, zf, H', ⟨by have := HK1.out; omega⟩, by repeat (first | exact Drawn0.refl _ | apply Drawn0.step)⟩
   ·rw [if_neg c3] at H
    have c3b0 : decide (x10_1 < (l1.length : Int)) = false := decide_eq_false c3
    clear c3
    obtain rfl := Option.some.inj H
    go_wp2
    go_ret
    exact ⟨by rfl, by repeat (first | exact Drawn0.refl _ | apply Drawn0.step)⟩
end Go.Proofs.YtmcldkobejhaeaaGreatDoor.My
namespace Go.Proofs
open Go.Shelf
def Tryz.laysM171_ren : Go.Shelf.Ren := ⟨fun | 171 => 115 | 243 => 140 | 246 => 149 | 283 => 158 | 284 => 159 | 285 => 160 | 286 => 161 | 129 => 167 | 317 => 166 | 318 => 168 | 319 => 169 | 320 => 170 | 337 => 173 | 338 => 174 | n => n, fun | 3 => 3 | 9 => 9 | 2 => 2 | 4 => 4 | 171 => 144 | 0 => 0 | 53 => 75 | 37 => 22 | 5 => 5 | 173 => 147 | 212 => 162 | 51 => 149 | 20 => 20 | 213 => 163 | 46 => 126 | 232 => 171 | 233 => 172 | n => n, fun | 17 => 5 | 18 => 6 | 19 => 7 | n => n⟩
theorem Tryz.laysM171 : Go.Proofs.LaysM.n171 Tryz.prog Tryz.laysM171_ren := {
  mixed := by kernel_rfl
  f129 := Tryz.func167.trans (congrArg some (by kernel_rfl))
  f171 := Tryz.func115.trans (congrArg some (by kernel_rfl))
  f243 := Tryz.func140.trans (congrArg some (by kernel_rfl))
  f246 := Tryz.func149.trans (congrArg some (by kernel_rfl))
  f283 := Tryz.func158.trans (congrArg some (by kernel_rfl))
  f284 := Tryz.func159.trans (congrArg some (by kernel_rfl))
  f285 := Tryz.func160.trans (congrArg some (by kernel_rfl))
  f286 := Tryz.func161.trans (congrArg some (by kernel_rfl))
  f317 := Tryz.func166.trans (congrArg some (by kernel_rfl))
  f318 := Tryz.func168.trans (congrArg some (by kernel_rfl))
  f319 := Tryz.func169.trans (congrArg some (by kernel_rfl))
  f320 := Tryz.func170.trans (congrArg some (by kernel_rfl))
  f337 := Tryz.func173.trans (congrArg some (by kernel_rfl))
  f338 := Tryz.func174.trans (congrArg some (by kernel_rfl))
  t0 := Tryz.underlying0
  a0 := Tryz.isAgg0
  z0 := Tryz.sizeOf0
  v0 := Tryz.zeroValue0
  t2 := Tryz.underlying2
  a2 := Tryz.isAgg2
  z2 := Tryz.sizeOf2
  v2 := Tryz.zeroValue2
  t3 := Tryz.underlying3
  a3 := Tryz.isAgg3
  z3 := Tryz.sizeOf3
  v3 := Tryz.zeroValue3
  t4 := Tryz.underlying4
  a4 := Tryz.isAgg4
  z4 := Tryz.sizeOf4
  v4 := Tryz.zeroValue4
  t5 := Tryz.underlying5
  a5 := Tryz.isAgg5
  z5 := Tryz.sizeOf5
  v5 := Tryz.zeroValue5
  t9 := Tryz.underlying9
  a9 := Tryz.isAgg9
  z9 := Tryz.sizeOf9
  v9 := Tryz.zeroValue9
  t20 := Tryz.underlying20
  a20 := Tryz.isAgg20
  z20 := Tryz.sizeOf20
  v20 := Tryz.zeroValue20
  t37 := Tryz.underlying22
  a37 := Tryz.isAgg22
  z37 := Tryz.sizeOf22
  v37 := Tryz.zeroValue22
  t46 := Tryz.underlying126
  a46 := Tryz.isAgg126
  z46 := Tryz.sizeOf126
  v46 := Tryz.zeroValue126
  t51 := Tryz.underlying149
  a51 := Tryz.isAgg149
  z51 := Tryz.sizeOf149
  v51 := Tryz.zeroValue149
  t53 := Tryz.underlying75
  a53 := Tryz.isAgg75
  z53 := Tryz.sizeOf75
  v53 := Tryz.zeroValue75
  t171 := Tryz.underlying144
  a171 := Tryz.isAgg144
  z171 := Tryz.sizeOf144
  v171 := Tryz.zeroValue144
  t173 := Tryz.underlying147
  a173 := Tryz.isAgg147
  z173 := Tryz.sizeOf147
  v173 := Tryz.zeroValue147
  t212 := Tryz.underlying162
  a212 := Tryz.isAgg162
  z212 := Tryz.sizeOf162
  v212 := Tryz.zeroValue162
  t213 := Tryz.underlying163
  a213 := Tryz.isAgg163
  z213 := Tryz.sizeOf163
  t232 := Tryz.underlying171
  a232 := Tryz.isAgg171
  z232 := Tryz.sizeOf171
  v232 := Tryz.zeroValue171
  t233 := Tryz.underlying172
  a233 := Tryz.isAgg172
  z233 := Tryz.sizeOf172
  v233 := Tryz.zeroValue172
  g17 := by kernel_rfl
  g18 := by kernel_rfl
  g19 := by kernel_rfl
  i0 := by kernel_rfl
  i2 := by kernel_rfl
  i3 := by kernel_rfl
  i4 := by kernel_rfl
  i5 := by kernel_rfl
  i9 := by kernel_rfl
  i20 := by kernel_rfl
  i37 := by kernel_rfl
  i46 := by kernel_rfl
  i51 := by kernel_rfl
  i53 := by kernel_rfl
  i171 := by kernel_rfl
  i173 := by kernel_rfl
  i212 := by kernel_rfl
  i232 := by kernel_rfl
  i233 := by kernel_rfl
  m17 := by kernel_rfl
  m18 := by kernel_rfl
  m19 := by kernel_rfl }
open Go.RowKit Go.Sort Go.Lib in
/-- strconv.Itoa: "Itoa is equivalent to FormatInt(int64(i), 10).": i's DECIMAL NUMERAL ('Lib.itoa': a '-' where i is negative, then the digits), FOR EVERY int. The world behind the call: the world before it, new blocks behind the heap (the library's 'var a [24]byte'), draws. (LAID: no walk: one application.) -/
theorem Tryz.strconv_Itoa (n : Int) (h0 : -9223372036854775808 ≤ n) (h1 : n ≤ 9223372036854775807) (w : World) (htab : Lib.TabIs Tryz.prog w "internal/strconv.uint64pow10" .u64 Lib.pow10Tab) :
    Calls Tryz.prog 115 #[.int .i64 n] w fun e w' => e = .returned (.string ⟨(Lib.itoa n).toArray⟩) ∧ ∃ k os, w' = grow (w.drewN k) os := Any.strconv_Itoa Tryz.laysM171 n h0 h1 w htab
end Go.Proofs
namespace Go.Proofs.YtmcldkobejhaeaaGreatDoor.My
open Go.RowKit Go.Joins
structure Door (es : Bool) (w : World) : Prop where
  tab : Lib.TabIs Tryz.prog w "internal/strconv.uint64pow10" .u64 Lib.pow10Tab
  syn : es = true → ∃ tp p, w.var? Tryz.prog "strconv.ErrSyntax" = some #[.iface tp p]
  rng : es = true → ∃ tp p, w.var? Tryz.prog "strconv.ErrRange" = some #[.iface tp p]
theorem door_gTab : ∃ g, Tryz.prog.globalNamed "internal/strconv.uint64pow10" = some g := Option.isSome_iff_exists.1 (by kernel_rfl)
theorem door_gSyn : ∃ g, Tryz.prog.globalNamed "strconv.ErrSyntax" = some g := Option.isSome_iff_exists.1 (by kernel_rfl)
theorem door_gRng : ∃ g, Tryz.prog.globalNamed "strconv.ErrRange" = some g := Option.isSome_iff_exists.1 (by kernel_rfl)
theorem Door.below {es : Bool} {w w' : World} (h : Door es w) (hb : Below w.heap.size w w') : Door es w' := by
  obtain ⟨g1, e1⟩ := door_gTab
  obtain ⟨g2, e2⟩ := door_gSyn
  obtain ⟨g3, e3⟩ := door_gRng
  refine ⟨var_stays e1 h.tab hb (Nat.le_refl _), fun e => ?_, fun e => ?_⟩
  · obtain ⟨tp, p, hv⟩ := h.syn e
    exact ⟨tp, p, var_stays e2 hv hb (Nat.le_refl _)⟩
  · obtain ⟨tp, p, hv⟩ := h.rng e
    exact ⟨tp, p, var_stays e3 hv hb (Nat.le_refl _)⟩
theorem doorTab {rest : List (String × DataW Unit)} {W : World} (h : laidMet Tryz.prog (("internal/strconv.uint64pow10", Lib.tabData .u64 Lib.pow10Tab) :: rest) W) : Lib.TabIs Tryz.prog W "internal/strconv.uint64pow10" .u64 Lib.pow10Tab :=
  Lib.tabIs_of_head (g := 5) (by kernel_rfl) (by kernel_rfl) Tryz.underlying162 Tryz.underlying75 (by kernel_rfl) (by kernel_rfl) h
end Go.Proofs.YtmcldkobejhaeaaGreatDoor.My
namespace Go.Proofs.YtmcldkobejhaeaaGreatDoor.My
open Go.RowKit Go.Proofs.YtmcldkobejhaeaaGreatDoorW.PrintWords Go.Proofs.YtmcldkobejhaeaaGreatDoorW.PrintLast Go.Proofs.YtmcldkobejhaeaaGreatDoorW.PrintMore
attribute [local go_sem] max2_int min2_int max_two min_two max_three min_three max_four min_four
set_option linter.unusedVariables false
set_option linter.unusedSimpArgs false
def strconv_Itoa_115.f (a0 : Int) : Option (ByteArray) := if -9223372036854775808 ≤ a0 ∧ a0 ≤ 9223372036854775807 then some ⟨(Lib.itoa a0).toArray⟩ else none
theorem strconv_Itoa_115.calls (es : Bool) (a0 : Int) (r : ByteArray) (w : World) (ht : Door es w) (h : strconv_Itoa_115.f a0 = some r) :
  Calls Tryz.prog 115 #[.int .i64 a0] w fun e w' => e = .returned (.string r) ∧ Below w.heap.size w w' := by
 unfold strconv_Itoa_115.f at h
 split at h
 ·rename_i c
  injection h with h
  subst h
  refine (Tryz.strconv_Itoa a0 c.1 c.2 w ht.tab).mono ?_
  rintro e w' ⟨rfl, k, os, rfl⟩
  exact ⟨rfl, Lib.below_grow _ _ (Nat.le_refl _) _ _⟩
 ·cases h

def impl_pairOf.f (a0 : Int) (a1 : Int) : Option (ByteArray) := if a0 = a1 then ((strconv_Itoa_115.f a0).bind fun t301 => (some t301)) else ((strconv_Itoa_115.f a0).bind fun t302 => (if t302.size + 1 ≤ 9223372036854775807 then ((strconv_Itoa_115.f a1).bind fun t303 => (if (t302 ++ (⟨#[44]⟩ : ByteArray)).size + t303.size ≤ 9223372036854775807 then (some ((t302 ++ (⟨#[44]⟩ : ByteArray)) ++ t303)) else (none))) else (none)))
set_option maxHeartbeats 8000000 in
set_option maxRecDepth 100000 in
theorem impl_pairOf.calls (es : Bool) (a0 : Int) (a1 : Int) (r : ByteArray) (w : World) (ht : Door es w) (h : impl_pairOf.f a0 a1 = some r) :
  Calls Tryz.prog 89 #[.int .i64 a0, .int .i64 a1] w fun e w' => e = .returned (.string r) ∧ Below w.heap.size w w' := by
 have HT := am ht
 clear ht
 have HB := am (Below.refl w.heap.size w)
 have H := h
 clear h
 unfold impl_pairOf.f at H
 by_cases c3 : a0 = a1
 ·rw [if_pos c3] at H
  have c3b0 : (a0 == a1) = true := beq_iff_eq.mpr c3
  have c3b1 : (a0 != a1) = false := bne_eq_false_iff_eq.mpr c3
  clear c3
  replace H := Option.bind_eq_some_iff.mp H
  obtain ⟨t301, A40, H⟩ := H
  replace H : (some t301) = some r := H
  have A4 := am A40
  clear A40
  obtain rfl := Option.some.inj H
  go_enter Tryz.func89, Tryz.ntmps89
  go_wp2_with (((with_reducible refine gateC (f := 115) rfl ?_); refine goesL_ (some 9) rfl rfl Tryz.func115 (by kernel_rfl) rfl #[.int .i64 a0] rfl zm ?_; (with_reducible refine (strconv_Itoa_115.calls es a0 t301 _ ?sideT A4.out).mono ?_); (case sideT => exact Door.below HT.out zb); rintro e w5 ⟨rfl, hb⟩; refine ⟨_, rfl, ?_⟩; replace HB := am (below_step zb hb); (try clear hb)))
  go_ret
  exact ⟨by rfl, zb⟩
 ·rw [if_neg c3] at H
  have c3b0 : (a0 == a1) = false := beq_eq_false_iff_ne.mpr c3
  have c3b1 : (a0 != a1) = true := bne_iff_ne.mpr c3
  replace H := Option.bind_eq_some_iff.mp H
  obtain ⟨t302, A60, H⟩ := H
  replace H : (if t302.size + 1 ≤ 9223372036854775807 then ((strconv_Itoa_115.f a1).bind fun t303 => (if (t302 ++ (⟨#[44]⟩ : ByteArray)).size + t303.size ≤ 9223372036854775807 then (some ((t302 ++ (⟨#[44]⟩ : ByteArray)) ++ t303)) else (none))) else (none)) = some r := H
  have A6 := am A60
  clear A60
  obtain ⟨c7, H⟩ := itn H
  have c7b0 := eq_true c7
  have c7b1 := decide_eq_true c7
  try have c7b2 : (9223372036854775807 < t302.size + 1) = False := eq_false (Nat.not_lt.2 c7)
  replace H := Option.bind_eq_some_iff.mp H
  obtain ⟨t303, A80, H⟩ := H
  replace H : (if (t302 ++ (⟨#[44]⟩ : ByteArray)).size + t303.size ≤ 9223372036854775807 then (some ((t302 ++ (⟨#[44]⟩ : ByteArray)) ++ t303)) else (none)) = some r := H
  have A8 := am A80
  clear A80
  obtain ⟨c9, H⟩ := itn H
  have c9b0 := eq_true c9
  have c9b1 := decide_eq_true c9
  try have c9b2 : (9223372036854775807 < (t302 ++ (⟨#[44]⟩ : ByteArray)).size + t303.size) = False := eq_false (Nat.not_lt.2 c9)
  try have c9b9 := c9
  try simp only [ByteArray.size_append, show (⟨#[44]⟩ : ByteArray).size = 1 from rfl] at c9b9
  try have c9b8 := eq_false (Nat.not_lt.2 c9b9)
  try replace c9b9 := eq_true c9b9
  obtain rfl := Option.some.inj H
  go_enter Tryz.func89, Tryz.ntmps89
  go_wp2_with (first | ((with_reducible refine gateC (f := 115) rfl ?_); refine goesL_ (some 11) rfl rfl Tryz.func115 (by kernel_rfl) rfl #[.int .i64 a0] rfl zm ?_; (with_reducible refine (strconv_Itoa_115.calls es a0 t302 _ ?sideT A6.out).mono ?_); (case sideT => exact Door.below HT.out zb); rintro e w10 ⟨rfl, hb⟩; refine ⟨_, rfl, ?_⟩; replace HB := am (below_step zb hb); (try clear hb)) | ((with_reducible refine gateC (f := 115) rfl ?_); refine goesL_ (some 14) rfl rfl Tryz.func115 (by kernel_rfl) rfl #[.int .i64 a1] rfl zm ?_; (with_reducible refine (strconv_Itoa_115.calls es a1 t303 _ ?sideT A8.out).mono ?_); (case sideT => exact Door.below HT.out zb); rintro e w11 ⟨rfl, hb⟩; refine ⟨_, rfl, ?_⟩; replace HB := am (below_step zb hb); (try clear hb)))
  go_ret
  exact ⟨by rfl, zb⟩

def impl_stepText.j0 : Nat → ByteArray → ByteArray → Int → Int → List ByteArray → Int → Int → List ByteArray → Option (ByteArray)
 | 0, _, _, _, _, _, _, _, _ => none
 | k + 1, x3, x4, x308000, x308001, x308002, x308003, x308004, x308005 => (impl_pairOf.f x308000 x308001).bind fun t308 => (if t308.size + x3.size ≤ 9223372036854775807 then ((impl_pairOf.f x308003 x308004).bind fun t309 => (if (t308 ++ x3).size + t309.size ≤ 9223372036854775807 then (if ((t308 ++ x3) ++ t309).size + 1 ≤ 9223372036854775807 then ((impl_allShown.f k (⟨#[60, 32]⟩ : ByteArray) x308002).bind fun t310 => (if (((t308 ++ x3) ++ t309) ++ (⟨#[10]⟩ : ByteArray)).size + t310.size ≤ 9223372036854775807 then (if ((((t308 ++ x3) ++ t309) ++ (⟨#[10]⟩ : ByteArray)) ++ t310).size + x4.size ≤ 9223372036854775807 then ((impl_allShown.f k (⟨#[62, 32]⟩ : ByteArray) x308005).bind fun t311 => (if (((((t308 ++ x3) ++ t309) ++ (⟨#[10]⟩ : ByteArray)) ++ t310) ++ x4).size + t311.size ≤ 9223372036854775807 then (some ((((((t308 ++ x3) ++ t309) ++ (⟨#[10]⟩ : ByteArray)) ++ t310) ++ x4) ++ t311)) else (none))) else (none)) else (none))) else (none)) else (none))) else (none))
def impl_stepText.f (k : Nat) (a0_0 : Int) (a0_1 : Int) (l0_2 : List ByteArray) (a0_3 : Int) (a0_4 : Int) (l0_5 : List ByteArray) : Option (ByteArray) := if (l0_2.length : Int) = 0 then (impl_stepText.j0 k (⟨#[97]⟩ : ByteArray) (⟨#[]⟩ : ByteArray) a0_0 a0_1 l0_2 a0_3 a0_4 l0_5) else (if (l0_5.length : Int) = 0 then (impl_stepText.j0 k (⟨#[100]⟩ : ByteArray) (⟨#[]⟩ : ByteArray) a0_0 a0_1 l0_2 a0_3 a0_4 l0_5) else (impl_stepText.j0 k (⟨#[99]⟩ : ByteArray) (⟨#[45, 45, 45, 10]⟩ : ByteArray) a0_0 a0_1 l0_2 a0_3 a0_4 l0_5))
def impl_stepText.T6 : Bool × List (List Nat × List Nat) := (true, [([], []), ([0], [0]), ([], []), ([2], [2]), ([1, 3], [1, 3]), ([], []), ([4, 5], [4, 5]), ([], []), ([7], [7]), ([], []), ([9], [9]), ([8, 10, 4], [8, 10]), ([6, 11], [6, 11]), ([12], [12]), ([], []), ([14], [14]), ([15, 11], [15]), ([13, 16], [13, 16]), ([], []), ([17, 18], [17, 18]), ([], []), ([20], [20]), ([21, 16], [21]), ([19, 22], [19, 22]), ([23, 22, 0, 1, 2, 3, 4, 5, 6, 7, 8, 9, 10, 11, 12, 13, 14, 15, 16, 17, 18, 19, 20, 21, 22, 23], [23])])
def impl_stepText.B6 : List Nat := [0, 1, 0, 4, 15, 0, 63, 0, 128, 0, 512, 1951, 4095, 8191, 0, 16384, 53151, 131071, 0, 524287, 0, 1048576, 3264415, 8388607, 16777215]
theorem impl_stepText.tab6 : rtab .any (opsOf Tryz.f62 6) = impl_stepText.T6 := by kernel_rfl
theorem impl_stepText.bits6 : waitsOk impl_stepText.T6.2 impl_stepText.B6 = true := by kernel_rfl
set_option maxHeartbeats 8000000 in
set_option maxRecDepth 100000 in
theorem impl_stepText.calls (es : Bool) (k : Nat) (a0_0 : Int) (a0_1 : Int) (A0_2 : Option Addr) (c0_2 : Nat) (l0_2 : List ByteArray) (a0_3 : Int) (a0_4 : Int) (A0_5 : Option Addr) (c0_5 : Nat) (l0_5 : List ByteArray) (r : ByteArray) (w : World) (ht : Door es w) (hr0_2 : Kd.C Kd.string w A0_2 l0_2.length l0_2) (hc0_2 : l0_2.length ≤ c0_2) (hr0_5 : Kd.C Kd.string w A0_5 l0_5.length l0_5) (hc0_5 : l0_5.length ≤ c0_5) (h : impl_stepText.f k a0_0 a0_1 l0_2 a0_3 a0_4 l0_5 = some r) :
  Calls Tryz.prog 62 #[.agg #[.int .i64 a0_0, .int .i64 a0_1, .slice A0_2 l0_2.length c0_2, .int .i64 a0_3, .int .i64 a0_4, .slice A0_5 l0_5.length c0_5]] w fun e w' => e = .returned (.string r) ∧ Below w.heap.size w w' := by
 have HT := am ht
 clear ht
 have hu52 := Tryz.underlying52
 have HR0_2 := am hr0_2
 have HC0_2 := am hc0_2
 clear hr0_2 hc0_2
 have HR0_5 := am hr0_5
 have HC0_5 := am hc0_5
 clear hr0_5 hc0_5
 have HB := am (Below.refl w.heap.size w)
 have H := h
 clear h
 unfold impl_stepText.f at H
 have HC2 := am H
 clear H
 go_enter Tryz.func62, Tryz.ntmps62
 go_upto_block 0 with (((with_reducible refine gate_dst (N := 1) rfl ?_); refine box_event ?hg (N := 1) ?hd (cs := #[.int .i64 a0_0, .int .i64 a0_1, .slice A0_2 l0_2.length c0_2, .int .i64 a0_3, .int .i64 a0_4, .slice A0_5 l0_5.length c0_5]) (t := 52) ?hr ?_; (case hd => rfl); (case hg => rfl); (case hr => (go_simp; done)); intro gb307 hg w3 hbox hb; have BK307 := am (hbox); have GW307 := am ((by rw [hg]; exact (below_size zb) : w.heap.size ≤ gb307)); have GE307 := am ((by rw [hg]; exact (below_size zb) : w.heap.size ≤ gb307)); replace HB := am (below_step zb hb); clear hb hbox hg))
 go_cut [3, 4] (fun v3 v4 wc => ∃ (kq : Nat) (x3_1 : ByteArray) (x4_1 : ByteArray), v3 = .string x3_1 ∧ v4 = .string x4_1 ∧ Aside0 (impl_stepText.j0 kq x3_1 x4_1 a0_0 a0_1 l0_2 a0_3 a0_4 l0_5 = some r) ∧ Aside0 (kq ≤ k) ∧ Aside0 (wc.heap[gb307]? = some (.cells #[.int .i64 a0_0, .int .i64 a0_1, (.slice A0_2 l0_2.length c0_2), .int .i64 a0_3, .int .i64 a0_4, (.slice A0_5 l0_5.length c0_5)] 52 (0, 0))) ∧ Aside0 (Below w.heap.size w wc))
 case first =>
  have H := HC2.out
  clear HC2
  by_cases c4 : (l0_2.length : Int) = 0
  ·rw [if_pos c4] at H
   have c4b0 : ((l0_2.length : Int) == 0) = true := beq_iff_eq.mpr c4
   have c4b1 : ((l0_2.length : Int) != 0) = false := bne_eq_false_iff_eq.mpr c4
   clear c4
   (skip)
   have H' := am H
   clear H
   obtain ⟨hcz5_0, hcz5_1, hcz5_2, hcz5_3, hcz5_4, hcz5_5⟩ := cz6 BK307.out
   obtain ⟨hfz5_0, hfz5_1, hfz5_2, hfz5_3, hfz5_4, hfz5_5⟩ := fz6 BK307.out
   go_wp2
   go_meet
   case rel => exact ⟨_, ((⟨#[97]⟩ : ByteArray)), ((⟨#[]⟩ : ByteArray)), zf, zf, H', ⟨by omega⟩, ⟨zk BK307.out⟩, ⟨zw⟩⟩
  ·rw [if_neg c4] at H
   have c4b0 : ((l0_2.length : Int) == 0) = false := beq_eq_false_iff_ne.mpr c4
   have c4b1 : ((l0_2.length : Int) != 0) = true := bne_iff_ne.mpr c4
   have c4b2 : ¬ (l0_2 = []) := fun h_ => c4 (by rw [h_]; rfl)
   (skip)
   by_cases c6 : (l0_5.length : Int) = 0
   ·rw [if_pos c6] at H
    have c6b0 : ((l0_5.length : Int) == 0) = true := beq_iff_eq.mpr c6
    have c6b1 : ((l0_5.length : Int) != 0) = false := bne_eq_false_iff_eq.mpr c6
    clear c6
    have H' := am H
    clear H
    obtain ⟨hcz7_0, hcz7_1, hcz7_2, hcz7_3, hcz7_4, hcz7_5⟩ := cz6 BK307.out
    obtain ⟨hfz7_0, hfz7_1, hfz7_2, hfz7_3, hfz7_4, hfz7_5⟩ := fz6 BK307.out
    go_wp2
    go_meet
    case rel => exact ⟨_, ((⟨#[100]⟩ : ByteArray)), ((⟨#[]⟩ : ByteArray)), zf, zf, H', ⟨by omega⟩, ⟨zk BK307.out⟩, ⟨zw⟩⟩
   ·rw [if_neg c6] at H
    have c6b0 : ((l0_5.length : Int) == 0) = false := beq_eq_false_iff_ne.mpr c6
    have c6b1 : ((l0_5.length : Int) != 0) = true := bne_iff_ne.mpr c6
    have c6b2 : ¬ (l0_5 = []) := fun h_ => c6 (by rw [h_]; rfl)
    have H' := am H
    clear H
    obtain ⟨hcz8_0, hcz8_1, hcz8_2, hcz8_3, hcz8_4, hcz8_5⟩ := cz6 BK307.out
    obtain ⟨hfz8_0, hfz8_1, hfz8_2, hfz8_3, hfz8_4, hfz8_5⟩ := fz6 BK307.out
    go_wp2
    go_meet
    case rel => exact ⟨_, ((⟨#[99]⟩ : ByteArray)), ((⟨#[45, 45, 45, 10]⟩ : ByteArray)), zf, zf, H', ⟨by omega⟩, ⟨zk BK307.out⟩, ⟨zw⟩⟩
 case rest =>
  clear HC2
  obtain ⟨kq, x3_1, x4_1, rfl, rfl, HA, HJ1, BK307, HB⟩ := hcut
  cases kq with
  | zero => exact absurd HA.out (by simp [impl_stepText.j0])
  | succ kj1 =>
   have H := HA.out
   clear HA
   simp only [impl_stepText.j0] at H
   replace H := Option.bind_eq_some_iff.mp H
   obtain ⟨t308, A90, H⟩ := H
   replace H : (if t308.size + x3_1.size ≤ 9223372036854775807 then ((impl_pairOf.f a0_3 a0_4).bind fun t309 => (if (t308 ++ x3_1).size + t309.size ≤ 9223372036854775807 then (if ((t308 ++ x3_1) ++ t309).size + 1 ≤ 9223372036854775807 then ((impl_allShown.f kj1 (⟨#[60, 32]⟩ : ByteArray) l0_2).bind fun t310 => (if (((t308 ++ x3_1) ++ t309) ++ (⟨#[10]⟩ : ByteArray)).size + t310.size ≤ 9223372036854775807 then (if ((((t308 ++ x3_1) ++ t309) ++ (⟨#[10]⟩ : ByteArray)) ++ t310).size + x4_1.size ≤ 9223372036854775807 then ((impl_allShown.f kj1 (⟨#[62, 32]⟩ : ByteArray) l0_5).bind fun t311 => (if (((((t308 ++ x3_1) ++ t309) ++ (⟨#[10]⟩ : ByteArray)) ++ t310) ++ x4_1).size + t311.size ≤ 9223372036854775807 then (some ((((((t308 ++ x3_1) ++ t309) ++ (⟨#[10]⟩ : ByteArray)) ++ t310) ++ x4_1) ++ t311)) else (none))) else (none)) else (none))) else (none)) else (none))) else (none)) = some r := H
   have A9 := am A90
   clear A90
   obtain ⟨c10, H⟩ := itn H
   have c10b0 := eq_true c10
   have c10b1 := decide_eq_true c10
   try have c10b2 : (9223372036854775807 < t308.size + x3_1.size) = False := eq_false (Nat.not_lt.2 c10)
   replace H := Option.bind_eq_some_iff.mp H
   obtain ⟨t309, A110, H⟩ := H
   replace H : (if (t308 ++ x3_1).size + t309.size ≤ 9223372036854775807 then (if ((t308 ++ x3_1) ++ t309).size + 1 ≤ 9223372036854775807 then ((impl_allShown.f kj1 (⟨#[60, 32]⟩ : ByteArray) l0_2).bind fun t310 => (if (((t308 ++ x3_1) ++ t309) ++ (⟨#[10]⟩ : ByteArray)).size + t310.size ≤ 9223372036854775807 then (if ((((t308 ++ x3_1) ++ t309) ++ (⟨#[10]⟩ : ByteArray)) ++ t310).size + x4_1.size ≤ 9223372036854775807 then ((impl_allShown.f kj1 (⟨#[62, 32]⟩ : ByteArray) l0_5).bind fun t311 => (if (((((t308 ++ x3_1) ++ t309) ++ (⟨#[10]⟩ : ByteArray)) ++ t310) ++ x4_1).size + t311.size ≤ 9223372036854775807 then (some ((((((t308 ++ x3_1) ++ t309) ++ (⟨#[10]⟩ : ByteArray)) ++ t310) ++ x4_1) ++ t311)) else (none))) else (none)) else (none))) else (none)) else (none)) = some r := H
   have A11 := am A110
   clear A110
   obtain ⟨c12, H⟩ := itn H
   have c12b0 := eq_true c12
   have c12b1 := decide_eq_true c12
   try have c12b2 : (9223372036854775807 < (t308 ++ x3_1).size + t309.size) = False := eq_false (Nat.not_lt.2 c12)
   try have c12b9 := c12
   try simp only [ByteArray.size_append] at c12b9
   try have c12b8 := eq_false (Nat.not_lt.2 c12b9)
   try replace c12b9 := eq_true c12b9
   obtain ⟨c13, H⟩ := itn H
   have c13b0 := eq_true c13
   have c13b1 := decide_eq_true c13
   try have c13b2 : (9223372036854775807 < ((t308 ++ x3_1) ++ t309).size + 1) = False := eq_false (Nat.not_lt.2 c13)
   try have c13b9 := c13
   try simp only [ByteArray.size_append] at c13b9
   try have c13b8 := eq_false (Nat.not_lt.2 c13b9)
   try replace c13b9 := eq_true c13b9
   replace H := Option.bind_eq_some_iff.mp H
   obtain ⟨t310, A140, H⟩ := H
   replace H : (if (((t308 ++ x3_1) ++ t309) ++ (⟨#[10]⟩ : ByteArray)).size + t310.size ≤ 9223372036854775807 then (if ((((t308 ++ x3_1) ++ t309) ++ (⟨#[10]⟩ : ByteArray)) ++ t310).size + x4_1.size ≤ 9223372036854775807 then ((impl_allShown.f kj1 (⟨#[62, 32]⟩ : ByteArray) l0_5).bind fun t311 => (if (((((t308 ++ x3_1) ++ t309) ++ (⟨#[10]⟩ : ByteArray)) ++ t310) ++ x4_1).size + t311.size ≤ 9223372036854775807 then (some ((((((t308 ++ x3_1) ++ t309) ++ (⟨#[10]⟩ : ByteArray)) ++ t310) ++ x4_1) ++ t311)) else (none))) else (none)) else (none)) = some r := H
   have A14 := am A140
   clear A140
   obtain ⟨c15, H⟩ := itn H
   have c15b0 := eq_true c15
   have c15b1 := decide_eq_true c15
   try have c15b2 : (9223372036854775807 < (((t308 ++ x3_1) ++ t309) ++ (⟨#[10]⟩ : ByteArray)).size + t310.size) = False := eq_false (Nat.not_lt.2 c15)
   try have c15b9 := c15
   try simp only [ByteArray.size_append, show (⟨#[10]⟩ : ByteArray).size = 1 from rfl] at c15b9
   try have c15b8 := eq_false (Nat.not_lt.2 c15b9)
   try replace c15b9 := eq_true c15b9
   obtain ⟨c16, H⟩ := itn H
   have c16b0 := eq_true c16
   have c16b1 := decide_eq_true c16
   try have c16b2 : (9223372036854775807 < ((((t308 ++ x3_1) ++ t309) ++ (⟨#[10]⟩ : ByteArray)) ++ t310).size + x4_1.size) = False := eq_false (Nat.not_lt.2 c16)
   try have c16b9 := c16
   try simp only [ByteArray.size_append, show (⟨#[10]⟩ : ByteArray).size = 1 from rfl] at c16b9
   try have c16b8 := eq_false (Nat.not_lt.2 c16b9)
   try replace c16b9 := eq_true c16b9
   replace H := Option.bind_eq_some_iff.mp H
   obtain ⟨t311, A170, H⟩ := H
   replace H : (if (((((t308 ++ x3_1) ++ t309) ++ (⟨#[10]⟩ : ByteArray)) ++ t310) ++ x4_1).size + t311.size ≤ 9223372036854775807 then (some ((((((t308 ++ x3_1) ++ t309) ++ (⟨#[10]⟩ : ByteArray)) ++ t310) ++ x4_1) ++ t311)) else (none)) = some r := H
   have A17 := am A170
   clear A170
   obtain ⟨c18, H⟩ := itn H
   have c18b0 := eq_true c18
   have c18b1 := decide_eq_true c18
   try have c18b2 : (9223372036854775807 < (((((t308 ++ x3_1) ++ t309) ++ (⟨#[10]⟩ : ByteArray)) ++ t310) ++ x4_1).size + t311.size) = False := eq_false (Nat.not_lt.2 c18)
   try have c18b9 := c18
   try simp only [ByteArray.size_append, show (⟨#[10]⟩ : ByteArray).size = 1 from rfl] at c18b9
   try have c18b8 := eq_false (Nat.not_lt.2 c18b9)
   try replace c18b9 := eq_true c18b9
   obtain rfl := Option.some.inj H
   try go_wp2
   replace BK307 := am (blk_drew BK307.out)
   replace HB := am (below_drew1 HB.out)
   refine start_ (n := 25) (S := fun w' => w'.cell? ⟨gb307, 0, none⟩ = some (.int .i64 a0_0) ∧ w'.cell? ⟨gb307, 1, none⟩ = some (.int .i64 a0_1) ∧ w'.cell? ⟨gb307, 2, none⟩ = some (.slice A0_2 l0_2.length c0_2) ∧ w'.cell? ⟨gb307, 3, none⟩ = some (.int .i64 a0_3) ∧ w'.cell? ⟨gb307, 4, none⟩ = some (.int .i64 a0_4) ∧ w'.cell? ⟨gb307, 5, none⟩ = some (.slice A0_5 l0_5.length c0_5)) (ds := []) #[O,O,O,O,O,O,O,O,O,O,O,O,O,O,O,O,O,O,O,O,O,O,O,O,O] (by kernel_rfl) rfl rfl ⟨(blk_cell BK307.out 0).trans rfl, (blk_cell BK307.out 1).trans rfl, (blk_cell BK307.out 2).trans rfl, (blk_cell BK307.out 3).trans rfl, (blk_cell BK307.out 4).trans rfl, (blk_cell BK307.out 5).trans rfl⟩ (fun hHeld => ?_); refine with_tabW impl_stepText.tab6 impl_stepText.bits6 (fun HT_ HW_ => ?_)
   generalize wc.drew = w19 at BK307 HB hHeld ⊢
   refine pu 0 (some 15) ?_
   refine pu 2 (some 17) ?_
   refine pu 5 (some 20) ?_
   refine pu 7 (some 22) ?_
   refine pu 9 (some 24) ?_
   refine pu 14 (some 29) ?_
   refine pu 18 (some 33) ?_
   refine pu 20 (some 35) ?_
   refine ta 1 (some 16) ?_
   refine ta 3 (some 18) ?_
   refine ta 8 (some 23) ?_
   refine ta 10 (some 25) ?_
   refine ta 15 (some 30) ?_
   refine ta 21 (some 36) ?_
   refine one_ (i := 4) (N := some 19) #[Y,Y,Y,Y,Y,Y,O,Y,Y,Y,Y,O,O,O,Y,Y,O,O,Y,O,Y,Y,O,O,O] rfl rfl (one_of HT_.out (by kernel_rfl)) (by decide) (fun K hK => ?_)
   refine goes_ Tryz.func89 (by kernel_rfl) rfl #[.int .i64 a0_0, .int .i64 a0_1] (by rfl) rfl rfl zm ?_
   with_reducible refine (impl_pairOf.calls es a0_0 a0_1 t308 _ ?sideT A9.out).mono ?_
   (case sideT => exact Door.below HT.out zw)
   rintro e w20 ⟨rfl, hb⟩
   refine ⟨_, rfl, ?_⟩
   replace BK307 := am (blk_below (g := gb307) (o := .cells #[.int .i64 a0_0, .int .i64 a0_1, .slice A0_2 l0_2.length c0_2, .int .i64 a0_3, .int .i64 a0_4, .slice A0_5 l0_5.length c0_5] 52 (0, 0)) (zk BK307.out) hb)
   replace HB := am (below_step zw hb)
   (try clear hb)
   refine hK.out _ _ ⟨(blk_cell BK307.out 0).trans rfl, (blk_cell BK307.out 1).trans rfl, (blk_cell BK307.out 2).trans rfl, (blk_cell BK307.out 3).trans rfl, (blk_cell BK307.out 4).trans rfl, (blk_cell BK307.out 5).trans rfl⟩ (fun hHeld => ?_)
   clear hK K
   refine norm_ (a' := ?_) ?_ ?_
   rotate_left
   ·show Act.put _ (some 19) _ = _
    simp only [Act.put,qa,qb,qc,i64_w,i32_w]
    rfl
   refine pu 6 (some 21) ?_
   refine one_ (i := 11) (N := some 26) #[Y,Y,Y,Y,Y,Y,Y,Y,Y,Y,Y,Y,O,O,Y,Y,O,O,Y,O,Y,Y,O,O,O] rfl rfl (one_of HT_.out (by kernel_rfl)) (by decide) (fun K hK => ?_)
   refine goes_ Tryz.func89 (by kernel_rfl) rfl #[.int .i64 a0_3, .int .i64 a0_4] (by rfl) rfl rfl zm ?_
   with_reducible refine (impl_pairOf.calls es a0_3 a0_4 t309 _ ?sideT A11.out).mono ?_
   (case sideT => exact Door.below HT.out zw)
   rintro e w21 ⟨rfl, hb⟩
   refine ⟨_, rfl, ?_⟩
   replace BK307 := am (blk_below (g := gb307) (o := .cells #[.int .i64 a0_0, .int .i64 a0_1, .slice A0_2 l0_2.length c0_2, .int .i64 a0_3, .int .i64 a0_4, .slice A0_5 l0_5.length c0_5] 52 (0, 0)) (zk BK307.out) hb)
   replace HB := am (below_step zw hb)
   (try clear hb)
   refine hK.out _ _ ⟨(blk_cell BK307.out 0).trans rfl, (blk_cell BK307.out 1).trans rfl, (blk_cell BK307.out 2).trans rfl, (blk_cell BK307.out 3).trans rfl, (blk_cell BK307.out 4).trans rfl, (blk_cell BK307.out 5).trans rfl⟩ (fun hHeld => ?_)
   clear hK K
   refine norm_ (a' := ?_) ?_ ?_
   rotate_left
   ·show Act.put _ (some 26) _ = _
    simp only [Act.put,qa,qb,qc,i64_w,i32_w]
    rfl
   refine pu 12 (some 27) ?_
   refine pu 13 (some 28) ?_
   refine one_ (i := 16) (N := some 31) #[Y,Y,Y,Y,Y,Y,Y,Y,Y,Y,Y,Y,Y,Y,Y,Y,Y,O,Y,O,Y,Y,O,O,O] rfl rfl (one_of HT_.out (by kernel_rfl)) (by decide) (fun K hK => ?_)
   refine goes_ Tryz.func90 (by kernel_rfl) rfl #[.string (⟨#[60, 32]⟩ : ByteArray), .slice A0_2 l0_2.length c0_2] (by rfl) rfl rfl zm ?_
   with_reducible refine (impl_allShown.calls kj1 (⟨#[60, 32]⟩ : ByteArray) _ _ l0_2 t310 _ ?side1 ?side2 A14.out).mono ?_
   (case side1 => exact zq (Kd.C_below HR0_2.out HB.out))
   (case side2 => exact HC0_2.out)
   rintro e w' ⟨rfl, ⟨nd, rfl⟩⟩
   refine ⟨_, rfl, ?_⟩
   refine hK.out _ _ ⟨(blk_cell BK307.out 0).trans rfl, (blk_cell BK307.out 1).trans rfl, (blk_cell BK307.out 2).trans rfl, (blk_cell BK307.out 3).trans rfl, (blk_cell BK307.out 4).trans rfl, (blk_cell BK307.out 5).trans rfl⟩ (fun hHeld => ?_)
   clear hK K
   refine norm_ (a' := ?_) ?_ ?_
   rotate_left
   ·show Act.put _ (some 31) _ = _
    simp only [Act.put,qa,qb,qc,i64_w,i32_w]
    rfl
   refine pu 17 (some 32) ?_
   refine pu 19 (some 34) ?_
   refine one_ (i := 22) (N := some 37) #[Y,Y,Y,Y,Y,Y,Y,Y,Y,Y,Y,Y,Y,Y,Y,Y,Y,Y,Y,Y,Y,Y,Y,O,O] rfl rfl (one_of HT_.out (by kernel_rfl)) (by decide) (fun K hK => ?_)
   refine goes_ Tryz.func90 (by kernel_rfl) rfl #[.string (⟨#[62, 32]⟩ : ByteArray), .slice A0_5 l0_5.length c0_5] (by rfl) rfl rfl zm ?_
   with_reducible refine (impl_allShown.calls kj1 (⟨#[62, 32]⟩ : ByteArray) _ _ l0_5 t311 _ ?side1 ?side2 A17.out).mono ?_
   (case side1 => repeat (exact (Kd.C_below HR0_5.out zw)))
   (case side2 => exact HC0_5.out)
   rintro e w' ⟨rfl, ⟨nd, rfl⟩⟩
   refine ⟨_, rfl, ?_⟩
   refine hK.out _ _ ⟨(blk_cell BK307.out 0).trans rfl, (blk_cell BK307.out 1).trans rfl, (blk_cell BK307.out 2).trans rfl, (blk_cell BK307.out 3).trans rfl, (blk_cell BK307.out 4).trans rfl, (blk_cell BK307.out 5).trans rfl⟩ (fun hHeld => ?_)
   clear hK K
   refine norm_ (a' := ?_) ?_ ?_
   rotate_left
   ·show Act.put _ (some 37) _ = _
    simp only [Act.put,qa,qb,qc,i64_w,i32_w]
    rfl
   refine pu 23 (some 38) ?_
   refine pu 24 (some 2) ?_
   refine done_ (done_of HT_.out (by kernel_rfl)) ?_
   try go_wp2
   go_ret
   exact ⟨by rfl, zw⟩

def impl_StepsText.l0 : Nat → ByteArray → List (S52) → Int → Int → Option (ByteArray × Bool)
 | 0, _, _, _, _ => none
 | k + 1, x4, x10, x11, x12 => if x12 < x11 then (if 0 ≤ x12 then (if x12 < (x10.length : Int) then ((impl_stepText.f k ((T52 x10 x12).f0) ((T52 x10 x12).f1) ((T52 x10 x12).f2) ((T52 x10 x12).f3) ((T52 x10 x12).f4) ((T52 x10 x12).f5)).bind fun t315 => (if x4.size + t315.size ≤ 9223372036854775807 then (impl_StepsText.l0 k (x4 ++ t315) x10 x11 (wrap64 (x12 + 1))) else (none))) else (none)) else (none)) else ((impl_short.f x4).bind fun bt316 => (some (bt316.1, bt316.2)))
def impl_StepsText.f (k : Nat) (l0 : List (S52)) : Option (ByteArray × Bool) := (impl_goodSteps.f k l0).bind fun t312 => (if t312 = true then (impl_StepsText.l0 k (⟨#[]⟩ : ByteArray) l0 (l0.length : Int) 0) else (some ((⟨#[]⟩ : ByteArray), false)))
set_option maxHeartbeats 8000000 in
set_option maxRecDepth 100000 in
theorem impl_StepsText.calls (es : Bool) (k : Nat) (A0 : Option Addr) (c0 : Nat) (l0 : List (S52)) (r1 : ByteArray) (r2 : Bool) (w : World) (ht : Door es w) (hr0 : Kd.C k52 w A0 l0.length l0) (hc0 : l0.length ≤ c0) (h : impl_StepsText.f k l0 = some (r1, r2)) :
  Calls Tryz.prog 30 #[.slice A0 l0.length c0] w fun e w' => e = .returned (.tuple #[.string r1, .bool r2]) ∧ Below w.heap.size w w' := by
 have HT := am ht
 clear ht
 have hu52 := Tryz.underlying52
 have HR0 := am hr0
 have HC0 := am hc0
 clear hr0 hc0
 have HB := am (Below.refl w.heap.size w)
 have H := h
 clear h
 unfold impl_StepsText.f at H
 replace H := Option.bind_eq_some_iff.mp H
 obtain ⟨t312, A20, H⟩ := H
 replace H : (if t312 = true then (impl_StepsText.l0 k (⟨#[]⟩ : ByteArray) l0 (l0.length : Int) 0) else (some ((⟨#[]⟩ : ByteArray), false))) = some (r1, r2) := H
 have A2 := am A20
 clear A20
 by_cases c3 : t312 = true
 ·subst c3
  rw [if_pos rfl] at H
  have H' := am H
  clear H
  go_enter Tryz.func30, Tryz.ntmps30
  go_wp2_with (((with_reducible refine gateC (f := 33) rfl ?_); refine goesL_ (some 8) rfl rfl Tryz.func33 (by kernel_rfl) rfl #[.slice A0 l0.length c0] rfl zm ?_; (with_reducible refine (impl_goodSteps.calls k _ _ l0 true _ ?side1 ?side2 A2.out).mono ?_); (case side1 => exact zq HR0.out); (case side2 => exact HC0.out); rintro e w4 ⟨rfl, hb⟩; refine ⟨_, rfl, ?_⟩; replace HB := am (below_step zb hb); (try clear hb)))
  go_loopg [4, 12] k (fun kq v4 v12 w' => ∃ (x4_1 : ByteArray) (x12_1 : Int), v4 = .string x4_1 ∧ v12 = .int .i64 x12_1 ∧ Aside0 (impl_StepsText.l0 kq x4_1 l0 (l0.length : Int) x12_1 = some (r1, r2)) ∧ Aside0 (kq ≤ k) ∧ Aside0 (Below w.heap.size w w'))
  case atStart => exact ⟨((⟨#[]⟩ : ByteArray)), (0), zf, zf, H', ⟨Nat.le_refl _⟩, ⟨zb⟩⟩
  case round =>
   clear H'
   obtain ⟨x4_1, x12_1, rfl, rfl, HA, HK1, HB⟩ := hrel
   cases gk with
   | zero => exact absurd HA.out (by simp [impl_StepsText.l0])
   | succ k1 =>
    have H := HA.out
    clear HA
    simp only [impl_StepsText.l0] at H
    by_cases c5 : x12_1 < (l0.length : Int)
    ·rw [if_pos c5] at H
     have c5b0 : decide (x12_1 < (l0.length : Int)) = true := decide_eq_true c5
     clear c5
     obtain ⟨c6, H⟩ := itn H
     have c6b0 := decide_eq_true c6
     clear c6
     obtain ⟨c7, H⟩ := itn H
     have c7b0 := decide_eq_true c7
     clear c7
     replace H := Option.bind_eq_some_iff.mp H
     obtain ⟨t315, A80, H⟩ := H
     replace H : (if x4_1.size + t315.size ≤ 9223372036854775807 then (impl_StepsText.l0 k1 (x4_1 ++ t315) l0 (l0.length : Int) (wrap64 (x12_1 + 1))) else (none)) = some (r1, r2) := H
     have A8 := am A80
     clear A80
     obtain ⟨c9, H⟩ := itn H
     have c9b0 := eq_true c9
     have c9b1 := decide_eq_true c9
     try have c9b2 : (9223372036854775807 < x4_1.size + t315.size) = False := eq_false (Nat.not_lt.2 c9)
     have H' := am H
     clear H
     have p313 : 0 ≤ (x12_1 : Int) := oa
     have q313 : x12_1 < (l0.length : Int) := oa
     obtain ⟨ad313, A313_2, c313_2, A313_5, c313_5, e313, hx313_0, hx313_1, hx313_2, hx313_3, hx313_4, hx313_5, hl313_2, hi313_2, hl313_5, hi313_5⟩ := at_T52 HR0.out x12_1 p313 q313
     cases e313
     replace hx313_0 := bc HB.out hx313_0
     replace hx313_1 := bc HB.out hx313_1
     replace hx313_2 := bc HB.out hx313_2
     replace hx313_3 := bc HB.out hx313_3
     replace hx313_4 := bc HB.out hx313_4
     replace hx313_5 := bc HB.out hx313_5
     have HR313_2 := am hi313_2
     have HC313_2 := am hl313_2
     clear hi313_2 hl313_2
     have HR313_5 := am hi313_5
     have HC313_5 := am hl313_5
     clear hi313_5 hl313_5
     replace p313 := eq_true p313
     replace q313 := eq_true q313
     go_wp2_with (first | ((with_reducible refine gate_dst (N := 6) rfl ?_); refine box_event ?hg (N := 6) ?hd (cs := #[.int .i64 0, .int .i64 0, .slice none 0 0, .int .i64 0, .int .i64 0, .slice none 0 0]) (t := 52) ?hr ?_; (case hd => rfl); (case hg => rfl); (case hr => (go_simp; done)); intro gb314 hg w10 hbox hb; have BK314 := am (hbox); have GW314 := am ((by rw [hg]; exact (below_size zb) : w.heap.size ≤ gb314)); have GE314 := am ((by rw [hg]; exact (below_size zb) : w.heap.size ≤ gb314)); replace HB := am (below_step zb hb); clear hb hbox hg; obtain ⟨hcz11_0, hcz11_1, hcz11_2, hcz11_3, hcz11_4, hcz11_5⟩ := cz6 BK314.out; obtain ⟨hfz11_0, hfz11_1, hfz11_2, hfz11_3, hfz11_4, hfz11_5⟩ := fz6 BK314.out) | ((with_reducible refine gateC (f := 62) rfl ?_); refine goesL_ (some 18) rfl rfl Tryz.func62 (by kernel_rfl) rfl #[.agg #[.int .i64 ((T52 l0 x12_1).f0), .int .i64 ((T52 l0 x12_1).f1), .slice A313_2 ((T52 l0 x12_1).f2).length c313_2, .int .i64 ((T52 l0 x12_1).f3), .int .i64 ((T52 l0 x12_1).f4), .slice A313_5 ((T52 l0 x12_1).f5).length c313_5]] rfl zm ?_; (with_reducible refine (impl_stepText.calls es k1 ((T52 l0 x12_1).f0) ((T52 l0 x12_1).f1) _ _ ((T52 l0 x12_1).f2) ((T52 l0 x12_1).f3) ((T52 l0 x12_1).f4) _ _ ((T52 l0 x12_1).f5) t315 _ ?sideT ?side1 ?side2 ?side3 ?side4 A8.out).mono ?_); (case sideT => exact Door.below HT.out zw); (case side1 => exact Kd.C_below HR313_2.out zw); (case side2 => exact HC313_2.out); (case side3 => exact Kd.C_below HR313_5.out zw); (case side4 => exact HC313_5.out); rintro e w12 ⟨rfl, hb⟩; refine ⟨_, rfl, ?_⟩; replace BK314 := am (blk_below (g := gb314) (o := .cells #[.int .i64 ((T52 l0 x12_1).f0), .int .i64 ((T52 l0 x12_1).f1), .slice A313_2 ((T52 l0 x12_1).f2).length c313_2, .int .i64 ((T52 l0 x12_1).f3), .int .i64 ((T52 l0 x12_1).f4), .slice A313_5 ((T52 l0 x12_1).f5).length c313_5] 52 (0, 0)) (by refine blk_put (cs := #[.int .i64 ((T52 l0 x12_1).f0), .int .i64 ((T52 l0 x12_1).f1), .slice A313_2 ((T52 l0 x12_1).f2).length c313_2, .int .i64 ((T52 l0 x12_1).f3), .int .i64 ((T52 l0 x12_1).f4), .slice none 0 0]) ?_ 5 _ rfl; refine blk_put (cs := #[.int .i64 ((T52 l0 x12_1).f0), .int .i64 ((T52 l0 x12_1).f1), .slice A313_2 ((T52 l0 x12_1).f2).length c313_2, .int .i64 ((T52 l0 x12_1).f3), .int .i64 0, .slice none 0 0]) ?_ 4 _ rfl; refine blk_put (cs := #[.int .i64 ((T52 l0 x12_1).f0), .int .i64 ((T52 l0 x12_1).f1), .slice A313_2 ((T52 l0 x12_1).f2).length c313_2, .int .i64 0, .int .i64 0, .slice none 0 0]) ?_ 3 _ rfl; refine blk_put (cs := #[.int .i64 ((T52 l0 x12_1).f0), .int .i64 ((T52 l0 x12_1).f1), .slice none 0 0, .int .i64 0, .int .i64 0, .slice none 0 0]) ?_ 2 _ rfl; refine blk_put (cs := #[.int .i64 ((T52 l0 x12_1).f0), .int .i64 0, .slice none 0 0, .int .i64 0, .int .i64 0, .slice none 0 0]) ?_ 1 _ rfl; refine blk_put (cs := #[.int .i64 0, .int .i64 0, .slice none 0 0, .int .i64 0, .int .i64 0, .slice none 0 0]) ?_ 0 _ rfl; exact BK314.out) hb); replace HB := am (below_step zw hb); (try clear hb)))
     go_roundg k1
     case measure => have := HK1.out; omega
     case rel => exact ⟨(x4_1 ++ t315), (wrap64 (x12_1 + 1)), zf, zf, H', ⟨by have := HK1.out; omega⟩, ⟨zw⟩⟩
    ·rw [if_neg c5] at H
     have c5b0 : decide (x12_1 < (l0.length : Int)) = false := decide_eq_false c5
     clear c5
     replace H := Option.bind_eq_some_iff.mp H
     obtain ⟨⟨t316, t317⟩, A130, H⟩ := H
     dsimp only at H
     have A13 := am A130
     clear A130
     simp only [Option.some.injEq, Prod.mk.injEq] at H
     obtain ⟨rfl, rfl⟩ := H
     go_wp2_with (((with_reducible refine gateC (f := 63) rfl ?_); refine goesL_ (some 22) rfl rfl Tryz.func63 (by kernel_rfl) rfl #[.string x4_1] rfl zm ?_; (with_reducible refine (impl_short.calls x4_1 t316 t317 _ A13.out).mono ?_); rintro e w' ⟨rfl, ⟨nd, rfl⟩⟩; refine ⟨_, rfl, ?_⟩))
     go_ret2
     exact ⟨by rfl, zb⟩
 ·replace c3 := Bool.eq_false_iff.mpr c3
  subst c3
  rw [if_neg nofun] at H
  simp only [Option.some.injEq, Prod.mk.injEq] at H
  obtain ⟨rfl, rfl⟩ := H
  go_enter Tryz.func30, Tryz.ntmps30
  go_wp2_with (((with_reducible refine gateC (f := 33) rfl ?_); refine goesL_ (some 8) rfl rfl Tryz.func33 (by kernel_rfl) rfl #[.slice A0 l0.length c0] rfl zm ?_; (with_reducible refine (impl_goodSteps.calls k _ _ l0 false _ ?side1 ?side2 A2.out).mono ?_); (case side1 => exact zq HR0.out); (case side2 => exact HC0.out); rintro e w14 ⟨rfl, hb⟩; refine ⟨_, rfl, ?_⟩; replace HB := am (below_step zb hb); (try clear hb)))
  go_ret2
  exact ⟨by rfl, zb⟩

def impl_NormalText.f (k : Nat) (l0 : List ByteArray) (l1 : List (S60)) : Option (ByteArray × Bool) := (impl_NormalSteps.f k l0 l1).bind fun bt786 => (if bt786.2 = true then ((impl_StepsText.f k bt786.1).bind fun bt790 => (some (bt790.1, bt790.2))) else (some ((⟨#[]⟩ : ByteArray), false)))
set_option maxHeartbeats 8000000 in
set_option maxRecDepth 100000 in
theorem impl_NormalText.calls (es : Bool) (k : Nat) (A0 : Option Addr) (c0 : Nat) (l0 : List ByteArray) (A1 : Option Addr) (c1 : Nat) (l1 : List (S60)) (r1 : ByteArray) (r2 : Bool) (w : World) (ht : Door es w) (hr0 : Kd.C Kd.string w A0 l0.length l0) (hc0 : l0.length ≤ c0) (hr1 : Kd.C k60 w A1 l1.length l1) (hc1 : l1.length ≤ c1) (h : impl_NormalText.f k l0 l1 = some (r1, r2)) :
  Calls Tryz.prog 9 #[.slice A0 l0.length c0, .slice A1 l1.length c1] w fun e w' => e = .returned (.tuple #[.string r1, .bool r2]) ∧ Below w.heap.size w w' := by
 have HT := am ht
 clear ht
 have HR0 := am hr0
 have HC0 := am hc0
 clear hr0 hc0
 have HR1 := am hr1
 have HC1 := am hc1
 clear hr1 hc1
 have HB := am (Below.refl w.heap.size w)
 have H := h
 clear h
 unfold impl_NormalText.f at H
 replace H := Option.bind_eq_some_iff.mp H
 obtain ⟨⟨t786, t787⟩, A30, H⟩ := H
 dsimp only at H
 have A3 := am A30
 clear A30
 by_cases c4 : t787 = true
 ·subst c4
  rw [if_pos rfl] at H
  replace H := Option.bind_eq_some_iff.mp H
  obtain ⟨⟨t790, t791⟩, A50, H⟩ := H
  dsimp only at H
  have A5 := am A50
  clear A50
  simp only [Option.some.injEq, Prod.mk.injEq] at H
  obtain ⟨rfl, rfl⟩ := H
  go_enter Tryz.func9, Tryz.ntmps9
  go_wp2_with (first | ((with_reducible refine gateC (f := 7) rfl ?_); refine goesL_ (some 11) rfl rfl Tryz.func7 (by kernel_rfl) rfl #[.slice A0 l0.length c0, .slice A1 l1.length c1] rfl zm ?_; (with_reducible refine (impl_NormalSteps.calls k _ _ l0 _ _ l1 t786 true _ ?side1 ?side2 ?side3 ?side4 A3.out).mono ?_); (case side1 => exact zq HR0.out); (case side2 => exact HC0.out); (case side3 => exact zq HR1.out); (case side4 => exact HC1.out); rintro e w6 ⟨v788, rfl, ho0, hb⟩; refine ⟨_, rfl, ?_⟩; have HO789 := am (Kd.S_lower ho0 (below_size zb)); replace HB := am (below_step zb hb); (try clear hb); (try clear ho0); obtain ⟨Ao7, co7, eo7⟩ := Kd.S_slice HO789.out; subst eo7) | ((with_reducible refine gateC (f := 30) rfl ?_); refine goesL_ (some 17) rfl rfl Tryz.func30 (by kernel_rfl) rfl #[.slice Ao7 t786.length co7] rfl zm ?_; (with_reducible refine (impl_StepsText.calls es k _ _ t786 t790 t791 _ ?sideT ?side1 ?side2 A5.out).mono ?_); (case sideT => exact Door.below HT.out zb); (case side1 => repeat (exact (Kd.S_reads' HO789.out).2.2)); (case side2 => exact (Kd.S_reads' HO789.out).2.1); rintro e w8 ⟨rfl, hb⟩; refine ⟨_, rfl, ?_⟩; replace HO789 := am (Kd.S_below (zs HO789.out) hb); replace HB := am (below_step zb hb); (try clear hb)))
  go_ret2
  exact ⟨by rfl, zb⟩
 ·replace c4 := Bool.eq_false_iff.mpr c4
  subst c4
  rw [if_neg nofun] at H
  simp only [Option.some.injEq, Prod.mk.injEq] at H
  obtain ⟨rfl, rfl⟩ := H
  go_enter Tryz.func9, Tryz.ntmps9
  go_wp2_with (((with_reducible refine gateC (f := 7) rfl ?_); refine goesL_ (some 11) rfl rfl Tryz.func7 (by kernel_rfl) rfl #[.slice A0 l0.length c0, .slice A1 l1.length c1] rfl zm ?_; (with_reducible refine (impl_NormalSteps.calls k _ _ l0 _ _ l1 t786 false _ ?side1 ?side2 ?side3 ?side4 A3.out).mono ?_); (case side1 => exact zq HR0.out); (case side2 => exact HC0.out); (case side3 => exact zq HR1.out); (case side4 => exact HC1.out); rintro e w9 ⟨v788, rfl, ho0, hb⟩; refine ⟨_, rfl, ?_⟩; have HO789 := am (Kd.S_lower ho0 (below_size zb)); replace HB := am (below_step zb hb); (try clear hb); (try clear ho0)))
  go_ret2
  exact ⟨by rfl, zb⟩

def laws_big.f (l0 : List Int) (l1 : List Int) : Option (Bool) := if (l0.length : Int) > 1048576 then (some true) else (some (decide ((l1.length : Int) > (wrap64 (1048576 - (l0.length : Int))))))
set_option maxHeartbeats 8000000 in
set_option maxRecDepth 100000 in
theorem laws_big.calls (A0 : Option Addr) (c0 : Nat) (l0 : List Int) (A1 : Option Addr) (c1 : Nat) (l1 : List Int) (r : Bool) (w : World) (hr0 : Kd.C (Kd.int .u8) w A0 l0.length l0) (hc0 : l0.length ≤ c0) (hr1 : Kd.C (Kd.int .u8) w A1 l1.length l1) (hc1 : l1.length ≤ c1) (h : laws_big.f l0 l1 = some r) :
  Calls Tryz.prog 5 #[.slice A0 l0.length c0, .slice A1 l1.length c1] w fun e w' => e = .returned (.bool r) ∧ Drawn0 w w' := by
 have HR0 := am hr0
 have HC0 := am hc0
 clear hr0 hc0
 have HR1 := am hr1
 have HC1 := am hc1
 clear hr1 hc1
 have H : (if (l0.length : Int) > 1048576 then (some true) else (some (decide ((l1.length : Int) > (wrap64 (1048576 - (l0.length : Int))))))) = some r := h
 clear h
 by_cases c3 : (l0.length : Int) > 1048576
 ·rw [if_pos c3] at H
  have c3b0 : decide (1048576 < (l0.length : Int)) = true := decide_eq_true c3
  have c3b1 : decide (1048576 < l0.length) = true := decide_eq_true (by omega)
  clear c3
  obtain rfl := Option.some.inj H
  go_enter Tryz.func5, Tryz.ntmps5
  go_wp2
  go_ret
  exact ⟨by first | rfl | (simp; done) | (simp [*]; done), by repeat (first | exact Drawn0.refl _ | apply Drawn0.step)⟩
 ·rw [if_neg c3] at H
  have c3b0 : decide (1048576 < (l0.length : Int)) = false := decide_eq_false c3
  have c3b1 : decide (1048576 < l0.length) = false := decide_eq_false (by omega)
  clear c3
  obtain rfl := Option.some.inj H
  go_enter Tryz.func5, Tryz.ntmps5
  go_wp2
  go_ret
  exact ⟨by first | rfl | (simp; done) | (simp [*]; done), by repeat (first | exact Drawn0.refl _ | apply Drawn0.step)⟩

def laws_sameTexts.l0 : Nat → List ByteArray → List ByteArray → Int → Int → Option (Bool)
 | 0, _, _, _, _ => none
 | k + 1, x0, x1, x12, x13 => if x13 < x12 then (if 0 ≤ x13 then (if x13 < (x0.length : Int) then (if x13 < (x1.length : Int) then (if (rdOf ByteArray.empty x0 x13).toList = (rdOf ByteArray.empty x1 x13).toList then (laws_sameTexts.l0 k x0 x1 x12 (wrap64 (x13 + 1))) else (some false)) else (none)) else (none)) else (none)) else (some true)
def laws_sameTexts.f (k : Nat) (l0 : List ByteArray) (l1 : List ByteArray) : Option (Bool) := if (l0.length : Int) = (l1.length : Int) then (laws_sameTexts.l0 k l0 l1 (l0.length : Int) 0) else (some false)
set_option maxHeartbeats 8000000 in
set_option maxRecDepth 100000 in
theorem laws_sameTexts.calls (k : Nat) (A0 : Option Addr) (c0 : Nat) (l0 : List ByteArray) (A1 : Option Addr) (c1 : Nat) (l1 : List ByteArray) (r : Bool) (w : World) (hr0 : Kd.C Kd.string w A0 l0.length l0) (hc0 : l0.length ≤ c0) (hr1 : Kd.C Kd.string w A1 l1.length l1) (hc1 : l1.length ≤ c1) (h : laws_sameTexts.f k l0 l1 = some r) :
  Calls Tryz.prog 17 #[.slice A0 l0.length c0, .slice A1 l1.length c1] w fun e w' => e = .returned (.bool r) ∧ Drawn0 w w' := by
 have HR0 := am hr0
 have HC0 := am hc0
 clear hr0 hc0
 have HR1 := am hr1
 have HC1 := am hc1
 clear hr1 hc1
 have H := h
 clear h
 unfold laws_sameTexts.f at H
 by_cases c3 : (l0.length : Int) = (l1.length : Int)
 ·rw [if_pos c3] at H
  have c3b0 : ((l0.length : Int) == (l1.length : Int)) = true := beq_iff_eq.mpr c3
  have c3b1 : ((l0.length : Int) != (l1.length : Int)) = false := bne_eq_false_iff_eq.mpr c3
  have c3b2 : (l0.length == l1.length) = true := by (simp at c3 ⊢; omega)
  clear c3
  have H' := am H
  clear H
  go_enter Tryz.func17, Tryz.ntmps17
  go_wp2
  go_loopg [13] k (fun kq v13 w' => ∃ (x13_1 : Int), v13 = .int .i64 x13_1 ∧ Aside0 (laws_sameTexts.l0 kq l0 l1 (l0.length : Int) x13_1 = some r) ∧ Aside0 (kq ≤ k) ∧ Drawn0 w w')
  case atStart => exact ⟨(0), zf, H', ⟨Nat.le_refl _⟩, by repeat (exact Drawn0.refl _)⟩
  case round =>
   clear H'
   try clear c3b0
   try clear c3b1
   try clear c3b2
   obtain ⟨x13_1, rfl, HA, HK1, ⟨m1, rfl⟩⟩ := hrel
   cases gk with
   | zero => exact absurd HA.out (by simp [laws_sameTexts.l0])
   | succ k1 =>
    have H := HA.out
    clear HA
    simp only [laws_sameTexts.l0] at H
    by_cases c4 : x13_1 < (l0.length : Int)
    ·rw [if_pos c4] at H
     have c4b0 : decide (x13_1 < (l0.length : Int)) = true := decide_eq_true c4
     clear c4
     obtain ⟨c5, H⟩ := itn H
     have c5b0 := decide_eq_true c5
     clear c5
     obtain ⟨c6, H⟩ := itn H
     have c6b0 := decide_eq_true c6
     clear c6
     obtain ⟨c7, H⟩ := itn H
     have c7b0 := decide_eq_true c7
     clear c7
     by_cases c8 : (rdOf ByteArray.empty l0 x13_1).toList = (rdOf ByteArray.empty l1 x13_1).toList
     ·rw [if_pos c8] at H
      have c8b0 : ((rdOf ByteArray.empty l0 x13_1).toList == (rdOf ByteArray.empty l1 x13_1).toList) = true := beq_iff_eq.mpr c8
      have c8b1 : ((rdOf ByteArray.empty l0 x13_1).toList != (rdOf ByteArray.empty l1 x13_1).toList) = false := bne_eq_false_iff_eq.mpr c8
      clear c8
      have H' := am H
      clear H
      have p801 : 0 ≤ (x13_1 : Int) := oa
      have q801 : x13_1 < (l0.length : Int) := oa
      obtain ⟨ad801, e801, hx801_0⟩ := Kd.at_string HR0.out x13_1 p801 q801
      cases e801
      replace p801 := eq_true p801
      replace q801 := eq_true q801
      have p802 : 0 ≤ (x13_1 : Int) := oa
      have q802 : x13_1 < (l1.length : Int) := oa
      obtain ⟨ad802, e802, hx802_0⟩ := Kd.at_string HR1.out x13_1 p802 q802
      cases e802
      replace p802 := eq_true p802
      replace q802 := eq_true q802
      go_wp2
      repeat (go_quiet (fail); try go_wp2)
      go_roundg k1
      case measure => have := HK1.out; omega
      case rel => exact ⟨(wrap64 (x13_1 + 1)), zf, H', ⟨by have := HK1.out; omega⟩, by repeat (first | exact Drawn0.refl _ | apply Drawn0.step)⟩
     ·rw [if_neg c8] at H
      have c8b0 : ((rdOf ByteArray.empty l0 x13_1).toList == (rdOf ByteArray.empty l1 x13_1).toList) = false := beq_eq_false_iff_ne.mpr c8
      have c8b1 : ((rdOf ByteArray.empty l0 x13_1).toList != (rdOf ByteArray.empty l1 x13_1).toList) = true := bne_iff_ne.mpr c8
      obtain rfl := Option.some.inj H
      have p801 : 0 ≤ (x13_1 : Int) := oa
      have q801 : x13_1 < (l0.length : Int) := oa
      obtain ⟨ad801, e801, hx801_0⟩ := Kd.at_string HR0.out x13_1 p801 q801
      cases e801
      replace p801 := eq_true p801
      replace q801 := eq_true q801
      have p802 : 0 ≤ (x13_1 : Int) := oa
      have q802 : x13_1 < (l1.length : Int) := oa
      obtain ⟨ad802, e802, hx802_0⟩ := Kd.at_string HR1.out x13_1 p802 q802
      cases e802
      replace p802 := eq_true p802
      replace q802 := eq_true q802
      go_wp2
      repeat (go_quiet (fail); try go_wp2)
      go_ret
      exact ⟨by rfl, by repeat (first | exact Drawn0.refl _ | apply Drawn0.step)⟩
    ·rw [if_neg c4] at H
     have c4b0 : decide (x13_1 < (l0.length : Int)) = false := decide_eq_false c4
     clear c4
     obtain rfl := Option.some.inj H
     go_wp2
     go_ret
     exact ⟨by rfl, by repeat (first | exact Drawn0.refl _ | apply Drawn0.step)⟩
 ·rw [if_neg c3] at H
  have c3b0 : ((l0.length : Int) == (l1.length : Int)) = false := beq_eq_false_iff_ne.mpr c3
  have c3b1 : ((l0.length : Int) != (l1.length : Int)) = true := bne_iff_ne.mpr c3
  have c3b2 : (l0.length == l1.length) = false := by (simp at c3 ⊢; omega)
  obtain rfl := Option.some.inj H
  go_enter Tryz.func17, Tryz.ntmps17
  go_wp2
  go_ret
  exact ⟨by rfl, by repeat (exact Drawn0.refl _)⟩

def laws_sameHunks.l0 : Nat → List (S60) → List (S60) → Int → Int → Option (Bool)
 | 0, _, _, _, _ => none
 | k + 1, x1, x12, x13, x14 => if x14 < x13 then (if 0 ≤ x14 then (if x14 < (x12.length : Int) then (if x14 < (x1.length : Int) then (if ((T60 x12 x14).f0) = ((T60 x1 x14).f0) then (if ((T60 x12 x14).f1) = ((T60 x1 x14).f1) then ((laws_sameTexts.f k ((T60 x12 x14).f2) ((T60 x1 x14).f2)).bind fun t844 => (if t844 = true then (laws_sameHunks.l0 k x1 x12 x13 (wrap64 (x14 + 1))) else (some false))) else (some false)) else (some false)) else (none)) else (none)) else (none)) else (some true)
def laws_sameHunks.f (k : Nat) (l0 : List (S60)) (l1 : List (S60)) : Option (Bool) := if (l0.length : Int) = (l1.length : Int) then (laws_sameHunks.l0 k l1 l0 (l0.length : Int) 0) else (some false)
set_option maxHeartbeats 8000000 in
set_option maxRecDepth 100000 in
theorem laws_sameHunks.calls (k : Nat) (A0 : Option Addr) (c0 : Nat) (l0 : List (S60)) (A1 : Option Addr) (c1 : Nat) (l1 : List (S60)) (r : Bool) (w : World) (hr0 : Kd.C k60 w A0 l0.length l0) (hc0 : l0.length ≤ c0) (hr1 : Kd.C k60 w A1 l1.length l1) (hc1 : l1.length ≤ c1) (h : laws_sameHunks.f k l0 l1 = some r) (hr_ : r = true) :
  Calls Tryz.prog 16 #[.slice A0 l0.length c0, .slice A1 l1.length c1] w fun e w' => e = .returned (.bool r) ∧ Below w.heap.size w w' := by
 have HR_ := am hr_
 clear hr_
 have hu60 := Tryz.underlying60
 have HR0 := am hr0
 have HC0 := am hc0
 clear hr0 hc0
 have HR1 := am hr1
 have HC1 := am hc1
 clear hr1 hc1
 have HB := am (Below.refl w.heap.size w)
 have H := h
 clear h
 unfold laws_sameHunks.f at H
 by_cases c3 : (l0.length : Int) = (l1.length : Int)
 ·rw [if_pos c3] at H
  have c3b0 : ((l0.length : Int) == (l1.length : Int)) = true := beq_iff_eq.mpr c3
  have c3b1 : ((l0.length : Int) != (l1.length : Int)) = false := bne_eq_false_iff_eq.mpr c3
  have c3b2 : (l0.length == l1.length) = true := by (simp at c3 ⊢; omega)
  clear c3
  have H' := am H
  clear H
  go_enter Tryz.func16, Tryz.ntmps16
  go_wp2
  go_loopg [14] k (fun kq v14 w' => ∃ (x14_1 : Int), v14 = .int .i64 x14_1 ∧ Aside0 (laws_sameHunks.l0 kq l1 l0 (l0.length : Int) x14_1 = some r) ∧ Aside0 (kq ≤ k) ∧ Aside0 (Below w.heap.size w w'))
  case atStart => exact ⟨(0), zf, H', ⟨Nat.le_refl _⟩, ⟨zb⟩⟩
  case round =>
   clear H'
   try clear c3b0
   try clear c3b1
   try clear c3b2
   obtain ⟨x14_1, rfl, HA, HK1, HB⟩ := hrel
   cases gk with
   | zero => exact absurd HA.out (by simp [laws_sameHunks.l0])
   | succ k1 =>
    have H := HA.out
    clear HA
    simp only [laws_sameHunks.l0] at H
    by_cases c4 : x14_1 < (l0.length : Int)
    ·rw [if_pos c4] at H
     have c4b0 : decide (x14_1 < (l0.length : Int)) = true := decide_eq_true c4
     clear c4
     obtain ⟨c5, H⟩ := itn H
     have c5b0 := decide_eq_true c5
     clear c5
     obtain ⟨c6, H⟩ := itn H
     have c6b0 := decide_eq_true c6
     clear c6
     obtain ⟨c7, H⟩ := itn H
     have c7b0 := decide_eq_true c7
     clear c7
     by_cases c8 : ((T60 l0 x14_1).f0) = ((T60 l1 x14_1).f0)
     ·rw [if_pos c8] at H
      have c8b0 : (((T60 l0 x14_1).f0) == ((T60 l1 x14_1).f0)) = true := beq_iff_eq.mpr c8
      have c8b1 : (((T60 l0 x14_1).f0) != ((T60 l1 x14_1).f0)) = false := bne_eq_false_iff_eq.mpr c8
      clear c8
      by_cases c9 : ((T60 l0 x14_1).f1) = ((T60 l1 x14_1).f1)
      ·rw [if_pos c9] at H
       have c9b0 : (((T60 l0 x14_1).f1) == ((T60 l1 x14_1).f1)) = true := beq_iff_eq.mpr c9
       have c9b1 : (((T60 l0 x14_1).f1) != ((T60 l1 x14_1).f1)) = false := bne_eq_false_iff_eq.mpr c9
       clear c9
       replace H := Option.bind_eq_some_iff.mp H
       obtain ⟨t844, A100, H⟩ := H
       replace H : (if t844 = true then (laws_sameHunks.l0 k1 l1 l0 (l0.length : Int) (wrap64 (x14_1 + 1))) else (some false)) = some r := H
       have A10 := am A100
       clear A100
       by_cases c11 : t844 = true
       ·subst c11
        rw [if_pos rfl] at H
        have H' := am H
        clear H
        have p839 : 0 ≤ (x14_1 : Int) := oa
        have q839 : x14_1 < (l0.length : Int) := oa
        obtain ⟨ad839, A839_2, c839_2, e839, hx839_0, hx839_1, hx839_2, hl839_2, hi839_2⟩ := at_T60 HR0.out x14_1 p839 q839
        cases e839
        replace hx839_0 := bc HB.out hx839_0
        replace hx839_1 := bc HB.out hx839_1
        replace hx839_2 := bc HB.out hx839_2
        have HR839_2 := am hi839_2
        have HC839_2 := am hl839_2
        clear hi839_2 hl839_2
        replace p839 := eq_true p839
        replace q839 := eq_true q839
        go_wp2_with (((with_reducible refine gate_dst (N := 6) rfl ?_); refine box_event ?hg (N := 6) ?hd (cs := #[.int .i64 0, .int .i64 0, .slice none 0 0]) (t := 60) ?hr ?_; (case hd => rfl); (case hg => rfl); (case hr => (go_simp; done)); intro gb840 hg w12 hbox hb; have BK840 := am (hbox); have GW840 := am ((by rw [hg]; exact (below_size zb) : w.heap.size ≤ gb840)); have GE840 := am ((by rw [hg]; exact (below_size zb) : w.heap.size ≤ gb840)); replace HB := am (below_step zb hb); clear hb hbox hg; obtain ⟨hcz13_0, hcz13_1, hcz13_2⟩ := cz3 BK840.out; obtain ⟨hfz13_0, hfz13_1, hfz13_2⟩ := fz3 BK840.out; have p841 : 0 ≤ (x14_1 : Int) := oa; have q841 : x14_1 < (l1.length : Int) := oa; obtain ⟨ad841, A841_2, c841_2, e841, hx841_0, hx841_1, hx841_2, hl841_2, hi841_2⟩ := at_T60 HR1.out x14_1 p841 q841; cases e841; have hn841_0 : ad841.block ≠ gb840 := Nat.ne_of_lt (Nat.lt_of_lt_of_le (zl hx841_0) GW840.out); have hn841_1 : ad841.block ≠ gb840 := Nat.ne_of_lt (Nat.lt_of_lt_of_le (zl hx841_0) GW840.out); have hn841_2 : ad841.block ≠ gb840 := Nat.ne_of_lt (Nat.lt_of_lt_of_le (zl hx841_0) GW840.out); replace hx841_0 := (HB.out.cell (World.block_lt_of_cell? w _ hx841_0)).trans hx841_0; replace hx841_1 := (HB.out.cell (World.block_lt_of_cell? w _ hx841_1)).trans hx841_1; replace hx841_2 := (HB.out.cell (World.block_lt_of_cell? w _ hx841_2)).trans hx841_2; have HR841_2 := am hi841_2; have HC841_2 := am hl841_2; clear hi841_2 hl841_2; replace hx841_0 := (cell_far (p := ⟨gb840, 0, none⟩) (zn hn841_0) (.int .i64 ((T60 l0 x14_1).f0))).trans hx841_0; replace hx841_1 := (cell_far (p := ⟨gb840, 0, none⟩) (zn hn841_0) (.int .i64 ((T60 l0 x14_1).f0))).trans hx841_1; replace hx841_2 := (cell_far (p := ⟨gb840, 0, none⟩) (zn hn841_0) (.int .i64 ((T60 l0 x14_1).f0))).trans hx841_2; replace hx841_0 := (cell_far (p := ⟨gb840, 1, none⟩) (zn hn841_1) (.int .i64 ((T60 l0 x14_1).f1))).trans hx841_0; replace hx841_1 := (cell_far (p := ⟨gb840, 1, none⟩) (zn hn841_1) (.int .i64 ((T60 l0 x14_1).f1))).trans hx841_1; replace hx841_2 := (cell_far (p := ⟨gb840, 1, none⟩) (zn hn841_1) (.int .i64 ((T60 l0 x14_1).f1))).trans hx841_2; replace hx841_0 := (cell_far (p := ⟨gb840, 2, none⟩) (zn hn841_2) (.slice A839_2 ((T60 l0 x14_1).f2).length c839_2)).trans hx841_0; replace hx841_1 := (cell_far (p := ⟨gb840, 2, none⟩) (zn hn841_2) (.slice A839_2 ((T60 l0 x14_1).f2).length c839_2)).trans hx841_1; replace hx841_2 := (cell_far (p := ⟨gb840, 2, none⟩) (zn hn841_2) (.slice A839_2 ((T60 l0 x14_1).f2).length c839_2)).trans hx841_2; (try have hy841_0 := fun (n_ : Nat) => (show (((((w12.drewN n_).setCell ⟨gb840, 0, none⟩ (.int .i64 ((T60 l0 x14_1).f0))).setCell ⟨gb840, 1, none⟩ (.int .i64 ((T60 l0 x14_1).f1))).setCell ⟨gb840, 2, none⟩ (.slice A839_2 ((T60 l0 x14_1).f2).length c839_2))).cell? _ = some _ from hx841_0)); (try have hy841_1 := fun (n_ : Nat) => (show (((((w12.drewN n_).setCell ⟨gb840, 0, none⟩ (.int .i64 ((T60 l0 x14_1).f0))).setCell ⟨gb840, 1, none⟩ (.int .i64 ((T60 l0 x14_1).f1))).setCell ⟨gb840, 2, none⟩ (.slice A839_2 ((T60 l0 x14_1).f2).length c839_2))).cell? _ = some _ from hx841_1)); (try have hy841_2 := fun (n_ : Nat) => (show (((((w12.drewN n_).setCell ⟨gb840, 0, none⟩ (.int .i64 ((T60 l0 x14_1).f0))).setCell ⟨gb840, 1, none⟩ (.int .i64 ((T60 l0 x14_1).f1))).setCell ⟨gb840, 2, none⟩ (.slice A839_2 ((T60 l0 x14_1).f2).length c839_2))).cell? _ = some _ from hx841_2)); clear hn841_0; clear hn841_1; clear hn841_2; replace p841 := eq_true p841; replace q841 := eq_true q841; have p842 : 0 ≤ (x14_1 : Int) := oa; have q842 : x14_1 < (l1.length : Int) := oa; obtain ⟨ad842, A842_2, c842_2, e842, hx842_0, hx842_1, hx842_2, hl842_2, hi842_2⟩ := at_T60 HR1.out x14_1 p842 q842; obtain rfl : ad841 = ad842 := (by injection e842); have hn842_0 : ad841.block ≠ gb840 := Nat.ne_of_lt (Nat.lt_of_lt_of_le (zl hx842_0) GW840.out); have hn842_1 : ad841.block ≠ gb840 := Nat.ne_of_lt (Nat.lt_of_lt_of_le (zl hx842_0) GW840.out); have hn842_2 : ad841.block ≠ gb840 := Nat.ne_of_lt (Nat.lt_of_lt_of_le (zl hx842_0) GW840.out); replace hx842_0 := (HB.out.cell (World.block_lt_of_cell? w _ hx842_0)).trans hx842_0; replace hx842_1 := (HB.out.cell (World.block_lt_of_cell? w _ hx842_1)).trans hx842_1; replace hx842_2 := (HB.out.cell (World.block_lt_of_cell? w _ hx842_2)).trans hx842_2; have HR842_2 := am hi842_2; have HC842_2 := am hl842_2; clear hi842_2 hl842_2; replace hx842_0 := (cell_far (p := ⟨gb840, 0, none⟩) (zn hn842_0) (.int .i64 ((T60 l0 x14_1).f0))).trans hx842_0; replace hx842_1 := (cell_far (p := ⟨gb840, 0, none⟩) (zn hn842_0) (.int .i64 ((T60 l0 x14_1).f0))).trans hx842_1; replace hx842_2 := (cell_far (p := ⟨gb840, 0, none⟩) (zn hn842_0) (.int .i64 ((T60 l0 x14_1).f0))).trans hx842_2; replace hx842_0 := (cell_far (p := ⟨gb840, 1, none⟩) (zn hn842_1) (.int .i64 ((T60 l0 x14_1).f1))).trans hx842_0; replace hx842_1 := (cell_far (p := ⟨gb840, 1, none⟩) (zn hn842_1) (.int .i64 ((T60 l0 x14_1).f1))).trans hx842_1; replace hx842_2 := (cell_far (p := ⟨gb840, 1, none⟩) (zn hn842_1) (.int .i64 ((T60 l0 x14_1).f1))).trans hx842_2; replace hx842_0 := (cell_far (p := ⟨gb840, 2, none⟩) (zn hn842_2) (.slice A839_2 ((T60 l0 x14_1).f2).length c839_2)).trans hx842_0; replace hx842_1 := (cell_far (p := ⟨gb840, 2, none⟩) (zn hn842_2) (.slice A839_2 ((T60 l0 x14_1).f2).length c839_2)).trans hx842_1; replace hx842_2 := (cell_far (p := ⟨gb840, 2, none⟩) (zn hn842_2) (.slice A839_2 ((T60 l0 x14_1).f2).length c839_2)).trans hx842_2; (try have hy842_0 := fun (n_ : Nat) => (show (((((w12.drewN n_).setCell ⟨gb840, 0, none⟩ (.int .i64 ((T60 l0 x14_1).f0))).setCell ⟨gb840, 1, none⟩ (.int .i64 ((T60 l0 x14_1).f1))).setCell ⟨gb840, 2, none⟩ (.slice A839_2 ((T60 l0 x14_1).f2).length c839_2))).cell? _ = some _ from hx842_0)); (try have hy842_1 := fun (n_ : Nat) => (show (((((w12.drewN n_).setCell ⟨gb840, 0, none⟩ (.int .i64 ((T60 l0 x14_1).f0))).setCell ⟨gb840, 1, none⟩ (.int .i64 ((T60 l0 x14_1).f1))).setCell ⟨gb840, 2, none⟩ (.slice A839_2 ((T60 l0 x14_1).f2).length c839_2))).cell? _ = some _ from hx842_1)); (try have hy842_2 := fun (n_ : Nat) => (show (((((w12.drewN n_).setCell ⟨gb840, 0, none⟩ (.int .i64 ((T60 l0 x14_1).f0))).setCell ⟨gb840, 1, none⟩ (.int .i64 ((T60 l0 x14_1).f1))).setCell ⟨gb840, 2, none⟩ (.slice A839_2 ((T60 l0 x14_1).f2).length c839_2))).cell? _ = some _ from hx842_2)); clear hn842_0; clear hn842_1; clear hn842_2; replace p842 := eq_true p842; replace q842 := eq_true q842; have p843 : 0 ≤ (x14_1 : Int) := oa; have q843 : x14_1 < (l1.length : Int) := oa; obtain ⟨ad843, A843_2, c843_2, e843, hx843_0, hx843_1, hx843_2, hl843_2, hi843_2⟩ := at_T60 HR1.out x14_1 p843 q843; obtain rfl : ad841 = ad843 := (by injection e843); have hn843_0 : ad841.block ≠ gb840 := Nat.ne_of_lt (Nat.lt_of_lt_of_le (zl hx843_0) GW840.out); have hn843_1 : ad841.block ≠ gb840 := Nat.ne_of_lt (Nat.lt_of_lt_of_le (zl hx843_0) GW840.out); have hn843_2 : ad841.block ≠ gb840 := Nat.ne_of_lt (Nat.lt_of_lt_of_le (zl hx843_0) GW840.out); replace hx843_0 := (HB.out.cell (World.block_lt_of_cell? w _ hx843_0)).trans hx843_0; replace hx843_1 := (HB.out.cell (World.block_lt_of_cell? w _ hx843_1)).trans hx843_1; replace hx843_2 := (HB.out.cell (World.block_lt_of_cell? w _ hx843_2)).trans hx843_2; have HR843_2 := am hi843_2; have HC843_2 := am hl843_2; clear hi843_2 hl843_2; replace hx843_0 := (cell_far (p := ⟨gb840, 0, none⟩) (zn hn843_0) (.int .i64 ((T60 l0 x14_1).f0))).trans hx843_0; replace hx843_1 := (cell_far (p := ⟨gb840, 0, none⟩) (zn hn843_0) (.int .i64 ((T60 l0 x14_1).f0))).trans hx843_1; replace hx843_2 := (cell_far (p := ⟨gb840, 0, none⟩) (zn hn843_0) (.int .i64 ((T60 l0 x14_1).f0))).trans hx843_2; replace hx843_0 := (cell_far (p := ⟨gb840, 1, none⟩) (zn hn843_1) (.int .i64 ((T60 l0 x14_1).f1))).trans hx843_0; replace hx843_1 := (cell_far (p := ⟨gb840, 1, none⟩) (zn hn843_1) (.int .i64 ((T60 l0 x14_1).f1))).trans hx843_1; replace hx843_2 := (cell_far (p := ⟨gb840, 1, none⟩) (zn hn843_1) (.int .i64 ((T60 l0 x14_1).f1))).trans hx843_2; replace hx843_0 := (cell_far (p := ⟨gb840, 2, none⟩) (zn hn843_2) (.slice A839_2 ((T60 l0 x14_1).f2).length c839_2)).trans hx843_0; replace hx843_1 := (cell_far (p := ⟨gb840, 2, none⟩) (zn hn843_2) (.slice A839_2 ((T60 l0 x14_1).f2).length c839_2)).trans hx843_1; replace hx843_2 := (cell_far (p := ⟨gb840, 2, none⟩) (zn hn843_2) (.slice A839_2 ((T60 l0 x14_1).f2).length c839_2)).trans hx843_2; (try have hy843_0 := fun (n_ : Nat) => (show (((((w12.drewN n_).setCell ⟨gb840, 0, none⟩ (.int .i64 ((T60 l0 x14_1).f0))).setCell ⟨gb840, 1, none⟩ (.int .i64 ((T60 l0 x14_1).f1))).setCell ⟨gb840, 2, none⟩ (.slice A839_2 ((T60 l0 x14_1).f2).length c839_2))).cell? _ = some _ from hx843_0)); (try have hy843_1 := fun (n_ : Nat) => (show (((((w12.drewN n_).setCell ⟨gb840, 0, none⟩ (.int .i64 ((T60 l0 x14_1).f0))).setCell ⟨gb840, 1, none⟩ (.int .i64 ((T60 l0 x14_1).f1))).setCell ⟨gb840, 2, none⟩ (.slice A839_2 ((T60 l0 x14_1).f2).length c839_2))).cell? _ = some _ from hx843_1)); (try have hy843_2 := fun (n_ : Nat) => (show (((((w12.drewN n_).setCell ⟨gb840, 0, none⟩ (.int .i64 ((T60 l0 x14_1).f0))).setCell ⟨gb840, 1, none⟩ (.int .i64 ((T60 l0 x14_1).f1))).setCell ⟨gb840, 2, none⟩ (.slice A839_2 ((T60 l0 x14_1).f2).length c839_2))).cell? _ = some _ from hx843_2)); clear hn843_0; clear hn843_1; clear hn843_2; replace p843 := eq_true p843; replace q843 := eq_true q843))
        repeat (go_quiet ((go_at_call 17; (with_reducible refine (laws_sameTexts.calls k1 _ _ ((T60 l0 x14_1).f2) _ _ ((T60 l1 x14_1).f2) true _ ?side1 ?side2 ?side3 ?side4 A10.out).mono ?_); (case side1 => exact Kd.C_below HR839_2.out zw); (case side2 => exact HC839_2.out); (case side3 => exact Kd.C_below HR841_2.out zw); (case side4 => exact HC841_2.out); rintro e w' ⟨rfl, ⟨nd, rfl⟩⟩; (try exact zd))); try go_wp2)
        go_roundg k1
        case measure => have := HK1.out; omega
        case rel => exact ⟨(wrap64 (x14_1 + 1)), zf, H', ⟨by have := HK1.out; omega⟩, ⟨zw⟩⟩
       ·replace c11 := Bool.eq_false_iff.mpr c11
        subst c11
        rw [if_neg nofun] at H
        exact absurd (show false = true from (Option.some.inj H).trans HR_.out) Bool.false_ne_true
      ·rw [if_neg c9] at H
       have c9b0 : (((T60 l0 x14_1).f1) == ((T60 l1 x14_1).f1)) = false := beq_eq_false_iff_ne.mpr c9
       have c9b1 : (((T60 l0 x14_1).f1) != ((T60 l1 x14_1).f1)) = true := bne_iff_ne.mpr c9
       exact absurd (show false = true from (Option.some.inj H).trans HR_.out) Bool.false_ne_true
     ·rw [if_neg c8] at H
      have c8b0 : (((T60 l0 x14_1).f0) == ((T60 l1 x14_1).f0)) = false := beq_eq_false_iff_ne.mpr c8
      have c8b1 : (((T60 l0 x14_1).f0) != ((T60 l1 x14_1).f0)) = true := bne_iff_ne.mpr c8
      exact absurd (show false = true from (Option.some.inj H).trans HR_.out) Bool.false_ne_true
    ·rw [if_neg c4] at H
     have c4b0 : decide (x14_1 < (l0.length : Int)) = false := decide_eq_false c4
     clear c4
     first
     | exact absurd (show false = true from (Option.some.inj H).trans HR_.out) Bool.false_ne_true
     | obtain rfl := Option.some.inj H
       go_wp2
       go_ret
       exact ⟨by rfl, zb⟩
 ·rw [if_neg c3] at H
  have c3b0 : ((l0.length : Int) == (l1.length : Int)) = false := beq_eq_false_iff_ne.mpr c3
  have c3b1 : ((l0.length : Int) != (l1.length : Int)) = true := bne_iff_ne.mpr c3
  have c3b2 : (l0.length == l1.length) = false := by (simp at c3 ⊢; omega)
  exact absurd (show false = true from (Option.some.inj H).trans HR_.out) Bool.false_ne_true

def laws_sameSteps.l0 : Nat → List (S52) → List (S52) → Int → Int → Option (Bool)
 | 0, _, _, _, _ => none
 | k + 1, x1, x13, x14, x15 => if x15 < x14 then (if 0 ≤ x15 then (if x15 < (x13.length : Int) then (if x15 < (x1.length : Int) then (if ((T52 x13 x15).f0) = ((T52 x1 x15).f0) then (if ((T52 x13 x15).f1) = ((T52 x1 x15).f1) then (if ((T52 x13 x15).f3) = ((T52 x1 x15).f3) then (if ((T52 x13 x15).f4) = ((T52 x1 x15).f4) then ((laws_sameTexts.f k ((T52 x13 x15).f2) ((T52 x1 x15).f2)).bind fun t807 => (if t807 = true then ((laws_sameTexts.f k ((T52 x13 x15).f5) ((T52 x1 x15).f5)).bind fun t808 => (if t808 = true then (laws_sameSteps.l0 k x1 x13 x14 (wrap64 (x15 + 1))) else (some false))) else (some false))) else (some false)) else (some false)) else (some false)) else (some false)) else (none)) else (none)) else (none)) else (some true)
def laws_sameSteps.f (k : Nat) (l0 : List (S52)) (l1 : List (S52)) : Option (Bool) := if (l0.length : Int) = (l1.length : Int) then (laws_sameSteps.l0 k l1 l0 (l0.length : Int) 0) else (some false)
set_option maxHeartbeats 8000000 in
set_option maxRecDepth 100000 in
theorem laws_sameSteps.calls (k : Nat) (A0 : Option Addr) (c0 : Nat) (l0 : List (S52)) (A1 : Option Addr) (c1 : Nat) (l1 : List (S52)) (r : Bool) (w : World) (hr0 : Kd.C k52 w A0 l0.length l0) (hc0 : l0.length ≤ c0) (hr1 : Kd.C k52 w A1 l1.length l1) (hc1 : l1.length ≤ c1) (h : laws_sameSteps.f k l0 l1 = some r) (hr_ : r = true) :
  Calls Tryz.prog 11 #[.slice A0 l0.length c0, .slice A1 l1.length c1] w fun e w' => e = .returned (.bool r) ∧ Below w.heap.size w w' := by
 have HR_ := am hr_
 clear hr_
 have hu52 := Tryz.underlying52
 have HR0 := am hr0
 have HC0 := am hc0
 clear hr0 hc0
 have HR1 := am hr1
 have HC1 := am hc1
 clear hr1 hc1
 have HB := am (Below.refl w.heap.size w)
 have H := h
 clear h
 unfold laws_sameSteps.f at H
 by_cases c3 : (l0.length : Int) = (l1.length : Int)
 ·rw [if_pos c3] at H
  have c3b0 : ((l0.length : Int) == (l1.length : Int)) = true := beq_iff_eq.mpr c3
  have c3b1 : ((l0.length : Int) != (l1.length : Int)) = false := bne_eq_false_iff_eq.mpr c3
  have c3b2 : (l0.length == l1.length) = true := by (simp at c3 ⊢; omega)
  clear c3
  have H' := am H
  clear H
  go_enter Tryz.func11, Tryz.ntmps11
  go_wp2
  go_loopg [15] k (fun kq v15 w' => ∃ (x15_1 : Int), v15 = .int .i64 x15_1 ∧ Aside0 (laws_sameSteps.l0 kq l1 l0 (l0.length : Int) x15_1 = some r) ∧ Aside0 (kq ≤ k) ∧ Aside0 (Below w.heap.size w w'))
  case atStart => exact ⟨(0), zf, H', ⟨Nat.le_refl _⟩, ⟨zb⟩⟩
  case round =>
   clear H'
   try clear c3b0
   try clear c3b1
   try clear c3b2
   obtain ⟨x15_1, rfl, HA, HK1, HB⟩ := hrel
   cases gk with
   | zero => exact absurd HA.out (by simp [laws_sameSteps.l0])
   | succ k1 =>
    have H := HA.out
    clear HA
    simp only [laws_sameSteps.l0] at H
    by_cases c4 : x15_1 < (l0.length : Int)
    ·rw [if_pos c4] at H
     have c4b0 : decide (x15_1 < (l0.length : Int)) = true := decide_eq_true c4
     clear c4
     obtain ⟨c5, H⟩ := itn H
     have c5b0 := decide_eq_true c5
     clear c5
     obtain ⟨c6, H⟩ := itn H
     have c6b0 := decide_eq_true c6
     clear c6
     obtain ⟨c7, H⟩ := itn H
     have c7b0 := decide_eq_true c7
     clear c7
     by_cases c8 : ((T52 l0 x15_1).f0) = ((T52 l1 x15_1).f0)
     ·rw [if_pos c8] at H
      have c8b0 : (((T52 l0 x15_1).f0) == ((T52 l1 x15_1).f0)) = true := beq_iff_eq.mpr c8
      have c8b1 : (((T52 l0 x15_1).f0) != ((T52 l1 x15_1).f0)) = false := bne_eq_false_iff_eq.mpr c8
      clear c8
      by_cases c9 : ((T52 l0 x15_1).f1) = ((T52 l1 x15_1).f1)
      ·rw [if_pos c9] at H
       have c9b0 : (((T52 l0 x15_1).f1) == ((T52 l1 x15_1).f1)) = true := beq_iff_eq.mpr c9
       have c9b1 : (((T52 l0 x15_1).f1) != ((T52 l1 x15_1).f1)) = false := bne_eq_false_iff_eq.mpr c9
       clear c9
       by_cases c10 : ((T52 l0 x15_1).f3) = ((T52 l1 x15_1).f3)
       ·rw [if_pos c10] at H
        have c10b0 : (((T52 l0 x15_1).f3) == ((T52 l1 x15_1).f3)) = true := beq_iff_eq.mpr c10
        have c10b1 : (((T52 l0 x15_1).f3) != ((T52 l1 x15_1).f3)) = false := bne_eq_false_iff_eq.mpr c10
        clear c10
        by_cases c11 : ((T52 l0 x15_1).f4) = ((T52 l1 x15_1).f4)
        ·rw [if_pos c11] at H
         have c11b0 : (((T52 l0 x15_1).f4) == ((T52 l1 x15_1).f4)) = true := beq_iff_eq.mpr c11
         have c11b1 : (((T52 l0 x15_1).f4) != ((T52 l1 x15_1).f4)) = false := bne_eq_false_iff_eq.mpr c11
         clear c11
         replace H := Option.bind_eq_some_iff.mp H
         obtain ⟨t807, A120, H⟩ := H
         replace H : (if t807 = true then ((laws_sameTexts.f k1 ((T52 l0 x15_1).f5) ((T52 l1 x15_1).f5)).bind fun t808 => (if t808 = true then (laws_sameSteps.l0 k1 l1 l0 (l0.length : Int) (wrap64 (x15_1 + 1))) else (some false))) else (some false)) = some r := H
         have A12 := am A120
         clear A120
         by_cases c13 : t807 = true
         ·subst c13
          rw [if_pos rfl] at H
          replace H := Option.bind_eq_some_iff.mp H
          obtain ⟨t808, A140, H⟩ := H
          replace H : (if t808 = true then (laws_sameSteps.l0 k1 l1 l0 (l0.length : Int) (wrap64 (x15_1 + 1))) else (some false)) = some r := H
          have A14 := am A140
          clear A140
          by_cases c15 : t808 = true
          ·subst c15
           rw [if_pos rfl] at H
           have H' := am H
           clear H
           have p803 : 0 ≤ (x15_1 : Int) := oa
           have q803 : x15_1 < (l0.length : Int) := oa
           obtain ⟨ad803, A803_2, c803_2, A803_5, c803_5, e803, hx803_0, hx803_1, hx803_2, hx803_3, hx803_4, hx803_5, hl803_2, hi803_2, hl803_5, hi803_5⟩ := at_T52 HR0.out x15_1 p803 q803
           cases e803
           replace hx803_0 := bc HB.out hx803_0
           replace hx803_1 := bc HB.out hx803_1
           replace hx803_2 := bc HB.out hx803_2
           replace hx803_3 := bc HB.out hx803_3
           replace hx803_4 := bc HB.out hx803_4
           replace hx803_5 := bc HB.out hx803_5
           have HR803_2 := am hi803_2
           have HC803_2 := am hl803_2
           clear hi803_2 hl803_2
           have HR803_5 := am hi803_5
           have HC803_5 := am hl803_5
           clear hi803_5 hl803_5
           replace p803 := eq_true p803
           replace q803 := eq_true q803
           go_wp2_with (first | ((with_reducible refine gate_dst (N := 6) rfl ?_); refine box_event ?hg (N := 6) ?hd (cs := #[.int .i64 0, .int .i64 0, .slice none 0 0, .int .i64 0, .int .i64 0, .slice none 0 0]) (t := 52) ?hr ?_; (case hd => rfl); (case hg => rfl); (case hr => (go_simp; done)); intro gb804 hg w16 hbox hb; have BK804 := am (hbox); have GW804 := am ((by rw [hg]; exact (below_size zb) : w.heap.size ≤ gb804)); have GE804 := am ((by rw [hg]; exact (below_size zb) : w.heap.size ≤ gb804)); replace HB := am (below_step zb hb); clear hb hbox hg; obtain ⟨hcz17_0, hcz17_1, hcz17_2, hcz17_3, hcz17_4, hcz17_5⟩ := cz6 BK804.out; obtain ⟨hfz17_0, hfz17_1, hfz17_2, hfz17_3, hfz17_4, hfz17_5⟩ := fz6 BK804.out; have p805 : 0 ≤ (x15_1 : Int) := oa; have q805 : x15_1 < (l1.length : Int) := oa; obtain ⟨ad805, A805_2, c805_2, A805_5, c805_5, e805, hx805_0, hx805_1, hx805_2, hx805_3, hx805_4, hx805_5, hl805_2, hi805_2, hl805_5, hi805_5⟩ := at_T52 HR1.out x15_1 p805 q805; cases e805; have hn805_0 : ad805.block ≠ gb804 := Nat.ne_of_lt (Nat.lt_of_lt_of_le (zl hx805_0) GW804.out); have hn805_1 : ad805.block ≠ gb804 := Nat.ne_of_lt (Nat.lt_of_lt_of_le (zl hx805_0) GW804.out); have hn805_2 : ad805.block ≠ gb804 := Nat.ne_of_lt (Nat.lt_of_lt_of_le (zl hx805_0) GW804.out); have hn805_3 : ad805.block ≠ gb804 := Nat.ne_of_lt (Nat.lt_of_lt_of_le (zl hx805_0) GW804.out); have hn805_4 : ad805.block ≠ gb804 := Nat.ne_of_lt (Nat.lt_of_lt_of_le (zl hx805_0) GW804.out); have hn805_5 : ad805.block ≠ gb804 := Nat.ne_of_lt (Nat.lt_of_lt_of_le (zl hx805_0) GW804.out); replace hx805_0 := (HB.out.cell (World.block_lt_of_cell? w _ hx805_0)).trans hx805_0; replace hx805_1 := (HB.out.cell (World.block_lt_of_cell? w _ hx805_1)).trans hx805_1; replace hx805_2 := (HB.out.cell (World.block_lt_of_cell? w _ hx805_2)).trans hx805_2; replace hx805_3 := (HB.out.cell (World.block_lt_of_cell? w _ hx805_3)).trans hx805_3; replace hx805_4 := (HB.out.cell (World.block_lt_of_cell? w _ hx805_4)).trans hx805_4; replace hx805_5 := (HB.out.cell (World.block_lt_of_cell? w _ hx805_5)).trans hx805_5; have HR805_2 := am hi805_2; have HC805_2 := am hl805_2; clear hi805_2 hl805_2; have HR805_5 := am hi805_5; have HC805_5 := am hl805_5; clear hi805_5 hl805_5; replace hx805_0 := (cell_far (p := ⟨gb804, 0, none⟩) (zn hn805_0) (.int .i64 ((T52 l0 x15_1).f0))).trans hx805_0; replace hx805_1 := (cell_far (p := ⟨gb804, 0, none⟩) (zn hn805_0) (.int .i64 ((T52 l0 x15_1).f0))).trans hx805_1; replace hx805_2 := (cell_far (p := ⟨gb804, 0, none⟩) (zn hn805_0) (.int .i64 ((T52 l0 x15_1).f0))).trans hx805_2; replace hx805_3 := (cell_far (p := ⟨gb804, 0, none⟩) (zn hn805_0) (.int .i64 ((T52 l0 x15_1).f0))).trans hx805_3; replace hx805_4 := (cell_far (p := ⟨gb804, 0, none⟩) (zn hn805_0) (.int .i64 ((T52 l0 x15_1).f0))).trans hx805_4; replace hx805_5 := (cell_far (p := ⟨gb804, 0, none⟩) (zn hn805_0) (.int .i64 ((T52 l0 x15_1).f0))).trans hx805_5; replace hx805_0 := (cell_far (p := ⟨gb804, 1, none⟩) (zn hn805_1) (.int .i64 ((T52 l0 x15_1).f1))).trans hx805_0; replace hx805_1 := (cell_far (p := ⟨gb804, 1, none⟩) (zn hn805_1) (.int .i64 ((T52 l0 x15_1).f1))).trans hx805_1; replace hx805_2 := (cell_far (p := ⟨gb804, 1, none⟩) (zn hn805_1) (.int .i64 ((T52 l0 x15_1).f1))).trans hx805_2; replace hx805_3 := (cell_far (p := ⟨gb804, 1, none⟩) (zn hn805_1) (.int .i64 ((T52 l0 x15_1).f1))).trans hx805_3; replace hx805_4 := (cell_far (p := ⟨gb804, 1, none⟩) (zn hn805_1) (.int .i64 ((T52 l0 x15_1).f1))).trans hx805_4; replace hx805_5 := (cell_far (p := ⟨gb804, 1, none⟩) (zn hn805_1) (.int .i64 ((T52 l0 x15_1).f1))).trans hx805_5; replace hx805_0 := (cell_far (p := ⟨gb804, 2, none⟩) (zn hn805_2) (.slice A803_2 ((T52 l0 x15_1).f2).length c803_2)).trans hx805_0; replace hx805_1 := (cell_far (p := ⟨gb804, 2, none⟩) (zn hn805_2) (.slice A803_2 ((T52 l0 x15_1).f2).length c803_2)).trans hx805_1; replace hx805_2 := (cell_far (p := ⟨gb804, 2, none⟩) (zn hn805_2) (.slice A803_2 ((T52 l0 x15_1).f2).length c803_2)).trans hx805_2; replace hx805_3 := (cell_far (p := ⟨gb804, 2, none⟩) (zn hn805_2) (.slice A803_2 ((T52 l0 x15_1).f2).length c803_2)).trans hx805_3; replace hx805_4 := (cell_far (p := ⟨gb804, 2, none⟩) (zn hn805_2) (.slice A803_2 ((T52 l0 x15_1).f2).length c803_2)).trans hx805_4; replace hx805_5 := (cell_far (p := ⟨gb804, 2, none⟩) (zn hn805_2) (.slice A803_2 ((T52 l0 x15_1).f2).length c803_2)).trans hx805_5; replace hx805_0 := (cell_far (p := ⟨gb804, 3, none⟩) (zn hn805_3) (.int .i64 ((T52 l0 x15_1).f3))).trans hx805_0; replace hx805_1 := (cell_far (p := ⟨gb804, 3, none⟩) (zn hn805_3) (.int .i64 ((T52 l0 x15_1).f3))).trans hx805_1; replace hx805_2 := (cell_far (p := ⟨gb804, 3, none⟩) (zn hn805_3) (.int .i64 ((T52 l0 x15_1).f3))).trans hx805_2; replace hx805_3 := (cell_far (p := ⟨gb804, 3, none⟩) (zn hn805_3) (.int .i64 ((T52 l0 x15_1).f3))).trans hx805_3; replace hx805_4 := (cell_far (p := ⟨gb804, 3, none⟩) (zn hn805_3) (.int .i64 ((T52 l0 x15_1).f3))).trans hx805_4; replace hx805_5 := (cell_far (p := ⟨gb804, 3, none⟩) (zn hn805_3) (.int .i64 ((T52 l0 x15_1).f3))).trans hx805_5; replace hx805_0 := (cell_far (p := ⟨gb804, 4, none⟩) (zn hn805_4) (.int .i64 ((T52 l0 x15_1).f4))).trans hx805_0; replace hx805_1 := (cell_far (p := ⟨gb804, 4, none⟩) (zn hn805_4) (.int .i64 ((T52 l0 x15_1).f4))).trans hx805_1; replace hx805_2 := (cell_far (p := ⟨gb804, 4, none⟩) (zn hn805_4) (.int .i64 ((T52 l0 x15_1).f4))).trans hx805_2; replace hx805_3 := (cell_far (p := ⟨gb804, 4, none⟩) (zn hn805_4) (.int .i64 ((T52 l0 x15_1).f4))).trans hx805_3; replace hx805_4 := (cell_far (p := ⟨gb804, 4, none⟩) (zn hn805_4) (.int .i64 ((T52 l0 x15_1).f4))).trans hx805_4; replace hx805_5 := (cell_far (p := ⟨gb804, 4, none⟩) (zn hn805_4) (.int .i64 ((T52 l0 x15_1).f4))).trans hx805_5; replace hx805_0 := (cell_far (p := ⟨gb804, 5, none⟩) (zn hn805_5) (.slice A803_5 ((T52 l0 x15_1).f5).length c803_5)).trans hx805_0; replace hx805_1 := (cell_far (p := ⟨gb804, 5, none⟩) (zn hn805_5) (.slice A803_5 ((T52 l0 x15_1).f5).length c803_5)).trans hx805_1; replace hx805_2 := (cell_far (p := ⟨gb804, 5, none⟩) (zn hn805_5) (.slice A803_5 ((T52 l0 x15_1).f5).length c803_5)).trans hx805_2; replace hx805_3 := (cell_far (p := ⟨gb804, 5, none⟩) (zn hn805_5) (.slice A803_5 ((T52 l0 x15_1).f5).length c803_5)).trans hx805_3; replace hx805_4 := (cell_far (p := ⟨gb804, 5, none⟩) (zn hn805_5) (.slice A803_5 ((T52 l0 x15_1).f5).length c803_5)).trans hx805_4; replace hx805_5 := (cell_far (p := ⟨gb804, 5, none⟩) (zn hn805_5) (.slice A803_5 ((T52 l0 x15_1).f5).length c803_5)).trans hx805_5; clear hn805_0; clear hn805_1; clear hn805_2; clear hn805_3; clear hn805_4; clear hn805_5; replace p805 := eq_true p805; replace q805 := eq_true q805) | ((with_reducible refine gate_dst (N := 7) rfl ?_); refine box_event ?hg (N := 7) ?hd (cs := #[.int .i64 0, .int .i64 0, .slice none 0 0, .int .i64 0, .int .i64 0, .slice none 0 0]) (t := 52) ?hr ?_; (case hd => rfl); (case hg => rfl); (case hr => (go_simp; done)); intro gb806 hg w18 hbox hb; have BK806 := am (hbox); have GW806 := am ((by rw [hg]; exact (below_size zw) : w.heap.size ≤ gb806)); have GE806 := am ((by rw [hg]; exact (below_size zw) : w.heap.size ≤ gb806)); replace HB := am (below_step zw hb); have NB804_806 := am ((by rw [hg]; exact Nat.ne_of_lt (blk_lt (g := gb804) (o := .cells #[.int .i64 ((T52 l0 x15_1).f0), .int .i64 ((T52 l0 x15_1).f1), .slice A803_2 ((T52 l0 x15_1).f2).length c803_2, .int .i64 ((T52 l0 x15_1).f3), .int .i64 ((T52 l0 x15_1).f4), .slice A803_5 ((T52 l0 x15_1).f5).length c803_5] 52 (0, 0)) (by refine blk_put (cs := #[.int .i64 ((T52 l0 x15_1).f0), .int .i64 ((T52 l0 x15_1).f1), .slice A803_2 ((T52 l0 x15_1).f2).length c803_2, .int .i64 ((T52 l0 x15_1).f3), .int .i64 ((T52 l0 x15_1).f4), .slice none 0 0]) ?_ 5 _ rfl; refine blk_put (cs := #[.int .i64 ((T52 l0 x15_1).f0), .int .i64 ((T52 l0 x15_1).f1), .slice A803_2 ((T52 l0 x15_1).f2).length c803_2, .int .i64 ((T52 l0 x15_1).f3), .int .i64 0, .slice none 0 0]) ?_ 4 _ rfl; refine blk_put (cs := #[.int .i64 ((T52 l0 x15_1).f0), .int .i64 ((T52 l0 x15_1).f1), .slice A803_2 ((T52 l0 x15_1).f2).length c803_2, .int .i64 0, .int .i64 0, .slice none 0 0]) ?_ 3 _ rfl; refine blk_put (cs := #[.int .i64 ((T52 l0 x15_1).f0), .int .i64 ((T52 l0 x15_1).f1), .slice none 0 0, .int .i64 0, .int .i64 0, .slice none 0 0]) ?_ 2 _ rfl; refine blk_put (cs := #[.int .i64 ((T52 l0 x15_1).f0), .int .i64 0, .slice none 0 0, .int .i64 0, .int .i64 0, .slice none 0 0]) ?_ 1 _ rfl; refine blk_put (cs := #[.int .i64 0, .int .i64 0, .slice none 0 0, .int .i64 0, .int .i64 0, .slice none 0 0]) ?_ 0 _ rfl; exact BK804.out)) : gb804 ≠ gb806)); have NB806_804 := am ((by rw [hg]; exact Nat.ne_of_gt (blk_lt (g := gb804) (o := .cells #[.int .i64 ((T52 l0 x15_1).f0), .int .i64 ((T52 l0 x15_1).f1), .slice A803_2 ((T52 l0 x15_1).f2).length c803_2, .int .i64 ((T52 l0 x15_1).f3), .int .i64 ((T52 l0 x15_1).f4), .slice A803_5 ((T52 l0 x15_1).f5).length c803_5] 52 (0, 0)) (by refine blk_put (cs := #[.int .i64 ((T52 l0 x15_1).f0), .int .i64 ((T52 l0 x15_1).f1), .slice A803_2 ((T52 l0 x15_1).f2).length c803_2, .int .i64 ((T52 l0 x15_1).f3), .int .i64 ((T52 l0 x15_1).f4), .slice none 0 0]) ?_ 5 _ rfl; refine blk_put (cs := #[.int .i64 ((T52 l0 x15_1).f0), .int .i64 ((T52 l0 x15_1).f1), .slice A803_2 ((T52 l0 x15_1).f2).length c803_2, .int .i64 ((T52 l0 x15_1).f3), .int .i64 0, .slice none 0 0]) ?_ 4 _ rfl; refine blk_put (cs := #[.int .i64 ((T52 l0 x15_1).f0), .int .i64 ((T52 l0 x15_1).f1), .slice A803_2 ((T52 l0 x15_1).f2).length c803_2, .int .i64 0, .int .i64 0, .slice none 0 0]) ?_ 3 _ rfl; refine blk_put (cs := #[.int .i64 ((T52 l0 x15_1).f0), .int .i64 ((T52 l0 x15_1).f1), .slice none 0 0, .int .i64 0, .int .i64 0, .slice none 0 0]) ?_ 2 _ rfl; refine blk_put (cs := #[.int .i64 ((T52 l0 x15_1).f0), .int .i64 0, .slice none 0 0, .int .i64 0, .int .i64 0, .slice none 0 0]) ?_ 1 _ rfl; refine blk_put (cs := #[.int .i64 0, .int .i64 0, .slice none 0 0, .int .i64 0, .int .i64 0, .slice none 0 0]) ?_ 0 _ rfl; exact BK804.out)) : gb806 ≠ gb804)); replace BK804 := am (blk_below (g := gb804) (o := .cells #[.int .i64 ((T52 l0 x15_1).f0), .int .i64 ((T52 l0 x15_1).f1), .slice A803_2 ((T52 l0 x15_1).f2).length c803_2, .int .i64 ((T52 l0 x15_1).f3), .int .i64 ((T52 l0 x15_1).f4), .slice A803_5 ((T52 l0 x15_1).f5).length c803_5] 52 (0, 0)) (by refine blk_put (cs := #[.int .i64 ((T52 l0 x15_1).f0), .int .i64 ((T52 l0 x15_1).f1), .slice A803_2 ((T52 l0 x15_1).f2).length c803_2, .int .i64 ((T52 l0 x15_1).f3), .int .i64 ((T52 l0 x15_1).f4), .slice none 0 0]) ?_ 5 _ rfl; refine blk_put (cs := #[.int .i64 ((T52 l0 x15_1).f0), .int .i64 ((T52 l0 x15_1).f1), .slice A803_2 ((T52 l0 x15_1).f2).length c803_2, .int .i64 ((T52 l0 x15_1).f3), .int .i64 0, .slice none 0 0]) ?_ 4 _ rfl; refine blk_put (cs := #[.int .i64 ((T52 l0 x15_1).f0), .int .i64 ((T52 l0 x15_1).f1), .slice A803_2 ((T52 l0 x15_1).f2).length c803_2, .int .i64 0, .int .i64 0, .slice none 0 0]) ?_ 3 _ rfl; refine blk_put (cs := #[.int .i64 ((T52 l0 x15_1).f0), .int .i64 ((T52 l0 x15_1).f1), .slice none 0 0, .int .i64 0, .int .i64 0, .slice none 0 0]) ?_ 2 _ rfl; refine blk_put (cs := #[.int .i64 ((T52 l0 x15_1).f0), .int .i64 0, .slice none 0 0, .int .i64 0, .int .i64 0, .slice none 0 0]) ?_ 1 _ rfl; refine blk_put (cs := #[.int .i64 0, .int .i64 0, .slice none 0 0, .int .i64 0, .int .i64 0, .slice none 0 0]) ?_ 0 _ rfl; exact BK804.out) hb); clear hb hbox hg; have hnb19 := NB806_804.out; have hnc19 := NB804_806.out; obtain ⟨hcz20_0, hcz20_1, hcz20_2, hcz20_3, hcz20_4, hcz20_5⟩ := cz6 BK806.out; obtain ⟨hfz20_0, hfz20_1, hfz20_2, hfz20_3, hfz20_4, hfz20_5⟩ := fz6 BK806.out; obtain ⟨hcz21_0, hcz21_1, hcz21_2, hcz21_3, hcz21_4, hcz21_5⟩ := cz6 BK804.out; obtain ⟨hfz21_0, hfz21_1, hfz21_2, hfz21_3, hfz21_4, hfz21_5⟩ := fz6 BK804.out) | (go_at_call 17; (with_reducible refine (laws_sameTexts.calls k1 _ _ ((T52 l0 x15_1).f2) _ _ ((T52 l1 x15_1).f2) true _ ?side1 ?side2 ?side3 ?side4 A12.out).mono ?_); (case side1 => exact Kd.C_below HR803_2.out zw); (case side2 => exact HC803_2.out); (case side3 => exact Kd.C_below HR805_2.out zw); (case side4 => exact HC805_2.out); rintro e w' ⟨rfl, ⟨nd, rfl⟩⟩) | (go_at_call 17; (with_reducible refine (laws_sameTexts.calls k1 _ _ ((T52 l0 x15_1).f5) _ _ ((T52 l1 x15_1).f5) true _ ?side1 ?side2 ?side3 ?side4 A14.out).mono ?_); (case side1 => exact Kd.C_below HR803_5.out zw); (case side2 => exact HC803_5.out); (case side3 => exact Kd.C_below HR805_5.out zw); (case side4 => exact HC805_5.out); rintro e w' ⟨rfl, ⟨nd, rfl⟩⟩))
           go_roundg k1
           case measure => have := HK1.out; omega
           case rel => exact ⟨(wrap64 (x15_1 + 1)), zf, H', ⟨by have := HK1.out; omega⟩, ⟨zw⟩⟩
          ·replace c15 := Bool.eq_false_iff.mpr c15
           subst c15
           rw [if_neg nofun] at H
           exact absurd (show false = true from (Option.some.inj H).trans HR_.out) Bool.false_ne_true
         ·replace c13 := Bool.eq_false_iff.mpr c13
          subst c13
          rw [if_neg nofun] at H
          exact absurd (show false = true from (Option.some.inj H).trans HR_.out) Bool.false_ne_true
        ·rw [if_neg c11] at H
         have c11b0 : (((T52 l0 x15_1).f4) == ((T52 l1 x15_1).f4)) = false := beq_eq_false_iff_ne.mpr c11
         have c11b1 : (((T52 l0 x15_1).f4) != ((T52 l1 x15_1).f4)) = true := bne_iff_ne.mpr c11
         exact absurd (show false = true from (Option.some.inj H).trans HR_.out) Bool.false_ne_true
       ·rw [if_neg c10] at H
        have c10b0 : (((T52 l0 x15_1).f3) == ((T52 l1 x15_1).f3)) = false := beq_eq_false_iff_ne.mpr c10
        have c10b1 : (((T52 l0 x15_1).f3) != ((T52 l1 x15_1).f3)) = true := bne_iff_ne.mpr c10
        exact absurd (show false = true from (Option.some.inj H).trans HR_.out) Bool.false_ne_true
      ·rw [if_neg c9] at H
       have c9b0 : (((T52 l0 x15_1).f1) == ((T52 l1 x15_1).f1)) = false := beq_eq_false_iff_ne.mpr c9
       have c9b1 : (((T52 l0 x15_1).f1) != ((T52 l1 x15_1).f1)) = true := bne_iff_ne.mpr c9
       exact absurd (show false = true from (Option.some.inj H).trans HR_.out) Bool.false_ne_true
     ·rw [if_neg c8] at H
      have c8b0 : (((T52 l0 x15_1).f0) == ((T52 l1 x15_1).f0)) = false := beq_eq_false_iff_ne.mpr c8
      have c8b1 : (((T52 l0 x15_1).f0) != ((T52 l1 x15_1).f0)) = true := bne_iff_ne.mpr c8
      exact absurd (show false = true from (Option.some.inj H).trans HR_.out) Bool.false_ne_true
    ·rw [if_neg c4] at H
     have c4b0 : decide (x15_1 < (l0.length : Int)) = false := decide_eq_false c4
     clear c4
     first
     | exact absurd (show false = true from (Option.some.inj H).trans HR_.out) Bool.false_ne_true
     | obtain rfl := Option.some.inj H
       go_wp2
       go_ret
       exact ⟨by rfl, zb⟩
 ·rw [if_neg c3] at H
  have c3b0 : ((l0.length : Int) == (l1.length : Int)) = false := beq_eq_false_iff_ne.mpr c3
  have c3b1 : ((l0.length : Int) != (l1.length : Int)) = true := bne_iff_ne.mpr c3
  have c3b2 : (l0.length == l1.length) = false := by (simp at c3 ⊢; omega)
  exact absurd (show false = true from (Option.some.inj H).trans HR_.out) Bool.false_ne_true

def spec_l1Ends.f (a0 : ByteArray) : Option (Bool) := if 0 ≤ (wrap64 ((a0.size : Int) - 1)) then (if (wrap64 ((a0.size : Int) - 1)) < (a0.size : Int) then (some ((bt a0 (wrap64 ((a0.size : Int) - 1))) == 10)) else (none)) else (none)
set_option maxHeartbeats 8000000 in
set_option maxRecDepth 100000 in
theorem spec_l1Ends.calls (a0 : ByteArray) (r : Bool) (w : World) (h : spec_l1Ends.f a0 = some r) :
  Calls Tryz.prog 72 #[.string a0] w fun e w' => e = .returned (.bool r) ∧ Drawn0 w w' := by
 have H : (if 0 ≤ (wrap64 ((a0.size : Int) - 1)) then (if (wrap64 ((a0.size : Int) - 1)) < (a0.size : Int) then (some ((bt a0 (wrap64 ((a0.size : Int) - 1))) == 10)) else (none)) else (none)) = some r := h
 clear h
 obtain ⟨ji2, hji2⟩ : ∃ j_ : Int, (wrap64 ((a0.size : Int) - 1)) = j_ := ⟨_, rfl⟩
 replace H : (if 0 ≤ (ji2) then (if (ji2) < (a0.size : Int) then (some ((bt a0 (ji2)) == 10)) else (none)) else (none)) = some r := by first | (rw [hji2] at H; exact H) | (simp only [hji2] at H ⊢; exact H)
 have hji2w : (IntKind.i64.wrap ((a0.size : Int) - 1)) = ji2 := (i64_w _).trans hji2
 by_cases c3 : 0 ≤ (ji2)
 ·rw [if_pos c3] at H
  have c3b0 : decide (0 ≤ (ji2)) = true := decide_eq_true c3
  clear c3
  by_cases c4 : (ji2) < (a0.size : Int)
  ·rw [if_pos c4] at H
   have c4b0 : decide ((ji2) < (a0.size : Int)) = true := decide_eq_true c4
   clear c4
   obtain rfl := Option.some.inj H
   have p5 : 0 ≤ ((ji2) : Int) := oa
   have q5 : (ji2) < (a0.size : Int) := oa
   have hx5 := bt_at a0 (ji2)
   replace p5 := eq_true p5
   replace q5 := eq_true q5
   go_enter Tryz.func72, Tryz.ntmps72
   go_wp2
   go_ret
   exact ⟨by first | rfl | (simp; done) | (simp only [← hji2] <;> (first | rfl | simp)) | (simp [*]; done), by repeat (first | exact Drawn0.refl _ | apply Drawn0.step)⟩
  ·rw [if_neg c4] at H
   exact absurd H (by simp)
 ·rw [if_neg c3] at H
  exact absurd H (by simp)

def spec_l1In.f (a0 : Int) (a1 : Int) (a2 : Int) : Option (Bool) := if a0 ≥ a1 then (some (decide (a0 ≤ a2))) else (some false)
set_option maxHeartbeats 8000000 in
set_option maxRecDepth 100000 in
theorem spec_l1In.calls (a0 : Int) (a1 : Int) (a2 : Int) (r : Bool) (w : World) (h : spec_l1In.f a0 a1 a2 = some r) :
  Calls Tryz.prog 100 #[.int .i64 a0, .int .i64 a1, .int .i64 a2] w fun e w' => e = .returned (.bool r) ∧ Drawn0 w w' := by
 have H : (if a0 ≥ a1 then (some (decide (a0 ≤ a2))) else (some false)) = some r := h
 clear h
 by_cases c4 : a0 ≥ a1
 ·rw [if_pos c4] at H
  have c4b0 : decide (a1 ≤ a0) = true := decide_eq_true c4
  clear c4
  obtain rfl := Option.some.inj H
  go_enter Tryz.func100, Tryz.ntmps100
  go_wp2
  go_ret
  exact ⟨by first | rfl | (simp; done) | (simp [*]; done), by repeat (first | exact Drawn0.refl _ | apply Drawn0.step)⟩
 ·rw [if_neg c4] at H
  have c4b0 : decide (a1 ≤ a0) = false := decide_eq_false c4
  clear c4
  obtain rfl := Option.some.inj H
  go_enter Tryz.func100, Tryz.ntmps100
  go_wp2
  go_ret
  exact ⟨by first | rfl | (simp; done) | (simp [*]; done), by repeat (first | exact Drawn0.refl _ | apply Drawn0.step)⟩

def spec_l1Line.l0 : Nat → ByteArray → Int → Option (Bool)
 | 0, _, _ => none
 | k + 1, x0, x3 => if x3 < (wrap64 ((x0.size : Int) - 1)) then (if 0 ≤ x3 then (if x3 < (x0.size : Int) then (if (bt x0 x3) = 10 then (some false) else (spec_l1Line.l0 k x0 (wrap64 (x3 + 1)))) else (none)) else (none)) else ((spec_l1In.f (x0.size : Int) 1 30).bind fun t101 => (some t101))
def spec_l1Line.f (k : Nat) (a0 : ByteArray) : Option (Bool) := spec_l1Line.l0 k a0 0
set_option maxHeartbeats 8000000 in
set_option maxRecDepth 100000 in
theorem spec_l1Line.calls (k : Nat) (a0 : ByteArray) (r : Bool) (w : World) (h : spec_l1Line.f k a0 = some r) :
  Calls Tryz.prog 71 #[.string a0] w fun e w' => e = .returned (.bool r) ∧ Drawn0 w w' := by
 have H := h
 clear h
 unfold spec_l1Line.f at H
 have H' := am H
 clear H
 go_enter Tryz.func71, Tryz.ntmps71
 go_wp2
 go_loopg [3] k (fun kq v3 w' => ∃ (x3_1 : Int), v3 = .int .i64 x3_1 ∧ Aside0 (spec_l1Line.l0 kq a0 x3_1 = some r) ∧ Aside0 (kq ≤ k) ∧ Drawn0 w w')
 case atStart => exact ⟨(0), zf, H', ⟨Nat.le_refl _⟩, by repeat (exact Drawn0.refl _)⟩
 case round =>
  clear H'
  obtain ⟨x3_1, rfl, HA, HK1, ⟨m1, rfl⟩⟩ := hrel
  cases gk with
  | zero => exact absurd HA.out (by simp [spec_l1Line.l0])
  | succ k1 =>
   have H := HA.out
   clear HA
   simp only [spec_l1Line.l0] at H
   by_cases c2 : x3_1 < (wrap64 ((a0.size : Int) - 1))
   ·rw [if_pos c2] at H
    have c2b0 : decide (x3_1 < (wrap64 ((a0.size : Int) - 1))) = true := decide_eq_true c2
    clear c2
    obtain ⟨c3, H⟩ := itn H
    have c3b0 := decide_eq_true c3
    clear c3
    obtain ⟨c4, H⟩ := itn H
    have c4b0 := decide_eq_true c4
    clear c4
    by_cases c6 : (bt a0 x3_1) = 10
    ·rw [if_pos c6] at H
     have c6b0 : ((bt a0 x3_1) == 10) = true := beq_iff_eq.mpr c6
     have c6b1 : ((bt a0 x3_1) != 10) = false := bne_eq_false_iff_eq.mpr c6
     clear c6
     obtain rfl := Option.some.inj H
     have p5 : 0 ≤ (x3_1 : Int) := oa
     have q5 : x3_1 < (a0.size : Int) := oa
     have hx5 := bt_at a0 x3_1
     replace p5 := eq_true p5
     replace q5 := eq_true q5
     go_wp2
     go_ret
     exact ⟨by rfl, by repeat (first | exact Drawn0.refl _ | apply Drawn0.step)⟩
    ·rw [if_neg c6] at H
     have c6b0 : ((bt a0 x3_1) == 10) = false := beq_eq_false_iff_ne.mpr c6
     have c6b1 : ((bt a0 x3_1) != 10) = true := bne_iff_ne.mpr c6
     have H' := am H
     clear H
     have p5 : 0 ≤ (x3_1 : Int) := oa
     have q5 : x3_1 < (a0.size : Int) := oa
     have hx5 := bt_at a0 x3_1
     replace p5 := eq_true p5
     replace q5 := eq_true q5
     go_wp2
     go_roundg k1
     case measure => have := HK1.out; omega
     case rel => exact ⟨(wrap64 (x3_1 + 1)), zf, H', ⟨by have := HK1.out; omega⟩, by repeat (first | exact Drawn0.refl _ | apply Drawn0.step)⟩
   ·rw [if_neg c2] at H
    have c2b0 : decide (x3_1 < (wrap64 ((a0.size : Int) - 1))) = false := decide_eq_false c2
    clear c2
    replace H := Option.bind_eq_some_iff.mp H
    obtain ⟨t101, A70, H⟩ := H
    replace H : (some t101) = some r := H
    have A7 := am A70
    clear A70
    obtain rfl := Option.some.inj H
    go_wp2_with (((with_reducible refine gateC (f := 100) rfl ?_); refine goesL_ (some 17) rfl rfl Tryz.func100 (by kernel_rfl) rfl #[.int .i64 (a0.size : Int), .int .i64 1, .int .i64 30] rfl zm ?_; (with_reducible refine (spec_l1In.calls (a0.size : Int) 1 30 t101 _ A7.out).mono ?_); rintro e w' ⟨rfl, ⟨nd, rfl⟩⟩; refine ⟨_, rfl, ?_⟩))
    go_ret
    exact ⟨by rfl, by repeat (first | exact Drawn0.refl _ | apply Drawn0.step)⟩

def spec_l1Good.l0 : Nat → List ByteArray → List ByteArray → Int → Int → Option (Bool)
 | 0, _, _, _, _ => none
 | k + 1, x0, x5, x6, x7 => if x7 < x6 then (if 0 ≤ x7 then (if x7 < (x5.length : Int) then ((spec_l1Line.f k (rdOf ByteArray.empty x5 x7)).bind fun t735 => (if t735 = true then (if x7 < (wrap64 ((x0.length : Int) - 1)) then ((spec_l1Ends.f (rdOf ByteArray.empty x5 x7)).bind fun t736 => (if t736 = true then (spec_l1Good.l0 k x0 x5 x6 (wrap64 (x7 + 1))) else (some false))) else (spec_l1Good.l0 k x0 x5 x6 (wrap64 (x7 + 1)))) else (some false))) else (none)) else (none)) else (some (decide ((x0.length : Int) ≤ 40)))
def spec_l1Good.f (k : Nat) (l0 : List ByteArray) : Option (Bool) := spec_l1Good.l0 k l0 l0 (l0.length : Int) 0
set_option maxHeartbeats 8000000 in
set_option maxRecDepth 100000 in
theorem spec_l1Good.calls (k : Nat) (A0 : Option Addr) (c0 : Nat) (l0 : List ByteArray) (r : Bool) (w : World) (hr0 : Kd.C Kd.string w A0 l0.length l0) (hc0 : l0.length ≤ c0) (h : spec_l1Good.f k l0 = some r) :
  Calls Tryz.prog 41 #[.slice A0 l0.length c0] w fun e w' => e = .returned (.bool r) ∧ Drawn0 w w' := by
 have HR0 := am hr0
 have HC0 := am hc0
 clear hr0 hc0
 have H := h
 clear h
 unfold spec_l1Good.f at H
 have H' := am H
 clear H
 go_enter Tryz.func41, Tryz.ntmps41
 go_wp2
 go_loopg [7] k (fun kq v7 w' => ∃ (x7_1 : Int), v7 = .int .i64 x7_1 ∧ Aside0 (spec_l1Good.l0 kq l0 l0 (l0.length : Int) x7_1 = some r) ∧ Aside0 (kq ≤ k) ∧ Drawn0 w w')
 case atStart => exact ⟨(0), zf, H', ⟨Nat.le_refl _⟩, by repeat (exact Drawn0.refl _)⟩
 case round =>
  clear H'
  obtain ⟨x7_1, rfl, HA, HK1, ⟨m1, rfl⟩⟩ := hrel
  cases gk with
  | zero => exact absurd HA.out (by simp [spec_l1Good.l0])
  | succ k1 =>
   have H := HA.out
   clear HA
   simp only [spec_l1Good.l0] at H
   by_cases c2 : x7_1 < (l0.length : Int)
   ·rw [if_pos c2] at H
    have c2b0 : decide (x7_1 < (l0.length : Int)) = true := decide_eq_true c2
    clear c2
    obtain ⟨c3, H⟩ := itn H
    have c3b0 := decide_eq_true c3
    clear c3
    obtain ⟨c4, H⟩ := itn H
    have c4b0 := decide_eq_true c4
    clear c4
    replace H := Option.bind_eq_some_iff.mp H
    obtain ⟨t735, A50, H⟩ := H
    replace H : (if t735 = true then (if x7_1 < (wrap64 ((l0.length : Int) - 1)) then ((spec_l1Ends.f (rdOf ByteArray.empty l0 x7_1)).bind fun t736 => (if t736 = true then (spec_l1Good.l0 k1 l0 l0 (l0.length : Int) (wrap64 (x7_1 + 1))) else (some false))) else (spec_l1Good.l0 k1 l0 l0 (l0.length : Int) (wrap64 (x7_1 + 1)))) else (some false)) = some r := H
    have A5 := am A50
    clear A50
    by_cases c6 : t735 = true
    ·subst c6
     rw [if_pos rfl] at H
     by_cases c7 : x7_1 < (wrap64 ((l0.length : Int) - 1))
     ·rw [if_pos c7] at H
      have c7b0 : decide (x7_1 < (wrap64 ((l0.length : Int) - 1))) = true := decide_eq_true c7
      clear c7
      replace H := Option.bind_eq_some_iff.mp H
      obtain ⟨t736, A80, H⟩ := H
      replace H : (if t736 = true then (spec_l1Good.l0 k1 l0 l0 (l0.length : Int) (wrap64 (x7_1 + 1))) else (some false)) = some r := H
      have A8 := am A80
      clear A80
      by_cases c9 : t736 = true
      ·subst c9
       rw [if_pos rfl] at H
       have H' := am H
       clear H
       have p734 : 0 ≤ (x7_1 : Int) := oa
       have q734 : x7_1 < (l0.length : Int) := oa
       obtain ⟨ad734, e734, hx734_0⟩ := Kd.at_string HR0.out x7_1 p734 q734
       cases e734
       replace p734 := eq_true p734
       replace q734 := eq_true q734
       go_wp2_with (first | ((with_reducible refine gateC (f := 71) rfl ?_); refine goesL_ (some 13) rfl rfl Tryz.func71 (by kernel_rfl) rfl #[.string (rdOf ByteArray.empty l0 x7_1)] rfl zm ?_; (with_reducible refine (spec_l1Line.calls k1 (rdOf ByteArray.empty l0 x7_1) true _ A5.out).mono ?_); rintro e w' ⟨rfl, ⟨nd, rfl⟩⟩; refine ⟨_, rfl, ?_⟩) | (go_at_call 72; (with_reducible refine (spec_l1Ends.calls (rdOf ByteArray.empty l0 x7_1) true _ A8.out).mono ?_); rintro e w' ⟨rfl, ⟨nd, rfl⟩⟩))
       go_roundg k1
       case measure => have := HK1.out; omega
       case rel => exact ⟨(wrap64 (x7_1 + 1)), zf, H', ⟨by have := HK1.out; omega⟩, by repeat (first | exact Drawn0.refl _ | apply Drawn0.step)⟩
      ·replace c9 := Bool.eq_false_iff.mpr c9
       subst c9
       rw [if_neg nofun] at H
       obtain rfl := Option.some.inj H
       have p734 : 0 ≤ (x7_1 : Int) := oa
       have q734 : x7_1 < (l0.length : Int) := oa
       obtain ⟨ad734, e734, hx734_0⟩ := Kd.at_string HR0.out x7_1 p734 q734
       cases e734
       replace p734 := eq_true p734
       replace q734 := eq_true q734
       go_wp2_with (first | ((with_reducible refine gateC (f := 71) rfl ?_); refine goesL_ (some 13) rfl rfl Tryz.func71 (by kernel_rfl) rfl #[.string (rdOf ByteArray.empty l0 x7_1)] rfl zm ?_; (with_reducible refine (spec_l1Line.calls k1 (rdOf ByteArray.empty l0 x7_1) true _ A5.out).mono ?_); rintro e w' ⟨rfl, ⟨nd, rfl⟩⟩; refine ⟨_, rfl, ?_⟩) | (go_at_call 72; (with_reducible refine (spec_l1Ends.calls (rdOf ByteArray.empty l0 x7_1) false _ A8.out).mono ?_); rintro e w' ⟨rfl, ⟨nd, rfl⟩⟩))
       go_ret
       exact ⟨by rfl, by repeat (first | exact Drawn0.refl _ | apply Drawn0.step)⟩
     ·rw [if_neg c7] at H
      have c7b0 : decide (x7_1 < (wrap64 ((l0.length : Int) - 1))) = false := decide_eq_false c7
      clear c7
      have H' := am H
      clear H
      have p734 : 0 ≤ (x7_1 : Int) := oa
      have q734 : x7_1 < (l0.length : Int) := oa
      obtain ⟨ad734, e734, hx734_0⟩ := Kd.at_string HR0.out x7_1 p734 q734
      cases e734
      replace p734 := eq_true p734
      replace q734 := eq_true q734
      go_wp2_with (((with_reducible refine gateC (f := 71) rfl ?_); refine goesL_ (some 13) rfl rfl Tryz.func71 (by kernel_rfl) rfl #[.string (rdOf ByteArray.empty l0 x7_1)] rfl zm ?_; (with_reducible refine (spec_l1Line.calls k1 (rdOf ByteArray.empty l0 x7_1) true _ A5.out).mono ?_); rintro e w' ⟨rfl, ⟨nd, rfl⟩⟩; refine ⟨_, rfl, ?_⟩))
      go_roundg k1
      case measure => have := HK1.out; omega
      case rel => exact ⟨(wrap64 (x7_1 + 1)), zf, H', ⟨by have := HK1.out; omega⟩, by repeat (first | exact Drawn0.refl _ | apply Drawn0.step)⟩
    ·replace c6 := Bool.eq_false_iff.mpr c6
     subst c6
     rw [if_neg nofun] at H
     obtain rfl := Option.some.inj H
     have p734 : 0 ≤ (x7_1 : Int) := oa
     have q734 : x7_1 < (l0.length : Int) := oa
     obtain ⟨ad734, e734, hx734_0⟩ := Kd.at_string HR0.out x7_1 p734 q734
     cases e734
     replace p734 := eq_true p734
     replace q734 := eq_true q734
     go_wp2_with (((with_reducible refine gateC (f := 71) rfl ?_); refine goesL_ (some 13) rfl rfl Tryz.func71 (by kernel_rfl) rfl #[.string (rdOf ByteArray.empty l0 x7_1)] rfl zm ?_; (with_reducible refine (spec_l1Line.calls k1 (rdOf ByteArray.empty l0 x7_1) false _ A5.out).mono ?_); rintro e w' ⟨rfl, ⟨nd, rfl⟩⟩; refine ⟨_, rfl, ?_⟩))
     go_ret
     exact ⟨by rfl, by repeat (first | exact Drawn0.refl _ | apply Drawn0.step)⟩
   ·rw [if_neg c2] at H
    have c2b0 : decide (x7_1 < (l0.length : Int)) = false := decide_eq_false c2
    clear c2
    obtain rfl := Option.some.inj H
    go_wp2
    go_ret
    exact ⟨by rfl, by repeat (first | exact Drawn0.refl _ | apply Drawn0.step)⟩

mutual
def spec_l2Hunks.l0 : Nat → Int → List (S60) → List (S60) → Int → Int → Option (Bool)
 | 0, _, _, _, _, _ => none
 | k + 1, x0, x1, x9, x10, x11 => if x11 < x10 then (if 0 ≤ x11 then (if x11 < (x9.length : Int) then (if ((T60 x9 x11).f0) < 0 then (spec_l2Hunks.j1 k x0 x1 x9 x10 x11 true ((T60 x9 x11).f0) ((T60 x9 x11).f1) ((T60 x9 x11).f2)) else (if ((T60 x9 x11).f1) < 0 then (spec_l2Hunks.j1 k x0 x1 x9 x10 x11 true ((T60 x9 x11).f0) ((T60 x9 x11).f1) ((T60 x9 x11).f2)) else (if ((T60 x9 x11).f1) > x0 then (spec_l2Hunks.j1 k x0 x1 x9 x10 x11 true ((T60 x9 x11).f0) ((T60 x9 x11).f1) ((T60 x9 x11).f2)) else (if ((T60 x9 x11).f0) > (wrap64 (x0 - ((T60 x9 x11).f1))) then (spec_l2Hunks.j1 k x0 x1 x9 x10 x11 true ((T60 x9 x11).f0) ((T60 x9 x11).f1) ((T60 x9 x11).f2)) else (if (wrap64 (((T60 x9 x11).f1) + (((T60 x9 x11).f2).length : Int))) = 0 then (spec_l2Hunks.j1 k x0 x1 x9 x10 x11 true ((T60 x9 x11).f0) ((T60 x9 x11).f1) ((T60 x9 x11).f2)) else (if (((T60 x9 x11).f2).length : Int) > 40 then (spec_l2Hunks.j1 k x0 x1 x9 x10 x11 true ((T60 x9 x11).f0) ((T60 x9 x11).f1) ((T60 x9 x11).f2)) else (if x11 > 0 then (if 0 ≤ (wrap64 (x11 - 1)) then (if (wrap64 (x11 - 1)) < (x1.length : Int) then (spec_l2Hunks.j1 k x0 x1 x9 x10 x11 (decide (((T60 x9 x11).f0) ≤ (wrap64 (((T60 x1 (wrap64 (x11 - 1))).f0) + ((T60 x1 (wrap64 (x11 - 1))).f1))))) ((T60 x9 x11).f0) ((T60 x9 x11).f1) ((T60 x9 x11).f2)) else (none)) else (none)) else (spec_l2Hunks.j1 k x0 x1 x9 x10 x11 false ((T60 x9 x11).f0) ((T60 x9 x11).f1) ((T60 x9 x11).f2))))))))) else (none)) else (none)) else (if (x1.length : Int) ≤ 20 then ((spec_l1In.f x0 0 40).bind fun t737 => (some t737)) else (some false))
def spec_l2Hunks.j1 : Nat → Int → List (S60) → List (S60) → Int → Int → Bool → Int → Int → List ByteArray → Option (Bool)
 | 0, _, _, _, _, _, _, _, _, _ => none
 | k + 1, x0, x1, x9, x10, x11, x75, x740000, x740001, x740002 => if x75 = true then (some false) else (spec_l2Hunks.l1 k x0 x1 x9 x10 x11 x740002 (x740002.length : Int) 0)
def spec_l2Hunks.l1 : Nat → Int → List (S60) → List (S60) → Int → Int → List ByteArray → Int → Int → Option (Bool)
 | 0, _, _, _, _, _, _, _, _ => none
 | k + 1, x0, x1, x9, x10, x11, x77, x78, x79 => if x79 < x78 then (if 0 ≤ x79 then (if x79 < (x77.length : Int) then ((spec_l1Line.f k (rdOf ByteArray.empty x77 x79)).bind fun t743 => (if t743 = true then (spec_l2Hunks.l1 k x0 x1 x9 x10 x11 x77 x78 (wrap64 (x79 + 1))) else (some false))) else (none)) else (none)) else (spec_l2Hunks.l0 k x0 x1 x9 x10 (wrap64 (x11 + 1)))
end
def spec_l2Hunks.f (k : Nat) (a0 : Int) (l1 : List (S60)) : Option (Bool) := spec_l2Hunks.l0 k a0 l1 l1 (l1.length : Int) 0
set_option maxHeartbeats 8000000 in
set_option maxRecDepth 100000 in
theorem spec_l2Hunks.calls (k : Nat) (a0 : Int) (A1 : Option Addr) (c1 : Nat) (l1 : List (S60)) (r : Bool) (w : World) (hr1 : Kd.C k60 w A1 l1.length l1) (hc1 : l1.length ≤ c1) (h : spec_l2Hunks.f k a0 l1 = some r) :
  Calls Tryz.prog 75 #[.int .i64 a0, .slice A1 l1.length c1] w fun e w' => e = .returned (.bool r) ∧ Below w.heap.size w w' := by
 have hu60 := Tryz.underlying60
 have HR1 := am hr1
 have HC1 := am hc1
 clear hr1 hc1
 have HB := am (Below.refl w.heap.size w)
 have H := h
 clear h
 unfold spec_l2Hunks.f at H
 have H' := am H
 clear H
 go_enter Tryz.func75, Tryz.ntmps75
 go_wp2
 go_loopg [11] k (fun kq v11 w' => ∃ (x11_1 : Int), v11 = .int .i64 x11_1 ∧ Aside0 (spec_l2Hunks.l0 kq a0 l1 l1 (l1.length : Int) x11_1 = some r) ∧ Aside0 (kq ≤ k) ∧ Aside0 (Below w.heap.size w w'))
 case atStart => exact ⟨(0), zf, H', ⟨Nat.le_refl _⟩, ⟨zb⟩⟩
 case round =>
  clear H'
  obtain ⟨x11_1, rfl, HA, HK1, HB⟩ := hrel
  cases gk with
  | zero => exact absurd HA.out (by simp [spec_l2Hunks.l0])
  | succ k1 =>
   have H := HA.out
   clear HA
   simp only [spec_l2Hunks.l0] at H
   by_cases c3 : x11_1 < (l1.length : Int)
   ·rw [if_pos c3] at H
    have c3b0 : decide (x11_1 < (l1.length : Int)) = true := decide_eq_true c3
    clear c3
    obtain ⟨c4, H⟩ := itn H
    have c4b0 := decide_eq_true c4
    clear c4
    obtain ⟨c5, H⟩ := itn H
    have c5b0 := decide_eq_true c5
    clear c5
    have HC6 := am H
    clear H
    have p738 : 0 ≤ (x11_1 : Int) := oa
    have q738 : x11_1 < (l1.length : Int) := oa
    obtain ⟨ad738, A738_2, c738_2, e738, hx738_0, hx738_1, hx738_2, hl738_2, hi738_2⟩ := at_T60 HR1.out x11_1 p738 q738
    cases e738
    replace hx738_0 := bc HB.out hx738_0
    replace hx738_1 := bc HB.out hx738_1
    replace hx738_2 := bc HB.out hx738_2
    have HR738_2 := am hi738_2
    have HC738_2 := am hl738_2
    clear hi738_2 hl738_2
    replace p738 := eq_true p738
    replace q738 := eq_true q738
    go_upto_region 4 with (((with_reducible refine gate_dst (N := 6) rfl ?_); (try (refine gate_guard (by rfl) ?_; dsimp only)); refine box_event ?hg (N := 6) ?hd (cs := #[.int .i64 0, .int .i64 0, .slice none 0 0]) (t := 60) ?hr ?_; (case hd => rfl); (case hg => rfl); (case hr => (go_simp; done)); intro gb739 hg w7 hbox hb; have BK739 := am (hbox); have GW739 := am ((by rw [hg]; exact (below_size zb) : w.heap.size ≤ gb739)); have GE739 := am ((by rw [hg]; exact (below_size zb) : w.heap.size ≤ gb739)); replace HB := am (below_step zb hb); clear hb hbox hg; obtain ⟨hcz8_0, hcz8_1, hcz8_2⟩ := cz3 BK739.out; obtain ⟨hfz8_0, hfz8_1, hfz8_2⟩ := fz3 BK739.out))
    go_cut [75] (fun v75 wc => ∃ (kq : Nat) (x75_5 : Bool), v75 = .bool x75_5 ∧ Aside0 (spec_l2Hunks.j1 kq a0 l1 l1 (l1.length : Int) x11_1 x75_5 ((T60 l1 x11_1).f0) ((T60 l1 x11_1).f1) ((T60 l1 x11_1).f2) = some r) ∧ Aside0 (kq ≤ k1) ∧ Aside0 (wc.heap[gb739]? = some (.cells #[.int .i64 ((T60 l1 x11_1).f0), .int .i64 ((T60 l1 x11_1).f1), (.slice A738_2 ((T60 l1 x11_1).f2).length c738_2)] 60 (0, 0))) ∧ Aside0 (Below w.heap.size w wc))
    case first =>
     have H := HC6.out
     clear HC6
     by_cases c9 : ((T60 l1 x11_1).f0) < 0
     ·rw [if_pos c9] at H
      have c9b0 : decide (((T60 l1 x11_1).f0) < 0) = true := decide_eq_true c9
      clear c9
      (skip)
      have H' := am H
      clear H
      obtain ⟨hcz10_0, hcz10_1, hcz10_2⟩ := cz3 BK739.out
      obtain ⟨hfz10_0, hfz10_1, hfz10_2⟩ := fz3 BK739.out
      go_wp2
      repeat (go_quiet (fail); try go_wp2)
      go_meet
      case rel => exact ⟨_, (true), zf, H', ⟨by have := HK1.out; omega⟩, ⟨by (with_reducible repeat (refine blk_drewN ?_ _)); refine blk_put (cs := #[.int .i64 ((T60 l1 x11_1).f0), .int .i64 ((T60 l1 x11_1).f1), .slice none 0 0]) ?_ 2 _ rfl; refine blk_put (cs := #[.int .i64 ((T60 l1 x11_1).f0), .int .i64 0, .slice none 0 0]) ?_ 1 _ rfl; refine blk_put (cs := #[.int .i64 0, .int .i64 0, .slice none 0 0]) ?_ 0 _ rfl; exact BK739.out⟩, ⟨zw⟩⟩
     ·rw [if_neg c9] at H
      have c9b0 : decide (((T60 l1 x11_1).f0) < 0) = false := decide_eq_false c9
      clear c9
      (skip)
      by_cases c11 : ((T60 l1 x11_1).f1) < 0
      ·rw [if_pos c11] at H
       have c11b0 : decide (((T60 l1 x11_1).f1) < 0) = true := decide_eq_true c11
       clear c11
       have H' := am H
       clear H
       obtain ⟨hcz12_0, hcz12_1, hcz12_2⟩ := cz3 BK739.out
       obtain ⟨hfz12_0, hfz12_1, hfz12_2⟩ := fz3 BK739.out
       go_wp2
       repeat (go_quiet (fail); try go_wp2)
       go_meet
       case rel => exact ⟨_, (true), zf, H', ⟨by have := HK1.out; omega⟩, ⟨by (with_reducible repeat (refine blk_drewN ?_ _)); refine blk_put (cs := #[.int .i64 ((T60 l1 x11_1).f0), .int .i64 ((T60 l1 x11_1).f1), .slice none 0 0]) ?_ 2 _ rfl; refine blk_put (cs := #[.int .i64 ((T60 l1 x11_1).f0), .int .i64 0, .slice none 0 0]) ?_ 1 _ rfl; refine blk_put (cs := #[.int .i64 0, .int .i64 0, .slice none 0 0]) ?_ 0 _ rfl; exact BK739.out⟩, ⟨zw⟩⟩
      ·rw [if_neg c11] at H
       have c11b0 : decide (((T60 l1 x11_1).f1) < 0) = false := decide_eq_false c11
       clear c11
       by_cases c13 : ((T60 l1 x11_1).f1) > a0
       ·rw [if_pos c13] at H
        have c13b0 : decide (a0 < ((T60 l1 x11_1).f1)) = true := decide_eq_true c13
        clear c13
        have H' := am H
        clear H
        obtain ⟨hcz14_0, hcz14_1, hcz14_2⟩ := cz3 BK739.out
        obtain ⟨hfz14_0, hfz14_1, hfz14_2⟩ := fz3 BK739.out
        go_wp2
        repeat (go_quiet (fail); try go_wp2)
        go_meet
        case rel => exact ⟨_, (true), zf, H', ⟨by have := HK1.out; omega⟩, ⟨by (with_reducible repeat (refine blk_drewN ?_ _)); refine blk_put (cs := #[.int .i64 ((T60 l1 x11_1).f0), .int .i64 ((T60 l1 x11_1).f1), .slice none 0 0]) ?_ 2 _ rfl; refine blk_put (cs := #[.int .i64 ((T60 l1 x11_1).f0), .int .i64 0, .slice none 0 0]) ?_ 1 _ rfl; refine blk_put (cs := #[.int .i64 0, .int .i64 0, .slice none 0 0]) ?_ 0 _ rfl; exact BK739.out⟩, ⟨zw⟩⟩
       ·rw [if_neg c13] at H
        have c13b0 : decide (a0 < ((T60 l1 x11_1).f1)) = false := decide_eq_false c13
        clear c13
        by_cases c15 : ((T60 l1 x11_1).f0) > (wrap64 (a0 - ((T60 l1 x11_1).f1)))
        ·rw [if_pos c15] at H
         have c15b0 : decide ((wrap64 (a0 - ((T60 l1 x11_1).f1))) < ((T60 l1 x11_1).f0)) = true := decide_eq_true c15
         clear c15
         have H' := am H
         clear H
         obtain ⟨hcz16_0, hcz16_1, hcz16_2⟩ := cz3 BK739.out
         obtain ⟨hfz16_0, hfz16_1, hfz16_2⟩ := fz3 BK739.out
         go_wp2
         repeat (go_quiet (fail); try go_wp2)
         go_meet
         case rel => exact ⟨_, (true), zf, H', ⟨by have := HK1.out; omega⟩, ⟨by (with_reducible repeat (refine blk_drewN ?_ _)); refine blk_put (cs := #[.int .i64 ((T60 l1 x11_1).f0), .int .i64 ((T60 l1 x11_1).f1), .slice none 0 0]) ?_ 2 _ rfl; refine blk_put (cs := #[.int .i64 ((T60 l1 x11_1).f0), .int .i64 0, .slice none 0 0]) ?_ 1 _ rfl; refine blk_put (cs := #[.int .i64 0, .int .i64 0, .slice none 0 0]) ?_ 0 _ rfl; exact BK739.out⟩, ⟨zw⟩⟩
        ·rw [if_neg c15] at H
         have c15b0 : decide ((wrap64 (a0 - ((T60 l1 x11_1).f1))) < ((T60 l1 x11_1).f0)) = false := decide_eq_false c15
         clear c15
         by_cases c17 : (wrap64 (((T60 l1 x11_1).f1) + (((T60 l1 x11_1).f2).length : Int))) = 0
         ·rw [if_pos c17] at H
          have c17b0 : ((wrap64 (((T60 l1 x11_1).f1) + (((T60 l1 x11_1).f2).length : Int))) == 0) = true := beq_iff_eq.mpr c17
          have c17b1 : ((wrap64 (((T60 l1 x11_1).f1) + (((T60 l1 x11_1).f2).length : Int))) != 0) = false := bne_eq_false_iff_eq.mpr c17
          clear c17
          have H' := am H
          clear H
          obtain ⟨hcz18_0, hcz18_1, hcz18_2⟩ := cz3 BK739.out
          obtain ⟨hfz18_0, hfz18_1, hfz18_2⟩ := fz3 BK739.out
          go_wp2
          repeat (go_quiet (fail); try go_wp2)
          go_meet
          case rel => exact ⟨_, (true), zf, H', ⟨by have := HK1.out; omega⟩, ⟨by (with_reducible repeat (refine blk_drewN ?_ _)); refine blk_put (cs := #[.int .i64 ((T60 l1 x11_1).f0), .int .i64 ((T60 l1 x11_1).f1), .slice none 0 0]) ?_ 2 _ rfl; refine blk_put (cs := #[.int .i64 ((T60 l1 x11_1).f0), .int .i64 0, .slice none 0 0]) ?_ 1 _ rfl; refine blk_put (cs := #[.int .i64 0, .int .i64 0, .slice none 0 0]) ?_ 0 _ rfl; exact BK739.out⟩, ⟨zw⟩⟩
         ·rw [if_neg c17] at H
          have c17b0 : ((wrap64 (((T60 l1 x11_1).f1) + (((T60 l1 x11_1).f2).length : Int))) == 0) = false := beq_eq_false_iff_ne.mpr c17
          have c17b1 : ((wrap64 (((T60 l1 x11_1).f1) + (((T60 l1 x11_1).f2).length : Int))) != 0) = true := bne_iff_ne.mpr c17
          by_cases c19 : (((T60 l1 x11_1).f2).length : Int) > 40
          ·rw [if_pos c19] at H
           have c19b0 : decide (40 < (((T60 l1 x11_1).f2).length : Int)) = true := decide_eq_true c19
           have c19b1 : decide (40 < ((T60 l1 x11_1).f2).length) = true := decide_eq_true (by omega)
           clear c19
           have H' := am H
           clear H
           obtain ⟨hcz20_0, hcz20_1, hcz20_2⟩ := cz3 BK739.out
           obtain ⟨hfz20_0, hfz20_1, hfz20_2⟩ := fz3 BK739.out
           go_wp2
           repeat (go_quiet (fail); try go_wp2)
           go_meet
           case rel => exact ⟨_, (true), zf, H', ⟨by have := HK1.out; omega⟩, ⟨by (with_reducible repeat (refine blk_drewN ?_ _)); refine blk_put (cs := #[.int .i64 ((T60 l1 x11_1).f0), .int .i64 ((T60 l1 x11_1).f1), .slice none 0 0]) ?_ 2 _ rfl; refine blk_put (cs := #[.int .i64 ((T60 l1 x11_1).f0), .int .i64 0, .slice none 0 0]) ?_ 1 _ rfl; refine blk_put (cs := #[.int .i64 0, .int .i64 0, .slice none 0 0]) ?_ 0 _ rfl; exact BK739.out⟩, ⟨zw⟩⟩
          ·rw [if_neg c19] at H
           have c19b0 : decide (40 < (((T60 l1 x11_1).f2).length : Int)) = false := decide_eq_false c19
           have c19b1 : decide (40 < ((T60 l1 x11_1).f2).length) = false := decide_eq_false (by omega)
           clear c19
           by_cases c21 : x11_1 > 0
           ·rw [if_pos c21] at H
            have c21b0 : decide (0 < x11_1) = true := decide_eq_true c21
            clear c21
            obtain ⟨ji22, hji22⟩ : ∃ j_ : Int, (wrap64 (x11_1 - 1)) = j_ := ⟨_, rfl⟩
            rw [hji22] at H
            have hji22w : (IntKind.i64.wrap (x11_1 - 1)) = ji22 := (i64_w _).trans hji22
            obtain ⟨c23, H⟩ := itn H
            have c23b0 := decide_eq_true c23
            clear c23
            obtain ⟨c24, H⟩ := itn H
            have c24b0 := decide_eq_true c24
            clear c24
            have H' := am H
            clear H
            obtain ⟨hcz25_0, hcz25_1, hcz25_2⟩ := cz3 BK739.out
            obtain ⟨hfz25_0, hfz25_1, hfz25_2⟩ := fz3 BK739.out
            have p740 : 0 ≤ ((ji22) : Int) := oa
            have q740 : (ji22) < (l1.length : Int) := oa
            obtain ⟨ad740, A740_2, c740_2, e740, hx740_0, hx740_1, hx740_2, hl740_2, hi740_2⟩ := at_T60 HR1.out (ji22) p740 q740
            obtain rfl : ad738 = ad740 := (by injection e740)
            have hn740_0 : ad738.block ≠ gb739 := Nat.ne_of_lt (Nat.lt_of_lt_of_le (zl hx740_0) GW739.out)
            have hn740_1 : ad738.block ≠ gb739 := Nat.ne_of_lt (Nat.lt_of_lt_of_le (zl hx740_0) GW739.out)
            have hn740_2 : ad738.block ≠ gb739 := Nat.ne_of_lt (Nat.lt_of_lt_of_le (zl hx740_0) GW739.out)
            replace hx740_0 := bc HB.out hx740_0
            replace hx740_1 := bc HB.out hx740_1
            replace hx740_2 := bc HB.out hx740_2
            have HR740_2 := am hi740_2
            have HC740_2 := am hl740_2
            clear hi740_2 hl740_2
            replace hx740_0 := (cell_far (p := ⟨gb739, 0, none⟩) (zn hn740_0) (.int .i64 ((T60 l1 x11_1).f0))).trans hx740_0
            replace hx740_1 := (cell_far (p := ⟨gb739, 0, none⟩) (zn hn740_0) (.int .i64 ((T60 l1 x11_1).f0))).trans hx740_1
            replace hx740_2 := (cell_far (p := ⟨gb739, 0, none⟩) (zn hn740_0) (.int .i64 ((T60 l1 x11_1).f0))).trans hx740_2
            replace hx740_0 := (cell_far (p := ⟨gb739, 1, none⟩) (zn hn740_1) (.int .i64 ((T60 l1 x11_1).f1))).trans hx740_0
            replace hx740_1 := (cell_far (p := ⟨gb739, 1, none⟩) (zn hn740_1) (.int .i64 ((T60 l1 x11_1).f1))).trans hx740_1
            replace hx740_2 := (cell_far (p := ⟨gb739, 1, none⟩) (zn hn740_1) (.int .i64 ((T60 l1 x11_1).f1))).trans hx740_2
            replace hx740_0 := (cell_far (p := ⟨gb739, 2, none⟩) (zn hn740_2) (.slice A738_2 ((T60 l1 x11_1).f2).length c738_2)).trans hx740_0
            replace hx740_1 := (cell_far (p := ⟨gb739, 2, none⟩) (zn hn740_2) (.slice A738_2 ((T60 l1 x11_1).f2).length c738_2)).trans hx740_1
            replace hx740_2 := (cell_far (p := ⟨gb739, 2, none⟩) (zn hn740_2) (.slice A738_2 ((T60 l1 x11_1).f2).length c738_2)).trans hx740_2
            (try have hy740_0 := fun (n_ : Nat) => (show (((((w7.drewN n_).setCell ⟨gb739, 0, none⟩ (.int .i64 ((T60 l1 x11_1).f0))).setCell ⟨gb739, 1, none⟩ (.int .i64 ((T60 l1 x11_1).f1))).setCell ⟨gb739, 2, none⟩ (.slice A738_2 ((T60 l1 x11_1).f2).length c738_2))).cell? _ = some _ from hx740_0))
            (try have hy740_1 := fun (n_ : Nat) => (show (((((w7.drewN n_).setCell ⟨gb739, 0, none⟩ (.int .i64 ((T60 l1 x11_1).f0))).setCell ⟨gb739, 1, none⟩ (.int .i64 ((T60 l1 x11_1).f1))).setCell ⟨gb739, 2, none⟩ (.slice A738_2 ((T60 l1 x11_1).f2).length c738_2))).cell? _ = some _ from hx740_1))
            (try have hy740_2 := fun (n_ : Nat) => (show (((((w7.drewN n_).setCell ⟨gb739, 0, none⟩ (.int .i64 ((T60 l1 x11_1).f0))).setCell ⟨gb739, 1, none⟩ (.int .i64 ((T60 l1 x11_1).f1))).setCell ⟨gb739, 2, none⟩ (.slice A738_2 ((T60 l1 x11_1).f2).length c738_2))).cell? _ = some _ from hx740_2))
            clear hn740_0
            clear hn740_1
            clear hn740_2
            replace p740 := eq_true p740
            replace q740 := eq_true q740
            have p741 : 0 ≤ ((ji22) : Int) := oa
            have q741 : (ji22) < (l1.length : Int) := oa
            obtain ⟨ad741, A741_2, c741_2, e741, hx741_0, hx741_1, hx741_2, hl741_2, hi741_2⟩ := at_T60 HR1.out (ji22) p741 q741
            obtain rfl : ad738 = ad741 := (by injection e741)
            have hn741_0 : ad738.block ≠ gb739 := Nat.ne_of_lt (Nat.lt_of_lt_of_le (zl hx741_0) GW739.out)
            have hn741_1 : ad738.block ≠ gb739 := Nat.ne_of_lt (Nat.lt_of_lt_of_le (zl hx741_0) GW739.out)
            have hn741_2 : ad738.block ≠ gb739 := Nat.ne_of_lt (Nat.lt_of_lt_of_le (zl hx741_0) GW739.out)
            replace hx741_0 := bc HB.out hx741_0
            replace hx741_1 := bc HB.out hx741_1
            replace hx741_2 := bc HB.out hx741_2
            have HR741_2 := am hi741_2
            have HC741_2 := am hl741_2
            clear hi741_2 hl741_2
            replace hx741_0 := (cell_far (p := ⟨gb739, 0, none⟩) (zn hn741_0) (.int .i64 ((T60 l1 x11_1).f0))).trans hx741_0
            replace hx741_1 := (cell_far (p := ⟨gb739, 0, none⟩) (zn hn741_0) (.int .i64 ((T60 l1 x11_1).f0))).trans hx741_1
            replace hx741_2 := (cell_far (p := ⟨gb739, 0, none⟩) (zn hn741_0) (.int .i64 ((T60 l1 x11_1).f0))).trans hx741_2
            replace hx741_0 := (cell_far (p := ⟨gb739, 1, none⟩) (zn hn741_1) (.int .i64 ((T60 l1 x11_1).f1))).trans hx741_0
            replace hx741_1 := (cell_far (p := ⟨gb739, 1, none⟩) (zn hn741_1) (.int .i64 ((T60 l1 x11_1).f1))).trans hx741_1
            replace hx741_2 := (cell_far (p := ⟨gb739, 1, none⟩) (zn hn741_1) (.int .i64 ((T60 l1 x11_1).f1))).trans hx741_2
            replace hx741_0 := (cell_far (p := ⟨gb739, 2, none⟩) (zn hn741_2) (.slice A738_2 ((T60 l1 x11_1).f2).length c738_2)).trans hx741_0
            replace hx741_1 := (cell_far (p := ⟨gb739, 2, none⟩) (zn hn741_2) (.slice A738_2 ((T60 l1 x11_1).f2).length c738_2)).trans hx741_1
            replace hx741_2 := (cell_far (p := ⟨gb739, 2, none⟩) (zn hn741_2) (.slice A738_2 ((T60 l1 x11_1).f2).length c738_2)).trans hx741_2
            (try have hy741_0 := fun (n_ : Nat) => (show (((((w7.drewN n_).setCell ⟨gb739, 0, none⟩ (.int .i64 ((T60 l1 x11_1).f0))).setCell ⟨gb739, 1, none⟩ (.int .i64 ((T60 l1 x11_1).f1))).setCell ⟨gb739, 2, none⟩ (.slice A738_2 ((T60 l1 x11_1).f2).length c738_2))).cell? _ = some _ from hx741_0))
            (try have hy741_1 := fun (n_ : Nat) => (show (((((w7.drewN n_).setCell ⟨gb739, 0, none⟩ (.int .i64 ((T60 l1 x11_1).f0))).setCell ⟨gb739, 1, none⟩ (.int .i64 ((T60 l1 x11_1).f1))).setCell ⟨gb739, 2, none⟩ (.slice A738_2 ((T60 l1 x11_1).f2).length c738_2))).cell? _ = some _ from hx741_1))
            (try have hy741_2 := fun (n_ : Nat) => (show (((((w7.drewN n_).setCell ⟨gb739, 0, none⟩ (.int .i64 ((T60 l1 x11_1).f0))).setCell ⟨gb739, 1, none⟩ (.int .i64 ((T60 l1 x11_1).f1))).setCell ⟨gb739, 2, none⟩ (.slice A738_2 ((T60 l1 x11_1).f2).length c738_2))).cell? _ = some _ from hx741_2))
            clear hn741_0
            clear hn741_1
            clear hn741_2
            replace p741 := eq_true p741
            replace q741 := eq_true q741
            have eb_ := Option.some.inj (hx740_2.symm.trans hx741_2)
            injection eb_ with ea_ en_ ec_
            subst ea_
            subst ec_
            clear en_
            go_wp2
            repeat (go_quiet (fail); try go_wp2)
            go_meet
            case rel => exact ⟨_, (decide (((T60 l1 x11_1).f0) ≤ (wrap64 (((T60 l1 (ji22)).f0) + ((T60 l1 (ji22)).f1))))), (by rfl), H', ⟨by have := HK1.out; omega⟩, ⟨by (with_reducible repeat (refine blk_drewN ?_ _)); refine blk_put (cs := #[.int .i64 ((T60 l1 x11_1).f0), .int .i64 ((T60 l1 x11_1).f1), .slice none 0 0]) ?_ 2 _ rfl; refine blk_put (cs := #[.int .i64 ((T60 l1 x11_1).f0), .int .i64 0, .slice none 0 0]) ?_ 1 _ rfl; refine blk_put (cs := #[.int .i64 0, .int .i64 0, .slice none 0 0]) ?_ 0 _ rfl; exact BK739.out⟩, ⟨zw⟩⟩
           ·rw [if_neg c21] at H
            have c21b0 : decide (0 < x11_1) = false := decide_eq_false c21
            clear c21
            have H' := am H
            clear H
            obtain ⟨hcz26_0, hcz26_1, hcz26_2⟩ := cz3 BK739.out
            obtain ⟨hfz26_0, hfz26_1, hfz26_2⟩ := fz3 BK739.out
            go_wp2
            repeat (go_quiet (fail); try go_wp2)
            go_meet
            case rel => exact ⟨_, (false), zf, H', ⟨by have := HK1.out; omega⟩, ⟨by (with_reducible repeat (refine blk_drewN ?_ _)); refine blk_put (cs := #[.int .i64 ((T60 l1 x11_1).f0), .int .i64 ((T60 l1 x11_1).f1), .slice none 0 0]) ?_ 2 _ rfl; refine blk_put (cs := #[.int .i64 ((T60 l1 x11_1).f0), .int .i64 0, .slice none 0 0]) ?_ 1 _ rfl; refine blk_put (cs := #[.int .i64 0, .int .i64 0, .slice none 0 0]) ?_ 0 _ rfl; exact BK739.out⟩, ⟨zw⟩⟩
    case rest =>
     clear HC6
     try clear c3b0
     try clear c4b0
     try clear c5b0
     try clear hcz8_0
     try clear hcz8_1
     try clear hcz8_2
     try clear hfz8_0
     try clear hfz8_1
     try clear hfz8_2
     try clear hx738_0
     try clear hx738_1
     try clear hx738_2
     try clear p738
     try clear q738
     obtain ⟨kq, x75_5, rfl, HA, HJ5, BK739, HB⟩ := hcut
     cases kq with
     | zero => exact absurd HA.out (by simp [spec_l2Hunks.j1])
     | succ kj5 =>
      have H := HA.out
      clear HA
      simp only [spec_l2Hunks.j1] at H
      by_cases c27 : x75_5 = true
      ·subst c27
       rw [if_pos rfl] at H
       obtain rfl := Option.some.inj H
       go_wp2
       go_ret
       exact ⟨by rfl, zw⟩
      ·replace c27 := Bool.eq_false_iff.mpr c27
       subst c27
       rw [if_neg nofun] at H
       have H' := am H
       clear H
       obtain ⟨hcz28_0, hcz28_1, hcz28_2⟩ := cz3 BK739.out
       obtain ⟨hfz28_0, hfz28_1, hfz28_2⟩ := fz3 BK739.out
       go_wp2
       go_loopg [79] kj5 (fun kq v79 w' => ∃ (x79_3 : Int), v79 = .int .i64 x79_3 ∧ Aside0 (spec_l2Hunks.l1 kq a0 l1 l1 (l1.length : Int) x11_1 ((T60 l1 x11_1).f2) (((T60 l1 x11_1).f2).length : Int) x79_3 = some r) ∧ Aside0 (kq ≤ kj5) ∧ Aside0 (w'.heap[gb739]? = some (.cells #[.int .i64 ((T60 l1 x11_1).f0), .int .i64 ((T60 l1 x11_1).f1), (.slice A738_2 ((T60 l1 x11_1).f2).length c738_2)] 60 (0, 0))) ∧ Aside0 (Below w.heap.size w w'))
       case atStart => exact ⟨(0), zf, H', ⟨Nat.le_refl _⟩, ⟨zk BK739.out⟩, ⟨zw⟩⟩
       case round =>
        clear H'
        try clear hcz28_0
        try clear hcz28_1
        try clear hcz28_2
        try clear hfz28_0
        try clear hfz28_1
        try clear hfz28_2
        obtain ⟨x79_3, rfl, HA, HK3, BK739, HB⟩ := hrel
        cases gk with
        | zero => exact absurd HA.out (by simp [spec_l2Hunks.l1])
        | succ k3 =>
         have H := HA.out
         clear HA
         simp only [spec_l2Hunks.l1] at H
         by_cases c29 : x79_3 < (((T60 l1 x11_1).f2).length : Int)
         ·rw [if_pos c29] at H
          have c29b0 : decide (x79_3 < (((T60 l1 x11_1).f2).length : Int)) = true := decide_eq_true c29
          clear c29
          obtain ⟨c30, H⟩ := itn H
          have c30b0 := decide_eq_true c30
          clear c30
          obtain ⟨c31, H⟩ := itn H
          have c31b0 := decide_eq_true c31
          clear c31
          replace H := Option.bind_eq_some_iff.mp H
          obtain ⟨t743, A320, H⟩ := H
          replace H : (if t743 = true then (spec_l2Hunks.l1 k3 a0 l1 l1 (l1.length : Int) x11_1 ((T60 l1 x11_1).f2) (((T60 l1 x11_1).f2).length : Int) (wrap64 (x79_3 + 1))) else (some false)) = some r := H
          have A32 := am A320
          clear A320
          by_cases c33 : t743 = true
          ·subst c33
           rw [if_pos rfl] at H
           have H' := am H
           clear H
           have p742 : 0 ≤ (x79_3 : Int) := oa
           have q742 : x79_3 < (((T60 l1 x11_1).f2).length : Int) := oa
           obtain ⟨ad742, e742, hx742_0⟩ := Kd.at_string HR738_2.out x79_3 p742 q742
           cases e742
           replace hx742_0 := bc HB.out hx742_0
           replace p742 := eq_true p742
           replace q742 := eq_true q742
           go_wp2_with ((go_at_call 71; (with_reducible refine (spec_l1Line.calls k3 (rdOf ByteArray.empty ((T60 l1 x11_1).f2) x79_3) true _ A32.out).mono ?_); rintro e w' ⟨rfl, ⟨nd, rfl⟩⟩))
           go_roundg k3
           case measure => have := HK1.out; have := HJ5.out; have := HK3.out; omega
           case rel => exact ⟨(wrap64 (x79_3 + 1)), zf, H', ⟨by have := HK1.out; have := HJ5.out; have := HK3.out; omega⟩, ⟨zk BK739.out⟩, ⟨zw⟩⟩
          ·replace c33 := Bool.eq_false_iff.mpr c33
           subst c33
           rw [if_neg nofun] at H
           obtain rfl := Option.some.inj H
           have p742 : 0 ≤ (x79_3 : Int) := oa
           have q742 : x79_3 < (((T60 l1 x11_1).f2).length : Int) := oa
           obtain ⟨ad742, e742, hx742_0⟩ := Kd.at_string HR738_2.out x79_3 p742 q742
           cases e742
           replace hx742_0 := bc HB.out hx742_0
           replace p742 := eq_true p742
           replace q742 := eq_true q742
           go_wp2_with ((go_at_call 71; (with_reducible refine (spec_l1Line.calls k3 (rdOf ByteArray.empty ((T60 l1 x11_1).f2) x79_3) false _ A32.out).mono ?_); rintro e w' ⟨rfl, ⟨nd, rfl⟩⟩))
           go_ret
           exact ⟨by rfl, zw⟩
         ·rw [if_neg c29] at H
          have c29b0 : decide (x79_3 < (((T60 l1 x11_1).f2).length : Int)) = false := decide_eq_false c29
          clear c29
          have H' := am H
          clear H
          go_wp2
          go_roundg k3
          case measure => have := HK1.out; have := HJ5.out; have := HK3.out; omega
          case rel => exact ⟨(wrap64 (x11_1 + 1)), zf, H', ⟨by have := HK1.out; have := HJ5.out; have := HK3.out; omega⟩, ⟨zw⟩⟩
   ·rw [if_neg c3] at H
    have c3b0 : decide (x11_1 < (l1.length : Int)) = false := decide_eq_false c3
    clear c3
    by_cases c34 : (l1.length : Int) ≤ 20
    ·rw [if_pos c34] at H
     have c34b0 : decide ((l1.length : Int) ≤ 20) = true := decide_eq_true c34
     have c34b1 : decide (l1.length ≤ 20) = true := decide_eq_true (by omega)
     clear c34
     replace H := Option.bind_eq_some_iff.mp H
     obtain ⟨t737, A350, H⟩ := H
     replace H : (some t737) = some r := H
     have A35 := am A350
     clear A350
     obtain rfl := Option.some.inj H
     go_wp2_with ((go_at_call 100; (with_reducible refine (spec_l1In.calls a0 0 40 t737 _ A35.out).mono ?_); rintro e w' ⟨rfl, ⟨nd, rfl⟩⟩))
     go_ret
     exact ⟨by rfl, zb⟩
    ·rw [if_neg c34] at H
     have c34b0 : decide ((l1.length : Int) ≤ 20) = false := decide_eq_false c34
     have c34b1 : decide (l1.length ≤ 20) = false := decide_eq_false (by omega)
     clear c34
     obtain rfl := Option.some.inj H
     go_wp2
     go_ret
     exact ⟨by rfl, zb⟩

def spec_l2Asked.f (k : Nat) (l0 : List ByteArray) (l1 : List (S60)) : Option (Bool) := (spec_l1Good.f k l0).bind fun t744 => (if t744 = true then ((spec_l2Hunks.f k (l0.length : Int) l1).bind fun t745 => (some t745)) else (some false))
set_option maxHeartbeats 8000000 in
set_option maxRecDepth 100000 in
theorem spec_l2Asked.calls (k : Nat) (A0 : Option Addr) (c0 : Nat) (l0 : List ByteArray) (A1 : Option Addr) (c1 : Nat) (l1 : List (S60)) (r : Bool) (w : World) (hr0 : Kd.C Kd.string w A0 l0.length l0) (hc0 : l0.length ≤ c0) (hr1 : Kd.C k60 w A1 l1.length l1) (hc1 : l1.length ≤ c1) (h : spec_l2Asked.f k l0 l1 = some r) :
  Calls Tryz.prog 59 #[.slice A0 l0.length c0, .slice A1 l1.length c1] w fun e w' => e = .returned (.bool r) ∧ Below w.heap.size w w' := by
 have HR0 := am hr0
 have HC0 := am hc0
 clear hr0 hc0
 have HR1 := am hr1
 have HC1 := am hc1
 clear hr1 hc1
 have HB := am (Below.refl w.heap.size w)
 have H : ((spec_l1Good.f k l0).bind fun t744 => (if t744 = true then ((spec_l2Hunks.f k (l0.length : Int) l1).bind fun t745 => (some t745)) else (some false))) = some r := h
 clear h
 replace H := Option.bind_eq_some_iff.mp H
 obtain ⟨t744, A30, H⟩ := H
 replace H : (if t744 = true then ((spec_l2Hunks.f k (l0.length : Int) l1).bind fun t745 => (some t745)) else (some false)) = some r := H
 have A3 := am A30
 clear A30
 by_cases c4 : t744 = true
 ·subst c4
  have H1 : ((spec_l2Hunks.f k (l0.length : Int) l1).bind fun t745 => (some t745)) = some r := by rw [if_pos rfl] at H; exact H
  clear H
  have H := H1
  clear H1
  replace H := Option.bind_eq_some_iff.mp H
  obtain ⟨t745, A50, H⟩ := H
  replace H : (some t745) = some r := H
  have A5 := am A50
  clear A50
  obtain rfl := Option.some.inj H
  go_enter Tryz.func59, Tryz.ntmps59
  go_wp2_with (first | ((with_reducible refine gateC (f := 41) rfl ?_); refine goesL_ (some 6) rfl rfl Tryz.func41 (by kernel_rfl) rfl #[.slice A0 l0.length c0] rfl zm ?_; (with_reducible refine (spec_l1Good.calls k _ _ l0 true _ ?side1 ?side2 A3.out).mono ?_); (case side1 => exact zq HR0.out); (case side2 => exact HC0.out); rintro e w' ⟨rfl, ⟨nd, rfl⟩⟩; refine ⟨_, rfl, ?_⟩) | (go_at_call 75; (with_reducible refine (spec_l2Hunks.calls k (l0.length : Int) _ _ l1 t745 _ ?side1 ?side2 A5.out).mono ?_); (case side1 => exact zq HR1.out); (case side2 => exact HC1.out); rintro e w6 ⟨rfl, hb⟩; have n0_ := am (below_step zb hb); clear HB; have HB := n0_; clear n0_; (try clear hb)))
  go_ret
  exact ⟨by first | rfl | (simp [errW_none, errW_some] <;> rfl) | (simp [*, errW_none, errW_some] <;> rfl), zb⟩
 ·replace c4 := Bool.eq_false_iff.mpr c4
  subst c4
  have H1 : (some false) = some r := by rw [if_neg (show ¬ (false = true) by decide)] at H; exact H
  clear H
  have H := H1
  clear H1
  obtain rfl := Option.some.inj H
  go_enter Tryz.func59, Tryz.ntmps59
  go_wp2_with (first | ((with_reducible refine gateC (f := 41) rfl ?_); refine goesL_ (some 6) rfl rfl Tryz.func41 (by kernel_rfl) rfl #[.slice A0 l0.length c0] rfl zm ?_; (with_reducible refine (spec_l1Good.calls k _ _ l0 false _ ?side1 ?side2 A3.out).mono ?_); (case side1 => exact zq HR0.out); (case side2 => exact HC0.out); rintro e w' ⟨rfl, ⟨nd, rfl⟩⟩; refine ⟨_, rfl, ?_⟩))
  go_ret
  exact ⟨by first | rfl | (simp [errW_none, errW_some] <;> rfl) | (simp [*, errW_none, errW_some] <;> rfl), zb⟩

def spec_l2Patch.l0 : Nat → List ByteArray → List ByteArray → Int → List (S60) → Int → Int → Option (List ByteArray)
 | 0, _, _, _, _, _, _ => none
 | k + 1, x0, x5, x6, x9, x10, x11 => if x11 < x10 then (if 0 ≤ x11 then (if x11 < (x9.length : Int) then (if 0 ≤ x6 then (if x6 ≤ ((T60 x9 x11).f0) then (if ((T60 x9 x11).f0) ≤ (x0.length : Int) then (if x5.length + ((x0.take (((T60 x9 x11).f0) : Int).toNat).drop (x6 : Int).toNat).length < 8796093022208 then ((some (x5 ++ ((x0.take (((T60 x9 x11).f0) : Int).toNat).drop (x6 : Int).toNat) : List ByteArray)).bind fun y749 => (if y749.length + ((T60 x9 x11).f2).length < 8796093022208 then (spec_l2Patch.l0 k x0 (y749 ++ ((T60 x9 x11).f2)) (wrap64 (((T60 x9 x11).f0) + ((T60 x9 x11).f1))) x9 x10 (wrap64 (x11 + 1))) else (none))) else (none)) else (none)) else (none)) else (none)) else (none)) else (none)) else (if 0 ≤ x6 then (if x6 ≤ (x0.length : Int) then (if x5.length + (x0.drop (x6 : Int).toNat).length < 8796093022208 then (some (x5 ++ (x0.drop (x6 : Int).toNat))) else (none)) else (none)) else (none))
def spec_l2Patch.f (k : Nat) (l0 : List ByteArray) (l1 : List (S60)) : Option (List ByteArray) := spec_l2Patch.l0 k l0 ([] : List ByteArray) 0 l1 (l1.length : Int) 0
set_option maxHeartbeats 8000000 in
set_option maxRecDepth 100000 in
theorem spec_l2Patch.calls (k : Nat) (A0 : Option Addr) (c0 : Nat) (l0 : List ByteArray) (A1 : Option Addr) (c1 : Nat) (l1 : List (S60)) (r : List ByteArray) (w : World) (hr0 : Kd.C Kd.string w A0 l0.length l0) (hc0 : l0.length ≤ c0) (hr1 : Kd.C k60 w A1 l1.length l1) (hc1 : l1.length ≤ c1) (h : spec_l2Patch.f k l0 l1 = some r) :
  Calls Tryz.prog 60 #[.slice A0 l0.length c0, .slice A1 l1.length c1] w fun e w' => ∃ v0_ : Value, e = .returned (v0_) ∧ Kd.R Kd.string 9 w' w.heap.size (fun _ => True) v0_ r ∧ Below w.heap.size w w' := by
 have hu60 := Tryz.underlying60
 have HR0 := am hr0
 have HC0 := am hc0
 clear hr0 hc0
 have HR1 := am hr1
 have HC1 := am hc1
 clear hr1 hc1
 have HB := am (Below.refl w.heap.size w)
 have H := h
 clear h
 unfold spec_l2Patch.f at H
 have H' := am H
 clear H
 go_enter Tryz.func60, Tryz.ntmps60
 go_wp2
 go_loopg [5, 6, 11] k (fun kq v5 v6 v11 w' => ∃ (x5_1 : List ByteArray) (x6_1 : Int) (x11_1 : Int), v6 = .int .i64 x6_1 ∧ v11 = .int .i64 x11_1 ∧ Aside0 (spec_l2Patch.l0 kq l0 x5_1 x6_1 l1 (l1.length : Int) x11_1 = some r) ∧ Aside0 (kq ≤ k) ∧ Aside0 (Kd.R Kd.string 9 w' w.heap.size (fun _ => True) v5 x5_1) ∧ Aside0 (Below w.heap.size w w'))
 case atStart => exact ⟨(([] : List ByteArray)), (0), (0), zf, zf, H', ⟨Nat.le_refl _⟩, ⟨by exact Kd.R_nil _ _ _ _ _⟩, ⟨zb⟩⟩
 case round =>
  clear H'
  obtain ⟨x5_1, x6_1, x11_1, rfl, rfl, HA, HK1, HO_5, HB⟩ := hrel
  cases gk with
  | zero => exact absurd HA.out (by simp [spec_l2Patch.l0])
  | succ k1 =>
   have H := HA.out
   clear HA
   simp only [spec_l2Patch.l0] at H
   by_cases c3 : x11_1 < (l1.length : Int)
   ·rw [if_pos c3] at H
    have c3b0 : decide (x11_1 < (l1.length : Int)) = true := decide_eq_true c3
    clear c3
    obtain ⟨c4, H⟩ := itn H
    have c4b0 := decide_eq_true c4
    clear c4
    obtain ⟨c5, H⟩ := itn H
    have c5b0 := decide_eq_true c5
    clear c5
    obtain ⟨c6, H⟩ := itn H
    have c6b0 := eq_true c6
    have c6b1 := decide_eq_true c6
    clear c6
    obtain ⟨c7, H⟩ := itn H
    have c7b0 := eq_true c7
    have c7b1 := decide_eq_true c7
    clear c7
    obtain ⟨c8, H⟩ := itn H
    have c8b0 := eq_true c8
    have c8b1 := decide_eq_true c8
    clear c8
    obtain ⟨c9, H⟩ := itn H
    have LMc9 := am c9
    clear c9
    obtain ⟨y749, hy749⟩ : ∃ y_ : List ByteArray, y_ = (x5_1 ++ ((l0.take (((T60 l1 x11_1).f0) : Int).toNat).drop (x6_1 : Int).toNat)) := ⟨_, rfl⟩
    replace H : (if y749.length + ((T60 l1 x11_1).f2).length < 8796093022208 then (spec_l2Patch.l0 k1 l0 (y749 ++ ((T60 l1 x11_1).f2)) (wrap64 (((T60 l1 x11_1).f0) + ((T60 l1 x11_1).f1))) l1 (l1.length : Int) (wrap64 (x11_1 + 1))) else (none)) = some r := by (have H2_ := (Option.bind_some _ _).symm.trans H; rw [hy749]; with_reducible exact H2_)
    have Ny749 := am hy749
    clear hy749
    obtain ⟨c10, H⟩ := itn H
    have LMc10 := am c10
    clear c10
    obtain ⟨y752, hy752⟩ : ∃ y_ : List ByteArray, y_ = (y749 ++ ((T60 l1 x11_1).f2)) := ⟨_, rfl⟩
    rw [← hy752] at H
    have Ny752 := am hy752
    clear hy752
    have H' := am H
    clear H
    have p746 : 0 ≤ (x11_1 : Int) := oa
    have q746 : x11_1 < (l1.length : Int) := oa
    obtain ⟨ad746, A746_2, c746_2, e746, hx746_0, hx746_1, hx746_2, hl746_2, hi746_2⟩ := at_T60 HR1.out x11_1 p746 q746
    cases e746
    replace hx746_0 := bc HB.out hx746_0
    replace hx746_1 := bc HB.out hx746_1
    replace hx746_2 := bc HB.out hx746_2
    have HR746_2 := am hi746_2
    have HC746_2 := am hl746_2
    clear hi746_2 hl746_2
    replace p746 := eq_true p746
    replace q746 := eq_true q746
    go_wp2_with (first | ((with_reducible refine gate_dst (N := 8) rfl ?_); refine box_event ?hg (N := 8) ?hd (cs := #[.int .i64 0, .int .i64 0, .slice none 0 0]) (t := 60) ?hr ?_; (case hd => rfl); (case hg => rfl); (case hr => (go_simp; done)); intro gb747 hg w11 hbox hb; replace HO_5 := am (Kd.R_below (zr HO_5.out) hb); have BK747 := am (hbox); have GW747 := am ((by rw [hg]; exact (below_size zb) : w.heap.size ≤ gb747)); have GE747 := am ((by rw [hg]; exact (below_size zb) : w.heap.size ≤ gb747)); replace HB := am (below_step zb hb); clear hb hbox hg; obtain ⟨hcz12_0, hcz12_1, hcz12_2⟩ := cz3 BK747.out; obtain ⟨hfz12_0, hfz12_1, hfz12_2⟩ := fz3 BK747.out; obtain ⟨i013, hi013, _, hsz13, _⟩ := info_parts info9; obtain ⟨A13, hcut13, hA13, hC13⟩ := print_mid_of (P := Tryz.prog) Value.string (⟨#[]⟩ : ByteArray) 24 9 .i64 .i64 Tryz.underlying24 hi013 hsz13 A0 c0 l0 x6_1 ((T60 l1 x11_1).f0) oa (by exact oa) oa HC0.out; have HR748 := am (Kd.C_of_reads (h1 := fun _ => rfl) (hA13 _ (Kd.reads_of_C HR0.out))); have HC748 := am hC13; clear hA13 hC13 hi013 hsz13) | ((with_reducible refine gateB (b := .append) (xs := #[.tmp 15, .tmp 20]) rfl ?_); at_builtin; refine Kd.R_append_rows Kd.string (w0 := w) w.heap.size rfl (.tmp 15) (.tmp 20) 24 9 (.string ⟨#[]⟩) 16 rfl Tryz.underlying24 info9 rfl (by decide) (by omega) u5 x5_1 ((l0.take (((T60 l1 x11_1).f0) : Int).toNat).drop (x6_1 : Int).toNat) _ _ _ (fun _ => True) (fun _ => False) rfl rfl ?aO ?aR (fun _ _ h => h) (fun _ h => h.elim) ?aF ?aB ?aS ?aL ?_; (case aR => (rw [← show ((l0.take (((T60 l1 x11_1).f0) : Int).toNat).drop (x6_1 : Int).toNat).length = (((T60 l1 x11_1).f0).toNat - x6_1.toNat) from (by rw [List.length_drop, List.length_take]; have h_ : (((T60 l1 x11_1).f0) : Int) ≤ (l0.length : Int) := oa; omega)]; exact Kd.C_below HR748.out zw)); (case aB => exact zw); (case aF => exact (fun _ _ => trivial)); (case aO => exact (by exact Kd.R_mono (Kd.R_far (p := ⟨gb747, 2, none⟩) (Kd.R_far (p := ⟨gb747, 1, none⟩) (Kd.R_far (p := ⟨gb747, 0, none⟩) (Kd.R_types HO_5.out BK747.out (by decide)) (fun _ hk => hk.2) (.int .i64 ((T60 l1 x11_1).f0))) (fun _ hk => hk.2) (.int .i64 ((T60 l1 x11_1).f1))) (fun _ hk => hk.2) (.slice A746_2 ((T60 l1 x11_1).f2).length c746_2)) (fun _ hk => trivial))); (case aS => exact (below_size zw)); (case aL => have := LMc9.out; have hlx_ := (show ((l0.take (((T60 l1 x11_1).f0) : Int).toNat).drop (x6_1 : Int).toNat).length = (((T60 l1 x11_1).f0).toNat - x6_1.toNat) from (by rw [List.length_drop, List.length_take]; have h_ : (((T60 l1 x11_1).f0) : Int) ≤ (l0.length : Int) := oa; omega)); omega); intro v750 w14 ho hb hg hat; rw [← Ny749.out] at ho; replace BK747 := am (blk_grown (g := gb747) (o := .cells #[.int .i64 ((T60 l1 x11_1).f0), .int .i64 ((T60 l1 x11_1).f1), .slice A746_2 ((T60 l1 x11_1).f2).length c746_2] 60 (0, 0)) (by refine blk_put (cs := #[.int .i64 ((T60 l1 x11_1).f0), .int .i64 ((T60 l1 x11_1).f1), .slice none 0 0]) ?_ 2 _ rfl; refine blk_put (cs := #[.int .i64 ((T60 l1 x11_1).f0), .int .i64 0, .slice none 0 0]) ?_ 1 _ rfl; refine blk_put (cs := #[.int .i64 0, .int .i64 0, .slice none 0 0]) ?_ 0 _ rfl; exact BK747.out) hg (Kd.R_ne HO_5.out BK747.out (by decide))); replace HB := am (hb); have HO751 := am (ho); clear HO_5; clear ho hb hg hat; obtain ⟨hcz15_0, hcz15_1, hcz15_2⟩ := cz3 BK747.out; obtain ⟨hfz15_0, hfz15_1, hfz15_2⟩ := fz3 BK747.out) | ((with_reducible refine gateB (b := .append) (xs := #[.tmp 22, .tmp 24]) rfl ?_); at_builtin; refine Kd.R_append_rows Kd.string (w0 := w) w.heap.size rfl (.tmp 22) (.tmp 24) 24 9 (.string ⟨#[]⟩) 16 rfl Tryz.underlying24 info9 rfl (by decide) (by omega) v750 y749 ((T60 l1 x11_1).f2) _ _ _ (fun _ => True) (fun _ => False) rfl rfl ?aO ?aR (fun _ _ h => h) (fun _ h => h.elim) ?aF ?aB ?aS ?aL ?_; (case aR => exact zq (Kd.C_below HR746_2.out HB.out)); (case aB => exact zw); (case aF => exact (fun _ _ => trivial)); (case aO => exact (zr HO751.out)); (case aS => exact (below_size zw)); (case aL => have := LMc10.out; omega); intro v753 w16 ho hb hg hat; rw [← Ny752.out] at ho; replace BK747 := am (blk_grown (g := gb747) (o := .cells #[.int .i64 ((T60 l1 x11_1).f0), .int .i64 ((T60 l1 x11_1).f1), .slice A746_2 ((T60 l1 x11_1).f2).length c746_2] 60 (0, 0)) (zk BK747.out) hg (Kd.R_ne HO751.out BK747.out (by decide))); replace HB := am (hb); have HO754 := am (ho); clear HO751; clear ho hb hg hat; obtain ⟨hcz17_0, hcz17_1, hcz17_2⟩ := cz3 BK747.out; obtain ⟨hfz17_0, hfz17_1, hfz17_2⟩ := fz3 BK747.out))
    go_roundg k1
    case measure => have := HK1.out; omega
    case rel => exact ⟨(y752), (wrap64 (((T60 l1 x11_1).f0) + ((T60 l1 x11_1).f1))), (wrap64 (x11_1 + 1)), zf, zf, H', ⟨by have := HK1.out; omega⟩, ⟨zr HO754.out⟩, ⟨zw⟩⟩
   ·rw [if_neg c3] at H
    have c3b0 : decide (x11_1 < (l1.length : Int)) = false := decide_eq_false c3
    clear c3
    obtain ⟨c18, H⟩ := itn H
    have c18b0 := eq_true c18
    have c18b1 := decide_eq_true c18
    clear c18
    obtain ⟨c19, H⟩ := itn H
    have c19b0 := eq_true c19
    have c19b1 := decide_eq_true c19
    clear c19
    obtain ⟨c20, H⟩ := itn H
    have LMc20 := am c20
    clear c20
    obtain ⟨y756, hy756⟩ : ∃ y_ : List ByteArray, y_ = (x5_1 ++ (l0.drop (x6_1 : Int).toNat)) := ⟨_, rfl⟩
    rw [← hy756] at H
    have Ny756 := am hy756
    clear hy756
    obtain rfl := Option.some.inj H
    obtain ⟨i021, hi021, _, hsz21, _⟩ := info_parts info9
    obtain ⟨A21, hcut21, hA21, hC21⟩ := print_drop_of (P := Tryz.prog) Value.string (⟨#[]⟩ : ByteArray) 24 9 .i64 Tryz.underlying24 hi021 hsz21 A0 c0 l0 x6_1 oa oa HC0.out
    have HR755 := am (Kd.C_of_reads (h1 := fun _ => rfl) (hA21 _ (Kd.reads_of_C HR0.out)))
    have HC755 := am hC21
    clear hA21 hC21 hi021 hsz21
    go_wp2_with (((with_reducible refine gateB (b := .append) (xs := #[.tmp 32, .tmp 35]) rfl ?_); at_builtin; refine Kd.R_append_rows Kd.string (w0 := w) w.heap.size rfl (.tmp 32) (.tmp 35) 24 9 (.string ⟨#[]⟩) 16 rfl Tryz.underlying24 info9 rfl (by decide) (by omega) u5 x5_1 (l0.drop (x6_1 : Int).toNat) _ _ _ (fun _ => True) (fun _ => False) rfl rfl ?aO ?aR (fun _ _ h => h) (fun _ h => h.elim) ?aF ?aB ?aS ?aL ?_; (case aR => (rw [← show (l0.drop (x6_1 : Int).toNat).length = (l0.length - x6_1.toNat) from List.length_drop]; exact zq (Kd.C_below HR755.out HB.out))); (case aB => exact zb); (case aF => exact (fun _ _ => trivial)); (case aO => exact (zr HO_5.out)); (case aS => exact (below_size zb)); (case aL => have := LMc20.out; have hlx_ := (show (l0.drop (x6_1 : Int).toNat).length = (l0.length - x6_1.toNat) from List.length_drop); omega); intro v757 w22 ho hb hg hat; rw [← Ny756.out] at ho; replace HB := am (hb); have HO758 := am (ho); clear HO_5; clear ho hb hg hat))
    go_ret
    exact ⟨_, by rfl, zr HO758.out, zb⟩

def spec_Patch.f (k : Nat) (l0 : List ByteArray) (l1 : List (S60)) : Option (List ByteArray × Bool) := (spec_l2Asked.f k l0 l1).bind fun t759 => (if t759 = true then ((spec_l2Patch.f k l0 l1).bind fun t760 => ((spec_l1Good.f k t760).bind fun t763 => (if t763 = true then (some (t760, true)) else (some (([] : List ByteArray), false))))) else (some (([] : List ByteArray), false)))
set_option maxHeartbeats 8000000 in
set_option maxRecDepth 100000 in
theorem spec_Patch.calls (k : Nat) (A0 : Option Addr) (c0 : Nat) (l0 : List ByteArray) (A1 : Option Addr) (c1 : Nat) (l1 : List (S60)) (r1 : List ByteArray) (r2 : Bool) (w : World) (hr0 : Kd.C Kd.string w A0 l0.length l0) (hc0 : l0.length ≤ c0) (hr1 : Kd.C k60 w A1 l1.length l1) (hc1 : l1.length ≤ c1) (h : spec_Patch.f k l0 l1 = some (r1, r2)) :
  Calls Tryz.prog 28 #[.slice A0 l0.length c0, .slice A1 l1.length c1] w fun e w' => ∃ v0_ : Value, e = .returned (.tuple #[v0_, .bool r2]) ∧ Kd.R Kd.string 9 w' w.heap.size (fun _ => True) v0_ r1 ∧ Below w.heap.size w w' := by
 have HR0 := am hr0
 have HC0 := am hc0
 clear hr0 hc0
 have HR1 := am hr1
 have HC1 := am hc1
 clear hr1 hc1
 have HB := am (Below.refl w.heap.size w)
 have H := h
 clear h
 unfold spec_Patch.f at H
 replace H := Option.bind_eq_some_iff.mp H
 obtain ⟨t759, A30, H⟩ := H
 replace H : (if t759 = true then ((spec_l2Patch.f k l0 l1).bind fun t760 => ((spec_l1Good.f k t760).bind fun t763 => (if t763 = true then (some (t760, true)) else (some (([] : List ByteArray), false))))) else (some (([] : List ByteArray), false))) = some (r1, r2) := H
 have A3 := am A30
 clear A30
 by_cases c4 : t759 = true
 ·subst c4
  rw [if_pos rfl] at H
  replace H := Option.bind_eq_some_iff.mp H
  obtain ⟨t760, A50, H⟩ := H
  replace H : ((spec_l1Good.f k t760).bind fun t763 => (if t763 = true then (some (t760, true)) else (some (([] : List ByteArray), false)))) = some (r1, r2) := H
  have A5 := am A50
  clear A50
  replace H := Option.bind_eq_some_iff.mp H
  obtain ⟨t763, A60, H⟩ := H
  replace H : (if t763 = true then (some (t760, true)) else (some (([] : List ByteArray), false))) = some (r1, r2) := H
  have A6 := am A60
  clear A60
  by_cases c7 : t763 = true
  ·subst c7
   rw [if_pos rfl] at H
   simp only [Option.some.injEq, Prod.mk.injEq] at H
   obtain ⟨rfl, rfl⟩ := H
   go_enter Tryz.func28, Tryz.ntmps28
   go_wp2_with (first | ((with_reducible refine gateC (f := 59) rfl ?_); refine goesL_ (some 9) rfl rfl Tryz.func59 (by kernel_rfl) rfl #[.slice A0 l0.length c0, .slice A1 l1.length c1] rfl zm ?_; (with_reducible refine (spec_l2Asked.calls k _ _ l0 _ _ l1 true _ ?side1 ?side2 ?side3 ?side4 A3.out).mono ?_); (case side1 => exact zq HR0.out); (case side2 => exact HC0.out); (case side3 => exact zq HR1.out); (case side4 => exact HC1.out); rintro e w8 ⟨rfl, hb⟩; refine ⟨_, rfl, ?_⟩; replace HB := am (below_step zb hb); (try clear hb)) | ((with_reducible refine gateC (f := 60) rfl ?_); refine goesL_ (some 13) rfl rfl Tryz.func60 (by kernel_rfl) rfl #[.slice A0 l0.length c0, .slice A1 l1.length c1] rfl zm ?_; (with_reducible refine (spec_l2Patch.calls k _ _ l0 _ _ l1 t760 _ ?side1 ?side2 ?side3 ?side4 A5.out).mono ?_); (case side1 => exact zq (Kd.C_below HR0.out HB.out)); (case side2 => exact HC0.out); (case side3 => exact zq (Kd.C_below HR1.out HB.out)); (case side4 => exact HC1.out); rintro e w9 ⟨v761, rfl, ho0, hb⟩; refine ⟨_, rfl, ?_⟩; have HO762 := am (Kd.R_lower ho0 (below_size zb)); replace HB := am (below_step zb hb); (try clear hb); (try clear ho0); obtain ⟨Ao10, co10, eo10⟩ := Kd.R_slice HO762.out; subst eo10) | ((with_reducible refine gateC (f := 41) rfl ?_); refine goesL_ (some 15) rfl rfl Tryz.func41 (by kernel_rfl) rfl #[.slice Ao10 t760.length co10] rfl zm ?_; (with_reducible refine (spec_l1Good.calls k _ _ t760 true _ ?side1 ?side2 A6.out).mono ?_); (case side1 => repeat (exact (Kd.R_reads' HO762.out).2.2)); (case side2 => exact (Kd.R_reads' HO762.out).2.1); rintro e w' ⟨rfl, ⟨nd, rfl⟩⟩; refine ⟨_, rfl, ?_⟩))
   go_ret2
   exact ⟨_, by rfl, zr HO762.out, zb⟩
  ·replace c7 := Bool.eq_false_iff.mpr c7
   subst c7
   rw [if_neg nofun] at H
   simp only [Option.some.injEq, Prod.mk.injEq] at H
   obtain ⟨rfl, rfl⟩ := H
   go_enter Tryz.func28, Tryz.ntmps28
   go_wp2_with (first | ((with_reducible refine gateC (f := 59) rfl ?_); refine goesL_ (some 9) rfl rfl Tryz.func59 (by kernel_rfl) rfl #[.slice A0 l0.length c0, .slice A1 l1.length c1] rfl zm ?_; (with_reducible refine (spec_l2Asked.calls k _ _ l0 _ _ l1 true _ ?side1 ?side2 ?side3 ?side4 A3.out).mono ?_); (case side1 => exact zq HR0.out); (case side2 => exact HC0.out); (case side3 => exact zq HR1.out); (case side4 => exact HC1.out); rintro e w11 ⟨rfl, hb⟩; refine ⟨_, rfl, ?_⟩; replace HB := am (below_step zb hb); (try clear hb)) | ((with_reducible refine gateC (f := 60) rfl ?_); refine goesL_ (some 13) rfl rfl Tryz.func60 (by kernel_rfl) rfl #[.slice A0 l0.length c0, .slice A1 l1.length c1] rfl zm ?_; (with_reducible refine (spec_l2Patch.calls k _ _ l0 _ _ l1 t760 _ ?side1 ?side2 ?side3 ?side4 A5.out).mono ?_); (case side1 => exact zq (Kd.C_below HR0.out HB.out)); (case side2 => exact HC0.out); (case side3 => exact zq (Kd.C_below HR1.out HB.out)); (case side4 => exact HC1.out); rintro e w12 ⟨v761, rfl, ho0, hb⟩; refine ⟨_, rfl, ?_⟩; have HO762 := am (Kd.R_lower ho0 (below_size zb)); replace HB := am (below_step zb hb); (try clear hb); (try clear ho0); obtain ⟨Ao13, co13, eo13⟩ := Kd.R_slice HO762.out; subst eo13) | ((with_reducible refine gateC (f := 41) rfl ?_); refine goesL_ (some 15) rfl rfl Tryz.func41 (by kernel_rfl) rfl #[.slice Ao13 t760.length co13] rfl zm ?_; (with_reducible refine (spec_l1Good.calls k _ _ t760 false _ ?side1 ?side2 A6.out).mono ?_); (case side1 => repeat (exact (Kd.R_reads' HO762.out).2.2)); (case side2 => exact (Kd.R_reads' HO762.out).2.1); rintro e w' ⟨rfl, ⟨nd, rfl⟩⟩; refine ⟨_, rfl, ?_⟩))
   go_ret2
   exact ⟨_, by rfl, by exact Kd.R_nil _ _ _ _ _, zb⟩
 ·replace c4 := Bool.eq_false_iff.mpr c4
  subst c4
  rw [if_neg nofun] at H
  simp only [Option.some.injEq, Prod.mk.injEq] at H
  obtain ⟨rfl, rfl⟩ := H
  go_enter Tryz.func28, Tryz.ntmps28
  go_wp2_with (((with_reducible refine gateC (f := 59) rfl ?_); refine goesL_ (some 9) rfl rfl Tryz.func59 (by kernel_rfl) rfl #[.slice A0 l0.length c0, .slice A1 l1.length c1] rfl zm ?_; (with_reducible refine (spec_l2Asked.calls k _ _ l0 _ _ l1 false _ ?side1 ?side2 ?side3 ?side4 A3.out).mono ?_); (case side1 => exact zq HR0.out); (case side2 => exact HC0.out); (case side3 => exact zq HR1.out); (case side4 => exact HC1.out); rintro e w14 ⟨rfl, hb⟩; refine ⟨_, rfl, ?_⟩; replace HB := am (below_step zb hb); (try clear hb)))
  go_ret2
  exact ⟨_, by rfl, by exact Kd.R_nil _ _ _ _ _, zb⟩

def spec_l5Lines.l0 : Nat → List ByteArray → List ByteArray → Int → Int → Option (Bool)
 | 0, _, _, _, _ => none
 | k + 1, x0, x5, x6, x7 => if x7 < x6 then (if 0 ≤ x7 then (if x7 < (x5.length : Int) then ((spec_l1Line.f k (rdOf ByteArray.empty x5 x7)).bind fun t103 => (if t103 = true then (if x7 < (wrap64 ((x0.length : Int) - 1)) then ((spec_l1Ends.f (rdOf ByteArray.empty x5 x7)).bind fun t104 => (if t104 = true then (spec_l5Lines.l0 k x0 x5 x6 (wrap64 (x7 + 1))) else (some false))) else (spec_l5Lines.l0 k x0 x5 x6 (wrap64 (x7 + 1)))) else (some false))) else (none)) else (none)) else (some (decide ((x0.length : Int) ≤ 40)))
def spec_l5Lines.f (k : Nat) (l0 : List ByteArray) : Option (Bool) := spec_l5Lines.l0 k l0 l0 (l0.length : Int) 0
set_option maxHeartbeats 8000000 in
set_option maxRecDepth 100000 in
theorem spec_l5Lines.calls (k : Nat) (A0 : Option Addr) (c0 : Nat) (l0 : List ByteArray) (r : Bool) (w : World) (hr0 : Kd.C Kd.string w A0 l0.length l0) (hc0 : l0.length ≤ c0) (h : spec_l5Lines.f k l0 = some r) :
  Calls Tryz.prog 125 #[.slice A0 l0.length c0] w fun e w' => e = .returned (.bool r) ∧ Drawn0 w w' := by
 have HR0 := am hr0
 have HC0 := am hc0
 clear hr0 hc0
 have H := h
 clear h
 unfold spec_l5Lines.f at H
 have H' := am H
 clear H
 go_enter Tryz.func125, Tryz.ntmps125
 go_wp2
 go_loopg [7] k (fun kq v7 w' => ∃ (x7_1 : Int), v7 = .int .i64 x7_1 ∧ Aside0 (spec_l5Lines.l0 kq l0 l0 (l0.length : Int) x7_1 = some r) ∧ Aside0 (kq ≤ k) ∧ Drawn0 w w')
 case atStart => exact ⟨(0), zf, H', ⟨Nat.le_refl _⟩, by repeat (exact Drawn0.refl _)⟩
 case round =>
  clear H'
  obtain ⟨x7_1, rfl, HA, HK1, ⟨m1, rfl⟩⟩ := hrel
  cases gk with
  | zero => exact absurd HA.out (by simp [spec_l5Lines.l0])
  | succ k1 =>
   have H := HA.out
   clear HA
   simp only [spec_l5Lines.l0] at H
   by_cases c2 : x7_1 < (l0.length : Int)
   ·rw [if_pos c2] at H
    have c2b0 : decide (x7_1 < (l0.length : Int)) = true := decide_eq_true c2
    clear c2
    obtain ⟨c3, H⟩ := itn H
    have c3b0 := decide_eq_true c3
    clear c3
    obtain ⟨c4, H⟩ := itn H
    have c4b0 := decide_eq_true c4
    clear c4
    replace H := Option.bind_eq_some_iff.mp H
    obtain ⟨t103, A50, H⟩ := H
    replace H : (if t103 = true then (if x7_1 < (wrap64 ((l0.length : Int) - 1)) then ((spec_l1Ends.f (rdOf ByteArray.empty l0 x7_1)).bind fun t104 => (if t104 = true then (spec_l5Lines.l0 k1 l0 l0 (l0.length : Int) (wrap64 (x7_1 + 1))) else (some false))) else (spec_l5Lines.l0 k1 l0 l0 (l0.length : Int) (wrap64 (x7_1 + 1)))) else (some false)) = some r := H
    have A5 := am A50
    clear A50
    by_cases c6 : t103 = true
    ·subst c6
     rw [if_pos rfl] at H
     by_cases c7 : x7_1 < (wrap64 ((l0.length : Int) - 1))
     ·rw [if_pos c7] at H
      have c7b0 : decide (x7_1 < (wrap64 ((l0.length : Int) - 1))) = true := decide_eq_true c7
      clear c7
      replace H := Option.bind_eq_some_iff.mp H
      obtain ⟨t104, A80, H⟩ := H
      replace H : (if t104 = true then (spec_l5Lines.l0 k1 l0 l0 (l0.length : Int) (wrap64 (x7_1 + 1))) else (some false)) = some r := H
      have A8 := am A80
      clear A80
      by_cases c9 : t104 = true
      ·subst c9
       rw [if_pos rfl] at H
       have H' := am H
       clear H
       have p102 : 0 ≤ (x7_1 : Int) := oa
       have q102 : x7_1 < (l0.length : Int) := oa
       obtain ⟨ad102, e102, hx102_0⟩ := Kd.at_string HR0.out x7_1 p102 q102
       cases e102
       replace p102 := eq_true p102
       replace q102 := eq_true q102
       go_wp2_with (first | ((with_reducible refine gateC (f := 71) rfl ?_); refine goesL_ (some 13) rfl rfl Tryz.func71 (by kernel_rfl) rfl #[.string (rdOf ByteArray.empty l0 x7_1)] rfl zm ?_; (with_reducible refine (spec_l1Line.calls k1 (rdOf ByteArray.empty l0 x7_1) true _ A5.out).mono ?_); rintro e w' ⟨rfl, ⟨nd, rfl⟩⟩; refine ⟨_, rfl, ?_⟩) | (go_at_call 72; (with_reducible refine (spec_l1Ends.calls (rdOf ByteArray.empty l0 x7_1) true _ A8.out).mono ?_); rintro e w' ⟨rfl, ⟨nd, rfl⟩⟩))
       go_roundg k1
       case measure => have := HK1.out; omega
       case rel => exact ⟨(wrap64 (x7_1 + 1)), zf, H', ⟨by have := HK1.out; omega⟩, by repeat (first | exact Drawn0.refl _ | apply Drawn0.step)⟩
      ·replace c9 := Bool.eq_false_iff.mpr c9
       subst c9
       rw [if_neg nofun] at H
       obtain rfl := Option.some.inj H
       have p102 : 0 ≤ (x7_1 : Int) := oa
       have q102 : x7_1 < (l0.length : Int) := oa
       obtain ⟨ad102, e102, hx102_0⟩ := Kd.at_string HR0.out x7_1 p102 q102
       cases e102
       replace p102 := eq_true p102
       replace q102 := eq_true q102
       go_wp2_with (first | ((with_reducible refine gateC (f := 71) rfl ?_); refine goesL_ (some 13) rfl rfl Tryz.func71 (by kernel_rfl) rfl #[.string (rdOf ByteArray.empty l0 x7_1)] rfl zm ?_; (with_reducible refine (spec_l1Line.calls k1 (rdOf ByteArray.empty l0 x7_1) true _ A5.out).mono ?_); rintro e w' ⟨rfl, ⟨nd, rfl⟩⟩; refine ⟨_, rfl, ?_⟩) | (go_at_call 72; (with_reducible refine (spec_l1Ends.calls (rdOf ByteArray.empty l0 x7_1) false _ A8.out).mono ?_); rintro e w' ⟨rfl, ⟨nd, rfl⟩⟩))
       go_ret
       exact ⟨by rfl, by repeat (first | exact Drawn0.refl _ | apply Drawn0.step)⟩
     ·rw [if_neg c7] at H
      have c7b0 : decide (x7_1 < (wrap64 ((l0.length : Int) - 1))) = false := decide_eq_false c7
      clear c7
      have H' := am H
      clear H
      have p102 : 0 ≤ (x7_1 : Int) := oa
      have q102 : x7_1 < (l0.length : Int) := oa
      obtain ⟨ad102, e102, hx102_0⟩ := Kd.at_string HR0.out x7_1 p102 q102
      cases e102
      replace p102 := eq_true p102
      replace q102 := eq_true q102
      go_wp2_with (((with_reducible refine gateC (f := 71) rfl ?_); refine goesL_ (some 13) rfl rfl Tryz.func71 (by kernel_rfl) rfl #[.string (rdOf ByteArray.empty l0 x7_1)] rfl zm ?_; (with_reducible refine (spec_l1Line.calls k1 (rdOf ByteArray.empty l0 x7_1) true _ A5.out).mono ?_); rintro e w' ⟨rfl, ⟨nd, rfl⟩⟩; refine ⟨_, rfl, ?_⟩))
      go_roundg k1
      case measure => have := HK1.out; omega
      case rel => exact ⟨(wrap64 (x7_1 + 1)), zf, H', ⟨by have := HK1.out; omega⟩, by repeat (first | exact Drawn0.refl _ | apply Drawn0.step)⟩
    ·replace c6 := Bool.eq_false_iff.mpr c6
     subst c6
     rw [if_neg nofun] at H
     obtain rfl := Option.some.inj H
     have p102 : 0 ≤ (x7_1 : Int) := oa
     have q102 : x7_1 < (l0.length : Int) := oa
     obtain ⟨ad102, e102, hx102_0⟩ := Kd.at_string HR0.out x7_1 p102 q102
     cases e102
     replace p102 := eq_true p102
     replace q102 := eq_true q102
     go_wp2_with (((with_reducible refine gateC (f := 71) rfl ?_); refine goesL_ (some 13) rfl rfl Tryz.func71 (by kernel_rfl) rfl #[.string (rdOf ByteArray.empty l0 x7_1)] rfl zm ?_; (with_reducible refine (spec_l1Line.calls k1 (rdOf ByteArray.empty l0 x7_1) false _ A5.out).mono ?_); rintro e w' ⟨rfl, ⟨nd, rfl⟩⟩; refine ⟨_, rfl, ?_⟩))
     go_ret
     exact ⟨by rfl, by repeat (first | exact Drawn0.refl _ | apply Drawn0.step)⟩
   ·rw [if_neg c2] at H
    have c2b0 : decide (x7_1 < (l0.length : Int)) = false := decide_eq_false c2
    clear c2
    obtain rfl := Option.some.inj H
    go_wp2
    go_ret
    exact ⟨by rfl, by repeat (first | exact Drawn0.refl _ | apply Drawn0.step)⟩

def spec_l5Side.j0 : Nat → Int → Int → List ByteArray → Bool → Option (Bool)
 | 0, _, _, _, _ => none
 | k + 1, x0, x1, x2, x19 => if x19 = true then (some false) else (if (x2.length : Int) = 0 then (some (x1 == x0)) else (if x0 ≥ 1 then (some ((wrap64 ((wrap64 (x1 - x0)) + 1)) == (x2.length : Int))) else (some false)))
def spec_l5Side.f (k : Nat) (a0 : Int) (a1 : Int) (l2 : List ByteArray) : Option (Bool) := (spec_l1In.f a0 0 1000).bind fun t105 => (if t105 = true then ((spec_l1In.f a1 0 1000).bind fun t106 => (if t106 = true then ((spec_l5Lines.f k l2).bind fun t107 => (spec_l5Side.j0 k a0 a1 l2 (!t107))) else (spec_l5Side.j0 k a0 a1 l2 true))) else (spec_l5Side.j0 k a0 a1 l2 true))
set_option maxHeartbeats 8000000 in
set_option maxRecDepth 100000 in
theorem spec_l5Side.calls (k : Nat) (a0 : Int) (a1 : Int) (A2 : Option Addr) (c2 : Nat) (l2 : List ByteArray) (r : Bool) (w : World) (hr2 : Kd.C Kd.string w A2 l2.length l2) (hc2 : l2.length ≤ c2) (h : spec_l5Side.f k a0 a1 l2 = some r) :
  Calls Tryz.prog 101 #[.int .i64 a0, .int .i64 a1, .slice A2 l2.length c2] w fun e w' => e = .returned (.bool r) ∧ Drawn0 w w' := by
 have HR2 := am hr2
 have HC2 := am hc2
 clear hr2 hc2
 have H := h
 clear h
 unfold spec_l5Side.f at H
 have HC4 := am H
 clear H
 go_enter Tryz.func101, Tryz.ntmps101
 go_upto_region 1 with (fail)
 go_cut [19] (fun v19 wc => ∃ (kq : Nat) (x19_3 : Bool), v19 = .bool x19_3 ∧ Aside0 (spec_l5Side.j0 kq a0 a1 l2 x19_3 = some r) ∧ Aside0 (kq ≤ k) ∧ Drawn0 w wc)
 case first =>
  have H := HC4.out
  clear HC4
  replace H := Option.bind_eq_some_iff.mp H
  obtain ⟨t105, A50, H⟩ := H
  replace H : (if t105 = true then ((spec_l1In.f a1 0 1000).bind fun t106 => (if t106 = true then ((spec_l5Lines.f k l2).bind fun t107 => (spec_l5Side.j0 k a0 a1 l2 (!t107))) else (spec_l5Side.j0 k a0 a1 l2 true))) else (spec_l5Side.j0 k a0 a1 l2 true)) = some r := H
  have A5 := am A50
  clear A50
  by_cases c6 : t105 = true
  ·subst c6
   rw [if_pos rfl] at H
   replace H := Option.bind_eq_some_iff.mp H
   obtain ⟨t106, A70, H⟩ := H
   replace H : (if t106 = true then ((spec_l5Lines.f k l2).bind fun t107 => (spec_l5Side.j0 k a0 a1 l2 (!t107))) else (spec_l5Side.j0 k a0 a1 l2 true)) = some r := H
   have A7 := am A70
   clear A70
   by_cases c8 : t106 = true
   ·subst c8
    rw [if_pos rfl] at H
    replace H := Option.bind_eq_some_iff.mp H
    obtain ⟨t107, A90, H⟩ := H
    replace H : (spec_l5Side.j0 k a0 a1 l2 (!t107)) = some r := H
    have A9 := am A90
    clear A90
    have H' := am H
    clear H
    go_wp2_with (first | ((with_reducible refine gateC (f := 100) rfl ?_); refine goesL_ (some 8) rfl rfl Tryz.func100 (by kernel_rfl) rfl #[.int .i64 a0, .int .i64 0, .int .i64 1000] rfl zm ?_; (with_reducible refine (spec_l1In.calls a0 0 1000 true _ A5.out).mono ?_); rintro e w' ⟨rfl, ⟨nd, rfl⟩⟩; refine ⟨_, rfl, ?_⟩) | (go_at_call 100; (with_reducible refine (spec_l1In.calls a1 0 1000 true _ A7.out).mono ?_); rintro e w' ⟨rfl, ⟨nd, rfl⟩⟩) | (go_at_call 125; (with_reducible refine (spec_l5Lines.calls k _ _ l2 t107 _ ?side1 ?side2 A9.out).mono ?_); (case side1 => exact zq HR2.out); (case side2 => exact HC2.out); rintro e w' ⟨rfl, ⟨nd, rfl⟩⟩))
    go_meet
    case rel => exact ⟨_, (!t107), zf, H', ⟨by omega⟩, by repeat (first | exact Drawn0.refl _ | apply Drawn0.step)⟩
   ·replace c8 := Bool.eq_false_iff.mpr c8
    subst c8
    rw [if_neg nofun] at H
    have H' := am H
    clear H
    go_wp2_with (first | ((with_reducible refine gateC (f := 100) rfl ?_); refine goesL_ (some 8) rfl rfl Tryz.func100 (by kernel_rfl) rfl #[.int .i64 a0, .int .i64 0, .int .i64 1000] rfl zm ?_; (with_reducible refine (spec_l1In.calls a0 0 1000 true _ A5.out).mono ?_); rintro e w' ⟨rfl, ⟨nd, rfl⟩⟩; refine ⟨_, rfl, ?_⟩) | (go_at_call 100; (with_reducible refine (spec_l1In.calls a1 0 1000 false _ A7.out).mono ?_); rintro e w' ⟨rfl, ⟨nd, rfl⟩⟩))
    go_meet
    case rel => exact ⟨_, (true), zf, H', ⟨by omega⟩, by repeat (first | exact Drawn0.refl _ | apply Drawn0.step)⟩
  ·replace c6 := Bool.eq_false_iff.mpr c6
   subst c6
   rw [if_neg nofun] at H
   have H' := am H
   clear H
   go_wp2_with (((with_reducible refine gateC (f := 100) rfl ?_); refine goesL_ (some 8) rfl rfl Tryz.func100 (by kernel_rfl) rfl #[.int .i64 a0, .int .i64 0, .int .i64 1000] rfl zm ?_; (with_reducible refine (spec_l1In.calls a0 0 1000 false _ A5.out).mono ?_); rintro e w' ⟨rfl, ⟨nd, rfl⟩⟩; refine ⟨_, rfl, ?_⟩))
   go_meet
   case rel => exact ⟨_, (true), zf, H', ⟨by omega⟩, by repeat (first | exact Drawn0.refl _ | apply Drawn0.step)⟩
 case rest =>
  clear HC4
  obtain ⟨kq, x19_3, rfl, HA, HJ3, ⟨mc3, rfl⟩⟩ := hcut
  cases kq with
  | zero => exact absurd HA.out (by simp [spec_l5Side.j0])
  | succ kj3 =>
   have H := HA.out
   clear HA
   simp only [spec_l5Side.j0] at H
   by_cases c10 : x19_3 = true
   ·subst c10
    rw [if_pos rfl] at H
    obtain rfl := Option.some.inj H
    go_wp2
    go_ret
    exact ⟨by rfl, by repeat (first | exact Drawn0.refl _ | apply Drawn0.step)⟩
   ·replace c10 := Bool.eq_false_iff.mpr c10
    subst c10
    rw [if_neg nofun] at H
    by_cases c11 : (l2.length : Int) = 0
    ·rw [if_pos c11] at H
     have c11b0 : ((l2.length : Int) == 0) = true := beq_iff_eq.mpr c11
     have c11b1 : ((l2.length : Int) != 0) = false := bne_eq_false_iff_eq.mpr c11
     clear c11
     obtain rfl := Option.some.inj H
     go_wp2
     go_ret
     exact ⟨by rfl, by repeat (first | exact Drawn0.refl _ | apply Drawn0.step)⟩
    ·rw [if_neg c11] at H
     have c11b0 : ((l2.length : Int) == 0) = false := beq_eq_false_iff_ne.mpr c11
     have c11b1 : ((l2.length : Int) != 0) = true := bne_iff_ne.mpr c11
     have c11b2 : ¬ (l2 = []) := fun h_ => c11 (by rw [h_]; rfl)
     by_cases c12 : a0 ≥ 1
     ·rw [if_pos c12] at H
      have c12b0 : decide (1 ≤ a0) = true := decide_eq_true c12
      clear c12
      obtain rfl := Option.some.inj H
      go_wp2
      go_ret
      exact ⟨by rfl, by repeat (first | exact Drawn0.refl _ | apply Drawn0.step)⟩
     ·rw [if_neg c12] at H
      have c12b0 : decide (1 ≤ a0) = false := decide_eq_false c12
      clear c12
      obtain rfl := Option.some.inj H
      go_wp2
      go_ret
      exact ⟨by rfl, by repeat (first | exact Drawn0.refl _ | apply Drawn0.step)⟩

def spec_l5Step.f (k : Nat) (a0_0 : Int) (a0_1 : Int) (l0_2 : List ByteArray) (a0_3 : Int) (a0_4 : Int) (l0_5 : List ByteArray) : Option (Bool) := (spec_l5Side.f k a0_0 a0_1 l0_2).bind fun t109 => (if t109 = true then ((spec_l5Side.f k a0_3 a0_4 l0_5).bind fun t110 => (if t110 = true then (some (decide ((wrap64 ((l0_2.length : Int) + (l0_5.length : Int))) > 0))) else (some false))) else (some false))
set_option maxHeartbeats 8000000 in
set_option maxRecDepth 100000 in
theorem spec_l5Step.calls (k : Nat) (a0_0 : Int) (a0_1 : Int) (A0_2 : Option Addr) (c0_2 : Nat) (l0_2 : List ByteArray) (a0_3 : Int) (a0_4 : Int) (A0_5 : Option Addr) (c0_5 : Nat) (l0_5 : List ByteArray) (r : Bool) (w : World) (hr0_2 : Kd.C Kd.string w A0_2 l0_2.length l0_2) (hc0_2 : l0_2.length ≤ c0_2) (hr0_5 : Kd.C Kd.string w A0_5 l0_5.length l0_5) (hc0_5 : l0_5.length ≤ c0_5) (h : spec_l5Step.f k a0_0 a0_1 l0_2 a0_3 a0_4 l0_5 = some r) :
  Calls Tryz.prog 73 #[.agg #[.int .i64 a0_0, .int .i64 a0_1, .slice A0_2 l0_2.length c0_2, .int .i64 a0_3, .int .i64 a0_4, .slice A0_5 l0_5.length c0_5]] w fun e w' => e = .returned (.bool r) ∧ Below w.heap.size w w' := by
 have hu52 := Tryz.underlying52
 have HR0_2 := am hr0_2
 have HC0_2 := am hc0_2
 clear hr0_2 hc0_2
 have HR0_5 := am hr0_5
 have HC0_5 := am hc0_5
 clear hr0_5 hc0_5
 have HB := am (Below.refl w.heap.size w)
 have H := h
 clear h
 unfold spec_l5Step.f at H
 replace H := Option.bind_eq_some_iff.mp H
 obtain ⟨t109, A20, H⟩ := H
 replace H : (if t109 = true then ((spec_l5Side.f k a0_3 a0_4 l0_5).bind fun t110 => (if t110 = true then (some (decide ((wrap64 ((l0_2.length : Int) + (l0_5.length : Int))) > 0))) else (some false))) else (some false)) = some r := H
 have A2 := am A20
 clear A20
 by_cases c3 : t109 = true
 ·subst c3
  rw [if_pos rfl] at H
  replace H := Option.bind_eq_some_iff.mp H
  obtain ⟨t110, A40, H⟩ := H
  replace H : (if t110 = true then (some (decide ((wrap64 ((l0_2.length : Int) + (l0_5.length : Int))) > 0))) else (some false)) = some r := H
  have A4 := am A40
  clear A40
  by_cases c5 : t110 = true
  ·subst c5
   rw [if_pos rfl] at H
   obtain rfl := Option.some.inj H
   go_enter Tryz.func73, Tryz.ntmps73
   go_wp2_with (first | ((with_reducible refine gate_dst (N := 1) rfl ?_); (try (refine gate_guard (by rfl) ?_; dsimp only)); refine box_event ?hg (N := 1) ?hd (cs := #[.int .i64 a0_0, .int .i64 a0_1, .slice A0_2 l0_2.length c0_2, .int .i64 a0_3, .int .i64 a0_4, .slice A0_5 l0_5.length c0_5]) (t := 52) ?hr ?_; (case hd => rfl); (case hg => rfl); (case hr => (go_simp; done)); intro gb108 hg w6 hbox hb; have BK108 := am (hbox); have GW108 := am ((by rw [hg]; exact (below_size zb) : w.heap.size ≤ gb108)); have GE108 := am ((by rw [hg]; exact (below_size zb) : w.heap.size ≤ gb108)); replace HB := am (below_step zb hb); clear hb hbox hg; obtain ⟨hcz7_0, hcz7_1, hcz7_2, hcz7_3, hcz7_4, hcz7_5⟩ := cz6 BK108.out; obtain ⟨hfz7_0, hfz7_1, hfz7_2, hfz7_3, hfz7_4, hfz7_5⟩ := fz6 BK108.out) | ((with_reducible refine gateC (f := 101) rfl ?_); refine goesL_ (some 9) rfl rfl Tryz.func101 (by kernel_rfl) rfl #[.int .i64 a0_0, .int .i64 a0_1, .slice A0_2 l0_2.length c0_2] rfl zm ?_; (with_reducible refine (spec_l5Side.calls k a0_0 a0_1 _ _ l0_2 true _ ?side1 ?side2 A2.out).mono ?_); (case side1 => exact zq (Kd.C_below HR0_2.out HB.out)); (case side2 => exact HC0_2.out); rintro e w' ⟨rfl, ⟨nd, rfl⟩⟩; refine ⟨_, rfl, ?_⟩) | (go_at_call 101; (with_reducible refine (spec_l5Side.calls k a0_3 a0_4 _ _ l0_5 true _ ?side1 ?side2 A4.out).mono ?_); (case side1 => repeat (exact (Kd.C_below HR0_5.out zw))); (case side2 => exact HC0_5.out); rintro e w' ⟨rfl, ⟨nd, rfl⟩⟩))
   go_ret
   exact ⟨by rfl, zw⟩
  ·replace c5 := Bool.eq_false_iff.mpr c5
   subst c5
   rw [if_neg nofun] at H
   obtain rfl := Option.some.inj H
   go_enter Tryz.func73, Tryz.ntmps73
   go_wp2_with (first | ((with_reducible refine gate_dst (N := 1) rfl ?_); (try (refine gate_guard (by rfl) ?_; dsimp only)); refine box_event ?hg (N := 1) ?hd (cs := #[.int .i64 a0_0, .int .i64 a0_1, .slice A0_2 l0_2.length c0_2, .int .i64 a0_3, .int .i64 a0_4, .slice A0_5 l0_5.length c0_5]) (t := 52) ?hr ?_; (case hd => rfl); (case hg => rfl); (case hr => (go_simp; done)); intro gb108 hg w8 hbox hb; have BK108 := am (hbox); have GW108 := am ((by rw [hg]; exact (below_size zb) : w.heap.size ≤ gb108)); have GE108 := am ((by rw [hg]; exact (below_size zb) : w.heap.size ≤ gb108)); replace HB := am (below_step zb hb); clear hb hbox hg; obtain ⟨hcz9_0, hcz9_1, hcz9_2, hcz9_3, hcz9_4, hcz9_5⟩ := cz6 BK108.out; obtain ⟨hfz9_0, hfz9_1, hfz9_2, hfz9_3, hfz9_4, hfz9_5⟩ := fz6 BK108.out) | ((with_reducible refine gateC (f := 101) rfl ?_); refine goesL_ (some 9) rfl rfl Tryz.func101 (by kernel_rfl) rfl #[.int .i64 a0_0, .int .i64 a0_1, .slice A0_2 l0_2.length c0_2] rfl zm ?_; (with_reducible refine (spec_l5Side.calls k a0_0 a0_1 _ _ l0_2 true _ ?side1 ?side2 A2.out).mono ?_); (case side1 => exact zq (Kd.C_below HR0_2.out HB.out)); (case side2 => exact HC0_2.out); rintro e w' ⟨rfl, ⟨nd, rfl⟩⟩; refine ⟨_, rfl, ?_⟩) | (go_at_call 101; (with_reducible refine (spec_l5Side.calls k a0_3 a0_4 _ _ l0_5 false _ ?side1 ?side2 A4.out).mono ?_); (case side1 => repeat (exact (Kd.C_below HR0_5.out zw))); (case side2 => exact HC0_5.out); rintro e w' ⟨rfl, ⟨nd, rfl⟩⟩))
   go_ret
   exact ⟨by rfl, zw⟩
 ·replace c3 := Bool.eq_false_iff.mpr c3
  subst c3
  rw [if_neg nofun] at H
  obtain rfl := Option.some.inj H
  go_enter Tryz.func73, Tryz.ntmps73
  go_wp2_with (first | ((with_reducible refine gate_dst (N := 1) rfl ?_); (try (refine gate_guard (by rfl) ?_; dsimp only)); refine box_event ?hg (N := 1) ?hd (cs := #[.int .i64 a0_0, .int .i64 a0_1, .slice A0_2 l0_2.length c0_2, .int .i64 a0_3, .int .i64 a0_4, .slice A0_5 l0_5.length c0_5]) (t := 52) ?hr ?_; (case hd => rfl); (case hg => rfl); (case hr => (go_simp; done)); intro gb108 hg w10 hbox hb; have BK108 := am (hbox); have GW108 := am ((by rw [hg]; exact (below_size zb) : w.heap.size ≤ gb108)); have GE108 := am ((by rw [hg]; exact (below_size zb) : w.heap.size ≤ gb108)); replace HB := am (below_step zb hb); clear hb hbox hg; obtain ⟨hcz11_0, hcz11_1, hcz11_2, hcz11_3, hcz11_4, hcz11_5⟩ := cz6 BK108.out; obtain ⟨hfz11_0, hfz11_1, hfz11_2, hfz11_3, hfz11_4, hfz11_5⟩ := fz6 BK108.out) | ((with_reducible refine gateC (f := 101) rfl ?_); refine goesL_ (some 9) rfl rfl Tryz.func101 (by kernel_rfl) rfl #[.int .i64 a0_0, .int .i64 a0_1, .slice A0_2 l0_2.length c0_2] rfl zm ?_; (with_reducible refine (spec_l5Side.calls k a0_0 a0_1 _ _ l0_2 false _ ?side1 ?side2 A2.out).mono ?_); (case side1 => exact zq (Kd.C_below HR0_2.out HB.out)); (case side2 => exact HC0_2.out); rintro e w' ⟨rfl, ⟨nd, rfl⟩⟩; refine ⟨_, rfl, ?_⟩))
  go_ret
  exact ⟨by rfl, zw⟩

def spec_GoodSteps.l0 : Nat → List (S52) → List (S52) → Int → Int → Option (Bool)
 | 0, _, _, _, _ => none
 | k + 1, x0, x5, x6, x7 => if x7 < x6 then (if 0 ≤ x7 then (if x7 < (x5.length : Int) then ((spec_l5Step.f k ((T52 x5 x7).f0) ((T52 x5 x7).f1) ((T52 x5 x7).f2) ((T52 x5 x7).f3) ((T52 x5 x7).f4) ((T52 x5 x7).f5)).bind fun t113 => (if t113 = true then (spec_GoodSteps.l0 k x0 x5 x6 (wrap64 (x7 + 1))) else (some false))) else (none)) else (none)) else (some (decide ((x0.length : Int) ≤ 20)))
def spec_GoodSteps.f (k : Nat) (l0 : List (S52)) : Option (Bool) := spec_GoodSteps.l0 k l0 l0 (l0.length : Int) 0
set_option maxHeartbeats 8000000 in
set_option maxRecDepth 100000 in
theorem spec_GoodSteps.calls (k : Nat) (A0 : Option Addr) (c0 : Nat) (l0 : List (S52)) (r : Bool) (w : World) (hr0 : Kd.C k52 w A0 l0.length l0) (hc0 : l0.length ≤ c0) (h : spec_GoodSteps.f k l0 = some r) :
  Calls Tryz.prog 42 #[.slice A0 l0.length c0] w fun e w' => e = .returned (.bool r) ∧ Below w.heap.size w w' := by
 have hu52 := Tryz.underlying52
 have HR0 := am hr0
 have HC0 := am hc0
 clear hr0 hc0
 have HB := am (Below.refl w.heap.size w)
 have H := h
 clear h
 unfold spec_GoodSteps.f at H
 have H' := am H
 clear H
 go_enter Tryz.func42, Tryz.ntmps42
 go_wp2
 go_loopg [7] k (fun kq v7 w' => ∃ (x7_1 : Int), v7 = .int .i64 x7_1 ∧ Aside0 (spec_GoodSteps.l0 kq l0 l0 (l0.length : Int) x7_1 = some r) ∧ Aside0 (kq ≤ k) ∧ Aside0 (Below w.heap.size w w'))
 case atStart => exact ⟨(0), zf, H', ⟨Nat.le_refl _⟩, ⟨zb⟩⟩
 case round =>
  clear H'
  obtain ⟨x7_1, rfl, HA, HK1, HB⟩ := hrel
  cases gk with
  | zero => exact absurd HA.out (by simp [spec_GoodSteps.l0])
  | succ k1 =>
   have H := HA.out
   clear HA
   simp only [spec_GoodSteps.l0] at H
   by_cases c2 : x7_1 < (l0.length : Int)
   ·rw [if_pos c2] at H
    have c2b0 : decide (x7_1 < (l0.length : Int)) = true := decide_eq_true c2
    clear c2
    obtain ⟨c3, H⟩ := itn H
    have c3b0 := decide_eq_true c3
    clear c3
    obtain ⟨c4, H⟩ := itn H
    have c4b0 := decide_eq_true c4
    clear c4
    replace H := Option.bind_eq_some_iff.mp H
    obtain ⟨t113, A50, H⟩ := H
    replace H : (if t113 = true then (spec_GoodSteps.l0 k1 l0 l0 (l0.length : Int) (wrap64 (x7_1 + 1))) else (some false)) = some r := H
    have A5 := am A50
    clear A50
    by_cases c6 : t113 = true
    ·subst c6
     rw [if_pos rfl] at H
     have H' := am H
     clear H
     have p111 : 0 ≤ (x7_1 : Int) := oa
     have q111 : x7_1 < (l0.length : Int) := oa
     obtain ⟨ad111, A111_2, c111_2, A111_5, c111_5, e111, hx111_0, hx111_1, hx111_2, hx111_3, hx111_4, hx111_5, hl111_2, hi111_2, hl111_5, hi111_5⟩ := at_T52 HR0.out x7_1 p111 q111
     cases e111
     replace hx111_0 := bc HB.out hx111_0
     replace hx111_1 := bc HB.out hx111_1
     replace hx111_2 := bc HB.out hx111_2
     replace hx111_3 := bc HB.out hx111_3
     replace hx111_4 := bc HB.out hx111_4
     replace hx111_5 := bc HB.out hx111_5
     have HR111_2 := am hi111_2
     have HC111_2 := am hl111_2
     clear hi111_2 hl111_2
     have HR111_5 := am hi111_5
     have HC111_5 := am hl111_5
     clear hi111_5 hl111_5
     replace p111 := eq_true p111
     replace q111 := eq_true q111
     go_wp2_with (first | ((with_reducible refine gate_dst (N := 4) rfl ?_); refine box_event ?hg (N := 4) ?hd (cs := #[.int .i64 0, .int .i64 0, .slice none 0 0, .int .i64 0, .int .i64 0, .slice none 0 0]) (t := 52) ?hr ?_; (case hd => rfl); (case hg => rfl); (case hr => (go_simp; done)); intro gb112 hg w7 hbox hb; have BK112 := am (hbox); have GW112 := am ((by rw [hg]; exact (below_size zb) : w.heap.size ≤ gb112)); have GE112 := am ((by rw [hg]; exact (below_size zb) : w.heap.size ≤ gb112)); replace HB := am (below_step zb hb); clear hb hbox hg; obtain ⟨hcz8_0, hcz8_1, hcz8_2, hcz8_3, hcz8_4, hcz8_5⟩ := cz6 BK112.out; obtain ⟨hfz8_0, hfz8_1, hfz8_2, hfz8_3, hfz8_4, hfz8_5⟩ := fz6 BK112.out) | ((with_reducible refine gateC (f := 73) rfl ?_); refine goesL_ (some 12) rfl rfl Tryz.func73 (by kernel_rfl) rfl #[.agg #[.int .i64 ((T52 l0 x7_1).f0), .int .i64 ((T52 l0 x7_1).f1), .slice A111_2 ((T52 l0 x7_1).f2).length c111_2, .int .i64 ((T52 l0 x7_1).f3), .int .i64 ((T52 l0 x7_1).f4), .slice A111_5 ((T52 l0 x7_1).f5).length c111_5]] rfl zm ?_; (with_reducible refine (spec_l5Step.calls k1 ((T52 l0 x7_1).f0) ((T52 l0 x7_1).f1) _ _ ((T52 l0 x7_1).f2) ((T52 l0 x7_1).f3) ((T52 l0 x7_1).f4) _ _ ((T52 l0 x7_1).f5) true _ ?side1 ?side2 ?side3 ?side4 A5.out).mono ?_); (case side1 => exact Kd.C_below HR111_2.out zw); (case side2 => exact HC111_2.out); (case side3 => exact Kd.C_below HR111_5.out zw); (case side4 => exact HC111_5.out); rintro e w9 ⟨rfl, hb⟩; refine ⟨_, rfl, ?_⟩; replace BK112 := am (blk_below (g := gb112) (o := .cells #[.int .i64 ((T52 l0 x7_1).f0), .int .i64 ((T52 l0 x7_1).f1), .slice A111_2 ((T52 l0 x7_1).f2).length c111_2, .int .i64 ((T52 l0 x7_1).f3), .int .i64 ((T52 l0 x7_1).f4), .slice A111_5 ((T52 l0 x7_1).f5).length c111_5] 52 (0, 0)) (by refine blk_put (cs := #[.int .i64 ((T52 l0 x7_1).f0), .int .i64 ((T52 l0 x7_1).f1), .slice A111_2 ((T52 l0 x7_1).f2).length c111_2, .int .i64 ((T52 l0 x7_1).f3), .int .i64 ((T52 l0 x7_1).f4), .slice none 0 0]) ?_ 5 _ rfl; refine blk_put (cs := #[.int .i64 ((T52 l0 x7_1).f0), .int .i64 ((T52 l0 x7_1).f1), .slice A111_2 ((T52 l0 x7_1).f2).length c111_2, .int .i64 ((T52 l0 x7_1).f3), .int .i64 0, .slice none 0 0]) ?_ 4 _ rfl; refine blk_put (cs := #[.int .i64 ((T52 l0 x7_1).f0), .int .i64 ((T52 l0 x7_1).f1), .slice A111_2 ((T52 l0 x7_1).f2).length c111_2, .int .i64 0, .int .i64 0, .slice none 0 0]) ?_ 3 _ rfl; refine blk_put (cs := #[.int .i64 ((T52 l0 x7_1).f0), .int .i64 ((T52 l0 x7_1).f1), .slice none 0 0, .int .i64 0, .int .i64 0, .slice none 0 0]) ?_ 2 _ rfl; refine blk_put (cs := #[.int .i64 ((T52 l0 x7_1).f0), .int .i64 0, .slice none 0 0, .int .i64 0, .int .i64 0, .slice none 0 0]) ?_ 1 _ rfl; refine blk_put (cs := #[.int .i64 0, .int .i64 0, .slice none 0 0, .int .i64 0, .int .i64 0, .slice none 0 0]) ?_ 0 _ rfl; exact BK112.out) hb); replace HB := am (below_step zw hb); (try clear hb)))
     go_roundg k1
     case measure => have := HK1.out; omega
     case rel => exact ⟨(wrap64 (x7_1 + 1)), zf, H', ⟨by have := HK1.out; omega⟩, ⟨zw⟩⟩
    ·replace c6 := Bool.eq_false_iff.mpr c6
     subst c6
     rw [if_neg nofun] at H
     obtain rfl := Option.some.inj H
     have p111 : 0 ≤ (x7_1 : Int) := oa
     have q111 : x7_1 < (l0.length : Int) := oa
     obtain ⟨ad111, A111_2, c111_2, A111_5, c111_5, e111, hx111_0, hx111_1, hx111_2, hx111_3, hx111_4, hx111_5, hl111_2, hi111_2, hl111_5, hi111_5⟩ := at_T52 HR0.out x7_1 p111 q111
     cases e111
     replace hx111_0 := bc HB.out hx111_0
     replace hx111_1 := bc HB.out hx111_1
     replace hx111_2 := bc HB.out hx111_2
     replace hx111_3 := bc HB.out hx111_3
     replace hx111_4 := bc HB.out hx111_4
     replace hx111_5 := bc HB.out hx111_5
     have HR111_2 := am hi111_2
     have HC111_2 := am hl111_2
     clear hi111_2 hl111_2
     have HR111_5 := am hi111_5
     have HC111_5 := am hl111_5
     clear hi111_5 hl111_5
     replace p111 := eq_true p111
     replace q111 := eq_true q111
     go_wp2_with (first | ((with_reducible refine gate_dst (N := 4) rfl ?_); refine box_event ?hg (N := 4) ?hd (cs := #[.int .i64 0, .int .i64 0, .slice none 0 0, .int .i64 0, .int .i64 0, .slice none 0 0]) (t := 52) ?hr ?_; (case hd => rfl); (case hg => rfl); (case hr => (go_simp; done)); intro gb112 hg w10 hbox hb; have BK112 := am (hbox); have GW112 := am ((by rw [hg]; exact (below_size zb) : w.heap.size ≤ gb112)); have GE112 := am ((by rw [hg]; exact (below_size zb) : w.heap.size ≤ gb112)); replace HB := am (below_step zb hb); clear hb hbox hg; obtain ⟨hcz11_0, hcz11_1, hcz11_2, hcz11_3, hcz11_4, hcz11_5⟩ := cz6 BK112.out; obtain ⟨hfz11_0, hfz11_1, hfz11_2, hfz11_3, hfz11_4, hfz11_5⟩ := fz6 BK112.out) | ((with_reducible refine gateC (f := 73) rfl ?_); refine goesL_ (some 12) rfl rfl Tryz.func73 (by kernel_rfl) rfl #[.agg #[.int .i64 ((T52 l0 x7_1).f0), .int .i64 ((T52 l0 x7_1).f1), .slice A111_2 ((T52 l0 x7_1).f2).length c111_2, .int .i64 ((T52 l0 x7_1).f3), .int .i64 ((T52 l0 x7_1).f4), .slice A111_5 ((T52 l0 x7_1).f5).length c111_5]] rfl zm ?_; (with_reducible refine (spec_l5Step.calls k1 ((T52 l0 x7_1).f0) ((T52 l0 x7_1).f1) _ _ ((T52 l0 x7_1).f2) ((T52 l0 x7_1).f3) ((T52 l0 x7_1).f4) _ _ ((T52 l0 x7_1).f5) false _ ?side1 ?side2 ?side3 ?side4 A5.out).mono ?_); (case side1 => exact Kd.C_below HR111_2.out zw); (case side2 => exact HC111_2.out); (case side3 => exact Kd.C_below HR111_5.out zw); (case side4 => exact HC111_5.out); rintro e w12 ⟨rfl, hb⟩; refine ⟨_, rfl, ?_⟩; replace BK112 := am (blk_below (g := gb112) (o := .cells #[.int .i64 ((T52 l0 x7_1).f0), .int .i64 ((T52 l0 x7_1).f1), .slice A111_2 ((T52 l0 x7_1).f2).length c111_2, .int .i64 ((T52 l0 x7_1).f3), .int .i64 ((T52 l0 x7_1).f4), .slice A111_5 ((T52 l0 x7_1).f5).length c111_5] 52 (0, 0)) (by refine blk_put (cs := #[.int .i64 ((T52 l0 x7_1).f0), .int .i64 ((T52 l0 x7_1).f1), .slice A111_2 ((T52 l0 x7_1).f2).length c111_2, .int .i64 ((T52 l0 x7_1).f3), .int .i64 ((T52 l0 x7_1).f4), .slice none 0 0]) ?_ 5 _ rfl; refine blk_put (cs := #[.int .i64 ((T52 l0 x7_1).f0), .int .i64 ((T52 l0 x7_1).f1), .slice A111_2 ((T52 l0 x7_1).f2).length c111_2, .int .i64 ((T52 l0 x7_1).f3), .int .i64 0, .slice none 0 0]) ?_ 4 _ rfl; refine blk_put (cs := #[.int .i64 ((T52 l0 x7_1).f0), .int .i64 ((T52 l0 x7_1).f1), .slice A111_2 ((T52 l0 x7_1).f2).length c111_2, .int .i64 0, .int .i64 0, .slice none 0 0]) ?_ 3 _ rfl; refine blk_put (cs := #[.int .i64 ((T52 l0 x7_1).f0), .int .i64 ((T52 l0 x7_1).f1), .slice none 0 0, .int .i64 0, .int .i64 0, .slice none 0 0]) ?_ 2 _ rfl; refine blk_put (cs := #[.int .i64 ((T52 l0 x7_1).f0), .int .i64 0, .slice none 0 0, .int .i64 0, .int .i64 0, .slice none 0 0]) ?_ 1 _ rfl; refine blk_put (cs := #[.int .i64 0, .int .i64 0, .slice none 0 0, .int .i64 0, .int .i64 0, .slice none 0 0]) ?_ 0 _ rfl; exact BK112.out) hb); replace HB := am (below_step zw hb); (try clear hb)))
     go_ret
     exact ⟨by rfl, zw⟩
   ·rw [if_neg c2] at H
    have c2b0 : decide (x7_1 < (l0.length : Int)) = false := decide_eq_false c2
    clear c2
    obtain rfl := Option.some.inj H
    go_wp2
    go_ret
    exact ⟨by rfl, zb⟩

def spec_l1OwnT.f (l0 : List ByteArray) : Option (List ByteArray) := (some (([] : List ByteArray) : List ByteArray)).bind fun y159 => (if y159.length + l0.length < 8796093022208 then (some (y159 ++ l0)) else (none))
set_option maxHeartbeats 8000000 in
set_option maxRecDepth 100000 in
theorem spec_l1OwnT.calls (A0 : Option Addr) (c0 : Nat) (l0 : List ByteArray) (r : List ByteArray) (w : World) (hr0 : Kd.C Kd.string w A0 l0.length l0) (hc0 : l0.length ≤ c0) (h : spec_l1OwnT.f l0 = some r) :
  Calls Tryz.prog 48 #[.slice A0 l0.length c0] w fun e w' => ∃ v0_ : Value, e = .returned (v0_) ∧ Kd.R Kd.string 9 w' w.heap.size (fun _ => True) v0_ r ∧ Below w.heap.size w w' := by
 have HR0 := am hr0
 have HC0 := am hc0
 clear hr0 hc0
 have HB := am (Below.refl w.heap.size w)
 have H := h
 clear h
 unfold spec_l1OwnT.f at H
 obtain ⟨y159, hy159⟩ : ∃ y_ : List ByteArray, y_ = (([] : List ByteArray)) := ⟨_, rfl⟩
 replace H : (if y159.length + l0.length < 8796093022208 then (some (y159 ++ l0)) else (none)) = some r := by (have H2_ := (Option.bind_some _ _).symm.trans H; rw [hy159]; with_reducible exact H2_)
 have Ny159 := am hy159
 clear hy159
 obtain ⟨c2, H⟩ := itn H
 have LMc2 := am c2
 clear c2
 obtain ⟨y162, hy162⟩ : ∃ y_ : List ByteArray, y_ = (y159 ++ l0) := ⟨_, rfl⟩
 rw [← hy162] at H
 have Ny162 := am hy162
 clear hy162
 obtain rfl := Option.some.inj H
 go_enter Tryz.func48, Tryz.ntmps48
 go_wp2_with (first | ((with_reducible refine gate_dst (N := 3) rfl ?_); refine Kd.R_lit Kd.string _ 9 ?hg (N := 3) ?hd (xs := ([] : List ByteArray)) (inner := []) (ok := fun _ => True) (okp := fun _ => True) ?hr ?hp (fun _ hk => hk) trivial (Below.refl _ _) (Nat.le_refl _) (by simp) ?_; (case hd => rfl); (case hg => rfl); (case hr => (go_simp; done)); (case hp => exact (Reps.none _ _)); intro v160 w3 ho4 hb hg_ hnew_; clear hg_ hnew_; (rw [← Ny159.out] at ho4); have HO161 := am (Kd.R_lower ho4 (below_size zb)); replace HB := am (below_step zb hb); clear hb ho4) | ((with_reducible refine gateB (b := .append) (xs := #[.tmp 3, .tmp 4]) rfl ?_); at_builtin; refine Kd.R_append_rows Kd.string (w0 := w) w.heap.size rfl (.tmp 3) (.tmp 4) 24 9 (.string ⟨#[]⟩) 16 rfl Tryz.underlying24 info9 rfl (by decide) (by omega) v160 y159 l0 _ _ _ (fun _ => True) (fun _ => False) rfl rfl ?aO ?aR (fun _ _ h => h) (fun _ h => h.elim) ?aF ?aB ?aS ?aL ?_; (case aR => exact zq (Kd.C_below HR0.out HB.out)); (case aB => exact zb); (case aF => exact (fun _ _ => trivial)); (case aO => exact (zr HO161.out)); (case aS => exact (below_size zb)); (case aL => have := LMc2.out; omega); intro v163 w5 ho hb hg hat; rw [← Ny162.out] at ho; replace HB := am (hb); have HO164 := am (ho); clear HO161; clear ho hb hg hat))
 go_ret
 exact ⟨_, by rfl, zr HO164.out, zb⟩

def spec_l1SameT.l0 : Nat → List ByteArray → List ByteArray → Int → Int → Option (Bool)
 | 0, _, _, _, _ => none
 | k + 1, x0, x1, x12, x13 => if x13 < x12 then (if 0 ≤ x13 then (if x13 < (x0.length : Int) then (if x13 < (x1.length : Int) then (if (rdOf ByteArray.empty x0 x13).toList = (rdOf ByteArray.empty x1 x13).toList then (spec_l1SameT.l0 k x0 x1 x12 (wrap64 (x13 + 1))) else (some false)) else (none)) else (none)) else (none)) else (some true)
def spec_l1SameT.f (k : Nat) (l0 : List ByteArray) (l1 : List ByteArray) : Option (Bool) := if (l0.length : Int) = (l1.length : Int) then (spec_l1SameT.l0 k l0 l1 (l0.length : Int) 0) else (some false)
set_option maxHeartbeats 8000000 in
set_option maxRecDepth 100000 in
theorem spec_l1SameT.calls (k : Nat) (A0 : Option Addr) (c0 : Nat) (l0 : List ByteArray) (A1 : Option Addr) (c1 : Nat) (l1 : List ByteArray) (r : Bool) (w : World) (hr0 : Kd.C Kd.string w A0 l0.length l0) (hc0 : l0.length ≤ c0) (hr1 : Kd.C Kd.string w A1 l1.length l1) (hc1 : l1.length ≤ c1) (h : spec_l1SameT.f k l0 l1 = some r) :
  Calls Tryz.prog 76 #[.slice A0 l0.length c0, .slice A1 l1.length c1] w fun e w' => e = .returned (.bool r) ∧ Drawn0 w w' := by
 have HR0 := am hr0
 have HC0 := am hc0
 clear hr0 hc0
 have HR1 := am hr1
 have HC1 := am hc1
 clear hr1 hc1
 have H := h
 clear h
 unfold spec_l1SameT.f at H
 by_cases c3 : (l0.length : Int) = (l1.length : Int)
 ·rw [if_pos c3] at H
  have c3b0 : ((l0.length : Int) == (l1.length : Int)) = true := beq_iff_eq.mpr c3
  have c3b1 : ((l0.length : Int) != (l1.length : Int)) = false := bne_eq_false_iff_eq.mpr c3
  have c3b2 : (l0.length == l1.length) = true := by (simp at c3 ⊢; omega)
  clear c3
  have H' := am H
  clear H
  go_enter Tryz.func76, Tryz.ntmps76
  go_wp2
  go_loopg [13] k (fun kq v13 w' => ∃ (x13_1 : Int), v13 = .int .i64 x13_1 ∧ Aside0 (spec_l1SameT.l0 kq l0 l1 (l0.length : Int) x13_1 = some r) ∧ Aside0 (kq ≤ k) ∧ Drawn0 w w')
  case atStart => exact ⟨(0), zf, H', ⟨Nat.le_refl _⟩, by repeat (exact Drawn0.refl _)⟩
  case round =>
   clear H'
   try clear c3b0
   try clear c3b1
   try clear c3b2
   obtain ⟨x13_1, rfl, HA, HK1, ⟨m1, rfl⟩⟩ := hrel
   cases gk with
   | zero => exact absurd HA.out (by simp [spec_l1SameT.l0])
   | succ k1 =>
    have H := HA.out
    clear HA
    simp only [spec_l1SameT.l0] at H
    by_cases c4 : x13_1 < (l0.length : Int)
    ·rw [if_pos c4] at H
     have c4b0 : decide (x13_1 < (l0.length : Int)) = true := decide_eq_true c4
     clear c4
     obtain ⟨c5, H⟩ := itn H
     have c5b0 := decide_eq_true c5
     clear c5
     obtain ⟨c6, H⟩ := itn H
     have c6b0 := decide_eq_true c6
     clear c6
     obtain ⟨c7, H⟩ := itn H
     have c7b0 := decide_eq_true c7
     clear c7
     by_cases c8 : (rdOf ByteArray.empty l0 x13_1).toList = (rdOf ByteArray.empty l1 x13_1).toList
     ·rw [if_pos c8] at H
      have c8b0 : ((rdOf ByteArray.empty l0 x13_1).toList == (rdOf ByteArray.empty l1 x13_1).toList) = true := beq_iff_eq.mpr c8
      have c8b1 : ((rdOf ByteArray.empty l0 x13_1).toList != (rdOf ByteArray.empty l1 x13_1).toList) = false := bne_eq_false_iff_eq.mpr c8
      clear c8
      have H' := am H
      clear H
      have p958 : 0 ≤ (x13_1 : Int) := oa
      have q958 : x13_1 < (l0.length : Int) := oa
      obtain ⟨ad958, e958, hx958_0⟩ := Kd.at_string HR0.out x13_1 p958 q958
      cases e958
      replace p958 := eq_true p958
      replace q958 := eq_true q958
      have p959 : 0 ≤ (x13_1 : Int) := oa
      have q959 : x13_1 < (l1.length : Int) := oa
      obtain ⟨ad959, e959, hx959_0⟩ := Kd.at_string HR1.out x13_1 p959 q959
      cases e959
      replace p959 := eq_true p959
      replace q959 := eq_true q959
      go_wp2
      repeat (go_quiet (fail); try go_wp2)
      go_roundg k1
      case measure => have := HK1.out; omega
      case rel => exact ⟨(wrap64 (x13_1 + 1)), zf, H', ⟨by have := HK1.out; omega⟩, by repeat (first | exact Drawn0.refl _ | apply Drawn0.step)⟩
     ·rw [if_neg c8] at H
      have c8b0 : ((rdOf ByteArray.empty l0 x13_1).toList == (rdOf ByteArray.empty l1 x13_1).toList) = false := beq_eq_false_iff_ne.mpr c8
      have c8b1 : ((rdOf ByteArray.empty l0 x13_1).toList != (rdOf ByteArray.empty l1 x13_1).toList) = true := bne_iff_ne.mpr c8
      obtain rfl := Option.some.inj H
      have p958 : 0 ≤ (x13_1 : Int) := oa
      have q958 : x13_1 < (l0.length : Int) := oa
      obtain ⟨ad958, e958, hx958_0⟩ := Kd.at_string HR0.out x13_1 p958 q958
      cases e958
      replace p958 := eq_true p958
      replace q958 := eq_true q958
      have p959 : 0 ≤ (x13_1 : Int) := oa
      have q959 : x13_1 < (l1.length : Int) := oa
      obtain ⟨ad959, e959, hx959_0⟩ := Kd.at_string HR1.out x13_1 p959 q959
      cases e959
      replace p959 := eq_true p959
      replace q959 := eq_true q959
      go_wp2
      repeat (go_quiet (fail); try go_wp2)
      go_ret
      exact ⟨by rfl, by repeat (first | exact Drawn0.refl _ | apply Drawn0.step)⟩
    ·rw [if_neg c4] at H
     have c4b0 : decide (x13_1 < (l0.length : Int)) = false := decide_eq_false c4
     clear c4
     obtain rfl := Option.some.inj H
     go_wp2
     go_ret
     exact ⟨by rfl, by repeat (first | exact Drawn0.refl _ | apply Drawn0.step)⟩
 ·rw [if_neg c3] at H
  have c3b0 : ((l0.length : Int) == (l1.length : Int)) = false := beq_eq_false_iff_ne.mpr c3
  have c3b1 : ((l0.length : Int) != (l1.length : Int)) = true := bne_iff_ne.mpr c3
  have c3b2 : (l0.length == l1.length) = false := by (simp at c3 ⊢; omega)
  obtain rfl := Option.some.inj H
  go_enter Tryz.func76, Tryz.ntmps76
  go_wp2
  go_ret
  exact ⟨by rfl, by repeat (exact Drawn0.refl _)⟩

def spec_l5Base.f (a0 : Int) (l1 : List ByteArray) : Option (Int) := if (l1.length : Int) > 0 then (some (wrap64 (a0 - 1))) else (some a0)
set_option maxHeartbeats 8000000 in
set_option maxRecDepth 100000 in
theorem spec_l5Base.calls (a0 : Int) (A1 : Option Addr) (c1 : Nat) (l1 : List ByteArray) (r : Int) (w : World) (hr1 : Kd.C Kd.string w A1 l1.length l1) (hc1 : l1.length ≤ c1) (h : spec_l5Base.f a0 l1 = some r) :
  Calls Tryz.prog 74 #[.int .i64 a0, .slice A1 l1.length c1] w fun e w' => e = .returned (.int .i64 r) ∧ Drawn0 w w' := by
 have HR1 := am hr1
 have HC1 := am hc1
 clear hr1 hc1
 have H : (if (l1.length : Int) > 0 then (some (wrap64 (a0 - 1))) else (some a0)) = some r := h
 clear h
 by_cases c3 : (l1.length : Int) > 0
 ·rw [if_pos c3] at H
  have c3b0 : decide (0 < (l1.length : Int)) = true := decide_eq_true c3
  have c3b1 : decide (0 < l1.length) = true := decide_eq_true (by omega)
  clear c3
  obtain rfl := Option.some.inj H
  go_enter Tryz.func74, Tryz.ntmps74
  go_wp2
  go_ret
  exact ⟨by first | rfl | (simp; done) | (simp [*]; done), by repeat (first | exact Drawn0.refl _ | apply Drawn0.step)⟩
 ·rw [if_neg c3] at H
  have c3b0 : decide (0 < (l1.length : Int)) = false := decide_eq_false c3
  have c3b1 : decide (0 < l1.length) = false := decide_eq_false (by omega)
  clear c3
  obtain rfl := Option.some.inj H
  go_enter Tryz.func74, Tryz.ntmps74
  go_wp2
  go_ret
  exact ⟨by first | rfl | (simp; done) | (simp [*]; done), by repeat (first | exact Drawn0.refl _ | apply Drawn0.step)⟩
end Go.Proofs.YtmcldkobejhaeaaGreatDoor.My