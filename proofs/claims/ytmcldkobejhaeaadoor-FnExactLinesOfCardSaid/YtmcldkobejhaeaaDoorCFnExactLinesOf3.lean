/- Part 3 of 3 of a proof of this sentence: The Go function loop.example/g00825/laws.FnExactLinesOf returns true for every input, and each argument reads afterwards as it read before. No condition. -/
import Derived.Test.YtmcldkobejhaeaaDoorRows
import Derived.Test.YtmcldkobejhaeaaDoorCards
import Derived.Test.YtmcldkobejhaeaaDoorTie
import Derived.LaidMore
import Derived.LaidLaws
import Derived.Stop.LaidErr
import Derived.Stop.Joined
import Derived.SevenTiedAt
import Derived.Lib.LaidTab
import Derived.Lay
import Derived.WalkKit
import Derived.ProofKit
import Derived.OpenShut
import Derived.ShutString
import Derived.ChangeOld
import Derived.Below
import Derived.SizedLaws
import Derived.Lib.SmallJoins
import Derived.Test.YtmcldkobejhaeaaDoorCFnExactLinesOf2
/- Written by this session's program (wip/gen): a plain function with the same answers as the Go function, and the proof that the Go code comes to them. Asked: that the plain function has an answer. -/
namespace Go.Proofs.YtmcldkobejhaeaaDoor.My
open Go.RowKit Go.Proofs.YtmcldkobejhaeaaDoorW.PrintWords Go.Proofs.YtmcldkobejhaeaaDoorW.PrintLast Go.Proofs.YtmcldkobejhaeaaDoorW.PrintMore
attribute [local go_sem] max2_int min2_int max_two min_two max_three min_three max_four min_four
set_option linter.unusedVariables false
set_option linter.unusedSimpArgs false
def impl_sameBehind.l0 : Nat → List ByteArray → List ByteArray → Int → Int → Option (Int)
 | 0, _, _, _, _ => none
 | k + 1, x0, x1, x5, x6 => if x5 < x6 then (if 0 ≤ (wrap64 ((wrap64 ((x0.length : Int) - 1)) - x5)) then (if (wrap64 ((wrap64 ((x0.length : Int) - 1)) - x5)) < (x0.length : Int) then (if 0 ≤ (wrap64 ((wrap64 ((x1.length : Int) - 1)) - x5)) then (if (wrap64 ((wrap64 ((x1.length : Int) - 1)) - x5)) < (x1.length : Int) then (if (rdOf ByteArray.empty x0 (wrap64 ((wrap64 ((x0.length : Int) - 1)) - x5))).toList = (rdOf ByteArray.empty x1 (wrap64 ((wrap64 ((x1.length : Int) - 1)) - x5))).toList then (impl_sameBehind.l0 k x0 x1 (wrap64 (x5 + 1)) x6) else (some x5)) else (none)) else (none)) else (none)) else (none)) else (some x5)
def impl_sameBehind.f (k : Nat) (l0 : List ByteArray) (l1 : List ByteArray) : Option (Int) := if (l1.length : Int) < (l0.length : Int) then ((impl_sameAhead.f k l0 l1).bind fun t347 => (impl_sameBehind.l0 k l0 l1 0 (wrap64 ((l1.length : Int) - t347)))) else ((impl_sameAhead.f k l0 l1).bind fun t350 => (impl_sameBehind.l0 k l0 l1 0 (wrap64 ((l0.length : Int) - t350))))
set_option maxHeartbeats 8000000 in
set_option maxRecDepth 100000 in
theorem impl_sameBehind.calls (k : Nat) (A0 : Option Addr) (c0 : Nat) (l0 : List ByteArray) (A1 : Option Addr) (c1 : Nat) (l1 : List ByteArray) (r : Int) (w : World) (hr0 : Kd.C Kd.string w A0 l0.length l0) (hc0 : l0.length ≤ c0) (hr1 : Kd.C Kd.string w A1 l1.length l1) (hc1 : l1.length ≤ c1) (h : impl_sameBehind.f k l0 l1 = some r) :
  Calls Tryd.prog 46 #[.slice A0 l0.length c0, .slice A1 l1.length c1] w fun e w' => e = .returned (.int .i64 r) ∧ Below w.heap.size w w' := by
 have HR0 := am hr0
 have HC0 := am hc0
 clear hr0 hc0
 have HR1 := am hr1
 have HC1 := am hc1
 clear hr1 hc1
 have HB := am (Below.refl w.heap.size w)
 have H : (if (l1.length : Int) < (l0.length : Int) then ((impl_sameAhead.f k l0 l1).bind fun t347 => (impl_sameBehind.l0 k l0 l1 0 (wrap64 ((l1.length : Int) - t347)))) else ((impl_sameAhead.f k l0 l1).bind fun t350 => (impl_sameBehind.l0 k l0 l1 0 (wrap64 ((l0.length : Int) - t350))))) = some r := h
 clear h
 by_cases c3 : (l1.length : Int) < (l0.length : Int)
 ·rw [if_pos c3] at H
  have c3i := eq_true c3
  have c3b0 : decide ((l1.length : Int) < (l0.length : Int)) = true := decide_eq_true c3
  have c3b1 : decide (l1.length < l0.length) = true := decide_eq_true (Int.ofNat_lt.mp c3)
  clear c3
  replace H := Option.bind_eq_some_iff.mp H
  obtain ⟨t347, A40, H⟩ := H
  replace H : (impl_sameBehind.l0 k l0 l1 0 (wrap64 ((l1.length : Int) - t347))) = some r := H
  have A4 := am A40
  clear A40
  have H' := am H
  clear H
  go_enter Tryd.func46, Tryd.ntmps46
  go_wp2_with (first | (go_at_call 44; (with_reducible refine (impl_sameAhead.calls k _ _ l0 _ _ l1 t347 _ ?side1 ?side2 ?side3 ?side4 A4.out).mono ?_); (case side1 => exact zq HR0.out); (case side2 => exact HC0.out); (case side3 => exact zq HR1.out); (case side4 => exact HC1.out); rintro e w5 ⟨rfl, hb⟩; have n0_ := am (below_step zb hb); clear HB; have HB := n0_; clear n0_; (try clear hb)))
  repeat (go_quiet (first | (go_at_call 44; (with_reducible refine (impl_sameAhead.calls k _ _ l0 _ _ l1 t347 _ ?side1 ?side2 ?side3 ?side4 A4.out).mono ?_); (case side1 => exact zq HR0.out); (case side2 => exact HC0.out); (case side3 => exact zq HR1.out); (case side4 => exact HC1.out); rintro e w5 ⟨rfl, hb⟩; have n0_ := am (below_step zb hb); clear HB; have HB := n0_; clear n0_; (try clear hb))); try go_wp2_with (first | (go_at_call 44; (with_reducible refine (impl_sameAhead.calls k _ _ l0 _ _ l1 t347 _ ?side1 ?side2 ?side3 ?side4 A4.out).mono ?_); (case side1 => exact zq HR0.out); (case side2 => exact HC0.out); (case side3 => exact zq HR1.out); (case side4 => exact HC1.out); rintro e w5 ⟨rfl, hb⟩; have n0_ := am (below_step zb hb); clear HB; have HB := n0_; clear n0_; (try clear hb))))
  go_loopg [5] k (fun kq v5 w' => ∃ (x5_1 : Int), v5 = .int .i64 x5_1 ∧ Aside0 (impl_sameBehind.l0 kq l0 l1 x5_1 (wrap64 ((l1.length : Int) - t347)) = some r) ∧ Aside0 (kq ≤ k) ∧ Aside0 (Below w.heap.size w w'))
  case atStart => exact ⟨(0), zf, H', ⟨Nat.le_refl _⟩, ⟨by repeat (first | (with_reducible first | exact HB.out | apply below_alloc | apply pw_below_drewN | apply below_drew1) | exact HB.out)⟩⟩
  case round =>
   clear H'
   try clear c1
   try clear p2
   try clear c3
   try clear c3b0
   try clear c3b1
   try clear c4
   obtain ⟨x5_1, rfl, HA, HK1, HB⟩ := hrel
   cases gk with
   | zero => exact absurd HA.out (by simp [impl_sameBehind.l0])
   | succ k1 =>
    have H := HA.out
    clear HA
    simp only [impl_sameBehind.l0] at H
    by_cases c6 : x5_1 < (wrap64 ((l1.length : Int) - t347))
    ·rw [if_pos c6] at H
     have c6b0 : decide (x5_1 < (wrap64 ((l1.length : Int) - t347))) = true := decide_eq_true c6
     clear c6
     obtain ⟨ji7, hji7⟩ : ∃ j_ : Int, (wrap64 ((wrap64 ((l0.length : Int) - 1)) - x5_1)) = j_ := ⟨_, rfl⟩
     replace H : (if 0 ≤ (ji7) then (if (ji7) < (l0.length : Int) then (if 0 ≤ (wrap64 ((wrap64 ((l1.length : Int) - 1)) - x5_1)) then (if (wrap64 ((wrap64 ((l1.length : Int) - 1)) - x5_1)) < (l1.length : Int) then (if (rdOf ByteArray.empty l0 (ji7)).toList = (rdOf ByteArray.empty l1 (wrap64 ((wrap64 ((l1.length : Int) - 1)) - x5_1))).toList then (impl_sameBehind.l0 k1 l0 l1 (wrap64 (x5_1 + 1)) (wrap64 ((l1.length : Int) - t347))) else (some x5_1)) else (none)) else (none)) else (none)) else (none)) = some r := by first | (rw [hji7] at H; exact H) | (simp only [hji7] at H ⊢; exact H)
     have hji7w : (IntKind.i64.wrap ((wrap64 ((l0.length : Int) - 1)) - x5_1)) = ji7 := (i64_w _).trans hji7
     by_cases c8 : 0 ≤ (ji7)
     ·rw [if_pos c8] at H
      have c8b0 : decide (0 ≤ (ji7)) = true := decide_eq_true c8
      clear c8
      by_cases c9 : (ji7) < (l0.length : Int)
      ·rw [if_pos c9] at H
       have c9b0 : decide ((ji7) < (l0.length : Int)) = true := decide_eq_true c9
       clear c9
       obtain ⟨ji10, hji10⟩ : ∃ j_ : Int, (wrap64 ((wrap64 ((l1.length : Int) - 1)) - x5_1)) = j_ := ⟨_, rfl⟩
       replace H : (if 0 ≤ (ji10) then (if (ji10) < (l1.length : Int) then (if (rdOf ByteArray.empty l0 (ji7)).toList = (rdOf ByteArray.empty l1 (ji10)).toList then (impl_sameBehind.l0 k1 l0 l1 (wrap64 (x5_1 + 1)) (wrap64 ((l1.length : Int) - t347))) else (some x5_1)) else (none)) else (none)) = some r := by first | (rw [hji10] at H; exact H) | (simp only [hji10] at H ⊢; exact H)
       have hji10w : (IntKind.i64.wrap ((wrap64 ((l1.length : Int) - 1)) - x5_1)) = ji10 := (i64_w _).trans hji10
       by_cases c11 : 0 ≤ (ji10)
       ·rw [if_pos c11] at H
        have c11b0 : decide (0 ≤ (ji10)) = true := decide_eq_true c11
        clear c11
        by_cases c12 : (ji10) < (l1.length : Int)
        ·rw [if_pos c12] at H
         have c12b0 : decide ((ji10) < (l1.length : Int)) = true := decide_eq_true c12
         clear c12
         by_cases c13 : (rdOf ByteArray.empty l0 (ji7)).toList = (rdOf ByteArray.empty l1 (ji10)).toList
         ·rw [if_pos c13] at H
          have c13b0 : ((rdOf ByteArray.empty l0 (ji7)).toList == (rdOf ByteArray.empty l1 (ji10)).toList) = true := beq_iff_eq.mpr c13
          have c13b1 : ((rdOf ByteArray.empty l0 (ji7)).toList != (rdOf ByteArray.empty l1 (ji10)).toList) = false := bne_eq_false_iff_eq.mpr c13
          clear c13
          have H' := am H
          clear H
          have p348 : 0 ≤ ((ji7) : Int) := oa
          have q348 : (ji7) < (l0.length : Int) := oa
          obtain ⟨ad348, e348, hx348_0⟩ := Kd.at_string HR0.out (ji7) p348 q348
          cases e348
          replace hx348_0 := (HB.out.cell (World.block_lt_of_cell? w _ hx348_0)).trans hx348_0
          replace p348 := eq_true p348
          replace q348 := eq_true q348
          have p349 : 0 ≤ ((ji10) : Int) := oa
          have q349 : (ji10) < (l1.length : Int) := oa
          obtain ⟨ad349, e349, hx349_0⟩ := Kd.at_string HR1.out (ji10) p349 q349
          cases e349
          replace hx349_0 := (HB.out.cell (World.block_lt_of_cell? w _ hx349_0)).trans hx349_0
          replace p349 := eq_true p349
          replace q349 := eq_true q349
          go_wp2
          repeat (go_quiet (fail); try go_wp2)
          go_roundg k1
          case measure => have := HK1.out; omega
          case rel => exact ⟨(wrap64 (x5_1 + 1)), zf, H', ⟨by have := HK1.out; omega⟩, ⟨by repeat (first | (with_reducible first | exact HB.out | apply below_alloc | apply pw_below_drewN | apply below_drew1) | exact HB.out)⟩⟩
         ·rw [if_neg c13] at H
          have c13b0 : ((rdOf ByteArray.empty l0 (ji7)).toList == (rdOf ByteArray.empty l1 (ji10)).toList) = false := beq_eq_false_iff_ne.mpr c13
          have c13b1 : ((rdOf ByteArray.empty l0 (ji7)).toList != (rdOf ByteArray.empty l1 (ji10)).toList) = true := bne_iff_ne.mpr c13
          obtain rfl := Option.some.inj H
          have p348 : 0 ≤ ((ji7) : Int) := oa
          have q348 : (ji7) < (l0.length : Int) := oa
          obtain ⟨ad348, e348, hx348_0⟩ := Kd.at_string HR0.out (ji7) p348 q348
          cases e348
          replace hx348_0 := (HB.out.cell (World.block_lt_of_cell? w _ hx348_0)).trans hx348_0
          replace p348 := eq_true p348
          replace q348 := eq_true q348
          have p349 : 0 ≤ ((ji10) : Int) := oa
          have q349 : (ji10) < (l1.length : Int) := oa
          obtain ⟨ad349, e349, hx349_0⟩ := Kd.at_string HR1.out (ji10) p349 q349
          cases e349
          replace hx349_0 := (HB.out.cell (World.block_lt_of_cell? w _ hx349_0)).trans hx349_0
          replace p349 := eq_true p349
          replace q349 := eq_true q349
          go_wp2
          repeat (go_quiet (fail); try go_wp2)
          go_ret
          exact ⟨by first | rfl | (simp [errW_none, errW_some] <;> rfl) | (simp only [← hji7, ← hji10]; first | rfl | (simp [errW_none, errW_some] <;> rfl)) | (simp [*, errW_none, errW_some] <;> rfl), by repeat (first | (with_reducible first | exact HB.out | apply below_alloc | apply pw_below_drewN | apply below_drew1) | exact HB.out)⟩
        ·rw [if_neg c12] at H
         exact absurd H (by simp)
       ·rw [if_neg c11] at H
        exact absurd H (by simp)
      ·rw [if_neg c9] at H
       exact absurd H (by simp)
     ·rw [if_neg c8] at H
      exact absurd H (by simp)
    ·rw [if_neg c6] at H
     have c6b0 : decide (x5_1 < (wrap64 ((l1.length : Int) - t347))) = false := decide_eq_false c6
     clear c6
     obtain rfl := Option.some.inj H
     go_wp2
     repeat (go_quiet (fail); try go_wp2)
     go_ret
     exact ⟨by first | rfl | (simp [errW_none, errW_some] <;> rfl) | (simp [*, errW_none, errW_some] <;> rfl), by repeat (first | (with_reducible first | exact HB.out | apply below_alloc | apply pw_below_drewN | apply below_drew1) | exact HB.out)⟩
 ·rw [if_neg c3] at H
  have c3i := eq_false c3
  have c3b0 : decide ((l1.length : Int) < (l0.length : Int)) = false := decide_eq_false c3
  have c3b1 : decide (l1.length < l0.length) = false := decide_eq_false (fun h => c3 (Int.ofNat_lt.mpr h))
  clear c3
  replace H := Option.bind_eq_some_iff.mp H
  obtain ⟨t350, A140, H⟩ := H
  replace H : (impl_sameBehind.l0 k l0 l1 0 (wrap64 ((l0.length : Int) - t350))) = some r := H
  have A14 := am A140
  clear A140
  have H' := am H
  clear H
  go_enter Tryd.func46, Tryd.ntmps46
  go_wp2_with (first | (go_at_call 44; (with_reducible refine (impl_sameAhead.calls k _ _ l0 _ _ l1 t350 _ ?side1 ?side2 ?side3 ?side4 A14.out).mono ?_); (case side1 => exact zq HR0.out); (case side2 => exact HC0.out); (case side3 => exact zq HR1.out); (case side4 => exact HC1.out); rintro e w15 ⟨rfl, hb⟩; have n0_ := am (below_step zb hb); clear HB; have HB := n0_; clear n0_; (try clear hb)))
  repeat (go_quiet (first | (go_at_call 44; (with_reducible refine (impl_sameAhead.calls k _ _ l0 _ _ l1 t350 _ ?side1 ?side2 ?side3 ?side4 A14.out).mono ?_); (case side1 => exact zq HR0.out); (case side2 => exact HC0.out); (case side3 => exact zq HR1.out); (case side4 => exact HC1.out); rintro e w15 ⟨rfl, hb⟩; have n0_ := am (below_step zb hb); clear HB; have HB := n0_; clear n0_; (try clear hb))); try go_wp2_with (first | (go_at_call 44; (with_reducible refine (impl_sameAhead.calls k _ _ l0 _ _ l1 t350 _ ?side1 ?side2 ?side3 ?side4 A14.out).mono ?_); (case side1 => exact zq HR0.out); (case side2 => exact HC0.out); (case side3 => exact zq HR1.out); (case side4 => exact HC1.out); rintro e w15 ⟨rfl, hb⟩; have n0_ := am (below_step zb hb); clear HB; have HB := n0_; clear n0_; (try clear hb))))
  go_loopg [5] k (fun kq v5 w' => ∃ (x5_1 : Int), v5 = .int .i64 x5_1 ∧ Aside0 (impl_sameBehind.l0 kq l0 l1 x5_1 (wrap64 ((l0.length : Int) - t350)) = some r) ∧ Aside0 (kq ≤ k) ∧ Aside0 (Below w.heap.size w w'))
  case atStart => exact ⟨(0), zf, H', ⟨Nat.le_refl _⟩, ⟨by repeat (first | (with_reducible first | exact HB.out | apply below_alloc | apply pw_below_drewN | apply below_drew1) | exact HB.out)⟩⟩
  case round =>
   clear H'
   try clear c1
   try clear p2
   try clear c3
   try clear c3b0
   try clear c3b1
   try clear p3
   try clear q3
   try clear hx3
   try clear c4
   try clear c6
   try clear c6b0
   try clear p6
   try clear c8
   try clear c8b0
   try clear c9
   try clear c9b0
   try clear c11
   try clear c11b0
   try clear c12
   try clear c12b0
   try clear c13
   try clear c13b0
   try clear c13b1
   try clear hx348_0
   try clear hx349_0
   try clear p2
   try clear p348
   try clear p349
   try clear q348
   try clear q349
   obtain ⟨x5_1, rfl, HA, HK1, HB⟩ := hrel
   cases gk with
   | zero => exact absurd HA.out (by simp [impl_sameBehind.l0])
   | succ k1 =>
    have H := HA.out
    clear HA
    simp only [impl_sameBehind.l0] at H
    by_cases c16 : x5_1 < (wrap64 ((l0.length : Int) - t350))
    ·rw [if_pos c16] at H
     have c16b0 : decide (x5_1 < (wrap64 ((l0.length : Int) - t350))) = true := decide_eq_true c16
     clear c16
     obtain ⟨ji17, hji17⟩ : ∃ j_ : Int, (wrap64 ((wrap64 ((l0.length : Int) - 1)) - x5_1)) = j_ := ⟨_, rfl⟩
     replace H : (if 0 ≤ (ji17) then (if (ji17) < (l0.length : Int) then (if 0 ≤ (wrap64 ((wrap64 ((l1.length : Int) - 1)) - x5_1)) then (if (wrap64 ((wrap64 ((l1.length : Int) - 1)) - x5_1)) < (l1.length : Int) then (if (rdOf ByteArray.empty l0 (ji17)).toList = (rdOf ByteArray.empty l1 (wrap64 ((wrap64 ((l1.length : Int) - 1)) - x5_1))).toList then (impl_sameBehind.l0 k1 l0 l1 (wrap64 (x5_1 + 1)) (wrap64 ((l0.length : Int) - t350))) else (some x5_1)) else (none)) else (none)) else (none)) else (none)) = some r := by first | (rw [hji17] at H; exact H) | (simp only [hji17] at H ⊢; exact H)
     have hji17w : (IntKind.i64.wrap ((wrap64 ((l0.length : Int) - 1)) - x5_1)) = ji17 := (i64_w _).trans hji17
     by_cases c18 : 0 ≤ (ji17)
     ·rw [if_pos c18] at H
      have c18b0 : decide (0 ≤ (ji17)) = true := decide_eq_true c18
      clear c18
      by_cases c19 : (ji17) < (l0.length : Int)
      ·rw [if_pos c19] at H
       have c19b0 : decide ((ji17) < (l0.length : Int)) = true := decide_eq_true c19
       clear c19
       obtain ⟨ji20, hji20⟩ : ∃ j_ : Int, (wrap64 ((wrap64 ((l1.length : Int) - 1)) - x5_1)) = j_ := ⟨_, rfl⟩
       replace H : (if 0 ≤ (ji20) then (if (ji20) < (l1.length : Int) then (if (rdOf ByteArray.empty l0 (ji17)).toList = (rdOf ByteArray.empty l1 (ji20)).toList then (impl_sameBehind.l0 k1 l0 l1 (wrap64 (x5_1 + 1)) (wrap64 ((l0.length : Int) - t350))) else (some x5_1)) else (none)) else (none)) = some r := by first | (rw [hji20] at H; exact H) | (simp only [hji20] at H ⊢; exact H)
       have hji20w : (IntKind.i64.wrap ((wrap64 ((l1.length : Int) - 1)) - x5_1)) = ji20 := (i64_w _).trans hji20
       by_cases c21 : 0 ≤ (ji20)
       ·rw [if_pos c21] at H
        have c21b0 : decide (0 ≤ (ji20)) = true := decide_eq_true c21
        clear c21
        by_cases c22 : (ji20) < (l1.length : Int)
        ·rw [if_pos c22] at H
         have c22b0 : decide ((ji20) < (l1.length : Int)) = true := decide_eq_true c22
         clear c22
         by_cases c23 : (rdOf ByteArray.empty l0 (ji17)).toList = (rdOf ByteArray.empty l1 (ji20)).toList
         ·rw [if_pos c23] at H
          have c23b0 : ((rdOf ByteArray.empty l0 (ji17)).toList == (rdOf ByteArray.empty l1 (ji20)).toList) = true := beq_iff_eq.mpr c23
          have c23b1 : ((rdOf ByteArray.empty l0 (ji17)).toList != (rdOf ByteArray.empty l1 (ji20)).toList) = false := bne_eq_false_iff_eq.mpr c23
          clear c23
          have H' := am H
          clear H
          have p348 : 0 ≤ ((ji17) : Int) := oa
          have q348 : (ji17) < (l0.length : Int) := oa
          obtain ⟨ad348, e348, hx348_0⟩ := Kd.at_string HR0.out (ji17) p348 q348
          cases e348
          replace hx348_0 := (HB.out.cell (World.block_lt_of_cell? w _ hx348_0)).trans hx348_0
          replace p348 := eq_true p348
          replace q348 := eq_true q348
          have p349 : 0 ≤ ((ji20) : Int) := oa
          have q349 : (ji20) < (l1.length : Int) := oa
          obtain ⟨ad349, e349, hx349_0⟩ := Kd.at_string HR1.out (ji20) p349 q349
          cases e349
          replace hx349_0 := (HB.out.cell (World.block_lt_of_cell? w _ hx349_0)).trans hx349_0
          replace p349 := eq_true p349
          replace q349 := eq_true q349
          go_wp2
          repeat (go_quiet (fail); try go_wp2)
          go_roundg k1
          case measure => have := HK1.out; omega
          case rel => exact ⟨(wrap64 (x5_1 + 1)), zf, H', ⟨by have := HK1.out; omega⟩, ⟨by repeat (first | (with_reducible first | exact HB.out | apply below_alloc | apply pw_below_drewN | apply below_drew1) | exact HB.out)⟩⟩
         ·rw [if_neg c23] at H
          have c23b0 : ((rdOf ByteArray.empty l0 (ji17)).toList == (rdOf ByteArray.empty l1 (ji20)).toList) = false := beq_eq_false_iff_ne.mpr c23
          have c23b1 : ((rdOf ByteArray.empty l0 (ji17)).toList != (rdOf ByteArray.empty l1 (ji20)).toList) = true := bne_iff_ne.mpr c23
          obtain rfl := Option.some.inj H
          have p348 : 0 ≤ ((ji17) : Int) := oa
          have q348 : (ji17) < (l0.length : Int) := oa
          obtain ⟨ad348, e348, hx348_0⟩ := Kd.at_string HR0.out (ji17) p348 q348
          cases e348
          replace hx348_0 := (HB.out.cell (World.block_lt_of_cell? w _ hx348_0)).trans hx348_0
          replace p348 := eq_true p348
          replace q348 := eq_true q348
          have p349 : 0 ≤ ((ji20) : Int) := oa
          have q349 : (ji20) < (l1.length : Int) := oa
          obtain ⟨ad349, e349, hx349_0⟩ := Kd.at_string HR1.out (ji20) p349 q349
          cases e349
          replace hx349_0 := (HB.out.cell (World.block_lt_of_cell? w _ hx349_0)).trans hx349_0
          replace p349 := eq_true p349
          replace q349 := eq_true q349
          go_wp2
          repeat (go_quiet (fail); try go_wp2)
          go_ret
          exact ⟨by first | rfl | (simp [errW_none, errW_some] <;> rfl) | (simp only [← hji17, ← hji20]; first | rfl | (simp [errW_none, errW_some] <;> rfl)) | (simp [*, errW_none, errW_some] <;> rfl), by repeat (first | (with_reducible first | exact HB.out | apply below_alloc | apply pw_below_drewN | apply below_drew1) | exact HB.out)⟩
        ·rw [if_neg c22] at H
         exact absurd H (by simp)
       ·rw [if_neg c21] at H
        exact absurd H (by simp)
      ·rw [if_neg c19] at H
       exact absurd H (by simp)
     ·rw [if_neg c18] at H
      exact absurd H (by simp)
    ·rw [if_neg c16] at H
     have c16b0 : decide (x5_1 < (wrap64 ((l0.length : Int) - t350))) = false := decide_eq_false c16
     clear c16
     obtain rfl := Option.some.inj H
     go_wp2
     repeat (go_quiet (fail); try go_wp2)
     go_ret
     exact ⟨by first | rfl | (simp [errW_none, errW_some] <;> rfl) | (simp [*, errW_none, errW_some] <;> rfl), by repeat (first | (with_reducible first | exact HB.out | apply below_alloc | apply pw_below_drewN | apply below_drew1) | exact HB.out)⟩
end Go.Proofs.YtmcldkobejhaeaaDoor.My
/- Written by this session's program (wip/gen): a plain function with the same answers as the Go function, and the proof that the Go code comes to them. Asked: that the plain function has an answer. -/
namespace Go.Proofs.YtmcldkobejhaeaaDoor.My
open Go.RowKit Go.Proofs.YtmcldkobejhaeaaDoorW.PrintWords Go.Proofs.YtmcldkobejhaeaaDoorW.PrintLast Go.Proofs.YtmcldkobejhaeaaDoorW.PrintMore
attribute [local go_sem] max2_int min2_int max_two min_two max_three min_three max_four min_four
set_option linter.unusedVariables false
set_option linter.unusedSimpArgs false
def spec_l1Ahead.l0 : Nat → List ByteArray → List ByteArray → Int → Option (Int)
 | 0, _, _, _ => none
 | k + 1, x0, x1, x5 => if x5 < (x0.length : Int) then (if x5 < (x1.length : Int) then (if 0 ≤ x5 then (if (rdOf ByteArray.empty x0 x5).toList = (rdOf ByteArray.empty x1 x5).toList then (spec_l1Ahead.l0 k x0 x1 (wrap64 (x5 + 1))) else (some x5)) else (none)) else (some x5)) else (some x5)
def spec_l1Ahead.f (k : Nat) (l0 : List ByteArray) (l1 : List ByteArray) : Option (Int) := spec_l1Ahead.l0 k l0 l1 0
set_option maxHeartbeats 8000000 in
set_option maxRecDepth 100000 in
theorem spec_l1Ahead.calls (k : Nat) (A0 : Option Addr) (c0 : Nat) (l0 : List ByteArray) (A1 : Option Addr) (c1 : Nat) (l1 : List ByteArray) (r : Int) (w : World) (hr0 : Kd.C Kd.string w A0 l0.length l0) (hc0 : l0.length ≤ c0) (hr1 : Kd.C Kd.string w A1 l1.length l1) (hc1 : l1.length ≤ c1) (h : spec_l1Ahead.f k l0 l1 = some r) :
  Calls Tryd.prog 45 #[.slice A0 l0.length c0, .slice A1 l1.length c1] w fun e w' => e = .returned (.int .i64 r) ∧ Drawn0 w w' := by
 have HR0 := am hr0
 have HC0 := am hc0
 clear hr0 hc0
 have HR1 := am hr1
 have HC1 := am hc1
 clear hr1 hc1
 have H : (spec_l1Ahead.l0 k l0 l1 0) = some r := h
 clear h
 have H' := am H
 clear H
 go_enter Tryd.func45, Tryd.ntmps45
 go_wp2
 repeat (go_quiet (fail); try go_wp2)
 go_loopg [5] k (fun kq v5 w' => ∃ (x5_1 : Int), v5 = .int .i64 x5_1 ∧ Aside0 (spec_l1Ahead.l0 kq l0 l1 x5_1 = some r) ∧ Aside0 (kq ≤ k) ∧ Drawn0 w w')
 case atStart => exact ⟨(0), zf, H', ⟨Nat.le_refl _⟩, by repeat (first | exact Drawn0.refl _ | apply Drawn0.step)⟩
 case round =>
  clear H'
  try clear c1
  try clear p2
  obtain ⟨x5_1, rfl, HA, HK1, ⟨m1, rfl⟩⟩ := hrel
  cases gk with
  | zero => exact absurd HA.out (by simp [spec_l1Ahead.l0])
  | succ k1 =>
   have H := HA.out
   clear HA
   simp only [spec_l1Ahead.l0] at H
   by_cases c3 : x5_1 < (l0.length : Int)
   ·rw [if_pos c3] at H
    have c3b0 : decide (x5_1 < (l0.length : Int)) = true := decide_eq_true c3
    clear c3
    by_cases c4 : x5_1 < (l1.length : Int)
    ·rw [if_pos c4] at H
     have c4b0 : decide (x5_1 < (l1.length : Int)) = true := decide_eq_true c4
     clear c4
     by_cases c5 : 0 ≤ x5_1
     ·rw [if_pos c5] at H
      have c5b0 : decide (0 ≤ x5_1) = true := decide_eq_true c5
      clear c5
      by_cases c6 : (rdOf ByteArray.empty l0 x5_1).toList = (rdOf ByteArray.empty l1 x5_1).toList
      ·rw [if_pos c6] at H
       have c6b0 : ((rdOf ByteArray.empty l0 x5_1).toList == (rdOf ByteArray.empty l1 x5_1).toList) = true := beq_iff_eq.mpr c6
       have c6b1 : ((rdOf ByteArray.empty l0 x5_1).toList != (rdOf ByteArray.empty l1 x5_1).toList) = false := bne_eq_false_iff_eq.mpr c6
       clear c6
       have H' := am H
       clear H
       have p342 : 0 ≤ (x5_1 : Int) := oa
       have q342 : x5_1 < (l0.length : Int) := oa
       obtain ⟨ad342, e342, hx342_0⟩ := Kd.at_string HR0.out x5_1 p342 q342
       cases e342
       replace p342 := eq_true p342
       replace q342 := eq_true q342
       have p343 : 0 ≤ (x5_1 : Int) := oa
       have q343 : x5_1 < (l1.length : Int) := oa
       obtain ⟨ad343, e343, hx343_0⟩ := Kd.at_string HR1.out x5_1 p343 q343
       cases e343
       replace p343 := eq_true p343
       replace q343 := eq_true q343
       go_wp2
       repeat (go_quiet (fail); try go_wp2)
       go_roundg k1
       case measure => have := HK1.out; omega
       case rel => exact ⟨(wrap64 (x5_1 + 1)), zf, H', ⟨by have := HK1.out; omega⟩, by repeat (first | exact Drawn0.refl _ | apply Drawn0.step)⟩
      ·rw [if_neg c6] at H
       have c6b0 : ((rdOf ByteArray.empty l0 x5_1).toList == (rdOf ByteArray.empty l1 x5_1).toList) = false := beq_eq_false_iff_ne.mpr c6
       have c6b1 : ((rdOf ByteArray.empty l0 x5_1).toList != (rdOf ByteArray.empty l1 x5_1).toList) = true := bne_iff_ne.mpr c6
       obtain rfl := Option.some.inj H
       have p342 : 0 ≤ (x5_1 : Int) := oa
       have q342 : x5_1 < (l0.length : Int) := oa
       obtain ⟨ad342, e342, hx342_0⟩ := Kd.at_string HR0.out x5_1 p342 q342
       cases e342
       replace p342 := eq_true p342
       replace q342 := eq_true q342
       have p343 : 0 ≤ (x5_1 : Int) := oa
       have q343 : x5_1 < (l1.length : Int) := oa
       obtain ⟨ad343, e343, hx343_0⟩ := Kd.at_string HR1.out x5_1 p343 q343
       cases e343
       replace p343 := eq_true p343
       replace q343 := eq_true q343
       go_wp2
       repeat (go_quiet (fail); try go_wp2)
       go_ret
       exact ⟨by first | rfl | (simp; done) | (simp [*]; done), by repeat (first | exact Drawn0.refl _ | apply Drawn0.step)⟩
     ·rw [if_neg c5] at H
      exact absurd H (by simp)
    ·rw [if_neg c4] at H
     have c4b0 : decide (x5_1 < (l1.length : Int)) = false := decide_eq_false c4
     clear c4
     obtain rfl := Option.some.inj H
     go_wp2
     repeat (go_quiet (fail); try go_wp2)
     go_ret
     exact ⟨by first | rfl | (simp; done) | (simp [*]; done), by repeat (first | exact Drawn0.refl _ | apply Drawn0.step)⟩
   ·rw [if_neg c3] at H
    have c3b0 : decide (x5_1 < (l0.length : Int)) = false := decide_eq_false c3
    clear c3
    obtain rfl := Option.some.inj H
    go_wp2
    repeat (go_quiet (fail); try go_wp2)
    go_ret
    exact ⟨by first | rfl | (simp; done) | (simp [*]; done), by repeat (first | exact Drawn0.refl _ | apply Drawn0.step)⟩
end Go.Proofs.YtmcldkobejhaeaaDoor.My
/- Written by this session's program (wip/gen): a plain function with the same answers as the Go function, and the proof that the Go code comes to them. Asked: that the plain function has an answer. -/
namespace Go.Proofs.YtmcldkobejhaeaaDoor.My
open Go.RowKit Go.Proofs.YtmcldkobejhaeaaDoorW.PrintWords Go.Proofs.YtmcldkobejhaeaaDoorW.PrintLast Go.Proofs.YtmcldkobejhaeaaDoorW.PrintMore
attribute [local go_sem] max2_int min2_int max_two min_two max_three min_three max_four min_four
set_option linter.unusedVariables false
set_option linter.unusedSimpArgs false
def spec_l1Least.f (a0 : Int) (a1 : Int) : Option (Int) := if a0 < a1 then (some a0) else (some a1)
set_option maxHeartbeats 8000000 in
set_option maxRecDepth 100000 in
theorem spec_l1Least.calls (a0 : Int) (a1 : Int) (r : Int) (w : World) (h : spec_l1Least.f a0 a1 = some r) :
  Calls Tryd.prog 68 #[.int .i64 a0, .int .i64 a1] w fun e w' => e = .returned (.int .i64 r) ∧ Drawn0 w w' := by
 have H : (if a0 < a1 then (some a0) else (some a1)) = some r := h
 clear h
 by_cases c3 : a0 < a1
 ·rw [if_pos c3] at H
  have c3b0 : decide (a0 < a1) = true := decide_eq_true c3
  clear c3
  obtain rfl := Option.some.inj H
  go_enter Tryd.func68, Tryd.ntmps68
  go_wp2
  go_ret
  exact ⟨by first | rfl | (simp; done) | (simp [*]; done), by repeat (first | exact Drawn0.refl _ | apply Drawn0.step)⟩
 ·rw [if_neg c3] at H
  have c3b0 : decide (a0 < a1) = false := decide_eq_false c3
  clear c3
  obtain rfl := Option.some.inj H
  go_enter Tryd.func68, Tryd.ntmps68
  go_wp2
  go_ret
  exact ⟨by first | rfl | (simp; done) | (simp [*]; done), by repeat (first | exact Drawn0.refl _ | apply Drawn0.step)⟩
end Go.Proofs.YtmcldkobejhaeaaDoor.My
/- Written by this session's program (wip/gen): a plain function with the same answers as the Go function, and the proof that the Go code comes to them. Asked: that the plain function has an answer. -/
namespace Go.Proofs.YtmcldkobejhaeaaDoor.My
open Go.RowKit Go.Proofs.YtmcldkobejhaeaaDoorW.PrintWords Go.Proofs.YtmcldkobejhaeaaDoorW.PrintLast Go.Proofs.YtmcldkobejhaeaaDoorW.PrintMore
attribute [local go_sem] max2_int min2_int max_two min_two max_three min_three max_four min_four
set_option linter.unusedVariables false
set_option linter.unusedSimpArgs false
def spec_l1Behind.l0 : Nat → List ByteArray → List ByteArray → Int → Int → Option (Int)
 | 0, _, _, _, _ => none
 | k + 1, x0, x1, x5, x6 => if x6 < x5 then (if 0 ≤ (wrap64 ((wrap64 ((x0.length : Int) - 1)) - x6)) then (if (wrap64 ((wrap64 ((x0.length : Int) - 1)) - x6)) < (x0.length : Int) then (if 0 ≤ (wrap64 ((wrap64 ((x1.length : Int) - 1)) - x6)) then (if (wrap64 ((wrap64 ((x1.length : Int) - 1)) - x6)) < (x1.length : Int) then (if (rdOf ByteArray.empty x0 (wrap64 ((wrap64 ((x0.length : Int) - 1)) - x6))).toList = (rdOf ByteArray.empty x1 (wrap64 ((wrap64 ((x1.length : Int) - 1)) - x6))).toList then (spec_l1Behind.l0 k x0 x1 x5 (wrap64 (x6 + 1))) else (some x6)) else (none)) else (none)) else (none)) else (none)) else (some x6)
def spec_l1Behind.f (k : Nat) (l0 : List ByteArray) (l1 : List ByteArray) : Option (Int) := (spec_l1Least.f (l0.length : Int) (l1.length : Int)).bind fun t354 => ((spec_l1Ahead.f k l0 l1).bind fun t355 => (spec_l1Behind.l0 k l0 l1 (wrap64 (t354 - t355)) 0))
set_option maxHeartbeats 8000000 in
set_option maxRecDepth 100000 in
theorem spec_l1Behind.calls (k : Nat) (A0 : Option Addr) (c0 : Nat) (l0 : List ByteArray) (A1 : Option Addr) (c1 : Nat) (l1 : List ByteArray) (r : Int) (w : World) (hr0 : Kd.C Kd.string w A0 l0.length l0) (hc0 : l0.length ≤ c0) (hr1 : Kd.C Kd.string w A1 l1.length l1) (hc1 : l1.length ≤ c1) (h : spec_l1Behind.f k l0 l1 = some r) :
  Calls Tryd.prog 47 #[.slice A0 l0.length c0, .slice A1 l1.length c1] w fun e w' => e = .returned (.int .i64 r) ∧ Drawn0 w w' := by
 have HR0 := am hr0
 have HC0 := am hc0
 clear hr0 hc0
 have HR1 := am hr1
 have HC1 := am hc1
 clear hr1 hc1
 have H : ((spec_l1Least.f (l0.length : Int) (l1.length : Int)).bind fun t354 => ((spec_l1Ahead.f k l0 l1).bind fun t355 => (spec_l1Behind.l0 k l0 l1 (wrap64 (t354 - t355)) 0))) = some r := h
 clear h
 replace H := Option.bind_eq_some_iff.mp H
 obtain ⟨t354, A30, H⟩ := H
 replace H : ((spec_l1Ahead.f k l0 l1).bind fun t355 => (spec_l1Behind.l0 k l0 l1 (wrap64 (t354 - t355)) 0)) = some r := H
 have A3 := am A30
 clear A30
 replace H := Option.bind_eq_some_iff.mp H
 obtain ⟨t355, A40, H⟩ := H
 replace H : (spec_l1Behind.l0 k l0 l1 (wrap64 (t354 - t355)) 0) = some r := H
 have A4 := am A40
 clear A40
 have H' := am H
 clear H
 go_enter Tryd.func47, Tryd.ntmps47
 go_wp2_with (first | (go_at_call 68; (with_reducible refine (spec_l1Least.calls (l0.length : Int) (l1.length : Int) t354 _ A3.out).mono ?_); rintro e w' ⟨rfl, ⟨nd, rfl⟩⟩; (try exact zd)) | (go_at_call 45; (with_reducible refine (spec_l1Ahead.calls k _ _ l0 _ _ l1 t355 _ ?side1 ?side2 ?side3 ?side4 A4.out).mono ?_); (case side1 => exact zq HR0.out); (case side2 => exact HC0.out); (case side3 => exact zq HR1.out); (case side4 => exact HC1.out); rintro e w' ⟨rfl, ⟨nd, rfl⟩⟩; (try exact zd)))
 repeat (go_quiet (first | (go_at_call 68; (with_reducible refine (spec_l1Least.calls (l0.length : Int) (l1.length : Int) t354 _ A3.out).mono ?_); rintro e w' ⟨rfl, ⟨nd, rfl⟩⟩; (try exact zd)) | (go_at_call 45; (with_reducible refine (spec_l1Ahead.calls k _ _ l0 _ _ l1 t355 _ ?side1 ?side2 ?side3 ?side4 A4.out).mono ?_); (case side1 => exact zq HR0.out); (case side2 => exact HC0.out); (case side3 => exact zq HR1.out); (case side4 => exact HC1.out); rintro e w' ⟨rfl, ⟨nd, rfl⟩⟩; (try exact zd))); try go_wp2_with (first | (go_at_call 68; (with_reducible refine (spec_l1Least.calls (l0.length : Int) (l1.length : Int) t354 _ A3.out).mono ?_); rintro e w' ⟨rfl, ⟨nd, rfl⟩⟩; (try exact zd)) | (go_at_call 45; (with_reducible refine (spec_l1Ahead.calls k _ _ l0 _ _ l1 t355 _ ?side1 ?side2 ?side3 ?side4 A4.out).mono ?_); (case side1 => exact zq HR0.out); (case side2 => exact HC0.out); (case side3 => exact zq HR1.out); (case side4 => exact HC1.out); rintro e w' ⟨rfl, ⟨nd, rfl⟩⟩; (try exact zd))))
 go_loopg [6] k (fun kq v6 w' => ∃ (x6_1 : Int), v6 = .int .i64 x6_1 ∧ Aside0 (spec_l1Behind.l0 kq l0 l1 (wrap64 (t354 - t355)) x6_1 = some r) ∧ Aside0 (kq ≤ k) ∧ Drawn0 w w')
 case atStart => exact ⟨(0), zf, H', ⟨Nat.le_refl _⟩, by repeat (first | exact Drawn0.refl _ | apply Drawn0.step)⟩
 case round =>
  clear H'
  try clear c1
  try clear p2
  try clear c4
  obtain ⟨x6_1, rfl, HA, HK1, ⟨m1, rfl⟩⟩ := hrel
  cases gk with
  | zero => exact absurd HA.out (by simp [spec_l1Behind.l0])
  | succ k1 =>
   have H := HA.out
   clear HA
   simp only [spec_l1Behind.l0] at H
   by_cases c5 : x6_1 < (wrap64 (t354 - t355))
   ·rw [if_pos c5] at H
    have c5b0 : decide (x6_1 < (wrap64 (t354 - t355))) = true := decide_eq_true c5
    clear c5
    obtain ⟨ji6, hji6⟩ : ∃ j_ : Int, (wrap64 ((wrap64 ((l0.length : Int) - 1)) - x6_1)) = j_ := ⟨_, rfl⟩
    replace H : (if 0 ≤ (ji6) then (if (ji6) < (l0.length : Int) then (if 0 ≤ (wrap64 ((wrap64 ((l1.length : Int) - 1)) - x6_1)) then (if (wrap64 ((wrap64 ((l1.length : Int) - 1)) - x6_1)) < (l1.length : Int) then (if (rdOf ByteArray.empty l0 (ji6)).toList = (rdOf ByteArray.empty l1 (wrap64 ((wrap64 ((l1.length : Int) - 1)) - x6_1))).toList then (spec_l1Behind.l0 k1 l0 l1 (wrap64 (t354 - t355)) (wrap64 (x6_1 + 1))) else (some x6_1)) else (none)) else (none)) else (none)) else (none)) = some r := by first | (rw [hji6] at H; exact H) | (simp only [hji6] at H ⊢; exact H)
    have hji6w : (IntKind.i64.wrap ((wrap64 ((l0.length : Int) - 1)) - x6_1)) = ji6 := (i64_w _).trans hji6
    by_cases c7 : 0 ≤ (ji6)
    ·rw [if_pos c7] at H
     have c7b0 : decide (0 ≤ (ji6)) = true := decide_eq_true c7
     clear c7
     by_cases c8 : (ji6) < (l0.length : Int)
     ·rw [if_pos c8] at H
      have c8b0 : decide ((ji6) < (l0.length : Int)) = true := decide_eq_true c8
      clear c8
      obtain ⟨ji9, hji9⟩ : ∃ j_ : Int, (wrap64 ((wrap64 ((l1.length : Int) - 1)) - x6_1)) = j_ := ⟨_, rfl⟩
      replace H : (if 0 ≤ (ji9) then (if (ji9) < (l1.length : Int) then (if (rdOf ByteArray.empty l0 (ji6)).toList = (rdOf ByteArray.empty l1 (ji9)).toList then (spec_l1Behind.l0 k1 l0 l1 (wrap64 (t354 - t355)) (wrap64 (x6_1 + 1))) else (some x6_1)) else (none)) else (none)) = some r := by first | (rw [hji9] at H; exact H) | (simp only [hji9] at H ⊢; exact H)
      have hji9w : (IntKind.i64.wrap ((wrap64 ((l1.length : Int) - 1)) - x6_1)) = ji9 := (i64_w _).trans hji9
      by_cases c10 : 0 ≤ (ji9)
      ·rw [if_pos c10] at H
       have c10b0 : decide (0 ≤ (ji9)) = true := decide_eq_true c10
       clear c10
       by_cases c11 : (ji9) < (l1.length : Int)
       ·rw [if_pos c11] at H
        have c11b0 : decide ((ji9) < (l1.length : Int)) = true := decide_eq_true c11
        clear c11
        by_cases c12 : (rdOf ByteArray.empty l0 (ji6)).toList = (rdOf ByteArray.empty l1 (ji9)).toList
        ·rw [if_pos c12] at H
         have c12b0 : ((rdOf ByteArray.empty l0 (ji6)).toList == (rdOf ByteArray.empty l1 (ji9)).toList) = true := beq_iff_eq.mpr c12
         have c12b1 : ((rdOf ByteArray.empty l0 (ji6)).toList != (rdOf ByteArray.empty l1 (ji9)).toList) = false := bne_eq_false_iff_eq.mpr c12
         clear c12
         have H' := am H
         clear H
         have p356 : 0 ≤ ((ji6) : Int) := oa
         have q356 : (ji6) < (l0.length : Int) := oa
         obtain ⟨ad356, e356, hx356_0⟩ := Kd.at_string HR0.out (ji6) p356 q356
         cases e356
         replace p356 := eq_true p356
         replace q356 := eq_true q356
         have p357 : 0 ≤ ((ji9) : Int) := oa
         have q357 : (ji9) < (l1.length : Int) := oa
         obtain ⟨ad357, e357, hx357_0⟩ := Kd.at_string HR1.out (ji9) p357 q357
         cases e357
         replace p357 := eq_true p357
         replace q357 := eq_true q357
         go_wp2
         repeat (go_quiet (fail); try go_wp2)
         go_roundg k1
         case measure => have := HK1.out; omega
         case rel => exact ⟨(wrap64 (x6_1 + 1)), zf, H', ⟨by have := HK1.out; omega⟩, by repeat (first | exact Drawn0.refl _ | apply Drawn0.step)⟩
        ·rw [if_neg c12] at H
         have c12b0 : ((rdOf ByteArray.empty l0 (ji6)).toList == (rdOf ByteArray.empty l1 (ji9)).toList) = false := beq_eq_false_iff_ne.mpr c12
         have c12b1 : ((rdOf ByteArray.empty l0 (ji6)).toList != (rdOf ByteArray.empty l1 (ji9)).toList) = true := bne_iff_ne.mpr c12
         obtain rfl := Option.some.inj H
         have p356 : 0 ≤ ((ji6) : Int) := oa
         have q356 : (ji6) < (l0.length : Int) := oa
         obtain ⟨ad356, e356, hx356_0⟩ := Kd.at_string HR0.out (ji6) p356 q356
         cases e356
         replace p356 := eq_true p356
         replace q356 := eq_true q356
         have p357 : 0 ≤ ((ji9) : Int) := oa
         have q357 : (ji9) < (l1.length : Int) := oa
         obtain ⟨ad357, e357, hx357_0⟩ := Kd.at_string HR1.out (ji9) p357 q357
         cases e357
         replace p357 := eq_true p357
         replace q357 := eq_true q357
         go_wp2
         repeat (go_quiet (fail); try go_wp2)
         go_ret
         exact ⟨by first | rfl | (simp; done) | (simp only [← hji6, ← hji9] <;> (first | rfl | simp)) | (simp [*]; done), by repeat (first | exact Drawn0.refl _ | apply Drawn0.step)⟩
       ·rw [if_neg c11] at H
        exact absurd H (by simp)
      ·rw [if_neg c10] at H
       exact absurd H (by simp)
     ·rw [if_neg c8] at H
      exact absurd H (by simp)
    ·rw [if_neg c7] at H
     exact absurd H (by simp)
   ·rw [if_neg c5] at H
    have c5b0 : decide (x6_1 < (wrap64 (t354 - t355))) = false := decide_eq_false c5
    clear c5
    obtain rfl := Option.some.inj H
    go_wp2
    repeat (go_quiet (fail); try go_wp2)
    go_ret
    exact ⟨by first | rfl | (simp; done) | (simp [*]; done), by repeat (first | exact Drawn0.refl _ | apply Drawn0.step)⟩
end Go.Proofs.YtmcldkobejhaeaaDoor.My
/- Plain Lean: how many lines are the same ahead and behind. Condition: lengths below 2^62. -/
namespace Go.Proofs.YtmcldkobejhaeaaDoor.Pl
open Go.RowKit Go.Proofs.YtmcldkobejhaeaaDoorW.PrintWords Go.Proofs.YtmcldkobejhaeaaDoorW.PrintLast Go.Proofs.YtmcldkobejhaeaaDoorW.PrintMore Go.Proofs.YtmcldkobejhaeaaDoor.My
set_option linter.unusedVariables false
set_option linter.unusedSimpArgs false
theorem mn_nat (a b : Nat) : mn (a : Int) (b : Int) = ((min a b : Nat) : Int) := by
  unfold mn
  split <;> omega
end Go.Proofs.YtmcldkobejhaeaaDoor.Pl
/- Plain Lean: the lines that make a text, told by both. Asked: a text below 2^40 bytes. -/
namespace Go.Proofs.YtmcldkobejhaeaaDoor.Pl
open Go.RowKit Go.Proofs.YtmcldkobejhaeaaDoorW.PrintWords Go.Proofs.YtmcldkobejhaeaaDoorW.PrintLast Go.Proofs.YtmcldkobejhaeaaDoor.My
set_option linter.unusedVariables false
set_option linter.unusedSimpArgs false
def cutS : List UInt8 → List UInt8 → List (List UInt8)
  | acc, [] => if acc = [] then [] else [acc]
  | acc, b :: t => if b = 10 then (acc ++ [b]) :: cutS [] t else cutS (acc ++ [b]) t
def splS : List UInt8 → List UInt8 → List (List UInt8)
  | acc, [] => [acc]
  | acc, b :: t => if b = 10 then (acc ++ [b]) :: splS [] t else splS (acc ++ [b]) t
theorem splS_ne : ∀ (l acc : List UInt8), splS acc l ≠ []
  | [], acc => by simp [splS]
  | b :: t, acc => by
    simp only [splS]
    split
    · simp
    · exact splS_ne t _
theorem cutS_spl : ∀ (l acc : List UInt8), cutS acc l = if (splS acc l).getLast? = some [] then (splS acc l).dropLast else splS acc l
  | [], acc => by
    simp only [cutS, splS]
    by_cases h : acc = []
    · simp [h]
    · simp [h]
  | b :: t, acc => by
    simp only [cutS, splS]
    split
    · rw [cutS_spl t []]
      have hn := splS_ne t []
      generalize splS [] t = r at *
      cases r with
      | nil => exact absurd rfl hn
      | cons y r => 
        simp only [List.getLast?_cons_cons, List.dropLast_cons_cons]
        split <;> rfl
    · exact cutS_spl t _
theorem cutS_len : ∀ (l acc : List UInt8), (cutS acc l).length ≤ l.length + 1
  | [], acc => by simp only [cutS]; split <;> simp
  | b :: t, acc => by
    simp only [cutS, List.length_cons]
    split
    · have := cutS_len t []; simp only [List.length_cons]; omega
    · have := cutS_len t (acc ++ [b]); omega
theorem cutS_size : ∀ (l acc : List UInt8), ∀ x ∈ cutS acc l, x.length ≤ acc.length + l.length
  | [], acc, x, hx => by
    simp only [cutS] at hx
    split at hx
    · cases hx
    · rw [List.mem_singleton.1 hx]; simp
  | b :: t, acc, x, hx => by
    simp only [cutS] at hx
    split at hx
    · rcases List.mem_cons.1 hx with rfl | hx
      · simp only [List.length_append, List.length_singleton, List.length_cons, List.length_nil]; omega
      · have := cutS_size t [] x hx; simp only [List.length_nil, List.length_cons] at this ⊢; omega
    · have := cutS_size t _ x hx; simp only [List.length_append, List.length_singleton, List.length_cons, List.length_nil] at this ⊢; omega
theorem idx_split : ∀ (l acc : List UInt8), l.count 10 > 0 → ∃ m : Nat, Lib.indexByte l 10 = (m : Int) ∧ m < l.length ∧ splS acc l = (acc ++ l.take (m + 1)) :: splS [] (l.drop (m + 1)) ∧ (l.drop (m + 1)).count 10 + 1 = l.count 10
  | [], acc, h => by simp at h
  | b :: t, acc, h => by
    by_cases e : b = 10
    · subst e
      refine ⟨0, by simp [Lib.indexByte], by simp, by simp [splS], by simp⟩
    · have hb : (b == 10) = false := by simpa using e
      have hc : t.count 10 > 0 := by rw [List.count_cons, hb] at h; simpa using h
      obtain ⟨m, h1, h2, h3, h4⟩ := idx_split t (acc ++ [b]) hc
      refine ⟨m + 1, ?_, by simp only [List.length_cons]; omega, ?_, ?_⟩
      · unfold Lib.indexByte
        rw [hb, h1]
        have : ((m : Int) == -1) = false := by rw [beq_eq_false_iff_ne]; omega
        rw [this]
        simp
      · simp only [splS, if_neg e, List.take_succ_cons, List.drop_succ_cons]
        rw [h3]
        simp
      · rw [List.drop_succ_cons, h4, List.count_cons, hb]
        simp
theorem splS_none : ∀ (l acc : List UInt8), l.count 10 = 0 → splS acc l = [acc ++ l]
  | [], acc, _ => by simp [splS]
  | b :: t, acc, h => by
    have e : b ≠ 10 := by rintro rfl; simp at h
    have hb : (b == 10) = false := by simpa using e
    have hc : t.count 10 = 0 := by rw [List.count_cons, hb] at h; simpa using h
    simp only [splS, if_neg e]
    rw [splS_none t _ hc]
    simp
theorem splS_len : ∀ (l acc : List UInt8), (splS acc l).length = l.count 10 + 1
  | [], acc => by simp [splS]
  | b :: t, acc => by
    simp only [splS]
    split
    · rename_i e; subst e; rw [List.length_cons, splS_len t []]; simp
    · rename_i e
      have hb : (b == 10) = false := by simpa using e
      rw [splS_len t _, List.count_cons, hb]; simp
def mkB (l : List UInt8) : ByteArray := ⟨l.toArray⟩
theorem mkB_list (l : List UInt8) : (mkB l).data.toList = l := rfl
theorem mkB_size (l : List UInt8) : (mkB l).size = l.length := by rw [← data_length]; rfl
theorem mkB_of (s : ByteArray) : mkB s.data.toList = s := ba_ext (by rw [Lib.toList_data, Lib.toList_data]; rfl)
theorem mkB_nil {l : List UInt8} : (mkB l).toList = [] ↔ l = [] := by rw [Lib.toList_data]; exact Iff.rfl
theorem extract_mk (s : ByteArray) (a b : Nat) : s.extract a b = mkB ((s.data.toList.take b).drop a) := by
  refine ba_ext ?_
  rw [Lib.toList_data, Lib.toList_data, ByteArray.data_extract, Array.toList_extract, List.extract_eq_take_drop, ← List.drop_take]
  rfl
def linesB (s : ByteArray) : List ByteArray := (cutS [] s.data.toList).map mkB
theorem linesB_len (s : ByteArray) : (linesB s).length ≤ s.size + 1 := by
  unfold linesB
  rw [List.length_map]
  have := cutS_len s.data.toList []
  rwa [data_length] at this
theorem linesB_size (s : ByteArray) : ∀ x ∈ linesB s, x.size ≤ s.size := fun x hx => by
  obtain ⟨y, hy, rfl⟩ := List.mem_map.1 hx
  have := cutS_size s.data.toList [] y hy
  rw [mkB_size]
  rw [data_length] at this
  simpa using this
theorem l1Cut_l0 (s : ByteArray) (hs : s.size ≤ 1099511627776) : ∀ d (from_ i : Nat) (acc : List ByteArray), i + d = s.size → from_ ≤ i → acc.length ≤ i →
    Ev (fun k => spec_l1Cut.l0 k s acc (from_ : Int) (i : Int)) (acc ++ (cutS ((s.data.toList.take i).drop from_) (s.data.toList.drop i)).map mkB) := by
  intro d
  induction d with
  | zero =>
    intro from_ i acc hi hf ha
    have hd : s.data.toList.drop i = [] := List.drop_of_length_le (by rw [data_length]; omega)
    have ht : s.data.toList.take i = s.data.toList := List.take_of_length_le (by rw [data_length]; omega)
    rw [hd, ht]
    simp only [cutS]
    by_cases c : from_ < s.size
    · have hne : ¬ s.data.toList.drop from_ = [] := fun e => by
        have := congrArg List.length e
        rw [List.length_drop, data_length, List.length_nil] at this
        omega
      rw [if_neg hne]
      refine Ev.step (fun k => spec_l1Cut.l0.eq_2 ..) (ev_neg (by omega) (ev_pos (by omega) (ev_pos (by omega) (ev_pos (by omega) (ev_pos (by omega) (ev_some ?_))))))
      rw [extract_mk, Int.toNat_natCast, List.take_of_length_le (by rw [data_length]; exact Nat.le_refl _)]
      rfl
    · have he : s.data.toList.drop from_ = [] := List.drop_of_length_le (by rw [data_length]; omega)
      rw [he, if_pos rfl]
      exact Ev.step (fun k => spec_l1Cut.l0.eq_2 ..) (ev_neg (by omega) (ev_neg (by omega) (ev_some (by simp))))
  | succ d ih =>
    intro from_ i acc hi hf ha
    have hlt : i < s.size := by omega
    have hl : i < s.data.toList.length := by rw [data_length]; exact hlt
    have hb := bt_nat s i hlt
    have hsp : s.data.toList.take (i + 1) = s.data.toList.take i ++ [s.data.toList[i]] := (List.take_succ_eq_append_getElem hl)
    have hdr : (s.data.toList.take (i + 1)).drop from_ = (s.data.toList.take i).drop from_ ++ [s.data.toList[i]] := by
      rw [hsp, List.drop_append_of_le_length (by rw [List.length_take, data_length]; omega)]
    refine Ev.step (fun k => spec_l1Cut.l0.eq_2 ..) (ev_pos (by omega) (ev_pos (by omega) ?_))
    rw [hb, wrap_succ i (by omega), List.drop_eq_getElem_cons hl]
    simp only [cutS]
    by_cases c : s.data.toList[i] = 10
    · rw [if_pos c, ← hdr]
      refine ev_pos (by rw [c]; rfl) (ev_pos (by omega) (ev_pos (by omega) (ev_pos (by omega) (ev_pos (by omega) ?_))))
      refine ev_to (ih (i + 1) (i + 1) _ (by omega) (Nat.le_refl _) (by rw [List.length_append, List.length_singleton]; omega)) ?_
      rw [extract_mk, Int.toNat_natCast, Int.toNat_natCast, List.append_assoc, List.map_cons, List.singleton_append]
      rw [show (s.data.toList.take (i + 1)).drop (i + 1) = [] from List.drop_of_length_le (by rw [List.length_take]; omega)]
    · rw [if_neg c, ← hdr]
      refine ev_neg (fun e => c (u8_eq (by rw [e]; rfl))) ?_
      exact ih from_ (i + 1) acc (by omega) (by omega) (by omega)
theorem l1Cut_ev (s : ByteArray) (hs : s.size ≤ 1099511627776) : Ev (fun k => spec_l1Cut.f k s) (linesB s) := by
  simp only [spec_l1Cut.f]
  exact ev_to (l1Cut_l0 s hs s.size 0 0 [] (by omega) (Nat.le_refl _) (Nat.zero_le _)) (by simp [linesB])
theorem set_take {α : Type} {xs : List α} {i : Nat} (v : α) (h : i < xs.length) : (xs.set i v).take (i + 1) = xs.take i ++ [v] := by
  rw [List.take_succ_eq_append_getElem (by rw [List.length_set]; exact h), List.getElem_set_self, List.take_set_of_le (Nat.le_refl i)]
theorem genSplit_l0 (N : Nat) (hN : N ≤ 1099511627776) : ∀ c (l : List UInt8) (i : Nat) (x : List ByteArray), l.count 10 = c → i + c + 1 = x.length → x.length = N + 1 → l.length ≤ 1099511627776 →
    Ev (fun k => strings_genSplit.l0 k (mkB l) ⟨#[10]⟩ 1 (N : Int) x (i : Int)) (x.take i ++ (splS [] l).map mkB) := by
  intro c
  induction c with
  | zero =>
    intro l i x hc hi hx hl
    rw [splS_none l [] hc, List.nil_append, List.map_cons, List.map_nil]
    refine Ev.step (fun k => strings_genSplit.l0.eq_2 ..) (ev_neg (by omega) (ev_pos (by omega) (ev_pos (by omega) ?_)))
    rw [wrap_succ i (by omega)]
    refine ev_pos (by omega) (ev_pos (by omega) (ev_some ?_))
    rw [Int.toNat_natCast, Int.toNat_natCast, set_take _ (by omega)]
  | succ c ih =>
    intro l i x hc hi hx hl
    obtain ⟨m, h1, h2, h3, h4⟩ := idx_split l [] (by omega)
    have hix := index_ev (mkB l) 10
    rw [mkB_list, h1] at hix
    have e1 : wrap64 ((m : Int) + 1) = ((m + 1 : Nat) : Int) := wrap_succ m (by omega)
    refine Ev.step (fun k => strings_genSplit.l0.eq_2 ..) (ev_pos (by omega) (ev_bind hix (ev_neg (by omega) ?_)))
    rw [show (((⟨#[10]⟩ : ByteArray).size : Nat) : Int) = 1 from rfl, e1, wrap_succ i (by omega), mkB_size]
    refine ev_pos (by omega) (ev_pos (by omega) (ev_pos (by omega) (ev_pos (by omega) (ev_pos (by omega) (ev_pos (by omega) ?_)))))
    rw [extract_mk, extract_mk, mkB_list, Int.toNat_natCast, Int.toNat_natCast, List.take_of_length_le (l := l) (Nat.le_refl _), List.drop_zero]
    refine ev_to (ih (l.drop (m + 1)) (i + 1) _ (by omega) (by rw [List.length_set]; omega) (by rw [List.length_set]; exact hx) (by rw [List.length_drop]; omega)) ?_
    rw [set_take _ (by omega), h3, List.nil_append, List.map_cons, List.append_assoc]
    rfl
theorem splitAfter_ev (s : ByteArray) (hs : s.size ≤ 1099511627776) : Ev (fun k => strings_SplitAfter.f k s ⟨#[10]⟩) ((splS [] s.data.toList).map mkB) := by
  simp only [strings_SplitAfter.f, strings_genSplit.f]
  refine ev_bind (ev_neg (by decide) (ev_neg (by rw [toList_one]; simp) (ev_pos (by decide) ?_))) (ev_some rfl)
  have hct : strings_Count.f s ⟨#[10]⟩ = some ((s.data.toList.count 10 : Nat) : Int) := by
    unfold strings_Count.f
    rw [if_pos (show (⟨#[10]⟩ : ByteArray).size = 1 from rfl)]
    rfl
  have hle : s.data.toList.count 10 ≤ s.size := by
    have := List.count_le_length (a := (10 : UInt8)) (l := s.data.toList)
    rwa [data_length] at this
  refine ev_bind (ev_const hct) (Ev.step (fun k => strings_genSplit.j0.eq_2 ..) ?_)
  rw [wrap_succ _ (by omega), wrap_succ s.size (by omega), mn_nat, Nat.min_eq_left (by omega)]
  refine ev_pos (by omega) (ev_pos (by rw [Int.toNat_natCast]; omega) ?_)
  rw [Int.toNat_natCast, wrap64_id (by omega) (by omega), show (((s.data.toList.count 10 + 1 : Nat) : Int) - 1) = ((s.data.toList.count 10 : Nat) : Int) from by omega]
  have h := genSplit_l0 (s.data.toList.count 10) (by omega) (s.data.toList.count 10) s.data.toList 0 (List.replicate (s.data.toList.count 10 + 1) (⟨#[]⟩ : ByteArray)) rfl (by rw [List.length_replicate]; omega) (by rw [List.length_replicate]) (by rw [data_length]; exact hs)
  rw [mkB_of] at h
  exact ev_to h (by simp)
theorem linesOf_ev (s : ByteArray) (hs : s.size ≤ 1099511627776) : Ev (fun k => impl_linesOf.f k s) (linesB s) := by
  simp only [impl_linesOf.f]
  have hz := cutS_spl s.data.toList []
  unfold linesB
  rw [hz]
  by_cases h0 : s.toList = ([] : List UInt8)
  · have e : s.data.toList = [] := by rw [← Lib.toList_data]; exact h0
    rw [e]
    exact ev_pos h0 (ev_some (by simp [splS]))
  · refine ev_neg h0 (ev_bind (splitAfter_ev s hs) ?_)
    have hn := splS_ne s.data.toList []
    have hlen := splS_len s.data.toList []
    have hle : s.data.toList.count 10 ≤ s.size := by
      have := List.count_le_length (a := (10 : UInt8)) (l := s.data.toList)
      rwa [data_length] at this
    generalize splS [] s.data.toList = r at *
    have hr : 0 < r.length := List.length_pos_iff.mpr hn
    rw [List.length_map, wrap_pred r.length hr (by omega)]
    have hrd : rdOf ByteArray.empty (r.map mkB) ((r.length - 1 : Nat) : Int) = mkB (r[r.length - 1]'(by omega)) := by
      rw [rdOf_lt _ _ _ (by rw [List.length_map]; omega), List.getElem_map]
    have hlast : r.getLast? = some (r[r.length - 1]'(by omega)) := by rw [List.getLast?_eq_getElem?, List.getElem?_eq_getElem (by omega)]
    rw [hrd, hlast]
    refine ev_pos (by omega) (ev_pos (by omega) (ev_ite (fun c => ev_pos (by omega) (ev_some ?_)) (fun c => ev_some ?_)))
    · rw [if_pos (by rw [mkB_nil.1 c]), Int.toNat_natCast, List.dropLast_eq_take, List.map_take]
    · rw [if_neg (fun e => c (mkB_nil.2 (Option.some.inj e)))]
end Go.Proofs.YtmcldkobejhaeaaDoor.Pl
/- Plain Lean: LinesOf, for the program and the reference. Asked: a text below 2^40 bytes. -/
namespace Go.Proofs.YtmcldkobejhaeaaDoor.Pl
open Go.RowKit Go.Proofs.YtmcldkobejhaeaaDoorW.PrintWords Go.Proofs.YtmcldkobejhaeaaDoorW.PrintLast Go.Proofs.YtmcldkobejhaeaaDoor.My
set_option linter.unusedVariables false
set_option linter.unusedSimpArgs false
def LinesOf' (s : ByteArray) : List ByteArray × Bool := if good (linesB s) = true then (linesB s, true) else ([], false)
theorem fitS_lines (s : ByteArray) (hs : s.size ≤ 1099511627776) : FitS (linesB s) := ⟨by have := linesB_len s; omega, fun x hx => by have := linesB_size s x hx; omega⟩
theorem impl_LinesOf_ev (s : ByteArray) (hs : s.size ≤ 1099511627776) : Ev (fun k => impl_LinesOf.f k s) (LinesOf' s) := by
  simp only [impl_LinesOf.f]
  unfold LinesOf'
  refine ev_bind (linesOf_ev s hs) (ev_bind (goodLines_ev _ (fitS_lines s hs)) (ev_ite (fun h => ev_some (by rw [if_pos h])) (fun h => ev_some (by rw [if_neg h]))))
theorem spec_LinesOf_ev (s : ByteArray) (hs : s.size ≤ 1099511627776) : Ev (fun k => spec_LinesOf.f k s) (LinesOf' s) := by
  simp only [spec_LinesOf.f]
  unfold LinesOf'
  refine ev_bind (l1Cut_ev s hs) (ev_bind (l1Good_ev _ (fitS_lines s hs)) (ev_ite (fun h => ev_some (by rw [if_pos h])) (fun h => ev_some (by rw [if_neg h]))))
theorem LinesOf_len (s : ByteArray) (hs : s.size ≤ 1048576) : (LinesOf' s).1.length ≤ 1048577 := by
  unfold LinesOf'
  split
  · have := linesB_len s; dsimp only; omega
  · simp
end Go.Proofs.YtmcldkobejhaeaaDoor.Pl
/- Plain Lean: whether lists of strings are equal, by the laws' own test. Conditions: lengths below 2^63. -/
namespace Go.Proofs.YtmcldkobejhaeaaDoor.Pl
open Go.RowKit Go.Proofs.YtmcldkobejhaeaaDoorW.PrintWords Go.Proofs.YtmcldkobejhaeaaDoorW.PrintLast Go.Proofs.YtmcldkobejhaeaaDoor.My
set_option linter.unusedVariables false
set_option linter.unusedSimpArgs false
theorem eqStringS_l0 (a b : List ByteArray) (hab : a.length = b.length) (hL : a.length ≤ 9223372036854775807) : ∀ d i, i + d = a.length → Ev (fun k => laws_eqStringS.l0 k a b (i : Int)) (decide (a.drop i = b.drop i)) := by
  intro d
  induction d with
  | zero =>
    intro i hi
    refine Ev.step (fun k => laws_eqStringS.l0.eq_2 ..) (ev_neg (by omega) (ev_some ?_))
    rw [List.drop_of_length_le (by omega), List.drop_of_length_le (by omega)]
    simp
  | succ d ih =>
    intro i hi
    have h1 : i < a.length := by omega
    have h2 : i < b.length := by omega
    refine Ev.step (fun k => laws_eqStringS.l0.eq_2 ..) (ev_pos (by omega) (ev_pos (by omega) (ev_pos (by omega) ?_)))
    rw [rdOf_lt _ _ _ h1, rdOf_lt _ _ _ h2, drop_cons a i h1, drop_cons b i h2]
    refine ev_ite (fun h => ?_) (fun h => ev_some ?_)
    · rw [wrap_succ i (by omega)]
      refine ev_to (ih (i + 1) (by omega)) ?_
      rw [ba_ext h]
      simp only [List.cons.injEq, true_and]
    · have : ¬ a[i] = b[i] := fun e => h (by rw [e])
      simp only [List.cons.injEq, this, false_and, decide_false]
theorem eqStringS_ev (a b : List ByteArray) (hL : a.length ≤ 9223372036854775807) : Ev (fun k => laws_eqStringS.f k a b) (decide (a = b)) := by
  simp only [laws_eqStringS.f]
  refine ev_ite (fun h => ?_) (fun h => ev_some ?_)
  · exact eqStringS_l0 a b (by omega) hL a.length 0 (by omega)
  · have : ¬ a = b := fun e => h (by rw [e])
    simp [this]
end Go.Proofs.YtmcldkobejhaeaaDoor.Pl
/- Plain Lean: the marks by which the laws see whether memory is shared. Conditions: lengths below 2^40. -/
namespace Go.Proofs.YtmcldkobejhaeaaDoor.Pl
open Go.RowKit Go.Proofs.YtmcldkobejhaeaaDoorW.PrintWords Go.Proofs.YtmcldkobejhaeaaDoorW.PrintLast Go.Proofs.YtmcldkobejhaeaaDoor.My
set_option linter.unusedVariables false
set_option linter.unusedSimpArgs false
theorem strOfNums_size (l : List Int) : (strOfNums l).size = l.length := by
  unfold strOfNums
  rw [← data_length]
  simp
theorem tdiv10 (n : Int) (h : 0 ≤ n) : Int.tdiv n 10 = n / 10 := by
  rw [Int.tdiv_eq_ediv_of_nonneg h]
theorem markText_l0 : ∀ (d : Nat) (n : Int) (t : ByteArray), 0 ≤ n → n.toNat ≤ d → n ≤ 4611686018427387904 → t.size + n.toNat ≤ 4611686018427387905 → ∃ r, Ev (fun k => laws_markText.l0 k n t) r := by
  intro d
  induction d with
  | zero =>
    intro n t h0 hd h1 h2
    exact ⟨_, Ev.step (fun k => laws_markText.l0.eq_2 ..) (ev_neg (by omega) (ev_pos (by omega) (ev_some rfl)))⟩
  | succ d ih =>
    intro n t h0 hd h1 h2
    by_cases h : 0 < n
    · have e : wrap64 (Int.tdiv n 10) = n / 10 := by rw [tdiv10 n h0, wrap64_id (by omega) (by omega)]
      obtain ⟨r, hr⟩ := ih (n / 10) (strOfNums [(wrap64 (48 + (Int.tmod n 10))) % 256] ++ t) (by omega) (by omega) (by omega) (by
        rw [ByteArray.size_append, strOfNums_size, List.length_singleton]
        omega)
      refine ⟨r, Ev.step (fun k => laws_markText.l0.eq_2 ..) (ev_pos h ?_)⟩
      simp only [Option.bind_some]
      refine ev_pos ?_ ?_
      · rw [strOfNums_size, List.length_singleton]
        omega
      · rw [e]
        exact hr
    · exact ⟨_, Ev.step (fun k => laws_markText.l0.eq_2 ..) (ev_neg (by omega) (ev_pos (by omega) (ev_some rfl)))⟩
theorem markText_some (n : Int) (h0 : 0 ≤ n) (h1 : n ≤ 4611686018427387904) : ∃ r, Ev (fun k => laws_markText.f k n) r := by
  simp only [laws_markText.f]
  by_cases h : n ≤ 0
  · exact ⟨_, ev_pos h (ev_some rfl)⟩
  · obtain ⟨r, hr⟩ := markText_l0 n.toNat n ⟨#[]⟩ h0 (Nat.le_refl _) h1 (by
      show (0 : Nat) + n.toNat ≤ _
      omega)
    exact ⟨r, ev_neg h hr⟩
noncomputable def mark (n : Nat) : ByteArray := open Classical in if h : ∃ r, Ev (fun k => laws_markText.f k (n : Int)) r then h.choose else ⟨#[]⟩
theorem mark_ev (n : Nat) (h : n ≤ 4611686018427387904) : Ev (fun k => laws_markText.f k (n : Int)) (mark n) := by
  have hs := markText_some (n : Int) (by omega) (by omega)
  unfold mark
  rw [dif_pos hs]
  exact hs.choose_spec
noncomputable def marks (m n : Nat) : List ByteArray := (List.range n).map fun i => mark (m + i)
theorem marks_length (m n : Nat) : (marks m n).length = n := by simp [marks]
theorem marks_get (m n i : Nat) (h : i < n) : (marks m n)[i]'(by rw [marks_length]; exact h) = mark (m + i) := by simp [marks]
theorem markStringS_l0 (n m : Nat) (hn : n ≤ 1099511627776) (hm : m ≤ 1099511627776) : ∀ d i (o : List ByteArray), i + d = n → o.length = n → o.take i = (marks m n).take i →
    Ev (fun k => laws_markStringS.l0 k o ((m + i : Nat) : Int) (i : Int)) (((m + n : Nat) : Int), marks m n) := by
  intro d
  induction d with
  | zero =>
    intro i o hi hl ht
    refine Ev.step (fun k => laws_markStringS.l0.eq_2 ..) (ev_neg (by omega) (ev_some ?_))
    rw [List.take_of_length_le (by omega), List.take_of_length_le (by rw [marks_length]; omega)] at ht
    rw [ht, show i = n from by omega]
  | succ d ih =>
    intro i o hi hl ht
    refine Ev.step (fun k => laws_markStringS.l0.eq_2 ..) (ev_pos (by omega) (ev_bind (mark_ev (m + i) (by omega)) (ev_pos (by omega) ?_)))
    rw [wrap_succ i (by omega), wrap_succ (m + i) (by omega), Int.toNat_natCast]
    refine ih (i + 1) _ (by omega) (by rw [List.length_set]; exact hl) ?_
    rw [List.take_succ_eq_append_getElem (by rw [List.length_set]; omega), List.take_succ_eq_append_getElem (by rw [marks_length]; omega), List.getElem_set_self, List.take_set_of_le (Nat.le_refl i), ht, marks_get m n i (by omega)]
theorem markStringS_ev (l : List ByteArray) (m : Nat) (hn : l.length ≤ 1099511627776) (hm : m ≤ 1099511627776) : Ev (fun k => laws_markStringS.f k l (m : Int)) (((m + l.length : Nat) : Int), marks m l.length) := by
  simp only [laws_markStringS.f]
  exact markStringS_l0 l.length m hn hm l.length 0 l (by omega) rfl rfl
end Go.Proofs.YtmcldkobejhaeaaDoor.Pl
/- Plain Lean: the marks by which the laws see whether memory is shared. Conditions: lengths below 2^40. -/
namespace Go.Proofs.YtmcldkobejhaeaaDoor.Pl
open Go.RowKit Go.Proofs.YtmcldkobejhaeaaDoorW.PrintWords Go.Proofs.YtmcldkobejhaeaaDoorW.PrintLast Go.Proofs.YtmcldkobejhaeaaDoor.My
set_option linter.unusedVariables false
set_option linter.unusedSimpArgs false
theorem heldStringS_l0 (n m : Nat) (hn : n ≤ 1099511627776) (hm : m ≤ 1099511627776) : ∀ d i, i + d = n → Ev (fun k => laws_heldStringS.l0 k (marks m n) ((m + i : Nat) : Int) (i : Int)) ((m + n : Nat) : Int) := by
  intro d
  induction d with
  | zero =>
    intro i hi
    refine Ev.step (fun k => laws_heldStringS.l0.eq_2 ..) (ev_neg (by rw [marks_length]; omega) (ev_some ?_))
    rw [show i = n from by omega]
  | succ d ih =>
    intro i hi
    refine Ev.step (fun k => laws_heldStringS.l0.eq_2 ..) (ev_pos (by rw [marks_length]; omega) (ev_pos (by omega) (ev_bind (mark_ev (m + i) (by omega)) (ev_pos ?_ ?_))))
    · rw [rdOf_lt _ _ _ (by rw [marks_length]; omega), marks_get m n i (by omega)]
    · rw [wrap_succ i (by omega), wrap_succ (m + i) (by omega)]
      exact ih (i + 1) (by omega)
theorem heldStringS_ev (m n : Nat) (hn : n ≤ 1099511627776) (hm : m ≤ 1099511627776) : Ev (fun k => laws_heldStringS.f k (marks m n) (m : Int)) ((m + n : Nat) : Int) := by
  simp only [laws_heldStringS.f]
  exact heldStringS_l0 n m hn hm n 0 (by omega)
end Go.Proofs.YtmcldkobejhaeaaDoor.Pl
/- LinesOf's law, in plain Lean. No condition. -/
namespace Go.Proofs.YtmcldkobejhaeaaDoor.Pure
open Go.RowKit Go.Proofs.YtmcldkobejhaeaaDoor.My Go.Proofs.YtmcldkobejhaeaaDoor.Pl Go.Proofs.YtmcldkobejhaeaaDoorW.PrintWords Go.Proofs.YtmcldkobejhaeaaDoorW.PrintLast
set_option linter.unusedVariables false
theorem FnExactLinesOf : laws_FnExactLinesOf.Pure := by
  intro s hw
  refine Ev.rounds (r := true) ?_
  simp only [laws_FnExactLinesOf.f]
  refine ev_ite (fun _ => ev_some rfl) (fun h => ?_)
  have hz : s.size ≤ 1048576 := by omega
  have hp := LinesOf_len s hz
  have ei := impl_LinesOf_ev s (by omega)
  have ee := eqStringS_ev (LinesOf' s).1 (LinesOf' s).1 (by omega)
  have hm := markStringS_ev (LinesOf' s).1 1 (by omega) (by omega)
  have hh := heldStringS_ev 1 (LinesOf' s).1.length (by omega) (by omega)
  refine ev_bind (spec_LinesOf_ev s (by omega)) (ev_bind ei (ev_bind ee (ev_pos (by simp) ?_)))
  refine Ev.step (fun k => laws_FnExactLinesOf.j0.eq_2 ..) (ev_neg (by simp) (ev_bind hm (ev_bind hh (ev_neg (by omega) (ev_pos rfl (ev_bind ei (ev_bind ee (ev_pos (by simp) ?_))))))))
  exact Ev.step (fun k => laws_FnExactLinesOf.j1.eq_2 ..) (ev_neg (by simp) (ev_bind hh (ev_neg (by omega) (ev_pos rfl (ev_some rfl)))))
end Go.Proofs.YtmcldkobejhaeaaDoor.Pure
/- The Go function loop.example/g00825/laws.FnExactLinesOf returns true for every input, and each argument reads afterwards as it read before. No condition. -/
namespace Go.Proofs.YtmcldkobejhaeaaDoor.fnExactLinesOf
open Go.ChangeShapes Go.WideShapes Go.ChangeAt Go.RowKit Go.Joins Go.Proofs.YtmcldkobejhaeaaDoor.Opens Go.Proofs.YtmcldkobejhaeaaDoor.My
open Go.ChangeMaps (open_string shut_string)
set_option linter.unusedVariables false
set_option linter.unusedSimpArgs false
theorem own : ownKnob Tryd.prog.godebug = none := by kernel_rfl
set_option maxRecDepth 100000 in
theorem lifted (os : Os) (started : os.Started) (H : Type) (enc : TypeId × Value → H) :
    ReturnsInHanded {} Tryd.checked os 3 .any (fun w args => (Rows.fnExactLinesOfSpec.pre enc Tryd.prog Tryd.f3 [] false w args ∧ laidMetH Tryd.prog Rows.fnExactLinesOfRow.laid w) ∧ sizedMet enc Tryd.prog Tryd.f3 (OpenSpec.ofChange Rows.fnExactLinesOfSpec) false w args) (Rows.fnExactLinesOfSpec.post enc Tryd.prog Tryd.f3 false true false false) := by
  refine returnsInHanded_of_change_and (C := Tryd.checked) (X := fun w _ => laidMetH Tryd.prog Rows.fnExactLinesOfRow.laid w) (fun _ _ _ hh h => h.of_heap hh) own started (by kernel_rfl) Tryd.func3
    (ChangeSpec.witness_shaped (enc := enc) (C := Tryd.checked) (os := os) (X := fun w _ => laidMetH Tryd.prog Rows.fnExactLinesOfRow.laid w) false (World.laidAll Tryd.prog os Rows.fnExactLinesOfRow.laid) #[.string ByteArray.empty] 8 (World.laidAll_os _ _ _) (World.shaped_of_ZipB (by kernel_rfl) (by kernel_rfl)) (by kernel_rfl) (by kernel_rfl) (by kernel_rfl) (by rw [MakeChecks.laidMetH_plain _ _ _ (by kernel_rfl)]; exact laidMet_laidAll _ (by kernel_rfl) (by kernel_rfl))) ?_
  intro W base args ds gs before hval0 hW hcnd hsz0 hL _
  have hval : ∀ (j : Nat) t v, Tryd.f3.params[j]? = some t → args[j]? = some v → Value.okWide Tryd.prog W .any base t v := hval0
  have hW' := hW
  obtain ⟨p, q, hA0, hV, rfl, hfz, hnd⟩ := hW
  have hA : DataW.TrodAll enc Tryd.prog W 0 (fun _ => true) true Tryd.f3.params.toList args.toList ds p := hA0
  rw [Tryd.params3] at hA hval
  obtain ⟨v0, vs0, d0, ds0, p0, q0, hargs, rfl, rfl, h0, r0⟩ := trodAll_cons hA
  obtain ⟨rfl, rfl, rfl⟩ := trodAll_nil r0
  obtain rfl : args = #[v0] := by cases args; simp_all
  obtain ⟨rfl, rfl⟩ := trodVars_none hV
  obtain ⟨a0, rfl, rfl, rfl, y0⟩ := open_string Tryd.underlying9 (hval 0 9 v0 rfl rfl) h0
  clear hA0 hval0 hsz0
  obtain ⟨kr, hk⟩ := Pure.FnExactLinesOf a0 y0
  refine (laws_FnExactLinesOf.calls kr a0 true W  hk).mono fun e W' hh => ?_
  obtain ⟨rfl, hd⟩ := hh
  have bel : Below W.heap.size W W' := hd
  exact ⟨_, rfl, _, _, _, [], _, [], hW', trodAll_mk1 (shut_bool Tryd.underlying4 _), (trodAll_cons_mk (shut_string Tryd.underlying9 y0) trodAll_mk0), rfl, bel.frame _, fun h => by cases h⟩
theorem over : Rows.fnExactLinesOfRow.holds Tryd.pinned (OpenSpec.ofChange Rows.fnExactLinesOfSpec) :=
  OpenClaim.holds_of_wide 3 Tryd.f3 rfl rfl rfl rfl rfl rfl rfl ⟨rfl, rfl, rfl, rfl, rfl⟩ rfl rfl rfl rfl rfl (by kernel_rfl) Tryd.func3 (by kernel_rfl)
    (of_decide_eq_true (by kernel_rfl)) (by unfold Func.isWrapper; first | (rw [if_pos (by decide +kernel)]; kernel_rfl) | (rw [if_neg (by decide +kernel)]; exact ⟨rfl, rfl⟩))
    (fun os started H enc _ => lifted os started H enc)
theorem plain (f : FuncId) (fn : Func) (hf : Tryd.pinned.checked.prog.funcNamed "loop.example/g00825/laws.FnExactLinesOf" = some f) (hfn : Tryd.pinned.checked.prog.funcs[f]? = some fn) :
    false = Tryd.pinned.checked.prog.looks [] ∧ ∀ (j : Nat) t, fn.params[j]? = some t → Tryd.pinned.checked.prog.wantsStandIn t = false := by
  obtain rfl : f = 3 := Option.some.inj ((show Tryd.prog.funcNamed "loop.example/g00825/laws.FnExactLinesOf" = some 3 by kernel_rfl).symm.trans hf) |>.symm
  obtain rfl : fn = Tryd.f3 := (Option.some.inj (Tryd.func3.symm.trans hfn)).symm
  refine ⟨by kernel_rfl, fun j t ht => ?_⟩
  have hall : (Tryd.f3.params.all fun u => !Tryd.prog.wantsStandIn u) = true := by kernel_rfl
  have hm := (Array.all_eq_true_iff_forall_mem.1 hall) t (Array.mem_of_getElem? ht)
  exact (show Tryd.prog.wantsStandIn t = false by simpa using hm)
theorem proved : Rows.FnExactLinesOfCardSaid :=
  Claim7.holds_tied_plain_at .later [] _ _ _ _ over (fun _ h => by cases h) (by kernel_rfl) (fun _ h => by cases h) fnExactLinesOf_row_tie rfl ⟨rfl, rfl⟩ (by kernel_rfl) rfl plain (by kernel_rfl)
#print axioms proved
end Go.Proofs.YtmcldkobejhaeaaDoor.fnExactLinesOf
namespace Go.Proofs.YtmcldkobejhaeaaDoor
/-- The row, under a short name, for the claim. -/
theorem fnExactLinesOf_holds : Rows.FnExactLinesOfCardSaid := fnExactLinesOf.proved
end Go.Proofs.YtmcldkobejhaeaaDoor
