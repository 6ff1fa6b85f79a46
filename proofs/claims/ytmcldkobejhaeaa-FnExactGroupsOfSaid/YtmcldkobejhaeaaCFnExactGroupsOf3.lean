/- Part 3 of 5 of a proof of this sentence: The Go function loop.example/g00825/laws.FnExactGroupsOf returns true for every input, and each argument reads afterwards as it read before. No condition. -/
import Derived.Lib.Strings
import Derived.Lib.Slices
import Derived.Lib.Walk
import Derived.Lib.Bytealg
import Derived.Test.YtmcldkobejhaeaaCFnExactGroupsOf2
namespace Go.Proofs.Ytmcldkobejhaeaa.My
open Go.RowKit Go.Proofs.YtmcldkobejhaeaaW.PrintWords Go.Proofs.YtmcldkobejhaeaaW.PrintLast Go.Proofs.YtmcldkobejhaeaaW.PrintMore
attribute [local go_sem] max2_int min2_int max_two min_two max_three min_three max_four min_four
set_option linter.unusedVariables false
set_option linter.unusedSimpArgs false
mutual
def spec_l6Groups.l0 : Nat → List ByteArray → List (S106) → Int → List (S73) → Int → Int → Option ((List (S73)))
 | 0, _, _, _, _, _, _ => none
 | k + 1, x0, x1, x2, x7, x8, x9 => if x9 < (x1.length : Int) then (spec_l6Groups.l1 k x0 x1 x2 x7 x8 x9 (wrap64 (x9 + 1))) else (some x7)
def spec_l6Groups.j2 : Nat → List ByteArray → List (S106) → Int → List (S73) → Int → Int → Int → Option ((List (S73)))
 | 0, _, _, _, _, _, _, _ => none
 | k + 1, x0, x1, x2, x7, x8, x9, x10 => if 0 ≤ x9 then (if x9 ≤ x10 then (if x10 ≤ (x1.length : Int) then ((spec_l6One.f k x0 ((x1.take (x10 : Int).toNat).drop (x9 : Int).toNat) x2 x8).bind fun bt184 => (if x7.length < 3518437208883 then ((some ((x1.take (x10 : Int).toNat).drop (x9 : Int).toNat : List (S106))).bind fun y192 => (spec_l6Groups.l2 k x0 x1 x2 (x7 ++ [(⟨bt184.1, bt184.2.1, bt184.2.2⟩ : S73)]) x8 x10 y192 (y192.length : Int) 0)) else (none))) else (none)) else (none)) else (none)
def spec_l6Groups.l2 : Nat → List ByteArray → List (S106) → Int → List (S73) → Int → Int → List (S106) → Int → Int → Option ((List (S73)))
 | 0, _, _, _, _, _, _, _, _, _ => none
 | k + 1, x0, x1, x2, x7, x8, x10, x63, x64, x65 => if x65 < x64 then (if 0 ≤ x65 then (if x65 < (x63.length : Int) then (spec_l6Groups.l2 k x0 x1 x2 x7 (wrap64 (x8 + (wrap64 ((((T106 x63 x65).f2).length : Int) - ((T106 x63 x65).f1))))) x10 x63 x64 (wrap64 (x65 + 1))) else (none)) else (none)) else (spec_l6Groups.l0 k x0 x1 x2 x7 x8 x10)
def spec_l6Groups.l1 : Nat → List ByteArray → List (S106) → Int → List (S73) → Int → Int → Int → Option ((List (S73)))
 | 0, _, _, _, _, _, _, _ => none
 | k + 1, x0, x1, x2, x7, x8, x9, x10 => if x10 < (x1.length : Int) then (if 0 ≤ x10 then (if 0 ≤ (wrap64 (x10 - 1)) then (if (wrap64 (x10 - 1)) < (x1.length : Int) then (if (wrap64 (((T106 x1 x10).f0) - (wrap64 (((T106 x1 (wrap64 (x10 - 1))).f0) + ((T106 x1 (wrap64 (x10 - 1))).f1))))) ≤ (wrap64 (2 * x2)) then (spec_l6Groups.l1 k x0 x1 x2 x7 x8 x9 (wrap64 (x10 + 1))) else (spec_l6Groups.j2 k x0 x1 x2 x7 x8 x9 x10)) else (none)) else (none)) else (none)) else (spec_l6Groups.j2 k x0 x1 x2 x7 x8 x9 x10)
end
def spec_l6Groups.f (k : Nat) (l0 : List ByteArray) (l1 : List (S106)) (a2 : Int) : Option ((List (S73))) := spec_l6Groups.l0 k l0 l1 a2 ([] : List (S73)) 0 0
set_option maxHeartbeats 8000000 in
set_option maxRecDepth 100000 in
theorem spec_l6Groups.calls (k : Nat) (A0 : Option Addr) (c0 : Nat) (l0 : List ByteArray) (A1 : Option Addr) (c1 : Nat) (l1 : List (S106)) (a2 : Int) (r : List (S73)) (w : World) (hr0 : Kd.C Kd.string w A0 l0.length l0) (hc0 : l0.length ≤ c0) (hr1 : Kd.C k106 w A1 l1.length l1) (hc1 : l1.length ≤ c1) (h : spec_l6Groups.f k l0 l1 a2 = some r) :
  Calls Try.prog 98 #[.slice A0 l0.length c0, .slice A1 l1.length c1, .int .i64 a2] w fun e w' => ∃ v0_ : Value, e = .returned (v0_) ∧ Kd.S k73 73 w' w.heap.size (fun _ => True) v0_ r ∧ Below w.heap.size w w' := by
 have hu106 := Try.underlying106
 have HR0 := am hr0
 have HC0 := am hc0
 clear hr0 hc0
 have HR1 := am hr1
 have HC1 := am hc1
 clear hr1 hc1
 have HB := am (Below.refl w.heap.size w)
 have H : (spec_l6Groups.l0 k l0 l1 a2 ([] : List (S73)) 0 0) = some r := h
 clear h
 have H' := am H
 clear H
 go_enter Try.func98, Try.ntmps98
 go_wp2
 repeat (go_quiet (fail); try go_wp2)
 go_loopg [7, 8, 9] k (fun kq v7 v8 v9 w' => ∃ (x7_1 : List (S73)) (x8_1 : Int) (x9_1 : Int), v8 = .int .i64 x8_1 ∧ v9 = .int .i64 x9_1 ∧ Aside0 (spec_l6Groups.l0 kq l0 l1 a2 x7_1 x8_1 x9_1 = some r) ∧ Aside0 (kq ≤ k) ∧ Aside0 (Kd.S k73 73 w' w.heap.size (fun _ => True) v7 x7_1) ∧ Aside0 (Below w.heap.size w w'))
 case atStart => exact ⟨(([] : List (S73))), (0), (0), zf, zf, H', ⟨Nat.le_refl _⟩, ⟨by first | exact Kd.S_nil _ _ _ _ _ | exact Kd.Q_nil _ _ _ _ _ | exact Kd.R_nil _ _ _ _ _⟩, ⟨by repeat (first | (with_reducible first | exact HB.out | apply below_alloc | apply pw_below_drewN | apply below_drew1) | exact HB.out)⟩⟩
 case round =>
  clear H'
  try clear c1
  try clear p2
  obtain ⟨x7_1, x8_1, x9_1, rfl, rfl, HA, HK1, HO_7, HB⟩ := hrel
  cases gk with
  | zero => exact absurd HA.out (by simp [spec_l6Groups.l0])
  | succ k1 =>
   have H := HA.out
   clear HA
   simp only [spec_l6Groups.l0] at H
   by_cases c4 : x9_1 < (l1.length : Int)
   ·rw [if_pos c4] at H
    have c4b0 : decide (x9_1 < (l1.length : Int)) = true := decide_eq_true c4
    clear c4
    have HC5 := am H
    clear H
    go_upto_block 2 with (fail)
    repeat (go_quiet (fail); go_upto_block 2 with (fail))
    go_cut [10] (fun v10 wc => ∃ (kq : Nat) (x10_4 : Int), v10 = .int .i64 x10_4 ∧ Aside0 (spec_l6Groups.j2 kq l0 l1 a2 x7_1 x8_1 x9_1 x10_4 = some r) ∧ Aside0 (kq ≤ k1) ∧ Aside0 (Kd.S k73 73 wc w.heap.size (fun _ => True) u7 x7_1) ∧ Aside0 (Below w.heap.size w wc))
    case first =>
     have H := HC5.out
     clear HC5
     have H' := am H
     clear H
     go_wp2
     repeat (go_quiet (fail); try go_wp2)
     go_loopg [10] k1 (fun kq v10 w' => ∃ (x10_2 : Int), v10 = .int .i64 x10_2 ∧ Aside0 (spec_l6Groups.l1 kq l0 l1 a2 x7_1 x8_1 x9_1 x10_2 = some r) ∧ Aside0 (kq ≤ k1) ∧ Aside0 (Kd.S k73 73 w' w.heap.size (fun _ => True) u7 x7_1) ∧ Aside0 (Below w.heap.size w w'))
     case atStart => exact ⟨(wrap64 (x9_1 + 1)), zf, H', ⟨Nat.le_refl _⟩, ⟨by (with_reducible repeat (first | apply Kd.S_alloc | apply Kd.S_drewN | apply Kd.S_drew)); exact HO_7.out⟩, ⟨by repeat (first | (with_reducible first | exact HB.out | apply below_alloc | apply pw_below_drewN | apply below_drew1) | exact HB.out)⟩⟩
     case round =>
      clear H'
      try clear c1
      try clear p2
      try clear c4
      try clear c4b0
      try clear p2
      obtain ⟨x10_2, rfl, HA, HK2, HO_7, HB⟩ := hrel
      cases gk with
      | zero => exact absurd HA.out (by simp [spec_l6Groups.l1])
      | succ k2 =>
       have H := HA.out
       clear HA
       simp only [spec_l6Groups.l1] at H
       by_cases c6 : x10_2 < (l1.length : Int)
       ·rw [if_pos c6] at H
        have c6b0 : decide (x10_2 < (l1.length : Int)) = true := decide_eq_true c6
        clear c6
        (first | rw [c6b0] | (simp only [i64_w, i32_w]; rw [c6b0]) | skip)
        by_cases c7 : 0 ≤ x10_2
        ·rw [if_pos c7] at H
         have c7b0 : decide (0 ≤ x10_2) = true := decide_eq_true c7
         clear c7
         obtain ⟨ji8, hji8⟩ : ∃ j_ : Int, (wrap64 (x10_2 - 1)) = j_ := ⟨_, rfl⟩
         replace H : (if 0 ≤ (ji8) then (if (ji8) < (l1.length : Int) then (if (wrap64 (((T106 l1 x10_2).f0) - (wrap64 (((T106 l1 (ji8)).f0) + ((T106 l1 (ji8)).f1))))) ≤ (wrap64 (2 * a2)) then (spec_l6Groups.l1 k2 l0 l1 a2 x7_1 x8_1 x9_1 (wrap64 (x10_2 + 1))) else (spec_l6Groups.j2 k2 l0 l1 a2 x7_1 x8_1 x9_1 x10_2)) else (none)) else (none)) = some r := by first | (rw [hji8] at H; exact H) | (simp only [hji8] at H ⊢; exact H)
         have hji8w : (IntKind.i64.wrap (x10_2 - 1)) = ji8 := (i64_w _).trans hji8
         by_cases c9 : 0 ≤ (ji8)
         ·rw [if_pos c9] at H
          have c9b0 : decide (0 ≤ (ji8)) = true := decide_eq_true c9
          clear c9
          by_cases c10 : (ji8) < (l1.length : Int)
          ·rw [if_pos c10] at H
           have c10b0 : decide ((ji8) < (l1.length : Int)) = true := decide_eq_true c10
           clear c10
           by_cases c11 : (wrap64 (((T106 l1 x10_2).f0) - (wrap64 (((T106 l1 (ji8)).f0) + ((T106 l1 (ji8)).f1))))) ≤ (wrap64 (2 * a2))
           ·rw [if_pos c11] at H
            have c11b0 : decide ((wrap64 (((T106 l1 x10_2).f0) - (wrap64 (((T106 l1 (ji8)).f0) + ((T106 l1 (ji8)).f1))))) ≤ (wrap64 (2 * a2))) = true := decide_eq_true c11
            clear c11
            have H' := am H
            clear H
            have p177 : 0 ≤ (x10_2 : Int) := oa
            have q177 : x10_2 < (l1.length : Int) := oa
            obtain ⟨ad177, A177_2, c177_2, e177, hx177_0, hx177_1, hx177_2, hl177_2, hi177_2⟩ := at_T106 HR1.out x10_2 p177 q177
            cases e177
            replace hx177_0 := (HB.out.cell (World.block_lt_of_cell? w _ hx177_0)).trans hx177_0
            replace hx177_1 := (HB.out.cell (World.block_lt_of_cell? w _ hx177_1)).trans hx177_1
            replace hx177_2 := (HB.out.cell (World.block_lt_of_cell? w _ hx177_2)).trans hx177_2
            have HR177_2 := am hi177_2
            have HC177_2 := am hl177_2
            clear hi177_2 hl177_2
            replace p177 := eq_true p177
            replace q177 := eq_true q177
            have p178 : 0 ≤ ((ji8) : Int) := oa
            have q178 : (ji8) < (l1.length : Int) := oa
            obtain ⟨ad178, A178_2, c178_2, e178, hx178_0, hx178_1, hx178_2, hl178_2, hi178_2⟩ := at_T106 HR1.out (ji8) p178 q178
            obtain rfl : ad177 = ad178 := (by injection e178)
            replace hx178_0 := (HB.out.cell (World.block_lt_of_cell? w _ hx178_0)).trans hx178_0
            replace hx178_1 := (HB.out.cell (World.block_lt_of_cell? w _ hx178_1)).trans hx178_1
            replace hx178_2 := (HB.out.cell (World.block_lt_of_cell? w _ hx178_2)).trans hx178_2
            have HR178_2 := am hi178_2
            have HC178_2 := am hl178_2
            clear hi178_2 hl178_2
            replace p178 := eq_true p178
            replace q178 := eq_true q178
            have p179 : 0 ≤ ((ji8) : Int) := oa
            have q179 : (ji8) < (l1.length : Int) := oa
            obtain ⟨ad179, A179_2, c179_2, e179, hx179_0, hx179_1, hx179_2, hl179_2, hi179_2⟩ := at_T106 HR1.out (ji8) p179 q179
            obtain rfl : ad177 = ad179 := (by injection e179)
            replace hx179_0 := (HB.out.cell (World.block_lt_of_cell? w _ hx179_0)).trans hx179_0
            replace hx179_1 := (HB.out.cell (World.block_lt_of_cell? w _ hx179_1)).trans hx179_1
            replace hx179_2 := (HB.out.cell (World.block_lt_of_cell? w _ hx179_2)).trans hx179_2
            have HR179_2 := am hi179_2
            have HC179_2 := am hl179_2
            clear hi179_2 hl179_2
            replace p179 := eq_true p179
            replace q179 := eq_true q179
            have ea_ := Option.some.inj (hx178_2.symm.trans hx179_2)
            injection ea_ with ea_ en_ ec_
            subst ea_
            subst ec_
            clear en_
            go_wp2
            repeat (go_quiet (fail); try go_wp2)
            go_roundg k2
            case measure => have := HK1.out; have := HK2.out; omega
            case rel => exact ⟨(wrap64 (x10_2 + 1)), zf, H', ⟨by have := HK1.out; have := HK2.out; omega⟩, ⟨by (with_reducible repeat (first | apply Kd.S_alloc | apply Kd.S_drewN | apply Kd.S_drew)); exact HO_7.out⟩, ⟨by repeat (first | (with_reducible first | exact HB.out | apply below_alloc | apply pw_below_drewN | apply below_drew1) | exact HB.out)⟩⟩
           ·rw [if_neg c11] at H
            have c11b0 : decide ((wrap64 (((T106 l1 x10_2).f0) - (wrap64 (((T106 l1 (ji8)).f0) + ((T106 l1 (ji8)).f1))))) ≤ (wrap64 (2 * a2))) = false := decide_eq_false c11
            clear c11
            have H' := am H
            clear H
            have p177 : 0 ≤ (x10_2 : Int) := oa
            have q177 : x10_2 < (l1.length : Int) := oa
            obtain ⟨ad177, A177_2, c177_2, e177, hx177_0, hx177_1, hx177_2, hl177_2, hi177_2⟩ := at_T106 HR1.out x10_2 p177 q177
            cases e177
            replace hx177_0 := (HB.out.cell (World.block_lt_of_cell? w _ hx177_0)).trans hx177_0
            replace hx177_1 := (HB.out.cell (World.block_lt_of_cell? w _ hx177_1)).trans hx177_1
            replace hx177_2 := (HB.out.cell (World.block_lt_of_cell? w _ hx177_2)).trans hx177_2
            have HR177_2 := am hi177_2
            have HC177_2 := am hl177_2
            clear hi177_2 hl177_2
            replace p177 := eq_true p177
            replace q177 := eq_true q177
            have p178 : 0 ≤ ((ji8) : Int) := oa
            have q178 : (ji8) < (l1.length : Int) := oa
            obtain ⟨ad178, A178_2, c178_2, e178, hx178_0, hx178_1, hx178_2, hl178_2, hi178_2⟩ := at_T106 HR1.out (ji8) p178 q178
            obtain rfl : ad177 = ad178 := (by injection e178)
            replace hx178_0 := (HB.out.cell (World.block_lt_of_cell? w _ hx178_0)).trans hx178_0
            replace hx178_1 := (HB.out.cell (World.block_lt_of_cell? w _ hx178_1)).trans hx178_1
            replace hx178_2 := (HB.out.cell (World.block_lt_of_cell? w _ hx178_2)).trans hx178_2
            have HR178_2 := am hi178_2
            have HC178_2 := am hl178_2
            clear hi178_2 hl178_2
            replace p178 := eq_true p178
            replace q178 := eq_true q178
            have p179 : 0 ≤ ((ji8) : Int) := oa
            have q179 : (ji8) < (l1.length : Int) := oa
            obtain ⟨ad179, A179_2, c179_2, e179, hx179_0, hx179_1, hx179_2, hl179_2, hi179_2⟩ := at_T106 HR1.out (ji8) p179 q179
            obtain rfl : ad177 = ad179 := (by injection e179)
            replace hx179_0 := (HB.out.cell (World.block_lt_of_cell? w _ hx179_0)).trans hx179_0
            replace hx179_1 := (HB.out.cell (World.block_lt_of_cell? w _ hx179_1)).trans hx179_1
            replace hx179_2 := (HB.out.cell (World.block_lt_of_cell? w _ hx179_2)).trans hx179_2
            have HR179_2 := am hi179_2
            have HC179_2 := am hl179_2
            clear hi179_2 hl179_2
            replace p179 := eq_true p179
            replace q179 := eq_true q179
            have ea_ := Option.some.inj (hx178_2.symm.trans hx179_2)
            injection ea_ with ea_ en_ ec_
            subst ea_
            subst ec_
            clear en_
            go_wp2
            repeat (go_quiet (fail); try go_wp2)
            go_meet
            case rel => exact ⟨_, (x10_2), zf, H', ⟨by have := HK1.out; have := HK2.out; first | omega | exact Nat.le_refl _⟩, ⟨by (with_reducible repeat (first | apply Kd.S_alloc | apply Kd.S_drewN | apply Kd.S_drew)); exact HO_7.out⟩, ⟨by repeat (first | (with_reducible first | exact HB.out | apply below_alloc | apply pw_below_drewN | apply below_drew1) | exact HB.out)⟩⟩
          ·rw [if_neg c10] at H
           exact absurd H (by simp)
         ·rw [if_neg c9] at H
          exact absurd H (by simp)
        ·rw [if_neg c7] at H
         exact absurd H (by simp)
       ·rw [if_neg c6] at H
        have c6b0 : decide (x10_2 < (l1.length : Int)) = false := decide_eq_false c6
        clear c6
        (first | rw [c6b0] | (simp only [i64_w, i32_w]; rw [c6b0]) | skip)
        have H' := am H
        clear H
        go_wp2
        repeat (go_quiet (fail); try go_wp2)
        go_meet
        case rel => exact ⟨_, (x10_2), zf, H', ⟨by have := HK1.out; have := HK2.out; first | omega | exact Nat.le_refl _⟩, ⟨by (with_reducible repeat (first | apply Kd.S_alloc | apply Kd.S_drewN | apply Kd.S_drew)); exact HO_7.out⟩, ⟨by repeat (first | (with_reducible first | exact HB.out | apply below_alloc | apply pw_below_drewN | apply below_drew1) | exact HB.out)⟩⟩
    case rest =>
     clear HC5
     try clear c1
     try clear p1
     try clear q1
     try clear hx1
     try clear p2
     try clear c4
     try clear c4b0
     try clear c6
     try clear c6b0
     try clear p6
     try clear c7
     try clear c7b0
     try clear c9
     try clear c9b0
     try clear c10
     try clear c10b0
     try clear c11
     try clear c11b0
     try clear hx177_0
     try clear hx177_1
     try clear hx177_2
     try clear hx178_0
     try clear hx178_1
     try clear hx178_2
     try clear hx179_0
     try clear hx179_1
     try clear hx179_2
     try clear p177
     try clear p178
     try clear p179
     try clear p2
     try clear q177
     try clear q178
     try clear q179
     obtain ⟨kq, x10_4, rfl, HA, HJ4, HO_7, HB⟩ := hcut
     cases kq with
     | zero => exact absurd HA.out (by simp [spec_l6Groups.j2])
     | succ kj4 =>
      have H := HA.out
      clear HA
      simp only [spec_l6Groups.j2] at H
      by_cases c12 : 0 ≤ x9_1
      ·rw [if_pos c12] at H
       have c12b0 := eq_true c12
       have c12b1 : decide (0 ≤ x9_1) = true := decide_eq_true c12
       clear c12
       by_cases c13 : x9_1 ≤ x10_4
       ·rw [if_pos c13] at H
        have c13b0 := eq_true c13
        have c13b1 : decide (x9_1 ≤ x10_4) = true := decide_eq_true c13
        clear c13
        by_cases c14 : x10_4 ≤ (l1.length : Int)
        ·rw [if_pos c14] at H
         have c14b0 := eq_true c14
         have c14b1 : decide (x10_4 ≤ (l1.length : Int)) = true := decide_eq_true c14
         clear c14
         obtain ⟨y180, hy180⟩ : ∃ y_ : List (S106), y_ = ((l1.take (x10_4 : Int).toNat).drop (x9_1 : Int).toNat) := ⟨_, rfl⟩
         replace H : ((spec_l6One.f kj4 l0 y180 a2 x8_1).bind fun bt184 => (if x7_1.length < 3518437208883 then ((some ((l1.take (x10_4 : Int).toNat).drop (x9_1 : Int).toNat : List (S106))).bind fun y192 => (spec_l6Groups.l2 kj4 l0 l1 a2 (x7_1 ++ [(⟨bt184.1, bt184.2.1, bt184.2.2⟩ : S73)]) x8_1 x10_4 y192 (y192.length : Int) 0)) else (none))) = some r := by first | (rw [hy180]; with_reducible exact H) | (have H2_ := (Option.bind_some _ _).symm.trans H; rw [hy180]; with_reducible exact H2_) | (have H2_ := (Option.bind_some _ _).symm.trans H; with_reducible exact H2_) | with_reducible exact H | (rw [hy180]; exact H) | exact H
         have Ny180 := am hy180
         clear hy180
         replace H := Option.bind_eq_some_iff.mp H
         obtain ⟨⟨t184, t185, t186⟩, A150, H⟩ := H
         replace H : (if x7_1.length < 3518437208883 then ((some ((l1.take (x10_4 : Int).toNat).drop (x9_1 : Int).toNat : List (S106))).bind fun y192 => (spec_l6Groups.l2 kj4 l0 l1 a2 (x7_1 ++ [(⟨t184, t185, t186⟩ : S73)]) x8_1 x10_4 y192 (y192.length : Int) 0)) else (none)) = some r := H
         have A15 := am A150
         clear A150
         by_cases c16 : x7_1.length < 3518437208883
         ·rw [if_pos c16] at H
          have LMc16 := am c16
          clear c16
          obtain ⟨y189, hy189⟩ : ∃ y_ : List (S73), y_ = (x7_1 ++ [(⟨t184, t185, t186⟩ : S73)]) := ⟨_, rfl⟩
          replace H : ((some ((l1.take (x10_4 : Int).toNat).drop (x9_1 : Int).toNat : List (S106))).bind fun y192 => (spec_l6Groups.l2 kj4 l0 l1 a2 y189 x8_1 x10_4 y192 (y192.length : Int) 0)) = some r := by first | (rw [hy189]; with_reducible exact H) | (have H2_ := (Option.bind_some _ _).symm.trans H; rw [hy189]; with_reducible exact H2_) | (have H2_ := (Option.bind_some _ _).symm.trans H; with_reducible exact H2_) | with_reducible exact H | (rw [hy189]; exact H) | exact H
          have Ny189 := am hy189
          clear hy189
          have c17b0 := eq_true (oa : 0 ≤ x9_1)
          have c18b0 := eq_true (oa : x9_1 ≤ x10_4)
          have c19b0 := eq_true (oa : x10_4 ≤ (l1.length : Int))
          obtain ⟨y192, hy192⟩ : ∃ y_ : List (S106), y_ = ((l1.take (x10_4 : Int).toNat).drop (x9_1 : Int).toNat) := ⟨_, rfl⟩
          replace H : (spec_l6Groups.l2 kj4 l0 l1 a2 y189 x8_1 x10_4 y192 (y192.length : Int) 0) = some r := by first | (rw [hy192]; with_reducible exact H) | (have H2_ := (Option.bind_some _ _).symm.trans H; rw [hy192]; with_reducible exact H2_) | (have H2_ := (Option.bind_some _ _).symm.trans H; with_reducible exact H2_) | with_reducible exact H | (rw [hy192]; exact H) | exact H
          have Ny192 := am hy192
          clear hy192
          have hyy_ : y192 = y180 := Ny192.out.trans Ny180.out.symm
          rw [hyy_] at H
          clear hyy_
          have H' := am H
          clear H
          have q20 : (x10_4 : Int) ≤ ((l1.length : Int) : Int) := oa
          obtain ⟨i020, hi020, _, hsz20, _⟩ := info_parts info106
          have hroom20 : l1.length ≤ c1 := HC1.out
          have hC20 : Kd.C k106 _ A1 l1.length l1 := HR1.out
          have ql20 : (x9_1 : Int) ≤ (x10_4 : Int) := oa
          have q020 : (0 : Int) ≤ (x9_1 : Int) := oa
          have hcut20 := cut_mid (P := Try.prog) 42 106 .i64 .i64 Try.underlying42 hi020 3 hsz20 A1 l1.length c1 x9_1 x10_4 q020 ql20 q20 hroom20
          have hr20 := Kd.C_mid (lo := (x9_1 : Int).toNat) (hi := (x10_4 : Int).toNat) (c := c1) hC20 (by omega) (by omega) hroom20
          obtain ⟨A20, hA20⟩ : ∃ A1_, A1_ = (if c1 = (x9_1 : Int).toNat then A1 else (A1 : Option Addr).map (·.add ((x9_1 : Int).toNat * 3))) := ⟨_, rfl⟩
          obtain ⟨c20, hc20⟩ : ∃ c1_, c1_ = c1 - (x9_1 : Int).toNat := ⟨_, rfl⟩
          have hy20 : y180.length = (x10_4 : Int).toNat - (x9_1 : Int).toNat := (by rw [Ny180.out, List.length_drop, List.length_take] <;> omega)
          rw [show ((l1).take (x10_4 : Int).toNat).drop (x9_1 : Int).toNat = y180 from Ny180.out.symm] at hr20
          replace hr20 : Kd.C k106 _ A20 y180.length y180 := (by rw [hA20]; exact hr20)
          rw [← hy20, ← hA20, ← hc20] at hcut20
          have HR183 := am hr20
          have HC183 := am (show y180.length ≤ c20 from by rw [hy20, hc20]; exact Nat.sub_le_sub_right (Nat.le_trans (by omega) hroom20) _)
          clear hr20 hC20 hroom20 hi020 hsz20 hc20
          have KY20 := am hy20
          have KA20 := am hA20
          clear hy20 hA20
          replace q20 := eq_true q20
          go_wp2_with (first | (go_at_call 137; (with_reducible refine (spec_l6One.calls kj4 _ _ l0 _ _ y180 a2 x8_1 t184 t185 t186 _ ?side1 ?side2 ?side3 ?side4 A15.out).mono ?_); (case side1 => exact zq (Kd.C_below HR0.out HB.out)); (case side2 => exact HC0.out); (case side3 => exact zq (Kd.C_below HR183.out HB.out)); (case side4 => exact HC183.out); rintro e w21 ⟨v187, rfl, ho0, hb⟩; have n0_ := am (Kd.S_elder' (zs HO_7.out) (Kd.R_base ho0) hb); have n1_ := am (Kd.R_lower ho0 (below_size zb)); have n2_ := am (below_step zb hb); clear HO_7; clear HB; have HO_7 := n0_; have HO188 := n1_; have HB := n2_; clear n0_ n1_ n2_; (try clear hb); (try clear ho0); obtain ⟨Ao23, co23, eo23⟩ := Kd.R_slice HO188.out; subst eo23) | ((with_reducible refine gateB (b := .append) (xs := #[.tmp 49, .tmp 58]) rfl ?_); at_builtin; refine Kd.S_append k73 (w0 := w) w.heap.size rfl (.tmp 49) (.tmp 58) 57 73 (.agg #[(.int .i64 0), (.int .i64 0), (.slice none 0 0)]) 40 rfl Try.underlying57 info73 rfl (by decide) (by omega) u7 x7_1 (⟨t184, t185, t186⟩ : S73) [.int .i64 t184, .int .i64 t185, .slice Ao23 t186.length co23] (fun _ => True) (fun k_ => some k_ = (.slice Ao23 t186.length co23 : Value).ownBlock) rfl rfl ?aP (fun k_ hk_ => ((Kd.R_mono (ok' := fun k_ => ((fun _ => True)) k_ ∧ some k_ ≠ (u7 : Value).ownBlock) (Kd.R_apart' (HO188.out) (Kd.S_typed HO_7.out) (by decide)) (fun k_ hk => ⟨trivial, hk.2⟩))).1 k_ hk_.symm) ?aF ?aO ?aB ?aS ?aL ?_; (case aP => exact k73_mkM _ _ _ (⟨t184, t185, t186⟩ : S73) (Kd.R_mono (Kd.R_tight rfl (Kd.R_mono (ok' := fun k_ => ((fun _ => True)) k_ ∧ some k_ ≠ (u7 : Value).ownBlock) (Kd.R_apart' (HO188.out) (Kd.S_typed HO_7.out) (by decide)) (fun k_ hk => ⟨trivial, hk.2⟩))) (fun _ h_ => h_))); (case aB => exact zb); (case aF => exact (fun _ _ => trivial)); (case aO => exact (by (with_reducible repeat (first | apply Kd.S_alloc | apply Kd.S_drewN | apply Kd.S_drew)); exact Kd.S_mono HO_7.out (fun k_ hk => ⟨trivial, fun e_ => hk.2 e_⟩))); (case aS => exact (below_size zb)); (case aL => have := LMc16.out; omega); intro v190 w22 ho hb hg hat; rw [← Ny189.out] at ho; have n0_ := am (hb); have n1_ := am (ho); clear HB; clear HO_7; clear HO188; have HB := n0_; have HO191 := n1_; clear n0_ n1_; clear ho hb hg hat))
          repeat (go_quiet (first | (go_at_call 137; (with_reducible refine (spec_l6One.calls kj4 _ _ l0 _ _ y180 a2 x8_1 t184 t185 t186 _ ?side1 ?side2 ?side3 ?side4 A15.out).mono ?_); (case side1 => exact zq (Kd.C_below HR0.out HB.out)); (case side2 => exact HC0.out); (case side3 => exact zq (Kd.C_below HR183.out HB.out)); (case side4 => exact HC183.out); rintro e w21 ⟨v187, rfl, ho0, hb⟩; have n0_ := am (Kd.S_elder' (zs HO_7.out) (Kd.R_base ho0) hb); have n1_ := am (Kd.R_lower ho0 (below_size zb)); have n2_ := am (below_step zb hb); clear HO_7; clear HB; have HO_7 := n0_; have HO188 := n1_; have HB := n2_; clear n0_ n1_ n2_; (try clear hb); (try clear ho0); obtain ⟨Ao23, co23, eo23⟩ := Kd.R_slice HO188.out; subst eo23) | ((with_reducible refine gateB (b := .append) (xs := #[.tmp 49, .tmp 58]) rfl ?_); at_builtin; refine Kd.S_append k73 (w0 := w) w.heap.size rfl (.tmp 49) (.tmp 58) 57 73 (.agg #[(.int .i64 0), (.int .i64 0), (.slice none 0 0)]) 40 rfl Try.underlying57 info73 rfl (by decide) (by omega) u7 x7_1 (⟨t184, t185, t186⟩ : S73) [.int .i64 t184, .int .i64 t185, .slice Ao23 t186.length co23] (fun _ => True) (fun k_ => some k_ = (.slice Ao23 t186.length co23 : Value).ownBlock) rfl rfl ?aP (fun k_ hk_ => ((Kd.R_mono (ok' := fun k_ => ((fun _ => True)) k_ ∧ some k_ ≠ (u7 : Value).ownBlock) (Kd.R_apart' (HO188.out) (Kd.S_typed HO_7.out) (by decide)) (fun k_ hk => ⟨trivial, hk.2⟩))).1 k_ hk_.symm) ?aF ?aO ?aB ?aS ?aL ?_; (case aP => exact k73_mkM _ _ _ (⟨t184, t185, t186⟩ : S73) (Kd.R_mono (Kd.R_tight rfl (Kd.R_mono (ok' := fun k_ => ((fun _ => True)) k_ ∧ some k_ ≠ (u7 : Value).ownBlock) (Kd.R_apart' (HO188.out) (Kd.S_typed HO_7.out) (by decide)) (fun k_ hk => ⟨trivial, hk.2⟩))) (fun _ h_ => h_))); (case aB => exact zb); (case aF => exact (fun _ _ => trivial)); (case aO => exact (by (with_reducible repeat (first | apply Kd.S_alloc | apply Kd.S_drewN | apply Kd.S_drew)); exact Kd.S_mono HO_7.out (fun k_ hk => ⟨trivial, fun e_ => hk.2 e_⟩))); (case aS => exact (below_size zb)); (case aL => have := LMc16.out; omega); intro v190 w22 ho hb hg hat; rw [← Ny189.out] at ho; have n0_ := am (hb); have n1_ := am (ho); clear HB; clear HO_7; clear HO188; have HB := n0_; have HO191 := n1_; clear n0_ n1_; clear ho hb hg hat)); try go_wp2_with (first | (go_at_call 137; (with_reducible refine (spec_l6One.calls kj4 _ _ l0 _ _ y180 a2 x8_1 t184 t185 t186 _ ?side1 ?side2 ?side3 ?side4 A15.out).mono ?_); (case side1 => exact zq (Kd.C_below HR0.out HB.out)); (case side2 => exact HC0.out); (case side3 => exact zq (Kd.C_below HR183.out HB.out)); (case side4 => exact HC183.out); rintro e w21 ⟨v187, rfl, ho0, hb⟩; have n0_ := am (Kd.S_elder' (zs HO_7.out) (Kd.R_base ho0) hb); have n1_ := am (Kd.R_lower ho0 (below_size zb)); have n2_ := am (below_step zb hb); clear HO_7; clear HB; have HO_7 := n0_; have HO188 := n1_; have HB := n2_; clear n0_ n1_ n2_; (try clear hb); (try clear ho0); obtain ⟨Ao23, co23, eo23⟩ := Kd.R_slice HO188.out; subst eo23) | ((with_reducible refine gateB (b := .append) (xs := #[.tmp 49, .tmp 58]) rfl ?_); at_builtin; refine Kd.S_append k73 (w0 := w) w.heap.size rfl (.tmp 49) (.tmp 58) 57 73 (.agg #[(.int .i64 0), (.int .i64 0), (.slice none 0 0)]) 40 rfl Try.underlying57 info73 rfl (by decide) (by omega) u7 x7_1 (⟨t184, t185, t186⟩ : S73) [.int .i64 t184, .int .i64 t185, .slice Ao23 t186.length co23] (fun _ => True) (fun k_ => some k_ = (.slice Ao23 t186.length co23 : Value).ownBlock) rfl rfl ?aP (fun k_ hk_ => ((Kd.R_mono (ok' := fun k_ => ((fun _ => True)) k_ ∧ some k_ ≠ (u7 : Value).ownBlock) (Kd.R_apart' (HO188.out) (Kd.S_typed HO_7.out) (by decide)) (fun k_ hk => ⟨trivial, hk.2⟩))).1 k_ hk_.symm) ?aF ?aO ?aB ?aS ?aL ?_; (case aP => exact k73_mkM _ _ _ (⟨t184, t185, t186⟩ : S73) (Kd.R_mono (Kd.R_tight rfl (Kd.R_mono (ok' := fun k_ => ((fun _ => True)) k_ ∧ some k_ ≠ (u7 : Value).ownBlock) (Kd.R_apart' (HO188.out) (Kd.S_typed HO_7.out) (by decide)) (fun k_ hk => ⟨trivial, hk.2⟩))) (fun _ h_ => h_))); (case aB => exact zb); (case aF => exact (fun _ _ => trivial)); (case aO => exact (by (with_reducible repeat (first | apply Kd.S_alloc | apply Kd.S_drewN | apply Kd.S_drew)); exact Kd.S_mono HO_7.out (fun k_ hk => ⟨trivial, fun e_ => hk.2 e_⟩))); (case aS => exact (below_size zb)); (case aL => have := LMc16.out; omega); intro v190 w22 ho hb hg hat; rw [← Ny189.out] at ho; have n0_ := am (hb); have n1_ := am (ho); clear HB; clear HO_7; clear HO188; have HB := n0_; have HO191 := n1_; clear n0_ n1_; clear ho hb hg hat)))
          go_loopg [8, 65] kj4 (fun kq v8 v65 w' => ∃ (x8_3 : Int) (x65_3 : Int), v8 = .int .i64 x8_3 ∧ v65 = .int .i64 x65_3 ∧ Aside0 (spec_l6Groups.l2 kq l0 l1 a2 y189 x8_3 x10_4 y180 (y180.length : Int) x65_3 = some r) ∧ Aside0 (kq ≤ kj4) ∧ Aside0 (Kd.S k73 73 w' w.heap.size (fun _ => True) v190 y189) ∧ Aside0 (Below w.heap.size w w'))
          case atStart => exact ⟨(x8_1), (0), zf, zf, H', ⟨Nat.le_refl _⟩, ⟨by (with_reducible repeat (first | apply Kd.S_alloc | apply Kd.S_drewN | apply Kd.S_drew)); exact HO191.out⟩, ⟨by repeat (first | (with_reducible first | exact HB.out | apply below_alloc | apply pw_below_drewN | apply below_drew1) | exact HB.out)⟩⟩
          case round =>
           clear H'
           try clear c1
           try clear p1
           try clear q1
           try clear hx1
           try clear c2
           try clear p2
           try clear q2
           try clear c4
           try clear c4b0
           try clear c6
           try clear c6b0
           try clear p6
           try clear c7
           try clear c7b0
           try clear c9
           try clear c9b0
           try clear c10
           try clear c10b0
           try clear c11
           try clear c11b0
           try clear c12
           try clear c12b0
           try clear c12b1
           try clear c13
           try clear c13b0
           try clear c13b1
           try clear c14
           try clear c14b0
           try clear c14b1
           try clear c16
           try clear c17
           try clear c17b0
           try clear p17
           try clear q17
           try clear hx17
           try clear c18
           try clear c18b0
           try clear c19
           try clear c19b0
           try clear c20
           try clear q20
           try clear c24
           try clear q24
           try clear hx177_0
           try clear hx177_1
           try clear hx177_2
           try clear hx178_0
           try clear hx178_1
           try clear hx178_2
           try clear hx179_0
           try clear hx179_1
           try clear hx179_2
           try clear p1
           try clear p177
           try clear p178
           try clear p179
           try clear p2
           try clear p6
           try clear q020
           try clear q024
           try clear q1
           try clear q177
           try clear q178
           try clear q179
           try clear q20
           try clear q24
           obtain ⟨x8_3, x65_3, rfl, rfl, HA, HK3, HO_7, HB⟩ := hrel
           cases gk with
           | zero => exact absurd HA.out (by simp [spec_l6Groups.l2])
           | succ k3 =>
            have H := HA.out
            clear HA
            simp only [spec_l6Groups.l2] at H
            by_cases c25 : x65_3 < (y180.length : Int)
            ·rw [if_pos c25] at H
             have c25b0 : decide (x65_3 < (y180.length : Int)) = true := decide_eq_true c25
             clear c25
             by_cases c26 : 0 ≤ x65_3
             ·rw [if_pos c26] at H
              have c26b0 : decide (0 ≤ x65_3) = true := decide_eq_true c26
              clear c26
              by_cases c27 : x65_3 < (y180.length : Int)
              ·rw [if_pos c27] at H
               have c27b0 : decide (x65_3 < (y180.length : Int)) = true := decide_eq_true c27
               clear c27
               have H' := am H
               clear H
               have p196 : 0 ≤ (x65_3 : Int) := oa
               have q196 : x65_3 < (y180.length : Int) := oa
               obtain ⟨ad196, A196_2, c196_2, e196, hx196_0, hx196_1, hx196_2, hl196_2, hi196_2⟩ := at_T106 HR183.out x65_3 p196 q196
               cases e196
               replace hx196_0 := (HB.out.cell (World.block_lt_of_cell? w _ hx196_0)).trans hx196_0
               replace hx196_1 := (HB.out.cell (World.block_lt_of_cell? w _ hx196_1)).trans hx196_1
               replace hx196_2 := (HB.out.cell (World.block_lt_of_cell? w _ hx196_2)).trans hx196_2
               have HR196_2 := am hi196_2
               have HC196_2 := am hl196_2
               clear hi196_2 hl196_2
               replace p196 := eq_true p196
               replace q196 := eq_true q196
               go_wp2_with (first | ((with_reducible refine gate_dst (N := 12) rfl ?_); refine box_event ?hg (N := 12) ?hd (cs := #[.int .i64 0, .int .i64 0, .slice none 0 0]) (t := 106) ?hr ?_; (case hd => rfl); (case hg => rfl); (case hr => first | (go_simp; done) | (go_simp; rfl)); intro gb197 hg w28 hbox hb; have n0_ := am (Kd.S_below (zs HO_7.out) hb); have n1_ := am (below_step zb hb); have n2_ := am (hbox); have n3_ := am ((by rw [hg]; exact (below_size zb) : w.heap.size ≤ gb197)); have n4_ := am ((by rw [hg]; exact (below_size zb) : w.heap.size ≤ gb197)); clear HO_7; clear HB; have HO_7 := n0_; have HB := n1_; have BK197 := n2_; have GW197 := n3_; have GE197 := n4_; clear n0_ n1_ n2_ n3_ n4_; clear hb hbox hg; have hcz29_0 : w28.cell? ⟨gb197, 0, none⟩ = some (.int .i64 0) := (blk_cell BK197.out 0).trans rfl; have hcz29_1 : w28.cell? ⟨gb197, 1, none⟩ = some (.int .i64 0) := (blk_cell BK197.out 1).trans rfl; have hcz29_2 : w28.cell? ⟨gb197, 2, none⟩ = some (.slice none 0 0) := (blk_cell BK197.out 2).trans rfl; have hfz29_0 := blk_frozen BK197.out 0; have hfz29_1 := blk_frozen BK197.out 1; have hfz29_2 := blk_frozen BK197.out 2))
               repeat (go_quiet (first | ((with_reducible refine gate_dst (N := 12) rfl ?_); refine box_event ?hg (N := 12) ?hd (cs := #[.int .i64 0, .int .i64 0, .slice none 0 0]) (t := 106) ?hr ?_; (case hd => rfl); (case hg => rfl); (case hr => first | (go_simp; done) | (go_simp; rfl)); intro gb197 hg w28 hbox hb; have n0_ := am (Kd.S_below (zs HO_7.out) hb); have n1_ := am (below_step zb hb); have n2_ := am (hbox); have n3_ := am ((by rw [hg]; exact (below_size zb) : w.heap.size ≤ gb197)); have n4_ := am ((by rw [hg]; exact (below_size zb) : w.heap.size ≤ gb197)); clear HO_7; clear HB; have HO_7 := n0_; have HB := n1_; have BK197 := n2_; have GW197 := n3_; have GE197 := n4_; clear n0_ n1_ n2_ n3_ n4_; clear hb hbox hg; have hcz29_0 : w28.cell? ⟨gb197, 0, none⟩ = some (.int .i64 0) := (blk_cell BK197.out 0).trans rfl; have hcz29_1 : w28.cell? ⟨gb197, 1, none⟩ = some (.int .i64 0) := (blk_cell BK197.out 1).trans rfl; have hcz29_2 : w28.cell? ⟨gb197, 2, none⟩ = some (.slice none 0 0) := (blk_cell BK197.out 2).trans rfl; have hfz29_0 := blk_frozen BK197.out 0; have hfz29_1 := blk_frozen BK197.out 1; have hfz29_2 := blk_frozen BK197.out 2)); try go_wp2_with (first | ((with_reducible refine gate_dst (N := 12) rfl ?_); refine box_event ?hg (N := 12) ?hd (cs := #[.int .i64 0, .int .i64 0, .slice none 0 0]) (t := 106) ?hr ?_; (case hd => rfl); (case hg => rfl); (case hr => first | (go_simp; done) | (go_simp; rfl)); intro gb197 hg w28 hbox hb; have n0_ := am (Kd.S_below (zs HO_7.out) hb); have n1_ := am (below_step zb hb); have n2_ := am (hbox); have n3_ := am ((by rw [hg]; exact (below_size zb) : w.heap.size ≤ gb197)); have n4_ := am ((by rw [hg]; exact (below_size zb) : w.heap.size ≤ gb197)); clear HO_7; clear HB; have HO_7 := n0_; have HB := n1_; have BK197 := n2_; have GW197 := n3_; have GE197 := n4_; clear n0_ n1_ n2_ n3_ n4_; clear hb hbox hg; have hcz29_0 : w28.cell? ⟨gb197, 0, none⟩ = some (.int .i64 0) := (blk_cell BK197.out 0).trans rfl; have hcz29_1 : w28.cell? ⟨gb197, 1, none⟩ = some (.int .i64 0) := (blk_cell BK197.out 1).trans rfl; have hcz29_2 : w28.cell? ⟨gb197, 2, none⟩ = some (.slice none 0 0) := (blk_cell BK197.out 2).trans rfl; have hfz29_0 := blk_frozen BK197.out 0; have hfz29_1 := blk_frozen BK197.out 1; have hfz29_2 := blk_frozen BK197.out 2)))
               go_roundg k3
               case measure => have := HK1.out; have := HJ4.out; have := HK3.out; omega
               case rel => exact ⟨(wrap64 (x8_3 + (wrap64 ((((T106 y180 x65_3).f2).length : Int) - ((T106 y180 x65_3).f1))))), (wrap64 (x65_3 + 1)), zf, zf, H', ⟨by have := HK1.out; have := HJ4.out; have := HK3.out; omega⟩, ⟨by (with_reducible repeat (first | apply Kd.S_alloc | apply Kd.S_drewN | apply Kd.S_drew)); exact Kd.S_mono (Kd.S_far (p := ⟨gb197, 2, none⟩) (Kd.S_far (p := ⟨gb197, 1, none⟩) (Kd.S_far (p := ⟨gb197, 0, none⟩) (Kd.S_types HO_7.out BK197.out (by decide)) (fun _ hk => hk.2) (.int .i64 ((T106 y180 x65_3).f0))) (fun _ hk => hk.2) (.int .i64 ((T106 y180 x65_3).f1))) (fun _ hk => hk.2) (.slice A196_2 ((T106 y180 x65_3).f2).length c196_2)) (fun _ hk => trivial)⟩, ⟨by repeat (first | (with_reducible first | exact HB.out | apply below_alloc | apply pw_below_drewN | apply below_drew1 | refine below_set ?_ GE197.out) | exact HB.out)⟩⟩
              ·rw [if_neg c27] at H
               exact absurd H (by simp)
             ·rw [if_neg c26] at H
              exact absurd H (by simp)
            ·rw [if_neg c25] at H
             have c25b0 : decide (x65_3 < (y180.length : Int)) = false := decide_eq_false c25
             clear c25
             have H' := am H
             clear H
             go_wp2
             repeat (go_quiet (fail); try go_wp2)
             go_roundg k3
             case measure => have := HK1.out; have := HJ4.out; have := HK3.out; omega
             case rel => exact ⟨(y189), (x8_3), (x10_4), zf, zf, H', ⟨by have := HK1.out; have := HJ4.out; have := HK3.out; omega⟩, ⟨by (with_reducible repeat (first | apply Kd.S_alloc | apply Kd.S_drewN | apply Kd.S_drew)); exact HO_7.out⟩, ⟨by repeat (first | (with_reducible first | exact HB.out | apply below_alloc | apply pw_below_drewN | apply below_drew1) | exact HB.out)⟩⟩
         ·rw [if_neg c16] at H
          exact absurd H (by simp)
        ·rw [if_neg c14] at H
         exact absurd H (by simp)
       ·rw [if_neg c13] at H
        exact absurd H (by simp)
      ·rw [if_neg c12] at H
       exact absurd H (by simp)
   ·rw [if_neg c4] at H
    have c4b0 : decide (x9_1 < (l1.length : Int)) = false := decide_eq_false c4
    clear c4
    obtain rfl := Option.some.inj H
    go_wp2
    repeat (go_quiet (fail); try go_wp2)
    go_ret
    exact ⟨_, by first | rfl | (simp [errW_none, errW_some] <;> rfl) | (simp [*, errW_none, errW_some] <;> rfl), by (with_reducible repeat (first | apply Kd.S_alloc | apply Kd.S_drewN | apply Kd.S_drew)); exact HO_7.out, by repeat (first | (with_reducible first | exact HB.out | apply below_alloc | apply pw_below_drewN | apply below_drew1) | exact HB.out)⟩

def spec_GroupsOf.f (k : Nat) (l0 : List ByteArray) (l1 : List (S106)) (a2 : Int) : Option ((List (S73)) × Bool) := (spec_Patch.f k l0 l1).bind fun bt198 => (if bt198.2 = true then ((spec_l1In.f a2 0 20).bind fun t202 => (if t202 = true then ((spec_l6Groups.f k l0 l1 a2).bind fun t203 => (some (t203, true))) else (some (([] : List (S73)), false)))) else (some (([] : List (S73)), false)))
set_option maxHeartbeats 8000000 in
set_option maxRecDepth 100000 in
theorem spec_GroupsOf.calls (k : Nat) (A0 : Option Addr) (c0 : Nat) (l0 : List ByteArray) (A1 : Option Addr) (c1 : Nat) (l1 : List (S106)) (a2 : Int) (r1 : List (S73)) (r2 : Bool) (w : World) (hr0 : Kd.C Kd.string w A0 l0.length l0) (hc0 : l0.length ≤ c0) (hr1 : Kd.C k106 w A1 l1.length l1) (hc1 : l1.length ≤ c1) (h : spec_GroupsOf.f k l0 l1 a2 = some (r1, r2)) :
  Calls Try.prog 39 #[.slice A0 l0.length c0, .slice A1 l1.length c1, .int .i64 a2] w fun e w' => ∃ v0_ : Value, e = .returned (.tuple #[v0_, .bool r2]) ∧ Kd.S k73 73 w' w.heap.size (fun _ => True) v0_ r1 ∧ Below w.heap.size w w' := by
 have HR0 := am hr0
 have HC0 := am hc0
 clear hr0 hc0
 have HR1 := am hr1
 have HC1 := am hc1
 clear hr1 hc1
 have HB := am (Below.refl w.heap.size w)
 have H : ((spec_Patch.f k l0 l1).bind fun bt198 => (if bt198.2 = true then ((spec_l1In.f a2 0 20).bind fun t202 => (if t202 = true then ((spec_l6Groups.f k l0 l1 a2).bind fun t203 => (some (t203, true))) else (some (([] : List (S73)), false)))) else (some (([] : List (S73)), false)))) = some (r1, r2) := h
 clear h
 replace H := Option.bind_eq_some_iff.mp H
 obtain ⟨⟨t198, t199⟩, A40, H⟩ := H
 replace H : (if t199 = true then ((spec_l1In.f a2 0 20).bind fun t202 => (if t202 = true then ((spec_l6Groups.f k l0 l1 a2).bind fun t203 => (some (t203, true))) else (some (([] : List (S73)), false)))) else (some (([] : List (S73)), false))) = some (r1, r2) := H
 have A4 := am A40
 clear A40
 by_cases c5 : t199 = true
 ·subst c5
  have H1 : ((spec_l1In.f a2 0 20).bind fun t202 => (if t202 = true then ((spec_l6Groups.f k l0 l1 a2).bind fun t203 => (some (t203, true))) else (some (([] : List (S73)), false)))) = some (r1, r2) := by rw [if_pos rfl] at H; exact H
  clear H
  have H := H1
  clear H1
  replace H := Option.bind_eq_some_iff.mp H
  obtain ⟨t202, A60, H⟩ := H
  replace H : (if t202 = true then ((spec_l6Groups.f k l0 l1 a2).bind fun t203 => (some (t203, true))) else (some (([] : List (S73)), false))) = some (r1, r2) := H
  have A6 := am A60
  clear A60
  by_cases c7 : t202 = true
  ·subst c7
   have H1 : ((spec_l6Groups.f k l0 l1 a2).bind fun t203 => (some (t203, true))) = some (r1, r2) := by rw [if_pos rfl] at H; exact H
   clear H
   have H := H1
   clear H1
   replace H := Option.bind_eq_some_iff.mp H
   obtain ⟨t203, A80, H⟩ := H
   replace H : (some (t203, true)) = some (r1, r2) := H
   have A8 := am A80
   clear A80
   simp only [Option.some.injEq, Prod.mk.injEq] at H
   obtain ⟨rfl, rfl⟩ := H
   go_enter Try.func39, Try.ntmps39
   go_wp2_with (first | ((with_reducible refine gateC (f := 88) rfl ?_); refine goesL_ (some 13) rfl rfl Try.func88 (by kernel_rfl) rfl #[.slice A0 l0.length c0, .slice A1 l1.length c1] rfl zm ?_; (with_reducible refine (spec_Patch.calls k _ _ l0 _ _ l1 t198 true _ ?side1 ?side2 ?side3 ?side4 A4.out).mono ?_); (case side1 => exact zq HR0.out); (case side2 => exact HC0.out); (case side3 => exact zq HR1.out); (case side4 => exact HC1.out); rintro e w9 ⟨v200, rfl, ho0, hb⟩; refine ⟨_, rfl, ?_⟩; have n0_ := am (Kd.R_lower ho0 (below_size zb)); have n1_ := am (below_step zb hb); clear HB; have HO201 := n0_; have HB := n1_; clear n0_ n1_; (try clear hb); (try clear ho0)) | (go_at_call 67; (with_reducible refine (spec_l1In.calls a2 0 20 true _ A6.out).mono ?_); rintro e w' ⟨rfl, ⟨nd, rfl⟩⟩) | ((with_reducible refine gateC (f := 98) rfl ?_); refine goesL_ (some 26) rfl rfl Try.func98 (by kernel_rfl) rfl #[.slice A0 l0.length c0, .slice A1 l1.length c1, .int .i64 a2] rfl zm ?_; (with_reducible refine (spec_l6Groups.calls k _ _ l0 _ _ l1 a2 t203 _ ?side1 ?side2 ?side3 ?side4 A8.out).mono ?_); (case side1 => repeat (first | exact (Kd.C_below HR0.out zb) | (with_reducible refine Kd.C_alloc ?_ _) | (with_reducible refine Kd.C_drewN ?_ _) | (with_reducible refine Kd.C_drew ?_))); (case side2 => exact HC0.out); (case side3 => repeat (first | exact (Kd.C_below HR1.out zb) | (with_reducible refine Kd.C_alloc ?_ _) | (with_reducible refine Kd.C_drewN ?_ _) | (with_reducible refine Kd.C_drew ?_))); (case side4 => exact HC1.out); rintro e w10 ⟨v204, rfl, ho0, hb⟩; refine ⟨_, rfl, ?_⟩; have n0_ := am (Kd.R_below (zr HO201.out) hb); have n1_ := am (Kd.S_lower ho0 (below_size zb)); have n2_ := am (below_step zb hb); clear HO201; clear HB; have HO201 := n0_; have HO205 := n1_; have HB := n2_; clear n0_ n1_ n2_; (try clear hb); (try clear ho0)))
   go_ret2
   exact ⟨_, by first | rfl | (simp [errW_none, errW_some] <;> rfl) | (simp [*, errW_none, errW_some] <;> rfl), by (with_reducible repeat (first | apply Kd.S_alloc | apply Kd.S_drewN | apply Kd.S_drew)); exact HO205.out, by repeat (first | (with_reducible first | exact HB.out | apply below_alloc | apply pw_below_drewN | apply below_drew1) | exact HB.out)⟩
  ·replace c7 := Bool.eq_false_iff.mpr c7
   subst c7
   have H1 : (some (([] : List (S73)), false)) = some (r1, r2) := by rw [if_neg (show ¬ (false = true) by decide)] at H; exact H
   clear H
   have H := H1
   clear H1
   simp only [Option.some.injEq, Prod.mk.injEq] at H
   obtain ⟨rfl, rfl⟩ := H
   go_enter Try.func39, Try.ntmps39
   go_wp2_with (first | ((with_reducible refine gateC (f := 88) rfl ?_); refine goesL_ (some 13) rfl rfl Try.func88 (by kernel_rfl) rfl #[.slice A0 l0.length c0, .slice A1 l1.length c1] rfl zm ?_; (with_reducible refine (spec_Patch.calls k _ _ l0 _ _ l1 t198 true _ ?side1 ?side2 ?side3 ?side4 A4.out).mono ?_); (case side1 => exact zq HR0.out); (case side2 => exact HC0.out); (case side3 => exact zq HR1.out); (case side4 => exact HC1.out); rintro e w11 ⟨v200, rfl, ho0, hb⟩; refine ⟨_, rfl, ?_⟩; have n0_ := am (Kd.R_lower ho0 (below_size zb)); have n1_ := am (below_step zb hb); clear HB; have HO201 := n0_; have HB := n1_; clear n0_ n1_; (try clear hb); (try clear ho0)) | (go_at_call 67; (with_reducible refine (spec_l1In.calls a2 0 20 false _ A6.out).mono ?_); rintro e w' ⟨rfl, ⟨nd, rfl⟩⟩))
   go_ret2
   exact ⟨_, by first | rfl | (simp [errW_none, errW_some] <;> rfl) | (simp [*, errW_none, errW_some] <;> rfl), by first | exact Kd.S_nil _ _ _ _ _ | exact Kd.Q_nil _ _ _ _ _ | exact Kd.R_nil _ _ _ _ _, by repeat (first | (with_reducible first | exact HB.out | apply below_alloc | apply pw_below_drewN | apply below_drew1) | exact HB.out)⟩
 ·replace c5 := Bool.eq_false_iff.mpr c5
  subst c5
  have H1 : (some (([] : List (S73)), false)) = some (r1, r2) := by rw [if_neg (show ¬ (false = true) by decide)] at H; exact H
  clear H
  have H := H1
  clear H1
  simp only [Option.some.injEq, Prod.mk.injEq] at H
  obtain ⟨rfl, rfl⟩ := H
  go_enter Try.func39, Try.ntmps39
  go_wp2_with (first | ((with_reducible refine gateC (f := 88) rfl ?_); refine goesL_ (some 13) rfl rfl Try.func88 (by kernel_rfl) rfl #[.slice A0 l0.length c0, .slice A1 l1.length c1] rfl zm ?_; (with_reducible refine (spec_Patch.calls k _ _ l0 _ _ l1 t198 false _ ?side1 ?side2 ?side3 ?side4 A4.out).mono ?_); (case side1 => exact zq HR0.out); (case side2 => exact HC0.out); (case side3 => exact zq HR1.out); (case side4 => exact HC1.out); rintro e w12 ⟨v200, rfl, ho0, hb⟩; refine ⟨_, rfl, ?_⟩; have n0_ := am (Kd.R_lower ho0 (below_size zb)); have n1_ := am (below_step zb hb); clear HB; have HO201 := n0_; have HB := n1_; clear n0_ n1_; (try clear hb); (try clear ho0)))
  go_ret2
  exact ⟨_, by first | rfl | (simp [errW_none, errW_some] <;> rfl) | (simp [*, errW_none, errW_some] <;> rfl), by first | exact Kd.S_nil _ _ _ _ _ | exact Kd.Q_nil _ _ _ _ _ | exact Kd.R_nil _ _ _ _ _, by repeat (first | (with_reducible first | exact HB.out | apply below_alloc | apply pw_below_drewN | apply below_drew1) | exact HB.out)⟩

def impl_in.f (a0 : Int) (a1 : Int) (a2 : Int) : Option (Bool) := if a0 ≥ a1 then (some (decide (a0 ≤ a2))) else (some false)
set_option maxHeartbeats 8000000 in
set_option maxRecDepth 100000 in
theorem impl_in.calls (a0 : Int) (a1 : Int) (a2 : Int) (r : Bool) (w : World) (h : impl_in.f a0 a1 a2 = some r) :
  Calls Try.prog 64 #[.int .i64 a0, .int .i64 a1, .int .i64 a2] w fun e w' => e = .returned (.bool r) ∧ Drawn0 w w' := by
 have H : (if a0 ≥ a1 then (some (decide (a0 ≤ a2))) else (some false)) = some r := h
 clear h
 by_cases c4 : a0 ≥ a1
 ·rw [if_pos c4] at H
  have c4b0 : decide (a1 ≤ a0) = true := decide_eq_true c4
  clear c4
  obtain rfl := Option.some.inj H
  go_enter Try.func64, Try.ntmps64
  go_wp2
  go_ret
  exact ⟨by first | rfl | (simp; done) | (simp [*]; done), by repeat (first | exact Drawn0.refl _ | apply Drawn0.step)⟩
 ·rw [if_neg c4] at H
  have c4b0 : decide (a1 ≤ a0) = false := decide_eq_false c4
  clear c4
  obtain rfl := Option.some.inj H
  go_enter Try.func64, Try.ntmps64
  go_wp2
  go_ret
  exact ⟨by first | rfl | (simp; done) | (simp [*]; done), by repeat (first | exact Drawn0.refl _ | apply Drawn0.step)⟩

def stringslite_IndexByte.f (a0 : ByteArray) (a1 : Int) : Option (Int) := some (Lib.indexByte a0.data.toList a1.toNat.toUInt8)
set_option maxHeartbeats 1000000 in
set_option maxRecDepth 100000 in
theorem stringslite_IndexByte.calls (a0 : ByteArray) (a1 : Int) (r : Int) (w : World) (h : stringslite_IndexByte.f a0 a1 = some r) :
  Calls Try.prog 160 #[.string a0, .int .u8 a1] w fun e w' => e = .returned (.int .i64 r) ∧ Drawn0 w w' := by
 obtain rfl : Lib.indexByte a0.data.toList a1.toNat.toUInt8 = r := Option.some.inj h
 clear h
 go_enter Try.func160, Try.ntmps160
 go_wp2
 rw [run_callFunc_extern Try.func164 (by kernel_rfl) (by kernel_rfl) (by kernel_rfl) (e := Extern.BytealgIndexByte.indexByte) (by kernel_rfl), Lib.run_indexByteString]
 simp only [Result.andThen]
 rw [Oper.upon_value]
 go_wp2
 go_ret
 exact ⟨rfl, Drawn0.refl _⟩

def stringslite_Index.j0 : Nat → ByteArray → ByteArray → Int → Bool → Option (Int)
 | 0, _, _, _, _ => none
 | k + 1, x0, x1, x5, x16 => if x16 = true then (some 0) else (if x5 = 1 then (if 0 < (x1.size : Int) then ((stringslite_IndexByte.f x0 (bt x1 0)).bind fun t229 => (some t229)) else (none)) else (if x5 ≥ (x0.size : Int) then (some (-1)) else (none)))
def stringslite_Index.f (k : Nat) (a0 : ByteArray) (a1 : ByteArray) : Option (Int) := if (a1.size : Int) = 0 then (stringslite_Index.j0 k a0 a1 (a1.size : Int) true) else (stringslite_Index.j0 k a0 a1 (a1.size : Int) (a1.toList == a0.toList))
set_option maxHeartbeats 8000000 in
set_option maxRecDepth 100000 in
theorem stringslite_Index.calls (k : Nat) (a0 : ByteArray) (a1 : ByteArray) (r : Int) (w : World) (h : stringslite_Index.f k a0 a1 = some r) :
  Calls Try.prog 159 #[.string a0, .string a1] w fun e w' => e = .returned (.int .i64 r) ∧ Drawn0 w w' := by
 have H : (if (a1.size : Int) = 0 then (stringslite_Index.j0 k a0 a1 (a1.size : Int) true) else (stringslite_Index.j0 k a0 a1 (a1.size : Int) (a1.toList == a0.toList))) = some r := h
 clear h
 have HC3 := am H
 clear H
 go_enter Try.func159, Try.ntmps159
 go_upto_region 2 with (fail)
 go_cut [16] (fun v16 wc => ∃ (kq : Nat) (x16_2 : Bool), v16 = .bool x16_2 ∧ Aside0 (stringslite_Index.j0 kq a0 a1 (a1.size : Int) x16_2 = some r) ∧ Aside0 (kq ≤ k) ∧ Drawn0 w wc)
 case first =>
  have H := HC3.out
  clear HC3
  by_cases c4 : (a1.size : Int) = 0
  ·rw [if_pos c4] at H
   have c4b0 : ((a1.size : Int) == 0) = true := beq_iff_eq.mpr c4
   have c4b1 : ((a1.size : Int) != 0) = false := bne_eq_false_iff_eq.mpr c4
   clear c4
   (first | rw [c4b0] | (simp only [i64_w, i32_w]; rw [c4b0]) | skip)
   have H' := am H
   clear H
   go_wp2
   go_meet
   case rel => exact ⟨_, (true), zf, H', ⟨by first | omega | exact Nat.le_refl _⟩, by repeat (first | exact Drawn0.refl _ | apply Drawn0.step)⟩
  ·rw [if_neg c4] at H
   have c4b0 : ((a1.size : Int) == 0) = false := beq_eq_false_iff_ne.mpr c4
   have c4b1 : ((a1.size : Int) != 0) = true := bne_iff_ne.mpr c4
   (first | rw [c4b0] | (simp only [i64_w, i32_w]; rw [c4b0]) | skip)
   have H' := am H
   clear H
   go_wp2
   go_meet
   case rel => exact ⟨_, ((a1.toList == a0.toList)), zf, H', ⟨by first | omega | exact Nat.le_refl _⟩, by repeat (first | exact Drawn0.refl _ | apply Drawn0.step)⟩
 case rest =>
  clear HC3
  try clear c1
  try clear p2
  try clear c4
  try clear c4b0
  try clear c4b1
  obtain ⟨kq, x16_2, rfl, HA, HJ2, ⟨mc2, rfl⟩⟩ := hcut
  cases kq with
  | zero => exact absurd HA.out (by simp [stringslite_Index.j0])
  | succ kj2 =>
   have H := HA.out
   clear HA
   simp only [stringslite_Index.j0] at H
   by_cases c5 : x16_2 = true
   ·subst c5
    have H1 : (some 0) = some r := by rw [if_pos rfl] at H; exact H
    clear H
    have H := H1
    clear H1
    obtain rfl := Option.some.inj H
    go_wp2
    go_ret
    exact ⟨by first | rfl | (simp; done) | (simp [*]; done), by repeat (first | exact Drawn0.refl _ | apply Drawn0.step)⟩
   ·replace c5 := Bool.eq_false_iff.mpr c5
    subst c5
    have H1 : (if (a1.size : Int) = 1 then (if 0 < (a1.size : Int) then ((stringslite_IndexByte.f a0 (bt a1 0)).bind fun t229 => (some t229)) else (none)) else (if (a1.size : Int) ≥ (a0.size : Int) then (some (-1)) else (none))) = some r := by rw [if_neg (show ¬ (false = true) by decide)] at H; exact H
    clear H
    have H := H1
    clear H1
    by_cases c6 : (a1.size : Int) = 1
    ·rw [if_pos c6] at H
     have c6b0 : ((a1.size : Int) == 1) = true := beq_iff_eq.mpr c6
     have c6b1 : ((a1.size : Int) != 1) = false := bne_eq_false_iff_eq.mpr c6
     clear c6
     by_cases c7 : 0 < (a1.size : Int)
     ·rw [if_pos c7] at H
      have c7b0 : decide (0 < (a1.size : Int)) = true := decide_eq_true c7
      have c7b1 : decide (0 < a1.size) = true := decide_eq_true (by omega)
      clear c7
      replace H := Option.bind_eq_some_iff.mp H
      obtain ⟨t229, A90, H⟩ := H
      replace H : (some t229) = some r := H
      have A9 := am A90
      clear A90
      obtain rfl := Option.some.inj H
      have p8 : 0 ≤ (0 : Int) := (by omega)
      have q8 : 0 < a1.size := (by have : (0 : Int) < (a1.size : Int) := oa; omega)
      have hx8 : ∀ h : 0 < a1.size, ((a1[0]'h).toNat : Int) = bt a1 0 := bt_at a1 0
      clear p8
      have qi8 : (0 < (a1.size : Int)) = True := eq_true oa
      replace q8 := eq_true q8
      go_wp2_with (first | ((with_reducible refine gateC (f := 160) rfl ?_); refine goesL_ (some 30) rfl rfl Try.func160 (by kernel_rfl) rfl #[.string a0, .int .u8 (bt a1 0)] rfl zm ?_; (with_reducible refine (stringslite_IndexByte.calls a0 (bt a1 0) t229 _ A9.out).mono ?_); rintro e w' ⟨rfl, ⟨nd, rfl⟩⟩; refine ⟨_, rfl, ?_⟩))
      go_ret
      exact ⟨by first | rfl | (simp; done) | (simp [*]; done), by repeat (first | exact Drawn0.refl _ | apply Drawn0.step)⟩
     ·rw [if_neg c7] at H
      exact absurd H (by simp)
    ·rw [if_neg c6] at H
     have c6b0 : ((a1.size : Int) == 1) = false := beq_eq_false_iff_ne.mpr c6
     have c6b1 : ((a1.size : Int) != 1) = true := bne_iff_ne.mpr c6
     by_cases c10 : (a1.size : Int) ≥ (a0.size : Int)
     ·rw [if_pos c10] at H
      have c10b0 : decide ((a0.size : Int) ≤ (a1.size : Int)) = true := decide_eq_true c10
      have c10b1 : decide (a0.size ≤ a1.size) = true := decide_eq_true (Int.ofNat_le.mp c10)
      clear c10
      obtain rfl := Option.some.inj H
      go_wp2
      go_ret
      exact ⟨by first | rfl | (simp; done) | (simp [*]; done), by repeat (first | exact Drawn0.refl _ | apply Drawn0.step)⟩
     ·rw [if_neg c10] at H
      exact absurd H (by simp)

def strings_Index.f (k : Nat) (a0 : ByteArray) (a1 : ByteArray) : Option (Int) := (stringslite_Index.f k a0 a1).bind fun t230 => (some t230)
set_option maxHeartbeats 8000000 in
set_option maxRecDepth 100000 in
theorem strings_Index.calls (k : Nat) (a0 : ByteArray) (a1 : ByteArray) (r : Int) (w : World) (h : strings_Index.f k a0 a1 = some r) :
  Calls Try.prog 150 #[.string a0, .string a1] w fun e w' => e = .returned (.int .i64 r) ∧ Drawn0 w w' := by
 have H : ((stringslite_Index.f k a0 a1).bind fun t230 => (some t230)) = some r := h
 clear h
 replace H := Option.bind_eq_some_iff.mp H
 obtain ⟨t230, A30, H⟩ := H
 replace H : (some t230) = some r := H
 have A3 := am A30
 clear A30
 obtain rfl := Option.some.inj H
 go_enter Try.func150, Try.ntmps150
 go_wp2_with (first | ((with_reducible refine gateC (f := 159) rfl ?_); refine goesL_ (some 7) rfl rfl Try.func159 (by kernel_rfl) rfl #[.string a0, .string a1] rfl zm ?_; (with_reducible refine (stringslite_Index.calls k a0 a1 t230 _ A3.out).mono ?_); rintro e w' ⟨rfl, ⟨nd, rfl⟩⟩; refine ⟨_, rfl, ?_⟩))
 go_ret
 exact ⟨by first | rfl | (simp; done) | (simp [*]; done), by repeat (first | exact Drawn0.refl _ | apply Drawn0.step)⟩

def strings_Contains.f (k : Nat) (a0 : ByteArray) (a1 : ByteArray) : Option (Bool) := (strings_Index.f k a0 a1).bind fun t231 => (some (decide (t231 ≥ 0)))
set_option maxHeartbeats 8000000 in
set_option maxRecDepth 100000 in
theorem strings_Contains.calls (k : Nat) (a0 : ByteArray) (a1 : ByteArray) (r : Bool) (w : World) (h : strings_Contains.f k a0 a1 = some r) :
  Calls Try.prog 128 #[.string a0, .string a1] w fun e w' => e = .returned (.bool r) ∧ Drawn0 w w' := by
 have H : ((strings_Index.f k a0 a1).bind fun t231 => (some (decide (t231 ≥ 0)))) = some r := h
 clear h
 replace H := Option.bind_eq_some_iff.mp H
 obtain ⟨t231, A30, H⟩ := H
 replace H : (some (decide (t231 ≥ 0))) = some r := H
 have A3 := am A30
 clear A30
 obtain rfl := Option.some.inj H
 go_enter Try.func128, Try.ntmps128
 go_wp2_with (first | ((with_reducible refine gateC (f := 150) rfl ?_); refine goesL_ (some 7) rfl rfl Try.func150 (by kernel_rfl) rfl #[.string a0, .string a1] rfl zm ?_; (with_reducible refine (strings_Index.calls k a0 a1 t231 _ A3.out).mono ?_); rintro e w' ⟨rfl, ⟨nd, rfl⟩⟩; refine ⟨_, rfl, ?_⟩))
 go_ret
 exact ⟨by first | rfl | (simp; done) | (simp [*]; done), by repeat (first | exact Drawn0.refl _ | apply Drawn0.step)⟩

def impl_isLine.f (k : Nat) (a0 : ByteArray) : Option (Bool) := (impl_in.f (a0.size : Int) 1 30).bind fun t232 => (if t232 = true then (if 0 ≤ (wrap64 ((a0.size : Int) - 1)) then (if (wrap64 ((a0.size : Int) - 1)) ≤ (a0.size : Int) then ((strings_Contains.f k (a0.extract 0 ((wrap64 ((a0.size : Int) - 1)) : Int).toNat) (⟨#[10]⟩ : ByteArray)).bind fun t233 => (some (!t233))) else (none)) else (none)) else (some false))
set_option maxHeartbeats 8000000 in
set_option maxRecDepth 100000 in
theorem impl_isLine.calls (k : Nat) (a0 : ByteArray) (r : Bool) (w : World) (h : impl_isLine.f k a0 = some r) :
  Calls Try.prog 69 #[.string a0] w fun e w' => e = .returned (.bool r) ∧ Drawn0 w w' := by
 have H : ((impl_in.f (a0.size : Int) 1 30).bind fun t232 => (if t232 = true then (if 0 ≤ (wrap64 ((a0.size : Int) - 1)) then (if (wrap64 ((a0.size : Int) - 1)) ≤ (a0.size : Int) then ((strings_Contains.f k (a0.extract 0 ((wrap64 ((a0.size : Int) - 1)) : Int).toNat) (⟨#[10]⟩ : ByteArray)).bind fun t233 => (some (!t233))) else (none)) else (none)) else (some false))) = some r := h
 clear h
 replace H := Option.bind_eq_some_iff.mp H
 obtain ⟨t232, A20, H⟩ := H
 replace H : (if t232 = true then (if 0 ≤ (wrap64 ((a0.size : Int) - 1)) then (if (wrap64 ((a0.size : Int) - 1)) ≤ (a0.size : Int) then ((strings_Contains.f k (a0.extract 0 ((wrap64 ((a0.size : Int) - 1)) : Int).toNat) (⟨#[10]⟩ : ByteArray)).bind fun t233 => (some (!t233))) else (none)) else (none)) else (some false)) = some r := H
 have A2 := am A20
 clear A20
 by_cases c3 : t232 = true
 ·subst c3
  have H1 : (if 0 ≤ (wrap64 ((a0.size : Int) - 1)) then (if (wrap64 ((a0.size : Int) - 1)) ≤ (a0.size : Int) then ((strings_Contains.f k (a0.extract 0 ((wrap64 ((a0.size : Int) - 1)) : Int).toNat) (⟨#[10]⟩ : ByteArray)).bind fun t233 => (some (!t233))) else (none)) else (none)) = some r := by rw [if_pos rfl] at H; exact H
  clear H
  have H := H1
  clear H1
  obtain ⟨ji4, hji4⟩ : ∃ j_ : Int, (wrap64 ((a0.size : Int) - 1)) = j_ := ⟨_, rfl⟩
  replace H : (if 0 ≤ (ji4) then (if (ji4) ≤ (a0.size : Int) then ((strings_Contains.f k (a0.extract 0 ((ji4) : Int).toNat) (⟨#[10]⟩ : ByteArray)).bind fun t233 => (some (!t233))) else (none)) else (none)) = some r := by first | (rw [hji4] at H; exact H) | (simp only [hji4] at H ⊢; exact H)
  (try rw [hji4] at A2)
  have hji4w : (IntKind.i64.wrap ((a0.size : Int) - 1)) = ji4 := (i64_w _).trans hji4
  by_cases c5 : 0 ≤ (ji4)
  ·rw [if_pos c5] at H
   have c5b0 := eq_true c5
   have c5b1 : decide (0 ≤ (ji4)) = true := decide_eq_true c5
   clear c5
   by_cases c6 : (ji4) ≤ (a0.size : Int)
   ·rw [if_pos c6] at H
    have c6b0 := eq_true c6
    have c6b1 : decide ((ji4) ≤ (a0.size : Int)) = true := decide_eq_true c6
    clear c6
    replace H := Option.bind_eq_some_iff.mp H
    obtain ⟨t233, A70, H⟩ := H
    replace H : (some (!t233)) = some r := H
    have A7 := am A70
    clear A70
    obtain rfl := Option.some.inj H
    go_enter Try.func69, Try.ntmps69
    go_wp2_with (first | ((with_reducible refine gateC (f := 64) rfl ?_); refine goesL_ (some 5) rfl rfl Try.func64 (by kernel_rfl) rfl #[.int .i64 (a0.size : Int), .int .i64 1, .int .i64 30] rfl zm ?_; (with_reducible refine (impl_in.calls (a0.size : Int) 1 30 true _ A2.out).mono ?_); rintro e w' ⟨rfl, ⟨nd, rfl⟩⟩; refine ⟨_, rfl, ?_⟩) | (go_at_call 128; (with_reducible refine (strings_Contains.calls k (a0.extract 0 ((ji4) : Int).toNat) (⟨#[10]⟩ : ByteArray) t233 _ A7.out).mono ?_); rintro e w' ⟨rfl, ⟨nd, rfl⟩⟩))
    go_ret
    exact ⟨by first | rfl | (simp; done) | (simp only [← hji4] <;> (first | rfl | simp)) | (simp [*]; done), by repeat (first | exact Drawn0.refl _ | apply Drawn0.step)⟩
   ·rw [if_neg c6] at H
    exact absurd H (by simp)
  ·rw [if_neg c5] at H
   exact absurd H (by simp)
 ·replace c3 := Bool.eq_false_iff.mpr c3
  subst c3
  have H1 : (some false) = some r := by rw [if_neg (show ¬ (false = true) by decide)] at H; exact H
  clear H
  have H := H1
  clear H1
  obtain rfl := Option.some.inj H
  go_enter Try.func69, Try.ntmps69
  go_wp2_with (first | ((with_reducible refine gateC (f := 64) rfl ?_); refine goesL_ (some 5) rfl rfl Try.func64 (by kernel_rfl) rfl #[.int .i64 (a0.size : Int), .int .i64 1, .int .i64 30] rfl zm ?_; (with_reducible refine (impl_in.calls (a0.size : Int) 1 30 false _ A2.out).mono ?_); rintro e w' ⟨rfl, ⟨nd, rfl⟩⟩; refine ⟨_, rfl, ?_⟩))
  go_ret
  exact ⟨by first | rfl | (simp; done) | (simp [*]; done), by repeat (first | exact Drawn0.refl _ | apply Drawn0.step)⟩

def impl_areLines_1.f (k : Nat) (a0 : ByteArray) : Option (Bool) := (impl_isLine.f k a0).bind fun t234 => (some (!t234))
set_option maxHeartbeats 8000000 in
set_option maxRecDepth 100000 in
theorem impl_areLines_1.calls (k : Nat) (a0 : ByteArray) (r : Bool) (w : World) (h : impl_areLines_1.f k a0 = some r) :
  Calls Try.prog 148 #[.string a0] w fun e w' => e = .returned (.bool r) ∧ Drawn0 w w' := by
 have H : ((impl_isLine.f k a0).bind fun t234 => (some (!t234))) = some r := h
 clear h
 replace H := Option.bind_eq_some_iff.mp H
 obtain ⟨t234, A20, H⟩ := H
 replace H : (some (!t234)) = some r := H
 have A2 := am A20
 clear A20
 obtain rfl := Option.some.inj H
 go_enter Try.func148, Try.ntmps148
 go_wp2_with (first | ((with_reducible refine gateC (f := 69) rfl ?_); refine goesL_ (some 4) rfl rfl Try.func69 (by kernel_rfl) rfl #[.string a0] rfl zm ?_; (with_reducible refine (impl_isLine.calls k a0 t234 _ A2.out).mono ?_); rintro e w' ⟨rfl, ⟨nd, rfl⟩⟩; refine ⟨_, rfl, ?_⟩))
 go_ret
 exact ⟨by first | rfl | (simp; done) | (simp [*]; done), by repeat (first | exact Drawn0.refl _ | apply Drawn0.step)⟩

def slices_IndexFunc_string_string__impl_areLines_1.l0 : Nat → List ByteArray → Int → Int → Option (Int)
 | 0, _, _, _ => none
 | k + 1, x0, x7, x8 => if x8 < x7 then (if 0 ≤ x8 then (if x8 < (x0.length : Int) then ((impl_areLines_1.f k (rdOf ByteArray.empty x0 x8)).bind fun t236 => (if t236 = true then (some x8) else (slices_IndexFunc_string_string__impl_areLines_1.l0 k x0 x7 (wrap64 (x8 + 1))))) else (none)) else (none)) else (some (-1))
def slices_IndexFunc_string_string__impl_areLines_1.f (k : Nat) (l0 : List ByteArray)  : Option (Int) := slices_IndexFunc_string_string__impl_areLines_1.l0 k l0 (l0.length : Int) 0
set_option maxHeartbeats 8000000 in
set_option maxRecDepth 100000 in
theorem slices_IndexFunc_string_string__impl_areLines_1.calls (k : Nat) (A0 : Option Addr) (c0 : Nat) (l0 : List ByteArray)  (r : Int) (w : World) (hr0 : Kd.C Kd.string w A0 l0.length l0) (hc0 : l0.length ≤ c0) (h : slices_IndexFunc_string_string__impl_areLines_1.f k l0 = some r) :
  Calls Try.prog 157 #[.slice A0 l0.length c0, .func (.func 148) #[] #[]] w fun e w' => e = .returned (.int .i64 r) ∧ Drawn0 w w' := by
 have HR0 := am hr0
 have HC0 := am hc0
 clear hr0 hc0
 have H : (slices_IndexFunc_string_string__impl_areLines_1.l0 k l0 (l0.length : Int) 0) = some r := h
 clear h
 have H' := am H
 clear H
 go_enter Try.func157, Try.ntmps157
 go_wp2
 go_loopg [8] k (fun kq v8 w' => ∃ (x8_1 : Int), v8 = .int .i64 x8_1 ∧ Aside0 (slices_IndexFunc_string_string__impl_areLines_1.l0 kq l0 (l0.length : Int) x8_1 = some r) ∧ Aside0 (kq ≤ k) ∧ Drawn0 w w')
 case atStart => exact ⟨(0), zf, H', ⟨Nat.le_refl _⟩, by repeat (first | exact Drawn0.refl _ | apply Drawn0.step)⟩
 case round =>
  clear H'
  try clear p2
  obtain ⟨x8_1, rfl, HA, HK1, ⟨m1, rfl⟩⟩ := hrel
  cases gk with
  | zero => exact absurd HA.out (by simp [slices_IndexFunc_string_string__impl_areLines_1.l0])
  | succ k1 =>
   have H := HA.out
   clear HA
   simp only [slices_IndexFunc_string_string__impl_areLines_1.l0] at H
   by_cases c3 : x8_1 < (l0.length : Int)
   ·rw [if_pos c3] at H
    have c3b0 : decide (x8_1 < (l0.length : Int)) = true := decide_eq_true c3
    clear c3
    by_cases c4 : 0 ≤ x8_1
    ·rw [if_pos c4] at H
     have c4b0 : decide (0 ≤ x8_1) = true := decide_eq_true c4
     clear c4
     by_cases c5 : x8_1 < (l0.length : Int)
     ·rw [if_pos c5] at H
      have c5b0 : decide (x8_1 < (l0.length : Int)) = true := decide_eq_true c5
      clear c5
      replace H := Option.bind_eq_some_iff.mp H
      obtain ⟨t236, A60, H⟩ := H
      replace H : (if t236 = true then (some x8_1) else (slices_IndexFunc_string_string__impl_areLines_1.l0 k1 l0 (l0.length : Int) (wrap64 (x8_1 + 1)))) = some r := H
      have A6 := am A60
      clear A60
      by_cases c7 : t236 = true
      ·subst c7
       have H1 : (some x8_1) = some r := by rw [if_pos rfl] at H; exact H
       clear H
       have H := H1
       clear H1
       obtain rfl := Option.some.inj H
       have p235 : 0 ≤ (x8_1 : Int) := oa
       have q235 : x8_1 < (l0.length : Int) := oa
       obtain ⟨ad235, e235, hx235_0⟩ := Kd.at_string HR0.out x8_1 p235 q235
       cases e235
       replace p235 := eq_true p235
       replace q235 := eq_true q235
       go_wp2_with (first | (go_at_call 148; (with_reducible refine (impl_areLines_1.calls k1 (rdOf ByteArray.empty l0 x8_1) true _ A6.out).mono ?_); rintro e w' ⟨rfl, ⟨nd, rfl⟩⟩))
       go_ret
       exact ⟨by first | rfl | (simp; done) | (simp [*]; done), by repeat (first | exact Drawn0.refl _ | apply Drawn0.step)⟩
      ·replace c7 := Bool.eq_false_iff.mpr c7
       subst c7
       have H1 : (slices_IndexFunc_string_string__impl_areLines_1.l0 k1 l0 (l0.length : Int) (wrap64 (x8_1 + 1))) = some r := by rw [if_neg (show ¬ (false = true) by decide)] at H; exact H
       clear H
       have H := H1
       clear H1
       have H' := am H
       clear H
       have p235 : 0 ≤ (x8_1 : Int) := oa
       have q235 : x8_1 < (l0.length : Int) := oa
       obtain ⟨ad235, e235, hx235_0⟩ := Kd.at_string HR0.out x8_1 p235 q235
       cases e235
       replace p235 := eq_true p235
       replace q235 := eq_true q235
       go_wp2_with (first | (go_at_call 148; (with_reducible refine (impl_areLines_1.calls k1 (rdOf ByteArray.empty l0 x8_1) false _ A6.out).mono ?_); rintro e w' ⟨rfl, ⟨nd, rfl⟩⟩))
       go_roundg k1
       case measure => have := HK1.out; omega
       case rel => exact ⟨(wrap64 (x8_1 + 1)), zf, H', ⟨by have := HK1.out; omega⟩, by repeat (first | exact Drawn0.refl _ | apply Drawn0.step)⟩
     ·rw [if_neg c5] at H
      exact absurd H (by simp)
    ·rw [if_neg c4] at H
     exact absurd H (by simp)
   ·rw [if_neg c3] at H
    have c3b0 : decide (x8_1 < (l0.length : Int)) = false := decide_eq_false c3
    clear c3
    obtain rfl := Option.some.inj H
    go_wp2
    go_ret
    exact ⟨by first | rfl | (simp; done) | (simp [*]; done), by repeat (first | exact Drawn0.refl _ | apply Drawn0.step)⟩

def slices_ContainsFunc_string_string__impl_areLines_1.f (k : Nat) (l0 : List ByteArray)  : Option (Bool) := (slices_IndexFunc_string_string__impl_areLines_1.f k l0).bind fun t237 => (some (decide (t237 ≥ 0)))
set_option maxHeartbeats 8000000 in
set_option maxRecDepth 100000 in
theorem slices_ContainsFunc_string_string__impl_areLines_1.calls (k : Nat) (A0 : Option Addr) (c0 : Nat) (l0 : List ByteArray)  (r : Bool) (w : World) (hr0 : Kd.C Kd.string w A0 l0.length l0) (hc0 : l0.length ≤ c0) (h : slices_ContainsFunc_string_string__impl_areLines_1.f k l0 = some r) :
  Calls Try.prog 147 #[.slice A0 l0.length c0, .func (.func 148) #[] #[]] w fun e w' => e = .returned (.bool r) ∧ Drawn0 w w' := by
 have HR0 := am hr0
 have HC0 := am hc0
 clear hr0 hc0
 have H : ((slices_IndexFunc_string_string__impl_areLines_1.f k l0).bind fun t237 => (some (decide (t237 ≥ 0)))) = some r := h
 clear h
 replace H := Option.bind_eq_some_iff.mp H
 obtain ⟨t237, A30, H⟩ := H
 replace H : (some (decide (t237 ≥ 0))) = some r := H
 have A3 := am A30
 clear A30
 obtain rfl := Option.some.inj H
 go_enter Try.func147, Try.ntmps147
 go_wp2_with (first | ((with_reducible refine gateC (f := 157) rfl ?_); refine goesL_ (some 7) rfl rfl Try.func157 (by kernel_rfl) rfl #[.slice A0 l0.length c0, .func (.func 148) #[] #[]] rfl zm ?_; (with_reducible refine (slices_IndexFunc_string_string__impl_areLines_1.calls k _ _ l0  t237 _ ?side1 ?side2 A3.out).mono ?_); (case side1 => exact zq HR0.out); (case side2 => exact HC0.out); rintro e w' ⟨rfl, ⟨nd, rfl⟩⟩; refine ⟨_, rfl, ?_⟩))
 go_ret
 exact ⟨by first | rfl | (simp; done) | (simp [*]; done), by repeat (first | exact Drawn0.refl _ | apply Drawn0.step)⟩

def impl_areLines.f (k : Nat) (l0 : List ByteArray) : Option (Bool) := if (l0.length : Int) ≤ 40 then ((slices_ContainsFunc_string_string__impl_areLines_1.f k l0).bind fun t238 => (some (!t238))) else (some false)
set_option maxHeartbeats 8000000 in
set_option maxRecDepth 100000 in
theorem impl_areLines.calls (k : Nat) (A0 : Option Addr) (c0 : Nat) (l0 : List ByteArray) (r : Bool) (w : World) (hr0 : Kd.C Kd.string w A0 l0.length l0) (hc0 : l0.length ≤ c0) (h : impl_areLines.f k l0 = some r) :
  Calls Try.prog 125 #[.slice A0 l0.length c0] w fun e w' => e = .returned (.bool r) ∧ Drawn0 w w' := by
 have HR0 := am hr0
 have HC0 := am hc0
 clear hr0 hc0
 have H : (if (l0.length : Int) ≤ 40 then ((slices_ContainsFunc_string_string__impl_areLines_1.f k l0).bind fun t238 => (some (!t238))) else (some false)) = some r := h
 clear h
 by_cases c2 : (l0.length : Int) ≤ 40
 ·rw [if_pos c2] at H
  have c2b0 : decide ((l0.length : Int) ≤ 40) = true := decide_eq_true c2
  have c2b1 : decide (l0.length ≤ 40) = true := decide_eq_true (by omega)
  clear c2
  replace H := Option.bind_eq_some_iff.mp H
  obtain ⟨t238, A30, H⟩ := H
  replace H : (some (!t238)) = some r := H
  have A3 := am A30
  clear A30
  obtain rfl := Option.some.inj H
  go_enter Try.func125, Try.ntmps125
  go_wp2_with (first | (go_at_call 147; (with_reducible refine (slices_ContainsFunc_string_string__impl_areLines_1.calls k _ _ l0  t238 _ ?side1 ?side2 A3.out).mono ?_); (case side1 => exact zq HR0.out); (case side2 => exact HC0.out); rintro e w' ⟨rfl, ⟨nd, rfl⟩⟩))
  go_ret
  exact ⟨by first | rfl | (simp; done) | (simp [*]; done), by repeat (first | exact Drawn0.refl _ | apply Drawn0.step)⟩
 ·rw [if_neg c2] at H
  have c2b0 : decide ((l0.length : Int) ≤ 40) = false := decide_eq_false c2
  have c2b1 : decide (l0.length ≤ 40) = false := decide_eq_false (by omega)
  clear c2
  obtain rfl := Option.some.inj H
  go_enter Try.func125, Try.ntmps125
  go_wp2
  go_ret
  exact ⟨by first | rfl | (simp; done) | (simp [*]; done), by repeat (first | exact Drawn0.refl _ | apply Drawn0.step)⟩

mutual
def impl_goodHunks.j0 : Nat → Int → List (S106) → Bool → Option (Bool)
 | 0, _, _, _ => none
 | k + 1, x0, x1, x14 => if x14 = true then (some false) else (impl_goodHunks.l0 k x0 x1 x1 (x1.length : Int) 0)
def impl_goodHunks.l0 : Nat → Int → List (S106) → List (S106) → Int → Int → Option (Bool)
 | 0, _, _, _, _, _ => none
 | k + 1, x0, x1, x15, x16, x17 => if x17 < x16 then (if 0 ≤ x17 then (if x17 < (x15.length : Int) then ((impl_in.f ((T106 x15 x17).f0) 0 x0).bind fun t247 => (if t247 = true then ((impl_in.f ((T106 x15 x17).f1) 0 (wrap64 (x0 - ((T106 x15 x17).f0)))).bind fun t248 => (if t248 = true then ((impl_areLines.f k ((T106 x15 x17).f2)).bind fun t249 => (if t249 = true then (if ((T106 x15 x17).f1) = 0 then (impl_goodHunks.j2 k x0 x1 x17 x15 x16 x17 ((((T106 x15 x17).f2).length : Int) == 0) ((T106 x15 x17).f0) ((T106 x15 x17).f1) ((T106 x15 x17).f2)) else (impl_goodHunks.j2 k x0 x1 x17 x15 x16 x17 false ((T106 x15 x17).f0) ((T106 x15 x17).f1) ((T106 x15 x17).f2))) else (impl_goodHunks.j2 k x0 x1 x17 x15 x16 x17 true ((T106 x15 x17).f0) ((T106 x15 x17).f1) ((T106 x15 x17).f2)))) else (impl_goodHunks.j2 k x0 x1 x17 x15 x16 x17 true ((T106 x15 x17).f0) ((T106 x15 x17).f1) ((T106 x15 x17).f2)))) else (impl_goodHunks.j2 k x0 x1 x17 x15 x16 x17 true ((T106 x15 x17).f0) ((T106 x15 x17).f1) ((T106 x15 x17).f2)))) else (none)) else (none)) else (some true)
def impl_goodHunks.j2 : Nat → Int → List (S106) → Int → List (S106) → Int → Int → Bool → Int → Int → List ByteArray → Option (Bool)
 | 0, _, _, _, _, _, _, _, _, _, _ => none
 | k + 1, x0, x1, x5, x15, x16, x17, x53, x247000, x247001, x247002 => if x53 = true then (some false) else (if x5 > 0 then (if 0 ≤ (wrap64 (x5 - 1)) then (if (wrap64 (x5 - 1)) < (x1.length : Int) then (if x247000 ≤ (wrap64 (((T106 x1 (wrap64 (x5 - 1))).f0) + ((T106 x1 (wrap64 (x5 - 1))).f1))) then (some false) else (impl_goodHunks.l0 k x0 x1 x15 x16 (wrap64 (x17 + 1)))) else (none)) else (none)) else (impl_goodHunks.l0 k x0 x1 x15 x16 (wrap64 (x17 + 1))))
end
def impl_goodHunks.f (k : Nat) (a0 : Int) (l1 : List (S106)) : Option (Bool) := (impl_in.f a0 0 40).bind fun t244 => (if t244 = true then (impl_goodHunks.j0 k a0 l1 (decide ((l1.length : Int) > 20))) else (impl_goodHunks.j0 k a0 l1 true))
set_option maxHeartbeats 8000000 in
set_option maxRecDepth 100000 in
theorem impl_goodHunks.calls (k : Nat) (a0 : Int) (A1 : Option Addr) (c1 : Nat) (l1 : List (S106)) (r : Bool) (w : World) (hr1 : Kd.C k106 w A1 l1.length l1) (hc1 : l1.length ≤ c1) (h : impl_goodHunks.f k a0 l1 = some r) :
  Calls Try.prog 90 #[.int .i64 a0, .slice A1 l1.length c1] w fun e w' => e = .returned (.bool r) ∧ Below w.heap.size w w' := by
 have hu106 := Try.underlying106
 have HR1 := am hr1
 have HC1 := am hc1
 clear hr1 hc1
 have HB := am (Below.refl w.heap.size w)
 have H : ((impl_in.f a0 0 40).bind fun t244 => (if t244 = true then (impl_goodHunks.j0 k a0 l1 (decide ((l1.length : Int) > 20))) else (impl_goodHunks.j0 k a0 l1 true))) = some r := h
 clear h
 have HC3 := am H
 clear H
 go_enter Try.func90, Try.ntmps90
 go_upto_region 1 with (fail)
 repeat (go_quiet (fail); go_upto_region 1 with (fail))
 go_cut [14] (fun v14 wc => ∃ (kq : Nat) (x14_2 : Bool), v14 = .bool x14_2 ∧ Aside0 (impl_goodHunks.j0 kq a0 l1 x14_2 = some r) ∧ Aside0 (kq ≤ k) ∧ Aside0 (Below w.heap.size w wc))
 case first =>
  have H := HC3.out
  clear HC3
  replace H := Option.bind_eq_some_iff.mp H
  obtain ⟨t244, A40, H⟩ := H
  replace H : (if t244 = true then (impl_goodHunks.j0 k a0 l1 (decide ((l1.length : Int) > 20))) else (impl_goodHunks.j0 k a0 l1 true)) = some r := H
  have A4 := am A40
  clear A40
  by_cases c5 : t244 = true
  ·subst c5
   have H1 : (impl_goodHunks.j0 k a0 l1 (decide ((l1.length : Int) > 20))) = some r := by rw [if_pos rfl] at H; exact H
   clear H
   have H := H1
   clear H1
   have H' := am H
   clear H
   go_wp2_with (first | (go_at_call 64; (with_reducible refine (impl_in.calls a0 0 40 true _ A4.out).mono ?_); rintro e w' ⟨rfl, ⟨nd, rfl⟩⟩; (try exact zd)))
   repeat (go_quiet (first | (go_at_call 64; (with_reducible refine (impl_in.calls a0 0 40 true _ A4.out).mono ?_); rintro e w' ⟨rfl, ⟨nd, rfl⟩⟩; (try exact zd))); try go_wp2_with (first | (go_at_call 64; (with_reducible refine (impl_in.calls a0 0 40 true _ A4.out).mono ?_); rintro e w' ⟨rfl, ⟨nd, rfl⟩⟩; (try exact zd))))
   go_meet
   case rel => exact ⟨_, (decide ((l1.length : Int) > 20)), zf, H', ⟨by first | omega | exact Nat.le_refl _⟩, ⟨by repeat (first | (with_reducible first | exact HB.out | apply below_alloc | apply pw_below_drewN | apply below_drew1) | exact HB.out)⟩⟩
  ·replace c5 := Bool.eq_false_iff.mpr c5
   subst c5
   have H1 : (impl_goodHunks.j0 k a0 l1 true) = some r := by rw [if_neg (show ¬ (false = true) by decide)] at H; exact H
   clear H
   have H := H1
   clear H1
   have H' := am H
   clear H
   go_wp2_with (first | (go_at_call 64; (with_reducible refine (impl_in.calls a0 0 40 false _ A4.out).mono ?_); rintro e w' ⟨rfl, ⟨nd, rfl⟩⟩; (try exact zd)))
   repeat (go_quiet (first | (go_at_call 64; (with_reducible refine (impl_in.calls a0 0 40 false _ A4.out).mono ?_); rintro e w' ⟨rfl, ⟨nd, rfl⟩⟩; (try exact zd))); try go_wp2_with (first | (go_at_call 64; (with_reducible refine (impl_in.calls a0 0 40 false _ A4.out).mono ?_); rintro e w' ⟨rfl, ⟨nd, rfl⟩⟩; (try exact zd))))
   go_meet
   case rel => exact ⟨_, (true), zf, H', ⟨by first | omega | exact Nat.le_refl _⟩, ⟨by repeat (first | (with_reducible first | exact HB.out | apply below_alloc | apply pw_below_drewN | apply below_drew1) | exact HB.out)⟩⟩
 case rest =>
  clear HC3
  try clear c1
  try clear p2
  try clear c5
  obtain ⟨kq, x14_2, rfl, HA, HJ2, HB⟩ := hcut
  cases kq with
  | zero => exact absurd HA.out (by simp [impl_goodHunks.j0])
  | succ kj2 =>
   have H := HA.out
   clear HA
   simp only [impl_goodHunks.j0] at H
   by_cases c6 : x14_2 = true
   ·subst c6
    have H1 : (some false) = some r := by rw [if_pos rfl] at H; exact H
    clear H
    have H := H1
    clear H1
    obtain rfl := Option.some.inj H
    go_wp2
    repeat (go_quiet (fail); try go_wp2)
    go_ret
    exact ⟨by first | rfl | (simp [errW_none, errW_some] <;> rfl) | (simp [*, errW_none, errW_some] <;> rfl), by repeat (first | (with_reducible first | exact HB.out | apply below_alloc | apply pw_below_drewN | apply below_drew1) | exact HB.out)⟩
   ·replace c6 := Bool.eq_false_iff.mpr c6
    subst c6
    have H1 : (impl_goodHunks.l0 kj2 a0 l1 l1 (l1.length : Int) 0) = some r := by rw [if_neg (show ¬ (false = true) by decide)] at H; exact H
    clear H
    have H := H1
    clear H1
    have H' := am H
    clear H
    go_wp2
    repeat (go_quiet (fail); try go_wp2)
    go_loopg [17] kj2 (fun kq v17 w' => ∃ (x17_2 : Int), v17 = .int .i64 x17_2 ∧ Aside0 (impl_goodHunks.l0 kq a0 l1 l1 (l1.length : Int) x17_2 = some r) ∧ Aside0 (kq ≤ kj2) ∧ Aside0 (Below w.heap.size w w'))
    case atStart => exact ⟨(0), zf, H', ⟨Nat.le_refl _⟩, ⟨by repeat (first | (with_reducible first | exact HB.out | apply below_alloc | apply pw_below_drewN | apply below_drew1) | exact HB.out)⟩⟩
    case round =>
     clear H'
     try clear c1
     try clear p2
     try clear c5
     try clear c6
     try clear p2
     obtain ⟨x17_2, rfl, HA, HK2, HB⟩ := hrel
     cases gk with
     | zero => exact absurd HA.out (by simp [impl_goodHunks.l0])
     | succ k2 =>
      have H := HA.out
      clear HA
      simp only [impl_goodHunks.l0] at H
      by_cases c7 : x17_2 < (l1.length : Int)
      ·rw [if_pos c7] at H
       have c7b0 : decide (x17_2 < (l1.length : Int)) = true := decide_eq_true c7
       clear c7
       by_cases c8 : 0 ≤ x17_2
       ·rw [if_pos c8] at H
        have c8b0 : decide (0 ≤ x17_2) = true := decide_eq_true c8
        clear c8
        by_cases c9 : x17_2 < (l1.length : Int)
        ·rw [if_pos c9] at H
         have c9b0 : decide (x17_2 < (l1.length : Int)) = true := decide_eq_true c9
         clear c9
         have HC10 := am H
         clear H
         have p245 : 0 ≤ (x17_2 : Int) := oa
         have q245 : x17_2 < (l1.length : Int) := oa
         obtain ⟨ad245, A245_2, c245_2, e245, hx245_0, hx245_1, hx245_2, hl245_2, hi245_2⟩ := at_T106 HR1.out x17_2 p245 q245
         cases e245
         replace hx245_0 := (HB.out.cell (World.block_lt_of_cell? w _ hx245_0)).trans hx245_0
         replace hx245_1 := (HB.out.cell (World.block_lt_of_cell? w _ hx245_1)).trans hx245_1
         replace hx245_2 := (HB.out.cell (World.block_lt_of_cell? w _ hx245_2)).trans hx245_2
         have HR245_2 := am hi245_2
         have HC245_2 := am hl245_2
         clear hi245_2 hl245_2
         replace p245 := eq_true p245
         replace q245 := eq_true q245
         go_upto_region 6 with (first | ((with_reducible refine gate_dst (N := 6) rfl ?_); (try (refine gate_guard (by rfl) ?_; dsimp only)); refine box_event ?hg (N := 6) ?hd (cs := #[.int .i64 0, .int .i64 0, .slice none 0 0]) (t := 106) ?hr ?_; (case hd => rfl); (case hg => rfl); (case hr => first | (go_simp; done) | (go_simp; rfl)); intro gb246 hg w11 hbox hb; have n0_ := am (below_step zb hb); have n1_ := am (hbox); have n2_ := am ((by rw [hg]; exact (below_size zb) : w.heap.size ≤ gb246)); have n3_ := am ((by rw [hg]; exact (below_size zb) : w.heap.size ≤ gb246)); clear HB; have HB := n0_; have BK246 := n1_; have GW246 := n2_; have GE246 := n3_; clear n0_ n1_ n2_ n3_; clear hb hbox hg; have hcz12_0 : w11.cell? ⟨gb246, 0, none⟩ = some (.int .i64 0) := (blk_cell BK246.out 0).trans rfl; have hcz12_1 : w11.cell? ⟨gb246, 1, none⟩ = some (.int .i64 0) := (blk_cell BK246.out 1).trans rfl; have hcz12_2 : w11.cell? ⟨gb246, 2, none⟩ = some (.slice none 0 0) := (blk_cell BK246.out 2).trans rfl; have hfz12_0 := blk_frozen BK246.out 0; have hfz12_1 := blk_frozen BK246.out 1; have hfz12_2 := blk_frozen BK246.out 2))
         repeat (go_quiet (first | ((with_reducible refine gate_dst (N := 6) rfl ?_); (try (refine gate_guard (by rfl) ?_; dsimp only)); refine box_event ?hg (N := 6) ?hd (cs := #[.int .i64 0, .int .i64 0, .slice none 0 0]) (t := 106) ?hr ?_; (case hd => rfl); (case hg => rfl); (case hr => first | (go_simp; done) | (go_simp; rfl)); intro gb246 hg w11 hbox hb; have n0_ := am (below_step zb hb); have n1_ := am (hbox); have n2_ := am ((by rw [hg]; exact (below_size zb) : w.heap.size ≤ gb246)); have n3_ := am ((by rw [hg]; exact (below_size zb) : w.heap.size ≤ gb246)); clear HB; have HB := n0_; have BK246 := n1_; have GW246 := n2_; have GE246 := n3_; clear n0_ n1_ n2_ n3_; clear hb hbox hg; have hcz12_0 : w11.cell? ⟨gb246, 0, none⟩ = some (.int .i64 0) := (blk_cell BK246.out 0).trans rfl; have hcz12_1 : w11.cell? ⟨gb246, 1, none⟩ = some (.int .i64 0) := (blk_cell BK246.out 1).trans rfl; have hcz12_2 : w11.cell? ⟨gb246, 2, none⟩ = some (.slice none 0 0) := (blk_cell BK246.out 2).trans rfl; have hfz12_0 := blk_frozen BK246.out 0; have hfz12_1 := blk_frozen BK246.out 1; have hfz12_2 := blk_frozen BK246.out 2)); go_upto_region 6 with (first | ((with_reducible refine gate_dst (N := 6) rfl ?_); (try (refine gate_guard (by rfl) ?_; dsimp only)); refine box_event ?hg (N := 6) ?hd (cs := #[.int .i64 0, .int .i64 0, .slice none 0 0]) (t := 106) ?hr ?_; (case hd => rfl); (case hg => rfl); (case hr => first | (go_simp; done) | (go_simp; rfl)); intro gb246 hg w11 hbox hb; have n0_ := am (below_step zb hb); have n1_ := am (hbox); have n2_ := am ((by rw [hg]; exact (below_size zb) : w.heap.size ≤ gb246)); have n3_ := am ((by rw [hg]; exact (below_size zb) : w.heap.size ≤ gb246)); clear HB; have HB := n0_; have BK246 := n1_; have GW246 := n2_; have GE246 := n3_; clear n0_ n1_ n2_ n3_; clear hb hbox hg; have hcz12_0 : w11.cell? ⟨gb246, 0, none⟩ = some (.int .i64 0) := (blk_cell BK246.out 0).trans rfl; have hcz12_1 : w11.cell? ⟨gb246, 1, none⟩ = some (.int .i64 0) := (blk_cell BK246.out 1).trans rfl; have hcz12_2 : w11.cell? ⟨gb246, 2, none⟩ = some (.slice none 0 0) := (blk_cell BK246.out 2).trans rfl; have hfz12_0 := blk_frozen BK246.out 0; have hfz12_1 := blk_frozen BK246.out 1; have hfz12_2 := blk_frozen BK246.out 2)))
         (try simp only [Act.put, List.setIfInBounds_toArray, List.set_cons_zero, List.set_cons_succ])
         go_cut [53] (fun v53 wc => ∃ (kq : Nat) (x53_9 : Bool), v53 = .bool x53_9 ∧ Aside0 (impl_goodHunks.j2 kq a0 l1 x17_2 l1 (l1.length : Int) x17_2 x53_9 ((T106 l1 x17_2).f0) ((T106 l1 x17_2).f1) ((T106 l1 x17_2).f2) = some r) ∧ Aside0 (kq ≤ k2) ∧ Aside0 (wc.heap[gb246]? = some (.cells #[.int .i64 ((T106 l1 x17_2).f0), .int .i64 ((T106 l1 x17_2).f1), (.slice A245_2 ((T106 l1 x17_2).f2).length c245_2)] 106 (0, 0))) ∧ Aside0 (Below w.heap.size w wc))
         case first =>
          have H := HC10.out
          clear HC10
          replace H := Option.bind_eq_some_iff.mp H
          obtain ⟨t247, A130, H⟩ := H
          replace H : (if t247 = true then ((impl_in.f ((T106 l1 x17_2).f1) 0 (wrap64 (a0 - ((T106 l1 x17_2).f0)))).bind fun t248 => (if t248 = true then ((impl_areLines.f k2 ((T106 l1 x17_2).f2)).bind fun t249 => (if t249 = true then (if ((T106 l1 x17_2).f1) = 0 then (impl_goodHunks.j2 k2 a0 l1 x17_2 l1 (l1.length : Int) x17_2 ((((T106 l1 x17_2).f2).length : Int) == 0) ((T106 l1 x17_2).f0) ((T106 l1 x17_2).f1) ((T106 l1 x17_2).f2)) else (impl_goodHunks.j2 k2 a0 l1 x17_2 l1 (l1.length : Int) x17_2 false ((T106 l1 x17_2).f0) ((T106 l1 x17_2).f1) ((T106 l1 x17_2).f2))) else (impl_goodHunks.j2 k2 a0 l1 x17_2 l1 (l1.length : Int) x17_2 true ((T106 l1 x17_2).f0) ((T106 l1 x17_2).f1) ((T106 l1 x17_2).f2)))) else (impl_goodHunks.j2 k2 a0 l1 x17_2 l1 (l1.length : Int) x17_2 true ((T106 l1 x17_2).f0) ((T106 l1 x17_2).f1) ((T106 l1 x17_2).f2)))) else (impl_goodHunks.j2 k2 a0 l1 x17_2 l1 (l1.length : Int) x17_2 true ((T106 l1 x17_2).f0) ((T106 l1 x17_2).f1) ((T106 l1 x17_2).f2))) = some r := H
          have A13 := am A130
          clear A130
          by_cases c14 : t247 = true
          ·subst c14
           have H1 : ((impl_in.f ((T106 l1 x17_2).f1) 0 (wrap64 (a0 - ((T106 l1 x17_2).f0)))).bind fun t248 => (if t248 = true then ((impl_areLines.f k2 ((T106 l1 x17_2).f2)).bind fun t249 => (if t249 = true then (if ((T106 l1 x17_2).f1) = 0 then (impl_goodHunks.j2 k2 a0 l1 x17_2 l1 (l1.length : Int) x17_2 ((((T106 l1 x17_2).f2).length : Int) == 0) ((T106 l1 x17_2).f0) ((T106 l1 x17_2).f1) ((T106 l1 x17_2).f2)) else (impl_goodHunks.j2 k2 a0 l1 x17_2 l1 (l1.length : Int) x17_2 false ((T106 l1 x17_2).f0) ((T106 l1 x17_2).f1) ((T106 l1 x17_2).f2))) else (impl_goodHunks.j2 k2 a0 l1 x17_2 l1 (l1.length : Int) x17_2 true ((T106 l1 x17_2).f0) ((T106 l1 x17_2).f1) ((T106 l1 x17_2).f2)))) else (impl_goodHunks.j2 k2 a0 l1 x17_2 l1 (l1.length : Int) x17_2 true ((T106 l1 x17_2).f0) ((T106 l1 x17_2).f1) ((T106 l1 x17_2).f2)))) = some r := by rw [if_pos rfl] at H; exact H
           clear H
           have H := H1
           clear H1
           replace H := Option.bind_eq_some_iff.mp H
           obtain ⟨t248, A150, H⟩ := H
           replace H : (if t248 = true then ((impl_areLines.f k2 ((T106 l1 x17_2).f2)).bind fun t249 => (if t249 = true then (if ((T106 l1 x17_2).f1) = 0 then (impl_goodHunks.j2 k2 a0 l1 x17_2 l1 (l1.length : Int) x17_2 ((((T106 l1 x17_2).f2).length : Int) == 0) ((T106 l1 x17_2).f0) ((T106 l1 x17_2).f1) ((T106 l1 x17_2).f2)) else (impl_goodHunks.j2 k2 a0 l1 x17_2 l1 (l1.length : Int) x17_2 false ((T106 l1 x17_2).f0) ((T106 l1 x17_2).f1) ((T106 l1 x17_2).f2))) else (impl_goodHunks.j2 k2 a0 l1 x17_2 l1 (l1.length : Int) x17_2 true ((T106 l1 x17_2).f0) ((T106 l1 x17_2).f1) ((T106 l1 x17_2).f2)))) else (impl_goodHunks.j2 k2 a0 l1 x17_2 l1 (l1.length : Int) x17_2 true ((T106 l1 x17_2).f0) ((T106 l1 x17_2).f1) ((T106 l1 x17_2).f2))) = some r := H
           have A15 := am A150
           clear A150
           by_cases c16 : t248 = true
           ·subst c16
            have H1 : ((impl_areLines.f k2 ((T106 l1 x17_2).f2)).bind fun t249 => (if t249 = true then (if ((T106 l1 x17_2).f1) = 0 then (impl_goodHunks.j2 k2 a0 l1 x17_2 l1 (l1.length : Int) x17_2 ((((T106 l1 x17_2).f2).length : Int) == 0) ((T106 l1 x17_2).f0) ((T106 l1 x17_2).f1) ((T106 l1 x17_2).f2)) else (impl_goodHunks.j2 k2 a0 l1 x17_2 l1 (l1.length : Int) x17_2 false ((T106 l1 x17_2).f0) ((T106 l1 x17_2).f1) ((T106 l1 x17_2).f2))) else (impl_goodHunks.j2 k2 a0 l1 x17_2 l1 (l1.length : Int) x17_2 true ((T106 l1 x17_2).f0) ((T106 l1 x17_2).f1) ((T106 l1 x17_2).f2)))) = some r := by rw [if_pos rfl] at H; exact H
            clear H
            have H := H1
            clear H1
            replace H := Option.bind_eq_some_iff.mp H
            obtain ⟨t249, A170, H⟩ := H
            replace H : (if t249 = true then (if ((T106 l1 x17_2).f1) = 0 then (impl_goodHunks.j2 k2 a0 l1 x17_2 l1 (l1.length : Int) x17_2 ((((T106 l1 x17_2).f2).length : Int) == 0) ((T106 l1 x17_2).f0) ((T106 l1 x17_2).f1) ((T106 l1 x17_2).f2)) else (impl_goodHunks.j2 k2 a0 l1 x17_2 l1 (l1.length : Int) x17_2 false ((T106 l1 x17_2).f0) ((T106 l1 x17_2).f1) ((T106 l1 x17_2).f2))) else (impl_goodHunks.j2 k2 a0 l1 x17_2 l1 (l1.length : Int) x17_2 true ((T106 l1 x17_2).f0) ((T106 l1 x17_2).f1) ((T106 l1 x17_2).f2))) = some r := H
            have A17 := am A170
            clear A170
            by_cases c18 : t249 = true
            ·subst c18
             have H1 : (if ((T106 l1 x17_2).f1) = 0 then (impl_goodHunks.j2 k2 a0 l1 x17_2 l1 (l1.length : Int) x17_2 ((((T106 l1 x17_2).f2).length : Int) == 0) ((T106 l1 x17_2).f0) ((T106 l1 x17_2).f1) ((T106 l1 x17_2).f2)) else (impl_goodHunks.j2 k2 a0 l1 x17_2 l1 (l1.length : Int) x17_2 false ((T106 l1 x17_2).f0) ((T106 l1 x17_2).f1) ((T106 l1 x17_2).f2))) = some r := by rw [if_pos rfl] at H; exact H
             clear H
             have H := H1
             clear H1
             by_cases c19 : ((T106 l1 x17_2).f1) = 0
             ·rw [if_pos c19] at H
              have c19b0 : (((T106 l1 x17_2).f1) == 0) = true := beq_iff_eq.mpr c19
              have c19b1 : (((T106 l1 x17_2).f1) != 0) = false := bne_eq_false_iff_eq.mpr c19
              clear c19
              (first | rw [c19b0] | (simp only [i64_w, i32_w]; rw [c19b0]) | skip)
              have H' := am H
              clear H
              have hcz20_0 : w11.cell? ⟨gb246, 0, none⟩ = some (.int .i64 0) := (blk_cell BK246.out 0).trans rfl
              have hcz20_1 : w11.cell? ⟨gb246, 1, none⟩ = some (.int .i64 0) := (blk_cell BK246.out 1).trans rfl
              have hcz20_2 : w11.cell? ⟨gb246, 2, none⟩ = some (.slice none 0 0) := (blk_cell BK246.out 2).trans rfl
              have hfz20_0 := blk_frozen BK246.out 0
              have hfz20_1 := blk_frozen BK246.out 1
              have hfz20_2 := blk_frozen BK246.out 2
              go_wp2_with (first | (go_at_call 64; (with_reducible refine (impl_in.calls ((T106 l1 x17_2).f0) 0 a0 true _ A13.out).mono ?_); rintro e w' ⟨rfl, ⟨nd, rfl⟩⟩; (try exact zd)) | (go_at_call 64; (with_reducible refine (impl_in.calls ((T106 l1 x17_2).f1) 0 (wrap64 (a0 - ((T106 l1 x17_2).f0))) true _ A15.out).mono ?_); rintro e w' ⟨rfl, ⟨nd, rfl⟩⟩; (try exact zd)) | (go_at_call 125; (with_reducible refine (impl_areLines.calls k2 _ _ ((T106 l1 x17_2).f2) true _ ?side1 ?side2 A17.out).mono ?_); (case side1 => exact Kd.C_below HR245_2.out (by repeat (first | (with_reducible first | exact HB.out | apply below_alloc | apply pw_below_drewN | apply below_drew1 | refine below_set ?_ GE246.out) | exact HB.out))); (case side2 => exact HC245_2.out); rintro e w' ⟨rfl, ⟨nd, rfl⟩⟩; (try exact zd)))
              repeat (go_quiet (first | (go_at_call 64; (with_reducible refine (impl_in.calls ((T106 l1 x17_2).f0) 0 a0 true _ A13.out).mono ?_); rintro e w' ⟨rfl, ⟨nd, rfl⟩⟩; (try exact zd)) | (go_at_call 64; (with_reducible refine (impl_in.calls ((T106 l1 x17_2).f1) 0 (wrap64 (a0 - ((T106 l1 x17_2).f0))) true _ A15.out).mono ?_); rintro e w' ⟨rfl, ⟨nd, rfl⟩⟩; (try exact zd)) | (go_at_call 125; (with_reducible refine (impl_areLines.calls k2 _ _ ((T106 l1 x17_2).f2) true _ ?side1 ?side2 A17.out).mono ?_); (case side1 => exact Kd.C_below HR245_2.out (by repeat (first | (with_reducible first | exact HB.out | apply below_alloc | apply pw_below_drewN | apply below_drew1 | refine below_set ?_ GE246.out) | exact HB.out))); (case side2 => exact HC245_2.out); rintro e w' ⟨rfl, ⟨nd, rfl⟩⟩; (try exact zd))); try go_wp2_with (first | (go_at_call 64; (with_reducible refine (impl_in.calls ((T106 l1 x17_2).f0) 0 a0 true _ A13.out).mono ?_); rintro e w' ⟨rfl, ⟨nd, rfl⟩⟩; (try exact zd)) | (go_at_call 64; (with_reducible refine (impl_in.calls ((T106 l1 x17_2).f1) 0 (wrap64 (a0 - ((T106 l1 x17_2).f0))) true _ A15.out).mono ?_); rintro e w' ⟨rfl, ⟨nd, rfl⟩⟩; (try exact zd)) | (go_at_call 125; (with_reducible refine (impl_areLines.calls k2 _ _ ((T106 l1 x17_2).f2) true _ ?side1 ?side2 A17.out).mono ?_); (case side1 => exact Kd.C_below HR245_2.out (by repeat (first | (with_reducible first | exact HB.out | apply below_alloc | apply pw_below_drewN | apply below_drew1 | refine below_set ?_ GE246.out) | exact HB.out))); (case side2 => exact HC245_2.out); rintro e w' ⟨rfl, ⟨nd, rfl⟩⟩; (try exact zd))))
              go_meet
              case rel => exact ⟨_, (((((T106 l1 x17_2).f2).length : Int) == 0)), zf, H', ⟨by have := HJ2.out; have := HK2.out; first | omega | exact Nat.le_refl _⟩, ⟨by (with_reducible repeat (first | refine blk_drewN ?_ _ | refine blk_drew ?_ | refine blk_alloc ?_ _)); refine blk_put (cs := #[.int .i64 ((T106 l1 x17_2).f0), .int .i64 ((T106 l1 x17_2).f1), .slice none 0 0]) ?_ 2 _ rfl; (with_reducible repeat (first | refine blk_drewN ?_ _ | refine blk_drew ?_ | refine blk_alloc ?_ _)); refine blk_put (cs := #[.int .i64 ((T106 l1 x17_2).f0), .int .i64 0, .slice none 0 0]) ?_ 1 _ rfl; (with_reducible repeat (first | refine blk_drewN ?_ _ | refine blk_drew ?_ | refine blk_alloc ?_ _)); refine blk_put (cs := #[.int .i64 0, .int .i64 0, .slice none 0 0]) ?_ 0 _ rfl; (with_reducible repeat (first | refine blk_drewN ?_ _ | refine blk_drew ?_ | refine blk_alloc ?_ _)); exact BK246.out⟩, ⟨by repeat (first | (with_reducible first | exact HB.out | apply below_alloc | apply pw_below_drewN | apply below_drew1 | refine below_set ?_ GE246.out) | exact HB.out)⟩⟩
             ·rw [if_neg c19] at H
              have c19b0 : (((T106 l1 x17_2).f1) == 0) = false := beq_eq_false_iff_ne.mpr c19
              have c19b1 : (((T106 l1 x17_2).f1) != 0) = true := bne_iff_ne.mpr c19
              (first | rw [c19b0] | (simp only [i64_w, i32_w]; rw [c19b0]) | skip)
              have H' := am H
              clear H
              have hcz21_0 : w11.cell? ⟨gb246, 0, none⟩ = some (.int .i64 0) := (blk_cell BK246.out 0).trans rfl
              have hcz21_1 : w11.cell? ⟨gb246, 1, none⟩ = some (.int .i64 0) := (blk_cell BK246.out 1).trans rfl
              have hcz21_2 : w11.cell? ⟨gb246, 2, none⟩ = some (.slice none 0 0) := (blk_cell BK246.out 2).trans rfl
              have hfz21_0 := blk_frozen BK246.out 0
              have hfz21_1 := blk_frozen BK246.out 1
              have hfz21_2 := blk_frozen BK246.out 2
              go_wp2_with (first | (go_at_call 64; (with_reducible refine (impl_in.calls ((T106 l1 x17_2).f0) 0 a0 true _ A13.out).mono ?_); rintro e w' ⟨rfl, ⟨nd, rfl⟩⟩; (try exact zd)) | (go_at_call 64; (with_reducible refine (impl_in.calls ((T106 l1 x17_2).f1) 0 (wrap64 (a0 - ((T106 l1 x17_2).f0))) true _ A15.out).mono ?_); rintro e w' ⟨rfl, ⟨nd, rfl⟩⟩; (try exact zd)) | (go_at_call 125; (with_reducible refine (impl_areLines.calls k2 _ _ ((T106 l1 x17_2).f2) true _ ?side1 ?side2 A17.out).mono ?_); (case side1 => exact Kd.C_below HR245_2.out (by repeat (first | (with_reducible first | exact HB.out | apply below_alloc | apply pw_below_drewN | apply below_drew1 | refine below_set ?_ GE246.out) | exact HB.out))); (case side2 => exact HC245_2.out); rintro e w' ⟨rfl, ⟨nd, rfl⟩⟩; (try exact zd)))
              repeat (go_quiet (first | (go_at_call 64; (with_reducible refine (impl_in.calls ((T106 l1 x17_2).f0) 0 a0 true _ A13.out).mono ?_); rintro e w' ⟨rfl, ⟨nd, rfl⟩⟩; (try exact zd)) | (go_at_call 64; (with_reducible refine (impl_in.calls ((T106 l1 x17_2).f1) 0 (wrap64 (a0 - ((T106 l1 x17_2).f0))) true _ A15.out).mono ?_); rintro e w' ⟨rfl, ⟨nd, rfl⟩⟩; (try exact zd)) | (go_at_call 125; (with_reducible refine (impl_areLines.calls k2 _ _ ((T106 l1 x17_2).f2) true _ ?side1 ?side2 A17.out).mono ?_); (case side1 => exact Kd.C_below HR245_2.out (by repeat (first | (with_reducible first | exact HB.out | apply below_alloc | apply pw_below_drewN | apply below_drew1 | refine below_set ?_ GE246.out) | exact HB.out))); (case side2 => exact HC245_2.out); rintro e w' ⟨rfl, ⟨nd, rfl⟩⟩; (try exact zd))); try go_wp2_with (first | (go_at_call 64; (with_reducible refine (impl_in.calls ((T106 l1 x17_2).f0) 0 a0 true _ A13.out).mono ?_); rintro e w' ⟨rfl, ⟨nd, rfl⟩⟩; (try exact zd)) | (go_at_call 64; (with_reducible refine (impl_in.calls ((T106 l1 x17_2).f1) 0 (wrap64 (a0 - ((T106 l1 x17_2).f0))) true _ A15.out).mono ?_); rintro e w' ⟨rfl, ⟨nd, rfl⟩⟩; (try exact zd)) | (go_at_call 125; (with_reducible refine (impl_areLines.calls k2 _ _ ((T106 l1 x17_2).f2) true _ ?side1 ?side2 A17.out).mono ?_); (case side1 => exact Kd.C_below HR245_2.out (by repeat (first | (with_reducible first | exact HB.out | apply below_alloc | apply pw_below_drewN | apply below_drew1 | refine below_set ?_ GE246.out) | exact HB.out))); (case side2 => exact HC245_2.out); rintro e w' ⟨rfl, ⟨nd, rfl⟩⟩; (try exact zd))))
              go_meet
              case rel => exact ⟨_, (false), zf, H', ⟨by have := HJ2.out; have := HK2.out; first | omega | exact Nat.le_refl _⟩, ⟨by (with_reducible repeat (first | refine blk_drewN ?_ _ | refine blk_drew ?_ | refine blk_alloc ?_ _)); refine blk_put (cs := #[.int .i64 ((T106 l1 x17_2).f0), .int .i64 ((T106 l1 x17_2).f1), .slice none 0 0]) ?_ 2 _ rfl; (with_reducible repeat (first | refine blk_drewN ?_ _ | refine blk_drew ?_ | refine blk_alloc ?_ _)); refine blk_put (cs := #[.int .i64 ((T106 l1 x17_2).f0), .int .i64 0, .slice none 0 0]) ?_ 1 _ rfl; (with_reducible repeat (first | refine blk_drewN ?_ _ | refine blk_drew ?_ | refine blk_alloc ?_ _)); refine blk_put (cs := #[.int .i64 0, .int .i64 0, .slice none 0 0]) ?_ 0 _ rfl; (with_reducible repeat (first | refine blk_drewN ?_ _ | refine blk_drew ?_ | refine blk_alloc ?_ _)); exact BK246.out⟩, ⟨by repeat (first | (with_reducible first | exact HB.out | apply below_alloc | apply pw_below_drewN | apply below_drew1 | refine below_set ?_ GE246.out) | exact HB.out)⟩⟩
            ·replace c18 := Bool.eq_false_iff.mpr c18
             subst c18
             have H1 : (impl_goodHunks.j2 k2 a0 l1 x17_2 l1 (l1.length : Int) x17_2 true ((T106 l1 x17_2).f0) ((T106 l1 x17_2).f1) ((T106 l1 x17_2).f2)) = some r := by rw [if_neg (show ¬ (false = true) by decide)] at H; exact H
             clear H
             have H := H1
             clear H1
             have H' := am H
             clear H
             have hcz22_0 : w11.cell? ⟨gb246, 0, none⟩ = some (.int .i64 0) := (blk_cell BK246.out 0).trans rfl
             have hcz22_1 : w11.cell? ⟨gb246, 1, none⟩ = some (.int .i64 0) := (blk_cell BK246.out 1).trans rfl
             have hcz22_2 : w11.cell? ⟨gb246, 2, none⟩ = some (.slice none 0 0) := (blk_cell BK246.out 2).trans rfl
             have hfz22_0 := blk_frozen BK246.out 0
             have hfz22_1 := blk_frozen BK246.out 1
             have hfz22_2 := blk_frozen BK246.out 2
             go_wp2_with (first | (go_at_call 64; (with_reducible refine (impl_in.calls ((T106 l1 x17_2).f0) 0 a0 true _ A13.out).mono ?_); rintro e w' ⟨rfl, ⟨nd, rfl⟩⟩; (try exact zd)) | (go_at_call 64; (with_reducible refine (impl_in.calls ((T106 l1 x17_2).f1) 0 (wrap64 (a0 - ((T106 l1 x17_2).f0))) true _ A15.out).mono ?_); rintro e w' ⟨rfl, ⟨nd, rfl⟩⟩; (try exact zd)) | (go_at_call 125; (with_reducible refine (impl_areLines.calls k2 _ _ ((T106 l1 x17_2).f2) false _ ?side1 ?side2 A17.out).mono ?_); (case side1 => exact Kd.C_below HR245_2.out (by repeat (first | (with_reducible first | exact HB.out | apply below_alloc | apply pw_below_drewN | apply below_drew1 | refine below_set ?_ GE246.out) | exact HB.out))); (case side2 => exact HC245_2.out); rintro e w' ⟨rfl, ⟨nd, rfl⟩⟩; (try exact zd)))
             repeat (go_quiet (first | (go_at_call 64; (with_reducible refine (impl_in.calls ((T106 l1 x17_2).f0) 0 a0 true _ A13.out).mono ?_); rintro e w' ⟨rfl, ⟨nd, rfl⟩⟩; (try exact zd)) | (go_at_call 64; (with_reducible refine (impl_in.calls ((T106 l1 x17_2).f1) 0 (wrap64 (a0 - ((T106 l1 x17_2).f0))) true _ A15.out).mono ?_); rintro e w' ⟨rfl, ⟨nd, rfl⟩⟩; (try exact zd)) | (go_at_call 125; (with_reducible refine (impl_areLines.calls k2 _ _ ((T106 l1 x17_2).f2) false _ ?side1 ?side2 A17.out).mono ?_); (case side1 => exact Kd.C_below HR245_2.out (by repeat (first | (with_reducible first | exact HB.out | apply below_alloc | apply pw_below_drewN | apply below_drew1 | refine below_set ?_ GE246.out) | exact HB.out))); (case side2 => exact HC245_2.out); rintro e w' ⟨rfl, ⟨nd, rfl⟩⟩; (try exact zd))); try go_wp2_with (first | (go_at_call 64; (with_reducible refine (impl_in.calls ((T106 l1 x17_2).f0) 0 a0 true _ A13.out).mono ?_); rintro e w' ⟨rfl, ⟨nd, rfl⟩⟩; (try exact zd)) | (go_at_call 64; (with_reducible refine (impl_in.calls ((T106 l1 x17_2).f1) 0 (wrap64 (a0 - ((T106 l1 x17_2).f0))) true _ A15.out).mono ?_); rintro e w' ⟨rfl, ⟨nd, rfl⟩⟩; (try exact zd)) | (go_at_call 125; (with_reducible refine (impl_areLines.calls k2 _ _ ((T106 l1 x17_2).f2) false _ ?side1 ?side2 A17.out).mono ?_); (case side1 => exact Kd.C_below HR245_2.out (by repeat (first | (with_reducible first | exact HB.out | apply below_alloc | apply pw_below_drewN | apply below_drew1 | refine below_set ?_ GE246.out) | exact HB.out))); (case side2 => exact HC245_2.out); rintro e w' ⟨rfl, ⟨nd, rfl⟩⟩; (try exact zd))))
             go_meet
             case rel => exact ⟨_, (true), zf, H', ⟨by have := HJ2.out; have := HK2.out; first | omega | exact Nat.le_refl _⟩, ⟨by (with_reducible repeat (first | refine blk_drewN ?_ _ | refine blk_drew ?_ | refine blk_alloc ?_ _)); refine blk_put (cs := #[.int .i64 ((T106 l1 x17_2).f0), .int .i64 ((T106 l1 x17_2).f1), .slice none 0 0]) ?_ 2 _ rfl; (with_reducible repeat (first | refine blk_drewN ?_ _ | refine blk_drew ?_ | refine blk_alloc ?_ _)); refine blk_put (cs := #[.int .i64 ((T106 l1 x17_2).f0), .int .i64 0, .slice none 0 0]) ?_ 1 _ rfl; (with_reducible repeat (first | refine blk_drewN ?_ _ | refine blk_drew ?_ | refine blk_alloc ?_ _)); refine blk_put (cs := #[.int .i64 0, .int .i64 0, .slice none 0 0]) ?_ 0 _ rfl; (with_reducible repeat (first | refine blk_drewN ?_ _ | refine blk_drew ?_ | refine blk_alloc ?_ _)); exact BK246.out⟩, ⟨by repeat (first | (with_reducible first | exact HB.out | apply below_alloc | apply pw_below_drewN | apply below_drew1 | refine below_set ?_ GE246.out) | exact HB.out)⟩⟩
           ·replace c16 := Bool.eq_false_iff.mpr c16
            subst c16
            have H1 : (impl_goodHunks.j2 k2 a0 l1 x17_2 l1 (l1.length : Int) x17_2 true ((T106 l1 x17_2).f0) ((T106 l1 x17_2).f1) ((T106 l1 x17_2).f2)) = some r := by rw [if_neg (show ¬ (false = true) by decide)] at H; exact H
            clear H
            have H := H1
            clear H1
            have H' := am H
            clear H
            have hcz23_0 : w11.cell? ⟨gb246, 0, none⟩ = some (.int .i64 0) := (blk_cell BK246.out 0).trans rfl
            have hcz23_1 : w11.cell? ⟨gb246, 1, none⟩ = some (.int .i64 0) := (blk_cell BK246.out 1).trans rfl
            have hcz23_2 : w11.cell? ⟨gb246, 2, none⟩ = some (.slice none 0 0) := (blk_cell BK246.out 2).trans rfl
            have hfz23_0 := blk_frozen BK246.out 0
            have hfz23_1 := blk_frozen BK246.out 1
            have hfz23_2 := blk_frozen BK246.out 2
            go_wp2_with (first | (go_at_call 64; (with_reducible refine (impl_in.calls ((T106 l1 x17_2).f0) 0 a0 true _ A13.out).mono ?_); rintro e w' ⟨rfl, ⟨nd, rfl⟩⟩; (try exact zd)) | (go_at_call 64; (with_reducible refine (impl_in.calls ((T106 l1 x17_2).f1) 0 (wrap64 (a0 - ((T106 l1 x17_2).f0))) false _ A15.out).mono ?_); rintro e w' ⟨rfl, ⟨nd, rfl⟩⟩; (try exact zd)))
            repeat (go_quiet (first | (go_at_call 64; (with_reducible refine (impl_in.calls ((T106 l1 x17_2).f0) 0 a0 true _ A13.out).mono ?_); rintro e w' ⟨rfl, ⟨nd, rfl⟩⟩; (try exact zd)) | (go_at_call 64; (with_reducible refine (impl_in.calls ((T106 l1 x17_2).f1) 0 (wrap64 (a0 - ((T106 l1 x17_2).f0))) false _ A15.out).mono ?_); rintro e w' ⟨rfl, ⟨nd, rfl⟩⟩; (try exact zd))); try go_wp2_with (first | (go_at_call 64; (with_reducible refine (impl_in.calls ((T106 l1 x17_2).f0) 0 a0 true _ A13.out).mono ?_); rintro e w' ⟨rfl, ⟨nd, rfl⟩⟩; (try exact zd)) | (go_at_call 64; (with_reducible refine (impl_in.calls ((T106 l1 x17_2).f1) 0 (wrap64 (a0 - ((T106 l1 x17_2).f0))) false _ A15.out).mono ?_); rintro e w' ⟨rfl, ⟨nd, rfl⟩⟩; (try exact zd))))
            go_meet
            case rel => exact ⟨_, (true), zf, H', ⟨by have := HJ2.out; have := HK2.out; first | omega | exact Nat.le_refl _⟩, ⟨by (with_reducible repeat (first | refine blk_drewN ?_ _ | refine blk_drew ?_ | refine blk_alloc ?_ _)); refine blk_put (cs := #[.int .i64 ((T106 l1 x17_2).f0), .int .i64 ((T106 l1 x17_2).f1), .slice none 0 0]) ?_ 2 _ rfl; (with_reducible repeat (first | refine blk_drewN ?_ _ | refine blk_drew ?_ | refine blk_alloc ?_ _)); refine blk_put (cs := #[.int .i64 ((T106 l1 x17_2).f0), .int .i64 0, .slice none 0 0]) ?_ 1 _ rfl; (with_reducible repeat (first | refine blk_drewN ?_ _ | refine blk_drew ?_ | refine blk_alloc ?_ _)); refine blk_put (cs := #[.int .i64 0, .int .i64 0, .slice none 0 0]) ?_ 0 _ rfl; (with_reducible repeat (first | refine blk_drewN ?_ _ | refine blk_drew ?_ | refine blk_alloc ?_ _)); exact BK246.out⟩, ⟨by repeat (first | (with_reducible first | exact HB.out | apply below_alloc | apply pw_below_drewN | apply below_drew1 | refine below_set ?_ GE246.out) | exact HB.out)⟩⟩
          ·replace c14 := Bool.eq_false_iff.mpr c14
           subst c14
           have H1 : (impl_goodHunks.j2 k2 a0 l1 x17_2 l1 (l1.length : Int) x17_2 true ((T106 l1 x17_2).f0) ((T106 l1 x17_2).f1) ((T106 l1 x17_2).f2)) = some r := by rw [if_neg (show ¬ (false = true) by decide)] at H; exact H
           clear H
           have H := H1
           clear H1
           have H' := am H
           clear H
           have hcz24_0 : w11.cell? ⟨gb246, 0, none⟩ = some (.int .i64 0) := (blk_cell BK246.out 0).trans rfl
           have hcz24_1 : w11.cell? ⟨gb246, 1, none⟩ = some (.int .i64 0) := (blk_cell BK246.out 1).trans rfl
           have hcz24_2 : w11.cell? ⟨gb246, 2, none⟩ = some (.slice none 0 0) := (blk_cell BK246.out 2).trans rfl
           have hfz24_0 := blk_frozen BK246.out 0
           have hfz24_1 := blk_frozen BK246.out 1
           have hfz24_2 := blk_frozen BK246.out 2
           go_wp2_with (first | (go_at_call 64; (with_reducible refine (impl_in.calls ((T106 l1 x17_2).f0) 0 a0 false _ A13.out).mono ?_); rintro e w' ⟨rfl, ⟨nd, rfl⟩⟩; (try exact zd)))
           repeat (go_quiet (first | (go_at_call 64; (with_reducible refine (impl_in.calls ((T106 l1 x17_2).f0) 0 a0 false _ A13.out).mono ?_); rintro e w' ⟨rfl, ⟨nd, rfl⟩⟩; (try exact zd))); try go_wp2_with (first | (go_at_call 64; (with_reducible refine (impl_in.calls ((T106 l1 x17_2).f0) 0 a0 false _ A13.out).mono ?_); rintro e w' ⟨rfl, ⟨nd, rfl⟩⟩; (try exact zd))))
           go_meet
           case rel => exact ⟨_, (true), zf, H', ⟨by have := HJ2.out; have := HK2.out; first | omega | exact Nat.le_refl _⟩, ⟨by (with_reducible repeat (first | refine blk_drewN ?_ _ | refine blk_drew ?_ | refine blk_alloc ?_ _)); refine blk_put (cs := #[.int .i64 ((T106 l1 x17_2).f0), .int .i64 ((T106 l1 x17_2).f1), .slice none 0 0]) ?_ 2 _ rfl; (with_reducible repeat (first | refine blk_drewN ?_ _ | refine blk_drew ?_ | refine blk_alloc ?_ _)); refine blk_put (cs := #[.int .i64 ((T106 l1 x17_2).f0), .int .i64 0, .slice none 0 0]) ?_ 1 _ rfl; (with_reducible repeat (first | refine blk_drewN ?_ _ | refine blk_drew ?_ | refine blk_alloc ?_ _)); refine blk_put (cs := #[.int .i64 0, .int .i64 0, .slice none 0 0]) ?_ 0 _ rfl; (with_reducible repeat (first | refine blk_drewN ?_ _ | refine blk_drew ?_ | refine blk_alloc ?_ _)); exact BK246.out⟩, ⟨by repeat (first | (with_reducible first | exact HB.out | apply below_alloc | apply pw_below_drewN | apply below_drew1 | refine below_set ?_ GE246.out) | exact HB.out)⟩⟩
         case rest =>
          clear HC10
          try clear c1
          try clear c2
          try clear p2
          try clear q2
          try clear hx2
          try clear c5
          try clear c6
          try clear p6
          try clear c7
          try clear c7b0
          try clear c8
          try clear c8b0
          try clear c9
          try clear c9b0
          try clear c14
          try clear c16
          try clear c18
          try clear c19
          try clear c19b0
          try clear c19b1
          try clear c24
          try clear p24
          try clear q24
          try clear hx24
          try clear hcz12_0
          try clear hcz12_1
          try clear hcz12_2
          try clear hcz20_0
          try clear hcz20_1
          try clear hcz20_2
          try clear hcz21_0
          try clear hcz21_1
          try clear hcz21_2
          try clear hcz22_0
          try clear hcz22_1
          try clear hcz22_2
          try clear hcz23_0
          try clear hcz23_1
          try clear hcz23_2
          try clear hcz24_0
          try clear hcz24_1
          try clear hcz24_2
          try clear hfz12_0
          try clear hfz12_1
          try clear hfz12_2
          try clear hfz20_0
          try clear hfz20_1
          try clear hfz20_2
          try clear hfz21_0
          try clear hfz21_1
          try clear hfz21_2
          try clear hfz22_0
          try clear hfz22_1
          try clear hfz22_2
          try clear hfz23_0
          try clear hfz23_1
          try clear hfz23_2
          try clear hfz24_0
          try clear hfz24_1
          try clear hfz24_2
          try clear hx245_0
          try clear hx245_1
          try clear hx245_2
          try clear p2
          try clear p245
          try clear q245
          obtain ⟨kq, x53_9, rfl, HA, HJ9, BK246, HB⟩ := hcut
          cases kq with
          | zero => exact absurd HA.out (by simp [impl_goodHunks.j2])
          | succ kj9 =>
           have H := HA.out
           clear HA
           simp only [impl_goodHunks.j2] at H
           by_cases c25 : x53_9 = true
           ·subst c25
            have H1 : (some false) = some r := by rw [if_pos rfl] at H; exact H
            clear H
            have H := H1
            clear H1
            obtain rfl := Option.some.inj H
            go_wp2
            repeat (go_quiet (fail); try go_wp2)
            go_ret
            exact ⟨by first | rfl | (simp [errW_none, errW_some] <;> rfl) | (simp [*, errW_none, errW_some] <;> rfl), by repeat (first | (with_reducible first | exact HB.out | apply below_alloc | apply pw_below_drewN | apply below_drew1 | refine below_set ?_ GE246.out) | exact HB.out)⟩
           ·replace c25 := Bool.eq_false_iff.mpr c25
            subst c25
            have H1 : (if x17_2 > 0 then (if 0 ≤ (wrap64 (x17_2 - 1)) then (if (wrap64 (x17_2 - 1)) < (l1.length : Int) then (if ((T106 l1 x17_2).f0) ≤ (wrap64 (((T106 l1 (wrap64 (x17_2 - 1))).f0) + ((T106 l1 (wrap64 (x17_2 - 1))).f1))) then (some false) else (impl_goodHunks.l0 kj9 a0 l1 l1 (l1.length : Int) (wrap64 (x17_2 + 1)))) else (none)) else (none)) else (impl_goodHunks.l0 kj9 a0 l1 l1 (l1.length : Int) (wrap64 (x17_2 + 1)))) = some r := by rw [if_neg (show ¬ (false = true) by decide)] at H; exact H
            clear H
            have H := H1
            clear H1
            by_cases c26 : x17_2 > 0
            ·rw [if_pos c26] at H
             have c26b0 : decide (0 < x17_2) = true := decide_eq_true c26
             clear c26
             obtain ⟨ji27, hji27⟩ : ∃ j_ : Int, (wrap64 (x17_2 - 1)) = j_ := ⟨_, rfl⟩
             replace H : (if 0 ≤ (ji27) then (if (ji27) < (l1.length : Int) then (if ((T106 l1 x17_2).f0) ≤ (wrap64 (((T106 l1 (ji27)).f0) + ((T106 l1 (ji27)).f1))) then (some false) else (impl_goodHunks.l0 kj9 a0 l1 l1 (l1.length : Int) (wrap64 (x17_2 + 1)))) else (none)) else (none)) = some r := by first | (rw [hji27] at H; exact H) | (simp only [hji27] at H ⊢; exact H)
             have hji27w : (IntKind.i64.wrap (x17_2 - 1)) = ji27 := (i64_w _).trans hji27
             by_cases c28 : 0 ≤ (ji27)
             ·rw [if_pos c28] at H
              have c28b0 : decide (0 ≤ (ji27)) = true := decide_eq_true c28
              clear c28
              by_cases c29 : (ji27) < (l1.length : Int)
              ·rw [if_pos c29] at H
               have c29b0 : decide ((ji27) < (l1.length : Int)) = true := decide_eq_true c29
               clear c29
               by_cases c30 : ((T106 l1 x17_2).f0) ≤ (wrap64 (((T106 l1 (ji27)).f0) + ((T106 l1 (ji27)).f1)))
               ·rw [if_pos c30] at H
                have c30b0 : decide (((T106 l1 x17_2).f0) ≤ (wrap64 (((T106 l1 (ji27)).f0) + ((T106 l1 (ji27)).f1)))) = true := decide_eq_true c30
                clear c30
                obtain rfl := Option.some.inj H
                have hcz31_0 : wc.cell? ⟨gb246, 0, none⟩ = some (.int .i64 ((T106 l1 x17_2).f0)) := (blk_cell BK246.out 0).trans rfl
                have hcz31_1 : wc.cell? ⟨gb246, 1, none⟩ = some (.int .i64 ((T106 l1 x17_2).f1)) := (blk_cell BK246.out 1).trans rfl
                have hcz31_2 : wc.cell? ⟨gb246, 2, none⟩ = some (.slice A245_2 ((T106 l1 x17_2).f2).length c245_2) := (blk_cell BK246.out 2).trans rfl
                have hfz31_0 := blk_frozen BK246.out 0
                have hfz31_1 := blk_frozen BK246.out 1
                have hfz31_2 := blk_frozen BK246.out 2
                have p250 : 0 ≤ ((ji27) : Int) := oa
                have q250 : (ji27) < (l1.length : Int) := oa
                obtain ⟨ad250, A250_2, c250_2, e250, hx250_0, hx250_1, hx250_2, hl250_2, hi250_2⟩ := at_T106 HR1.out (ji27) p250 q250
                obtain rfl : ad245 = ad250 := (by injection e250)
                replace hx250_0 := (HB.out.cell (World.block_lt_of_cell? w _ hx250_0)).trans hx250_0
                replace hx250_1 := (HB.out.cell (World.block_lt_of_cell? w _ hx250_1)).trans hx250_1
                replace hx250_2 := (HB.out.cell (World.block_lt_of_cell? w _ hx250_2)).trans hx250_2
                have HR250_2 := am hi250_2
                have HC250_2 := am hl250_2
                clear hi250_2 hl250_2
                replace p250 := eq_true p250
                replace q250 := eq_true q250
                have p251 : 0 ≤ ((ji27) : Int) := oa
                have q251 : (ji27) < (l1.length : Int) := oa
                obtain ⟨ad251, A251_2, c251_2, e251, hx251_0, hx251_1, hx251_2, hl251_2, hi251_2⟩ := at_T106 HR1.out (ji27) p251 q251
                obtain rfl : ad245 = ad251 := (by injection e251)
                replace hx251_0 := (HB.out.cell (World.block_lt_of_cell? w _ hx251_0)).trans hx251_0
                replace hx251_1 := (HB.out.cell (World.block_lt_of_cell? w _ hx251_1)).trans hx251_1
                replace hx251_2 := (HB.out.cell (World.block_lt_of_cell? w _ hx251_2)).trans hx251_2
                have HR251_2 := am hi251_2
                have HC251_2 := am hl251_2
                clear hi251_2 hl251_2
                replace p251 := eq_true p251
                replace q251 := eq_true q251
                have ea_ := Option.some.inj (hx250_2.symm.trans hx251_2)
                injection ea_ with ea_ en_ ec_
                subst ea_
                subst ec_
                clear en_
                go_wp2
                repeat (go_quiet (fail); try go_wp2)
                go_ret
                exact ⟨by first | rfl | (simp [errW_none, errW_some] <;> rfl) | (simp only [← hji27]; first | rfl | (simp [errW_none, errW_some] <;> rfl)) | (simp [*, errW_none, errW_some] <;> rfl), by repeat (first | (with_reducible first | exact HB.out | apply below_alloc | apply pw_below_drewN | apply below_drew1 | refine below_set ?_ GE246.out) | exact HB.out)⟩
               ·rw [if_neg c30] at H
                have c30b0 : decide (((T106 l1 x17_2).f0) ≤ (wrap64 (((T106 l1 (ji27)).f0) + ((T106 l1 (ji27)).f1)))) = false := decide_eq_false c30
                clear c30
                have H' := am H
                clear H
                have hcz32_0 : wc.cell? ⟨gb246, 0, none⟩ = some (.int .i64 ((T106 l1 x17_2).f0)) := (blk_cell BK246.out 0).trans rfl
                have hcz32_1 : wc.cell? ⟨gb246, 1, none⟩ = some (.int .i64 ((T106 l1 x17_2).f1)) := (blk_cell BK246.out 1).trans rfl
                have hcz32_2 : wc.cell? ⟨gb246, 2, none⟩ = some (.slice A245_2 ((T106 l1 x17_2).f2).length c245_2) := (blk_cell BK246.out 2).trans rfl
                have hfz32_0 := blk_frozen BK246.out 0
                have hfz32_1 := blk_frozen BK246.out 1
                have hfz32_2 := blk_frozen BK246.out 2
                have p250 : 0 ≤ ((ji27) : Int) := oa
                have q250 : (ji27) < (l1.length : Int) := oa
                obtain ⟨ad250, A250_2, c250_2, e250, hx250_0, hx250_1, hx250_2, hl250_2, hi250_2⟩ := at_T106 HR1.out (ji27) p250 q250
                obtain rfl : ad245 = ad250 := (by injection e250)
                replace hx250_0 := (HB.out.cell (World.block_lt_of_cell? w _ hx250_0)).trans hx250_0
                replace hx250_1 := (HB.out.cell (World.block_lt_of_cell? w _ hx250_1)).trans hx250_1
                replace hx250_2 := (HB.out.cell (World.block_lt_of_cell? w _ hx250_2)).trans hx250_2
                have HR250_2 := am hi250_2
                have HC250_2 := am hl250_2
                clear hi250_2 hl250_2
                replace p250 := eq_true p250
                replace q250 := eq_true q250
                have p251 : 0 ≤ ((ji27) : Int) := oa
                have q251 : (ji27) < (l1.length : Int) := oa
                obtain ⟨ad251, A251_2, c251_2, e251, hx251_0, hx251_1, hx251_2, hl251_2, hi251_2⟩ := at_T106 HR1.out (ji27) p251 q251
                obtain rfl : ad245 = ad251 := (by injection e251)
                replace hx251_0 := (HB.out.cell (World.block_lt_of_cell? w _ hx251_0)).trans hx251_0
                replace hx251_1 := (HB.out.cell (World.block_lt_of_cell? w _ hx251_1)).trans hx251_1
                replace hx251_2 := (HB.out.cell (World.block_lt_of_cell? w _ hx251_2)).trans hx251_2
                have HR251_2 := am hi251_2
                have HC251_2 := am hl251_2
                clear hi251_2 hl251_2
                replace p251 := eq_true p251
                replace q251 := eq_true q251
                have ea_ := Option.some.inj (hx250_2.symm.trans hx251_2)
                injection ea_ with ea_ en_ ec_
                subst ea_
                subst ec_
                clear en_
                go_wp2
                repeat (go_quiet (fail); try go_wp2)
                go_roundg kj9
                case measure => have := HJ2.out; have := HK2.out; have := HJ9.out; omega
                case rel => exact ⟨(wrap64 (x17_2 + 1)), zf, H', ⟨by have := HJ2.out; have := HK2.out; have := HJ9.out; omega⟩, ⟨by repeat (first | (with_reducible first | exact HB.out | apply below_alloc | apply pw_below_drewN | apply below_drew1 | refine below_set ?_ GE246.out) | exact HB.out)⟩⟩
              ·rw [if_neg c29] at H
               exact absurd H (by simp)
             ·rw [if_neg c28] at H
              exact absurd H (by simp)
            ·rw [if_neg c26] at H
             have c26b0 : decide (0 < x17_2) = false := decide_eq_false c26
             clear c26
             have H' := am H
             clear H
             go_wp2
             repeat (go_quiet (fail); try go_wp2)
             go_roundg kj9
             case measure => have := HJ2.out; have := HK2.out; have := HJ9.out; omega
             case rel => exact ⟨(wrap64 (x17_2 + 1)), zf, H', ⟨by have := HJ2.out; have := HK2.out; have := HJ9.out; omega⟩, ⟨by repeat (first | (with_reducible first | exact HB.out | apply below_alloc | apply pw_below_drewN | apply below_drew1 | refine below_set ?_ GE246.out) | exact HB.out)⟩⟩
        ·rw [if_neg c9] at H
         exact absurd H (by simp)
       ·rw [if_neg c8] at H
        exact absurd H (by simp)
      ·rw [if_neg c7] at H
       have c7b0 : decide (x17_2 < (l1.length : Int)) = false := decide_eq_false c7
       clear c7
       obtain rfl := Option.some.inj H
       go_wp2
       repeat (go_quiet (fail); try go_wp2)
       go_ret
       exact ⟨by first | rfl | (simp [errW_none, errW_some] <;> rfl) | (simp [*, errW_none, errW_some] <;> rfl), by repeat (first | (with_reducible first | exact HB.out | apply below_alloc | apply pw_below_drewN | apply below_drew1) | exact HB.out)⟩

def stringslite_HasSuffix.f (a0 : ByteArray) (a1 : ByteArray) : Option (Bool) := if (a0.size : Int) ≥ (a1.size : Int) then (if 0 ≤ (wrap64 ((a0.size : Int) - (a1.size : Int))) then (if (wrap64 ((a0.size : Int) - (a1.size : Int))) ≤ (a0.size : Int) then (some ((a0.extract ((wrap64 ((a0.size : Int) - (a1.size : Int))) : Int).toNat a0.size).toList == a1.toList)) else (none)) else (none)) else (some false)
set_option maxHeartbeats 8000000 in
set_option maxRecDepth 100000 in
theorem stringslite_HasSuffix.calls (a0 : ByteArray) (a1 : ByteArray) (r : Bool) (w : World) (h : stringslite_HasSuffix.f a0 a1 = some r) :
  Calls Try.prog 158 #[.string a0, .string a1] w fun e w' => e = .returned (.bool r) ∧ Drawn0 w w' := by
 have H : (if (a0.size : Int) ≥ (a1.size : Int) then (if 0 ≤ (wrap64 ((a0.size : Int) - (a1.size : Int))) then (if (wrap64 ((a0.size : Int) - (a1.size : Int))) ≤ (a0.size : Int) then (some ((a0.extract ((wrap64 ((a0.size : Int) - (a1.size : Int))) : Int).toNat a0.size).toList == a1.toList)) else (none)) else (none)) else (some false)) = some r := h
 clear h
 by_cases c3 : (a0.size : Int) ≥ (a1.size : Int)
 ·rw [if_pos c3] at H
  have c3b0 : decide ((a1.size : Int) ≤ (a0.size : Int)) = true := decide_eq_true c3
  have c3b1 : decide (a1.size ≤ a0.size) = true := decide_eq_true (Int.ofNat_le.mp c3)
  clear c3
  obtain ⟨ji4, hji4⟩ : ∃ j_ : Int, (wrap64 ((a0.size : Int) - (a1.size : Int))) = j_ := ⟨_, rfl⟩
  replace H : (if 0 ≤ (ji4) then (if (ji4) ≤ (a0.size : Int) then (some ((a0.extract ((ji4) : Int).toNat a0.size).toList == a1.toList)) else (none)) else (none)) = some r := by first | (rw [hji4] at H; exact H) | (simp only [hji4] at H ⊢; exact H)
  have hji4w : (IntKind.i64.wrap ((a0.size : Int) - (a1.size : Int))) = ji4 := (i64_w _).trans hji4
  by_cases c5 : 0 ≤ (ji4)
  ·rw [if_pos c5] at H
   have c5b0 := eq_true c5
   have c5b1 : decide (0 ≤ (ji4)) = true := decide_eq_true c5
   clear c5
   by_cases c6 : (ji4) ≤ (a0.size : Int)
   ·rw [if_pos c6] at H
    have c6b0 := eq_true c6
    have c6b1 : decide ((ji4) ≤ (a0.size : Int)) = true := decide_eq_true c6
    clear c6
    obtain rfl := Option.some.inj H
    go_enter Try.func158, Try.ntmps158
    go_wp2
    go_ret
    exact ⟨by first | rfl | (simp; done) | (simp only [← hji4] <;> (first | rfl | simp)) | (simp [*]; done), by repeat (first | exact Drawn0.refl _ | apply Drawn0.step)⟩
   ·rw [if_neg c6] at H
    exact absurd H (by simp)
  ·rw [if_neg c5] at H
   exact absurd H (by simp)
 ·rw [if_neg c3] at H
  have c3b0 : decide ((a1.size : Int) ≤ (a0.size : Int)) = false := decide_eq_false c3
  have c3b1 : decide (a1.size ≤ a0.size) = false := decide_eq_false (fun h => c3 (Int.ofNat_le.mpr h))
  clear c3
  obtain rfl := Option.some.inj H
  go_enter Try.func158, Try.ntmps158
  go_wp2
  go_ret
  exact ⟨by first | rfl | (simp; done) | (simp [*]; done), by repeat (first | exact Drawn0.refl _ | apply Drawn0.step)⟩

def strings_HasSuffix.f (a0 : ByteArray) (a1 : ByteArray) : Option (Bool) := (stringslite_HasSuffix.f a0 a1).bind fun t239 => (some t239)
set_option maxHeartbeats 8000000 in
set_option maxRecDepth 100000 in
theorem strings_HasSuffix.calls (a0 : ByteArray) (a1 : ByteArray) (r : Bool) (w : World) (h : strings_HasSuffix.f a0 a1 = some r) :
  Calls Try.prog 149 #[.string a0, .string a1] w fun e w' => e = .returned (.bool r) ∧ Drawn0 w w' := by
 have H : ((stringslite_HasSuffix.f a0 a1).bind fun t239 => (some t239)) = some r := h
 clear h
 replace H := Option.bind_eq_some_iff.mp H
 obtain ⟨t239, A30, H⟩ := H
 replace H : (some t239) = some r := H
 have A3 := am A30
 clear A30
 obtain rfl := Option.some.inj H
 go_enter Try.func149, Try.ntmps149
 go_wp2_with (first | ((with_reducible refine gateC (f := 158) rfl ?_); refine goesL_ (some 7) rfl rfl Try.func158 (by kernel_rfl) rfl #[.string a0, .string a1] rfl zm ?_; (with_reducible refine (stringslite_HasSuffix.calls a0 a1 t239 _ A3.out).mono ?_); rintro e w' ⟨rfl, ⟨nd, rfl⟩⟩; refine ⟨_, rfl, ?_⟩))
 go_ret
 exact ⟨by first | rfl | (simp; done) | (simp [*]; done), by repeat (first | exact Drawn0.refl _ | apply Drawn0.step)⟩

def impl_isEnded.f (a0 : ByteArray) : Option (Bool) := (strings_HasSuffix.f a0 (⟨#[10]⟩ : ByteArray)).bind fun t240 => (some t240)
set_option maxHeartbeats 8000000 in
set_option maxRecDepth 100000 in
theorem impl_isEnded.calls (a0 : ByteArray) (r : Bool) (w : World) (h : impl_isEnded.f a0 = some r) :
  Calls Try.prog 126 #[.string a0] w fun e w' => e = .returned (.bool r) ∧ Drawn0 w w' := by
 have H : ((strings_HasSuffix.f a0 (⟨#[10]⟩ : ByteArray)).bind fun t240 => (some t240)) = some r := h
 clear h
 replace H := Option.bind_eq_some_iff.mp H
 obtain ⟨t240, A20, H⟩ := H
 replace H : (some t240) = some r := H
 have A2 := am A20
 clear A20
 obtain rfl := Option.some.inj H
 go_enter Try.func126, Try.ntmps126
 go_wp2_with (first | ((with_reducible refine gateC (f := 149) rfl ?_); refine goesL_ (some 4) rfl rfl Try.func149 (by kernel_rfl) rfl #[.string a0, .string (⟨#[10]⟩ : ByteArray)] rfl zm ?_; (with_reducible refine (strings_HasSuffix.calls a0 (⟨#[10]⟩ : ByteArray) t240 _ A2.out).mono ?_); rintro e w' ⟨rfl, ⟨nd, rfl⟩⟩; refine ⟨_, rfl, ?_⟩))
 go_ret
 exact ⟨by first | rfl | (simp; done) | (simp [*]; done), by repeat (first | exact Drawn0.refl _ | apply Drawn0.step)⟩

def impl_goodLines.l0 : Nat → List ByteArray → List ByteArray → Int → Int → Option (Bool)
 | 0, _, _, _, _ => none
 | k + 1, x0, x8, x9, x10 => if x10 < x9 then (if 0 ≤ x10 then (if x10 < (x8.length : Int) then (if x10 < (wrap64 ((x0.length : Int) - 1)) then ((impl_isEnded.f (rdOf ByteArray.empty x8 x10)).bind fun t243 => (if t243 = true then (impl_goodLines.l0 k x0 x8 x9 (wrap64 (x10 + 1))) else (some false))) else (impl_goodLines.l0 k x0 x8 x9 (wrap64 (x10 + 1)))) else (none)) else (none)) else (some true)
def impl_goodLines.f (k : Nat) (l0 : List ByteArray) : Option (Bool) := (impl_areLines.f k l0).bind fun t241 => (if t241 = true then (impl_goodLines.l0 k l0 l0 (l0.length : Int) 0) else (some false))
set_option maxHeartbeats 8000000 in
set_option maxRecDepth 100000 in
theorem impl_goodLines.calls (k : Nat) (A0 : Option Addr) (c0 : Nat) (l0 : List ByteArray) (r : Bool) (w : World) (hr0 : Kd.C Kd.string w A0 l0.length l0) (hc0 : l0.length ≤ c0) (h : impl_goodLines.f k l0 = some r) :
  Calls Try.prog 63 #[.slice A0 l0.length c0] w fun e w' => e = .returned (.bool r) ∧ Drawn0 w w' := by
 have HR0 := am hr0
 have HC0 := am hc0
 clear hr0 hc0
 have H : ((impl_areLines.f k l0).bind fun t241 => (if t241 = true then (impl_goodLines.l0 k l0 l0 (l0.length : Int) 0) else (some false))) = some r := h
 clear h
 replace H := Option.bind_eq_some_iff.mp H
 obtain ⟨t241, A20, H⟩ := H
 replace H : (if t241 = true then (impl_goodLines.l0 k l0 l0 (l0.length : Int) 0) else (some false)) = some r := H
 have A2 := am A20
 clear A20
 by_cases c3 : t241 = true
 ·subst c3
  have H1 : (impl_goodLines.l0 k l0 l0 (l0.length : Int) 0) = some r := by rw [if_pos rfl] at H; exact H
  clear H
  have H := H1
  clear H1
  have H' := am H
  clear H
  go_enter Try.func63, Try.ntmps63
  go_wp2_with (first | ((with_reducible refine gateC (f := 125) rfl ?_); refine goesL_ (some 6) rfl rfl Try.func125 (by kernel_rfl) rfl #[.slice A0 l0.length c0] rfl zm ?_; (with_reducible refine (impl_areLines.calls k _ _ l0 true _ ?side1 ?side2 A2.out).mono ?_); (case side1 => exact zq HR0.out); (case side2 => exact HC0.out); rintro e w' ⟨rfl, ⟨nd, rfl⟩⟩; refine ⟨_, rfl, ?_⟩))
  go_loopg [10] k (fun kq v10 w' => ∃ (x10_1 : Int), v10 = .int .i64 x10_1 ∧ Aside0 (impl_goodLines.l0 kq l0 l0 (l0.length : Int) x10_1 = some r) ∧ Aside0 (kq ≤ k) ∧ Drawn0 w w')
  case atStart => exact ⟨(0), zf, H', ⟨Nat.le_refl _⟩, by repeat (first | exact Drawn0.refl _ | apply Drawn0.step)⟩
  case round =>
   clear H'
   try clear c1
   try clear p2
   try clear c3
   obtain ⟨x10_1, rfl, HA, HK1, ⟨m1, rfl⟩⟩ := hrel
   cases gk with
   | zero => exact absurd HA.out (by simp [impl_goodLines.l0])
   | succ k1 =>
    have H := HA.out
    clear HA
    simp only [impl_goodLines.l0] at H
    by_cases c4 : x10_1 < (l0.length : Int)
    ·rw [if_pos c4] at H
     have c4b0 : decide (x10_1 < (l0.length : Int)) = true := decide_eq_true c4
     clear c4
     by_cases c5 : 0 ≤ x10_1
     ·rw [if_pos c5] at H
      have c5b0 : decide (0 ≤ x10_1) = true := decide_eq_true c5
      clear c5
      by_cases c6 : x10_1 < (l0.length : Int)
      ·rw [if_pos c6] at H
       have c6b0 : decide (x10_1 < (l0.length : Int)) = true := decide_eq_true c6
       clear c6
       by_cases c7 : x10_1 < (wrap64 ((l0.length : Int) - 1))
       ·rw [if_pos c7] at H
        have c7b0 : decide (x10_1 < (wrap64 ((l0.length : Int) - 1))) = true := decide_eq_true c7
        clear c7
        replace H := Option.bind_eq_some_iff.mp H
        obtain ⟨t243, A80, H⟩ := H
        replace H : (if t243 = true then (impl_goodLines.l0 k1 l0 l0 (l0.length : Int) (wrap64 (x10_1 + 1))) else (some false)) = some r := H
        have A8 := am A80
        clear A80
        by_cases c9 : t243 = true
        ·subst c9
         have H1 : (impl_goodLines.l0 k1 l0 l0 (l0.length : Int) (wrap64 (x10_1 + 1))) = some r := by rw [if_pos rfl] at H; exact H
         clear H
         have H := H1
         clear H1
         have H' := am H
         clear H
         have p242 : 0 ≤ (x10_1 : Int) := oa
         have q242 : x10_1 < (l0.length : Int) := oa
         obtain ⟨ad242, e242, hx242_0⟩ := Kd.at_string HR0.out x10_1 p242 q242
         cases e242
         replace p242 := eq_true p242
         replace q242 := eq_true q242
         go_wp2_with (first | (go_at_call 126; (with_reducible refine (impl_isEnded.calls (rdOf ByteArray.empty l0 x10_1) true _ A8.out).mono ?_); rintro e w' ⟨rfl, ⟨nd, rfl⟩⟩))
         go_roundg k1
         case measure => have := HK1.out; omega
         case rel => exact ⟨(wrap64 (x10_1 + 1)), zf, H', ⟨by have := HK1.out; omega⟩, by repeat (first | exact Drawn0.refl _ | apply Drawn0.step)⟩
        ·replace c9 := Bool.eq_false_iff.mpr c9
         subst c9
         have H1 : (some false) = some r := by rw [if_neg (show ¬ (false = true) by decide)] at H; exact H
         clear H
         have H := H1
         clear H1
         obtain rfl := Option.some.inj H
         have p242 : 0 ≤ (x10_1 : Int) := oa
         have q242 : x10_1 < (l0.length : Int) := oa
         obtain ⟨ad242, e242, hx242_0⟩ := Kd.at_string HR0.out x10_1 p242 q242
         cases e242
         replace p242 := eq_true p242
         replace q242 := eq_true q242
         go_wp2_with (first | (go_at_call 126; (with_reducible refine (impl_isEnded.calls (rdOf ByteArray.empty l0 x10_1) false _ A8.out).mono ?_); rintro e w' ⟨rfl, ⟨nd, rfl⟩⟩))
         go_ret
         exact ⟨by first | rfl | (simp; done) | (simp [*]; done), by repeat (first | exact Drawn0.refl _ | apply Drawn0.step)⟩
       ·rw [if_neg c7] at H
        have c7b0 : decide (x10_1 < (wrap64 ((l0.length : Int) - 1))) = false := decide_eq_false c7
        clear c7
        have H' := am H
        clear H
        have p242 : 0 ≤ (x10_1 : Int) := oa
        have q242 : x10_1 < (l0.length : Int) := oa
        obtain ⟨ad242, e242, hx242_0⟩ := Kd.at_string HR0.out x10_1 p242 q242
        cases e242
        replace p242 := eq_true p242
        replace q242 := eq_true q242
        go_wp2
        go_roundg k1
        case measure => have := HK1.out; omega
        case rel => exact ⟨(wrap64 (x10_1 + 1)), zf, H', ⟨by have := HK1.out; omega⟩, by repeat (first | exact Drawn0.refl _ | apply Drawn0.step)⟩
      ·rw [if_neg c6] at H
       exact absurd H (by simp)
     ·rw [if_neg c5] at H
      exact absurd H (by simp)
    ·rw [if_neg c4] at H
     have c4b0 : decide (x10_1 < (l0.length : Int)) = false := decide_eq_false c4
     clear c4
     obtain rfl := Option.some.inj H
     go_wp2
     go_ret
     exact ⟨by first | rfl | (simp; done) | (simp [*]; done), by repeat (first | exact Drawn0.refl _ | apply Drawn0.step)⟩
 ·replace c3 := Bool.eq_false_iff.mpr c3
  subst c3
  have H1 : (some false) = some r := by rw [if_neg (show ¬ (false = true) by decide)] at H; exact H
  clear H
  have H := H1
  clear H1
  obtain rfl := Option.some.inj H
  go_enter Try.func63, Try.ntmps63
  go_wp2_with (first | ((with_reducible refine gateC (f := 125) rfl ?_); refine goesL_ (some 6) rfl rfl Try.func125 (by kernel_rfl) rfl #[.slice A0 l0.length c0] rfl zm ?_; (with_reducible refine (impl_areLines.calls k _ _ l0 false _ ?side1 ?side2 A2.out).mono ?_); (case side1 => exact zq HR0.out); (case side2 => exact HC0.out); rintro e w' ⟨rfl, ⟨nd, rfl⟩⟩; refine ⟨_, rfl, ?_⟩))
  go_ret
  exact ⟨by first | rfl | (simp; done) | (simp [*]; done), by repeat (first | exact Drawn0.refl _ | apply Drawn0.step)⟩

def impl_patched.l0 : Nat → List ByteArray → List ByteArray → Int → List (S106) → Int → Int → Option (List ByteArray)
 | 0, _, _, _, _, _, _ => none
 | k + 1, x0, x5, x6, x10, x11, x12 => if x12 < x11 then (if 0 ≤ x12 then (if x12 < (x10.length : Int) then (if 0 ≤ x6 then (if x6 ≤ ((T106 x10 x12).f0) then (if ((T106 x10 x12).f0) ≤ (x0.length : Int) then (if x5.length + ((x0.take (((T106 x10 x12).f0) : Int).toNat).drop (x6 : Int).toNat).length < 8796093022208 then ((some (x5 ++ ((x0.take (((T106 x10 x12).f0) : Int).toNat).drop (x6 : Int).toNat) : List ByteArray)).bind fun y258 => (if y258.length + ((T106 x10 x12).f2).length < 8796093022208 then (impl_patched.l0 k x0 (y258 ++ ((T106 x10 x12).f2)) (wrap64 (((T106 x10 x12).f0) + ((T106 x10 x12).f1))) x10 x11 (wrap64 (x12 + 1))) else (none))) else (none)) else (none)) else (none)) else (none)) else (none)) else (none)) else (if 0 ≤ x6 then (if x6 ≤ (x0.length : Int) then (if x5.length + (x0.drop (x6 : Int).toNat).length < 8796093022208 then (some (x5 ++ (x0.drop (x6 : Int).toNat))) else (none)) else (none)) else (none))
def impl_patched.f (k : Nat) (l0 : List ByteArray) (l1 : List (S106)) : Option (List ByteArray) := impl_patched.l0 k l0 (([] : List ByteArray)) 0 l1 (l1.length : Int) 0
def impl_patched.T5 : Bool × List (List Nat × List Nat) := (true, [([], []), ([], []), ([], []), ([], []), ([3], [3]), ([1, 2, 4], [1, 2, 4]), ([0, 5], [0, 5]), ([], []), ([7], [7]), ([6, 8, 6], [6, 8]), ([9, 9, 0, 1, 2, 3, 4, 5, 6, 7, 8, 9], [0, 9])])
def impl_patched.B5 : List Nat := [0, 0, 0, 0, 8, 30, 63, 0, 128, 511, 1023]
theorem impl_patched.tab5 : rtab .any (opsOf Try.f91 5) = impl_patched.T5 := by kernel_rfl
theorem impl_patched.bits5 : waitsOk impl_patched.T5.2 impl_patched.B5 = true := by kernel_rfl
set_option maxHeartbeats 8000000 in
set_option maxRecDepth 100000 in
theorem impl_patched.calls (k : Nat) (A0 : Option Addr) (c0 : Nat) (l0 : List ByteArray) (A1 : Option Addr) (c1 : Nat) (l1 : List (S106)) (r : List ByteArray) (w : World) (hr0 : Kd.C Kd.string w A0 l0.length l0) (hc0 : l0.length ≤ c0) (hr1 : Kd.C k106 w A1 l1.length l1) (hc1 : l1.length ≤ c1) (h : impl_patched.f k l0 l1 = some r) :
  Calls Try.prog 91 #[.slice A0 l0.length c0, .slice A1 l1.length c1] w fun e w' => ∃ v0_ : Value, e = .returned (v0_) ∧ Kd.R Kd.string 9 w' w.heap.size (fun _ => True) v0_ r ∧ Below w.heap.size w w' := by
 have hu106 := Try.underlying106
 have HR0 := am hr0
 have HC0 := am hc0
 clear hr0 hc0
 have HR1 := am hr1
 have HC1 := am hc1
 clear hr1 hc1
 have HB := am (Below.refl w.heap.size w)
 have H : (impl_patched.l0 k l0 (([] : List ByteArray)) 0 l1 (l1.length : Int) 0) = some r := h
 clear h
 obtain ⟨y252, hy252⟩ : ∃ y_ : List ByteArray, y_ = (([] : List ByteArray)) := ⟨_, rfl⟩
 replace H : (impl_patched.l0 k l0 y252 0 l1 (l1.length : Int) 0) = some r := by first | (rw [hy252]; with_reducible exact H) | (have H2_ := (Option.bind_some _ _).symm.trans H; rw [hy252]; with_reducible exact H2_) | (have H2_ := (Option.bind_some _ _).symm.trans H; with_reducible exact H2_) | with_reducible exact H | (rw [hy252]; exact H) | exact H
 have Ny252 := am hy252
 clear hy252
 have H' := am H
 clear H
 go_enter Try.func91, Try.ntmps91
 go_wp2_with (first | ((with_reducible refine gate_dst (N := 9) rfl ?_); refine Kd.R_lit Kd.string _ 9 ?hg (N := 9) ?hd (xs := ([] : List ByteArray)) (inner := []) (ok := fun _ => True) (okp := fun _ => True) ?hr ?hp (fun _ hk => hk) trivial (Below.refl _ _) (Nat.le_refl _) (by simp) ?_; (case hd => rfl); (case hg => rfl); (case hr => first | (go_simp; done) | (go_simp; rfl)); (case hp => exact (Reps.none _ _)); intro v253 w3 ho4 hb hg_ hnew_; clear hg_ hnew_; (first | rw [← Ny252.out] at ho4 | (simp only [Int.reduceToNat] at ho4; rw [← Ny252.out] at ho4)); have n0_ := am (Kd.R_lower ho4 (below_size zb)); have n1_ := am (below_step zb hb); clear HB; have HO254 := n0_; have HB := n1_; clear n0_ n1_; clear hb ho4))
 go_loopg [5, 6, 12] k (fun kq v5 v6 v12 w' => ∃ (x5_1 : List ByteArray) (x6_1 : Int) (x12_1 : Int), v6 = .int .i64 x6_1 ∧ v12 = .int .i64 x12_1 ∧ Aside0 (impl_patched.l0 kq l0 x5_1 x6_1 l1 (l1.length : Int) x12_1 = some r) ∧ Aside0 (kq ≤ k) ∧ Aside0 (Kd.R Kd.string 9 w' w.heap.size (fun _ => True) v5 x5_1) ∧ Aside0 (Below w.heap.size w w'))
 case atStart => exact ⟨(y252), (0), (0), zf, zf, H', ⟨Nat.le_refl _⟩, ⟨by (with_reducible repeat (first | apply Kd.R_alloc | apply Kd.R_drewN | apply Kd.R_drew)); exact HO254.out⟩, ⟨by repeat (first | (with_reducible first | exact HB.out | apply below_alloc | apply pw_below_drewN | apply below_drew1) | exact HB.out)⟩⟩
 case round =>
  clear H'
  try clear c1
  try clear p2
  obtain ⟨x5_1, x6_1, x12_1, rfl, rfl, HA, HK1, HO_5, HB⟩ := hrel
  cases gk with
  | zero => exact absurd HA.out (by simp [impl_patched.l0])
  | succ k1 =>
   have H := HA.out
   clear HA
   simp only [impl_patched.l0] at H
   by_cases c5 : x12_1 < (l1.length : Int)
   ·rw [if_pos c5] at H
    have c5b0 : decide (x12_1 < (l1.length : Int)) = true := decide_eq_true c5
    clear c5
    by_cases c6 : 0 ≤ x12_1
    ·rw [if_pos c6] at H
     have c6b0 : decide (0 ≤ x12_1) = true := decide_eq_true c6
     clear c6
     by_cases c7 : x12_1 < (l1.length : Int)
     ·rw [if_pos c7] at H
      have c7b0 : decide (x12_1 < (l1.length : Int)) = true := decide_eq_true c7
      clear c7
      by_cases c8 : 0 ≤ x6_1
      ·rw [if_pos c8] at H
       have c8b0 := eq_true c8
       have c8b1 : decide (0 ≤ x6_1) = true := decide_eq_true c8
       clear c8
       by_cases c9 : x6_1 ≤ ((T106 l1 x12_1).f0)
       ·rw [if_pos c9] at H
        have c9b0 := eq_true c9
        have c9b1 : decide (x6_1 ≤ ((T106 l1 x12_1).f0)) = true := decide_eq_true c9
        clear c9
        by_cases c10 : ((T106 l1 x12_1).f0) ≤ (l0.length : Int)
        ·rw [if_pos c10] at H
         have c10b0 := eq_true c10
         have c10b1 : decide (((T106 l1 x12_1).f0) ≤ (l0.length : Int)) = true := decide_eq_true c10
         clear c10
         by_cases c11 : x5_1.length + ((l0.take (((T106 l1 x12_1).f0) : Int).toNat).drop (x6_1 : Int).toNat).length < 8796093022208
         ·rw [if_pos c11] at H
          have LMc11 := am c11
          clear c11
          obtain ⟨y258, hy258⟩ : ∃ y_ : List ByteArray, y_ = (x5_1 ++ ((l0.take (((T106 l1 x12_1).f0) : Int).toNat).drop (x6_1 : Int).toNat)) := ⟨_, rfl⟩
          replace H : (if y258.length + ((T106 l1 x12_1).f2).length < 8796093022208 then (impl_patched.l0 k1 l0 (y258 ++ ((T106 l1 x12_1).f2)) (wrap64 (((T106 l1 x12_1).f0) + ((T106 l1 x12_1).f1))) l1 (l1.length : Int) (wrap64 (x12_1 + 1))) else (none)) = some r := by first | (rw [hy258]; with_reducible exact H) | (have H2_ := (Option.bind_some _ _).symm.trans H; rw [hy258]; with_reducible exact H2_) | (have H2_ := (Option.bind_some _ _).symm.trans H; with_reducible exact H2_) | with_reducible exact H | (rw [hy258]; exact H) | exact H
          have Ny258 := am hy258
          clear hy258
          by_cases c12 : y258.length + ((T106 l1 x12_1).f2).length < 8796093022208
          ·rw [if_pos c12] at H
           have LMc12 := am c12
           clear c12
           obtain ⟨y261, hy261⟩ : ∃ y_ : List ByteArray, y_ = (y258 ++ ((T106 l1 x12_1).f2)) := ⟨_, rfl⟩
           replace H : (impl_patched.l0 k1 l0 y261 (wrap64 (((T106 l1 x12_1).f0) + ((T106 l1 x12_1).f1))) l1 (l1.length : Int) (wrap64 (x12_1 + 1))) = some r := by first | (rw [hy261]; with_reducible exact H) | (have H2_ := (Option.bind_some _ _).symm.trans H; rw [hy261]; with_reducible exact H2_) | (have H2_ := (Option.bind_some _ _).symm.trans H; with_reducible exact H2_) | with_reducible exact H | (rw [hy261]; exact H) | exact H
           have Ny261 := am hy261
           clear hy261
           have H' := am H
           clear H
           have p255 : 0 ≤ (x12_1 : Int) := oa
           have q255 : x12_1 < (l1.length : Int) := oa
           obtain ⟨ad255, A255_2, c255_2, e255, hx255_0, hx255_1, hx255_2, hl255_2, hi255_2⟩ := at_T106 HR1.out x12_1 p255 q255
           cases e255
           replace hx255_0 := (HB.out.cell (World.block_lt_of_cell? w _ hx255_0)).trans hx255_0
           replace hx255_1 := (HB.out.cell (World.block_lt_of_cell? w _ hx255_1)).trans hx255_1
           replace hx255_2 := (HB.out.cell (World.block_lt_of_cell? w _ hx255_2)).trans hx255_2
           have HR255_2 := am hi255_2
           have HC255_2 := am hl255_2
           clear hi255_2 hl255_2
           replace p255 := eq_true p255
           replace q255 := eq_true q255
           try go_wp2_with (first | ((with_reducible refine gate_dst (N := 8) rfl ?_); refine box_event ?hg (N := 8) ?hd (cs := #[.int .i64 0, .int .i64 0, .slice none 0 0]) (t := 106) ?hr ?_; (case hd => rfl); (case hg => rfl); (case hr => first | (go_simp; done) | (go_simp; rfl)); intro gb256 hg w13 hbox hb; have n0_ := am (Kd.R_below (zr HO_5.out) hb); have n1_ := am (below_step zb hb); have n2_ := am (hbox); have n3_ := am ((by rw [hg]; exact (below_size zb) : w.heap.size ≤ gb256)); have n4_ := am ((by rw [hg]; exact (below_size zb) : w.heap.size ≤ gb256)); clear HO_5; clear HB; have HO_5 := n0_; have HB := n1_; have BK256 := n2_; have GW256 := n3_; have GE256 := n4_; clear n0_ n1_ n2_ n3_ n4_; clear hb hbox hg; have hcz14_0 : w13.cell? ⟨gb256, 0, none⟩ = some (.int .i64 0) := (blk_cell BK256.out 0).trans rfl; have hcz14_1 : w13.cell? ⟨gb256, 1, none⟩ = some (.int .i64 0) := (blk_cell BK256.out 1).trans rfl; have hcz14_2 : w13.cell? ⟨gb256, 2, none⟩ = some (.slice none 0 0) := (blk_cell BK256.out 2).trans rfl; have hfz14_0 := blk_frozen BK256.out 0; have hfz14_1 := blk_frozen BK256.out 1; have hfz14_2 := blk_frozen BK256.out 2))
           have n0_ : Aside0 (Kd.R Kd.string 9 (((w13.setCell ⟨gb256, 0, none⟩ (.int .i64 ((T106 l1 x12_1).f0))).setCell ⟨gb256, 1, none⟩ (.int .i64 ((T106 l1 x12_1).f1))).setCell ⟨gb256, 2, none⟩ (.slice A255_2 ((T106 l1 x12_1).f2).length c255_2)) w.heap.size (fun _ => True) u5 x5_1) := ⟨by (with_reducible repeat (first | apply Kd.R_alloc | apply Kd.R_drewN | apply Kd.R_drew)); exact Kd.R_mono (Kd.R_far (p := ⟨gb256, 2, none⟩) (Kd.R_far (p := ⟨gb256, 1, none⟩) (Kd.R_far (p := ⟨gb256, 0, none⟩) (Kd.R_types HO_5.out BK256.out (by decide)) (fun _ hk => hk.2) (.int .i64 ((T106 l1 x12_1).f0))) (fun _ hk => hk.2) (.int .i64 ((T106 l1 x12_1).f1))) (fun _ hk => hk.2) (.slice A255_2 ((T106 l1 x12_1).f2).length c255_2)) (fun _ hk => trivial)⟩
           have n1_ : Aside0 ((((w13.setCell ⟨gb256, 0, none⟩ (.int .i64 ((T106 l1 x12_1).f0))).setCell ⟨gb256, 1, none⟩ (.int .i64 ((T106 l1 x12_1).f1))).setCell ⟨gb256, 2, none⟩ (.slice A255_2 ((T106 l1 x12_1).f2).length c255_2)).heap[gb256]? = some (.cells #[.int .i64 ((T106 l1 x12_1).f0), .int .i64 ((T106 l1 x12_1).f1), .slice A255_2 ((T106 l1 x12_1).f2).length c255_2] 106 (0, 0))) := ⟨by (with_reducible repeat (first | refine blk_drewN ?_ _ | refine blk_drew ?_ | refine blk_alloc ?_ _)); refine blk_put (cs := #[.int .i64 ((T106 l1 x12_1).f0), .int .i64 ((T106 l1 x12_1).f1), .slice none 0 0]) ?_ 2 _ rfl; (with_reducible repeat (first | refine blk_drewN ?_ _ | refine blk_drew ?_ | refine blk_alloc ?_ _)); refine blk_put (cs := #[.int .i64 ((T106 l1 x12_1).f0), .int .i64 0, .slice none 0 0]) ?_ 1 _ rfl; (with_reducible repeat (first | refine blk_drewN ?_ _ | refine blk_drew ?_ | refine blk_alloc ?_ _)); refine blk_put (cs := #[.int .i64 0, .int .i64 0, .slice none 0 0]) ?_ 0 _ rfl; (with_reducible repeat (first | refine blk_drewN ?_ _ | refine blk_drew ?_ | refine blk_alloc ?_ _)); exact BK256.out⟩
           have n2_ : Aside0 (Below w.heap.size w (((w13.setCell ⟨gb256, 0, none⟩ (.int .i64 ((T106 l1 x12_1).f0))).setCell ⟨gb256, 1, none⟩ (.int .i64 ((T106 l1 x12_1).f1))).setCell ⟨gb256, 2, none⟩ (.slice A255_2 ((T106 l1 x12_1).f2).length c255_2))) := ⟨by repeat (first | (with_reducible first | exact HB.out | apply below_alloc | apply pw_below_drewN | apply below_drew1 | refine below_set ?_ GE256.out) | exact HB.out)⟩
           (try clear HO_5)
           (try clear BK256)
           (try clear HB)
           (try simp only [show ∀ (w_ : World) (n_ : Nat) (p_ : Addr) (v_ : Value), (w_.drewN n_).setCell p_ v_ = (w_.setCell p_ v_).drewN n_ from fun _ _ _ _ => rfl])
           generalize (((w13.setCell ⟨gb256, 0, none⟩ (.int .i64 ((T106 l1 x12_1).f0))).setCell ⟨gb256, 1, none⟩ (.int .i64 ((T106 l1 x12_1).f1))).setCell ⟨gb256, 2, none⟩ (.slice A255_2 ((T106 l1 x12_1).f2).length c255_2)) = w15 at n0_ n1_ n2_ ⊢
           have HO_5 := n0_
           have BK256 := n1_
           have HB := n2_
           clear n0_ n1_ n2_
           have n0_ := am (Kd.R_drew HO_5.out)
           have n1_ := am (blk_drew BK256.out)
           have n2_ := am (below_drew1 HB.out)
           clear HO_5
           clear BK256
           clear HB
           have HO_5 := n0_
           have BK256 := n1_
           have HB := n2_
           clear n0_ n1_ n2_
           obtain ⟨i017, hi017, _, hsz17, _⟩ := info_parts info9
           obtain ⟨A17, hcut17, hA17, hC17⟩ := print_mid_of (P := Try.prog) Value.string (⟨#[]⟩ : ByteArray) 24 9 .i64 .i64 Try.underlying24 hi017 hsz17 A0 c0 l0 x6_1 ((T106 l1 x12_1).f0) oa (by first | omega | exact oa) oa HC0.out
           have HR257 := am (Kd.C_of_reads (h1 := fun _ => rfl) (hA17 _ (Kd.reads_of_C HR0.out)))
           have HC257 := am hC17
           clear hA17 hC17 hi017 hsz17
           refine start_ (n := 11) (S := fun w' => w'.cell? ⟨gb256, 0, none⟩ = some (.int .i64 ((T106 l1 x12_1).f0)) ∧ w'.cell? ⟨gb256, 1, none⟩ = some (.int .i64 ((T106 l1 x12_1).f1)) ∧ w'.cell? ⟨gb256, 2, none⟩ = some (.slice A255_2 ((T106 l1 x12_1).f2).length c255_2)) (ds := []) #[O,O,O,O,O,O,O,O,O,O,O] (by kernel_rfl) rfl rfl ⟨(blk_cell BK256.out 0).trans rfl, (blk_cell BK256.out 1).trans rfl, (blk_cell BK256.out 2).trans rfl⟩ (fun hHeld => ?_); refine with_tabW impl_patched.tab5 impl_patched.bits5 (fun HT_ HW_ => ?_)
           generalize w15.drew = w16 at HO_5 BK256 HB HR257 hHeld ⊢
           refine pure_ (i := 0) (N := some 16) (v := ?_) (a' := ?_) #[Y,O,O,O,O,O,O,O,O,O,O] rfl rfl zx (fun _ _ _ h => h) (Or.inl ⟨by rfl, ?_⟩) ?_ ?_
           rotate_left; (intro w'; go_simp; with_reducible rfl); rotate_left; (simp only [Act.put,qa,qb,qc,i64_w,i32_w]; rfl)
           refine pure_ (i := 1) (N := some 17) (v := ?_) (a' := ?_) #[Y,Y,O,O,O,O,O,O,O,O,O] rfl rfl zx (fun _ _ _ h => h) (Or.inl ⟨by rfl, ?_⟩) ?_ ?_
           rotate_left; (intro w'; go_simp; with_reducible rfl); rotate_left; (simp only [Act.put,qa,qb,qc,i64_w,i32_w]; rfl)
           refine pure_ (i := 2) (N := some 18) (v := ?_) (a' := ?_) #[Y,Y,Y,O,O,O,O,O,O,O,O] rfl rfl zx (fun _ _ _ h => h) (Or.inl ⟨by rfl, ?_⟩) ?_ ?_
           rotate_left; (intro w'; go_simp; with_reducible rfl); rotate_left; (simp only [Act.put,qa,qb,qc,i64_w,i32_w]; rfl)
           refine pure_ (i := 3) (N := some 19) (v := ?_) (a' := ?_) #[Y,Y,Y,Y,O,O,O,O,O,O,O] rfl rfl zx (fun _ _ _ h => h) (Or.inl ⟨by rfl, ?_⟩) ?_ ?_
           rotate_left; (intro w'; go_simp; with_reducible rfl); rotate_left; (simp only [Act.put,qa,qb,qc,i64_w,i32_w]; rfl)
           refine pure_ (i := 7) (N := some 23) (v := ?_) (a' := ?_) #[Y,Y,Y,Y,O,O,O,Y,O,O,O] rfl rfl zx (fun _ _ _ h => h) (Or.inl ⟨by rfl, ?_⟩) ?_ ?_
           rotate_left; (intro w'; go_simp; with_reducible rfl); rotate_left; (simp only [Act.put,qa,qb,qc,i64_w,i32_w]; rfl)
           refine take_ (i := 4) (N := some 20) (v := ?_) (a' := ?_) #[Y,Y,Y,Y,Y,O,O,Y,O,O,O] rfl rfl (take_ofW HT_.out HW_.out (by kernel_rfl)) (fun _ _ _ h => h) (Or.inl ⟨by rfl, ?_⟩) hHeld ?_ ?_
           rotate_left; (rintro w' ⟨s0, s1, s2⟩; go_simp; with_reducible rfl); rotate_left; (simp only [Act.put,qa,qb,qc,i64_w,i32_w]; rfl)
           refine pure_ (i := 5) (N := some 21) (v := ?_) (a' := ?_) #[Y,Y,Y,Y,Y,Y,O,Y,O,O,O] rfl rfl zx (fun _ _ _ h => h) (Or.inl ⟨by rfl, ?_⟩) ?_ ?_
           rotate_left; (intro w'; go_simp; with_reducible rfl); rotate_left; (simp only [Act.put,qa,qb,qc,i64_w,i32_w]; rfl)
           refine take_ (i := 8) (N := some 24) (v := ?_) (a' := ?_) #[Y,Y,Y,Y,Y,Y,O,Y,Y,O,O] rfl rfl (take_ofW HT_.out HW_.out (by kernel_rfl)) (fun _ _ _ h => h) (Or.inl ⟨by rfl, ?_⟩) hHeld ?_ ?_
           rotate_left; (rintro w' ⟨s0, s1, s2⟩; go_simp; with_reducible rfl); rotate_left; (simp only [Act.put,qa,qb,qc,i64_w,i32_w]; rfl)
           refine one_ (i := 6) (N := some 22) #[Y,Y,Y,Y,Y,Y,Y,Y,Y,O,O] rfl rfl (one_of HT_.out (by kernel_rfl)) (by decide) (fun K hK => ?_)
           refine Kd.R_append_rows_step Kd.string (w0 := w) w.heap.size (by rfl) (.tmp 16) (.tmp 21) 24 9 (.string ⟨#[]⟩) 16 rfl Try.underlying24 info9 rfl (by decide) (by omega) u5 x5_1 ((l0.take (((T106 l1 x12_1).f0) : Int).toNat).drop (x6_1 : Int).toNat) _ _ _ (fun _ => True) (fun _ => False) rfl rfl ?aO ?aR (fun _ _ h => h) (fun _ h => h.elim) ?aF ?aB ?aS ?aL ?_
           (case aR => first | (rw [← show ((l0.take (((T106 l1 x12_1).f0) : Int).toNat).drop (x6_1 : Int).toNat).length = (((T106 l1 x12_1).f0).toNat - x6_1.toNat) from (by rw [List.length_drop, List.length_take]; have h_ : (((T106 l1 x12_1).f0) : Int) ≤ (l0.length : Int) := oa; omega)]; exact zq (Kd.C_below HR257.out HB.out)) | (exact zq (Kd.C_below HR257.out HB.out)))
           (case aB => exact (by repeat (first | (with_reducible first | exact HB.out | apply below_alloc | apply pw_below_drewN | apply below_drew1 | refine below_set ?_ GE256.out) | exact HB.out)))
           (case aF => exact (fun _ _ => trivial))
           (case aO => exact (zr HO_5.out))
           (case aS => exact (below_size (by repeat (first | (with_reducible first | exact HB.out | apply below_alloc | apply pw_below_drewN | apply below_drew1 | refine below_set ?_ GE256.out) | exact HB.out))))
           (case aL => have := LMc11.out; have hlx_ := (show ((l0.take (((T106 l1 x12_1).f0) : Int).toNat).drop (x6_1 : Int).toNat).length = (((T106 l1 x12_1).f0).toNat - x6_1.toNat) from (by rw [List.length_drop, List.length_take]; have h_ : (((T106 l1 x12_1).f0) : Int) ≤ (l0.length : Int) := oa; omega)); omega)
           intro v259 w18 ho hb hg hat
           rw [← Ny258.out] at ho
           have n0_ := am (blk_grown (g := gb256) (o := .cells #[.int .i64 ((T106 l1 x12_1).f0), .int .i64 ((T106 l1 x12_1).f1), .slice A255_2 ((T106 l1 x12_1).f2).length c255_2] 106 (0, 0)) (zk BK256.out) hg (Kd.R_ne HO_5.out BK256.out (by decide)))
           have n1_ := am (hb)
           have n2_ := am (ho)
           clear BK256
           clear HB
           clear HO_5
           have BK256 := n0_
           have HB := n1_
           have HO260 := n2_
           clear n0_ n1_ n2_
           clear ho hb hg hat
           refine hK.out _ _ ⟨(blk_cell BK256.out 0).trans rfl, (blk_cell BK256.out 1).trans rfl, (blk_cell BK256.out 2).trans rfl⟩ (fun hHeld => ?_)
           clear hK K
           refine norm_ (a' := ?_) ?_ ?_
           rotate_left
           ·show Act.put _ (some 22) _ = _
            simp only [Act.put,qa,qb,qc,i64_w,i32_w]
            rfl
           refine one_ (i := 9) (N := some 25) #[Y,Y,Y,Y,Y,Y,Y,Y,Y,Y,O] rfl rfl (one_of HT_.out (by kernel_rfl)) (by decide) (fun K hK => ?_)
           refine Kd.R_append_rows_step Kd.string (w0 := w) w.heap.size (by rfl) (.tmp 22) (.tmp 24) 24 9 (.string ⟨#[]⟩) 16 rfl Try.underlying24 info9 rfl (by decide) (by omega) v259 y258 ((T106 l1 x12_1).f2) _ _ _ (fun _ => True) (fun _ => False) rfl rfl ?aO ?aR (fun _ _ h => h) (fun _ h => h.elim) ?aF ?aB ?aS ?aL ?_
           (case aR => exact zq (Kd.C_below HR255_2.out HB.out))
           (case aB => exact (by repeat (first | (with_reducible first | exact HB.out | apply below_alloc | apply pw_below_drewN | apply below_drew1 | refine below_set ?_ GE256.out) | exact HB.out)))
           (case aF => exact (fun _ _ => trivial))
           (case aO => exact (zr HO260.out))
           (case aS => exact (below_size (by repeat (first | (with_reducible first | exact HB.out | apply below_alloc | apply pw_below_drewN | apply below_drew1 | refine below_set ?_ GE256.out) | exact HB.out))))
           (case aL => have := LMc12.out; omega)
           intro v262 w19 ho hb hg hat
           rw [← Ny261.out] at ho
           have n0_ := am (blk_grown (g := gb256) (o := .cells #[.int .i64 ((T106 l1 x12_1).f0), .int .i64 ((T106 l1 x12_1).f1), .slice A255_2 ((T106 l1 x12_1).f2).length c255_2] 106 (0, 0)) (zk BK256.out) hg (Kd.R_ne HO260.out BK256.out (by decide)))
           have n1_ := am (hb)
           have n2_ := am (ho)
           clear BK256
           clear HB
           clear HO260
           have BK256 := n0_
           have HB := n1_
           have HO263 := n2_
           clear n0_ n1_ n2_
           clear ho hb hg hat
           refine hK.out _ _ ⟨(blk_cell BK256.out 0).trans rfl, (blk_cell BK256.out 1).trans rfl, (blk_cell BK256.out 2).trans rfl⟩ (fun hHeld => ?_)
           clear hK K
           refine norm_ (a' := ?_) ?_ ?_
           rotate_left
           ·show Act.put _ (some 25) _ = _
            simp only [Act.put,qa,qb,qc,i64_w,i32_w]
            rfl
           refine pure_ (i := 10) (N := some 5) (v := ?_) (a' := ?_) #[Y,Y,Y,Y,Y,Y,Y,Y,Y,Y,Y] rfl rfl zx (fun _ _ _ h => h) (Or.inl ⟨by rfl, ?_⟩) ?_ ?_
           rotate_left; (intro w'; go_simp; with_reducible rfl); rotate_left; (simp only [Act.put,qa,qb,qc,i64_w,i32_w]; rfl)
           refine done_ (done_of HT_.out (by kernel_rfl)) ?_
           have hcz20_0 : w19.cell? ⟨gb256, 0, none⟩ = some (.int .i64 ((T106 l1 x12_1).f0)) := (blk_cell BK256.out 0).trans rfl
           have hcz20_1 : w19.cell? ⟨gb256, 1, none⟩ = some (.int .i64 ((T106 l1 x12_1).f1)) := (blk_cell BK256.out 1).trans rfl
           have hcz20_2 : w19.cell? ⟨gb256, 2, none⟩ = some (.slice A255_2 ((T106 l1 x12_1).f2).length c255_2) := (blk_cell BK256.out 2).trans rfl
           have hfz20_0 := blk_frozen BK256.out 0
           have hfz20_1 := blk_frozen BK256.out 1
           have hfz20_2 := blk_frozen BK256.out 2
           try go_wp2
           go_roundg k1
           case measure => have := HK1.out; omega
           case rel => exact ⟨(y261), (wrap64 (((T106 l1 x12_1).f0) + ((T106 l1 x12_1).f1))), (wrap64 (x12_1 + 1)), zf, zf, H', ⟨by have := HK1.out; omega⟩, ⟨by (with_reducible repeat (first | apply Kd.R_alloc | apply Kd.R_drewN | apply Kd.R_drew)); exact HO263.out⟩, ⟨by repeat (first | (with_reducible first | exact HB.out | apply below_alloc | apply pw_below_drewN | apply below_drew1 | refine below_set ?_ GE256.out) | exact HB.out)⟩⟩
          ·rw [if_neg c12] at H
           exact absurd H (by simp)
         ·rw [if_neg c11] at H
          exact absurd H (by simp)
        ·rw [if_neg c10] at H
         exact absurd H (by simp)
       ·rw [if_neg c9] at H
        exact absurd H (by simp)
      ·rw [if_neg c8] at H
       exact absurd H (by simp)
     ·rw [if_neg c7] at H
      exact absurd H (by simp)
    ·rw [if_neg c6] at H
     exact absurd H (by simp)
   ·rw [if_neg c5] at H
    have c5b0 : decide (x12_1 < (l1.length : Int)) = false := decide_eq_false c5
    clear c5
    by_cases c21 : 0 ≤ x6_1
    ·rw [if_pos c21] at H
     have c21b0 := eq_true c21
     have c21b1 : decide (0 ≤ x6_1) = true := decide_eq_true c21
     clear c21
     by_cases c22 : x6_1 ≤ (l0.length : Int)
     ·rw [if_pos c22] at H
      have c22b0 := eq_true c22
      have c22b1 : decide (x6_1 ≤ (l0.length : Int)) = true := decide_eq_true c22
      clear c22
      by_cases c23 : x5_1.length + (l0.drop (x6_1 : Int).toNat).length < 8796093022208
      ·rw [if_pos c23] at H
       have LMc23 := am c23
       clear c23
       obtain ⟨y265, hy265⟩ : ∃ y_ : List ByteArray, y_ = (x5_1 ++ (l0.drop (x6_1 : Int).toNat)) := ⟨_, rfl⟩
       replace H : (some y265) = some r := by first | (rw [hy265]; with_reducible exact H) | (have H2_ := (Option.bind_some _ _).symm.trans H; rw [hy265]; with_reducible exact H2_) | (have H2_ := (Option.bind_some _ _).symm.trans H; with_reducible exact H2_) | with_reducible exact H | (rw [hy265]; exact H) | exact H
       have Ny265 := am hy265
       clear hy265
       obtain rfl := Option.some.inj H
       obtain ⟨i024, hi024, _, hsz24, _⟩ := info_parts info9
       obtain ⟨A24, hcut24, hA24, hC24⟩ := print_drop_of (P := Try.prog) Value.string (⟨#[]⟩ : ByteArray) 24 9 .i64 Try.underlying24 hi024 hsz24 A0 c0 l0 x6_1 oa oa HC0.out
       have HR264 := am (Kd.C_of_reads (h1 := fun _ => rfl) (hA24 _ (Kd.reads_of_C HR0.out)))
       have HC264 := am hC24
       clear hA24 hC24 hi024 hsz24
       go_wp2_with (first | ((with_reducible refine gateB (b := .append) (xs := #[.tmp 32, .tmp 35]) rfl ?_); at_builtin; refine Kd.R_append_rows Kd.string (w0 := w) w.heap.size rfl (.tmp 32) (.tmp 35) 24 9 (.string ⟨#[]⟩) 16 rfl Try.underlying24 info9 rfl (by decide) (by omega) u5 x5_1 (l0.drop (x6_1 : Int).toNat) _ _ _ (fun _ => True) (fun _ => False) rfl rfl ?aO ?aR (fun _ _ h => h) (fun _ h => h.elim) ?aF ?aB ?aS ?aL ?_; (case aR => first | (rw [← show (l0.drop (x6_1 : Int).toNat).length = (l0.length - x6_1.toNat) from List.length_drop]; exact zq (Kd.C_below HR264.out HB.out)) | (exact zq (Kd.C_below HR264.out HB.out))); (case aB => exact zb); (case aF => exact (fun _ _ => trivial)); (case aO => exact (zr HO_5.out)); (case aS => exact (below_size zb)); (case aL => have := LMc23.out; have hlx_ := (show (l0.drop (x6_1 : Int).toNat).length = (l0.length - x6_1.toNat) from List.length_drop); omega); intro v266 w25 ho hb hg hat; rw [← Ny265.out] at ho; have n0_ := am (hb); have n1_ := am (ho); clear HB; clear HO_5; have HB := n0_; have HO267 := n1_; clear n0_ n1_; clear ho hb hg hat))
       go_ret
       exact ⟨_, by first | rfl | (simp [errW_none, errW_some] <;> rfl) | (simp [*, errW_none, errW_some] <;> rfl), by (with_reducible repeat (first | apply Kd.R_alloc | apply Kd.R_drewN | apply Kd.R_drew)); exact HO267.out, by repeat (first | (with_reducible first | exact HB.out | apply below_alloc | apply pw_below_drewN | apply below_drew1) | exact HB.out)⟩
      ·rw [if_neg c23] at H
       exact absurd H (by simp)
     ·rw [if_neg c22] at H
      exact absurd H (by simp)
    ·rw [if_neg c21] at H
     exact absurd H (by simp)

def impl_Patch.j0 : Nat → List ByteArray → List (S106) → Bool → Option (List ByteArray × Bool)
 | 0, _, _, _ => none
 | k + 1, x0, x1, x16 => if x16 = true then (some (([] : List ByteArray), false)) else ((impl_patched.f k x0 x1).bind fun t270 => ((impl_goodLines.f k t270).bind fun t273 => (if t273 = true then (some (t270, true)) else (some (([] : List ByteArray), false)))))
def impl_Patch.f (k : Nat) (l0 : List ByteArray) (l1 : List (S106)) : Option (List ByteArray × Bool) := (impl_goodLines.f k l0).bind fun t268 => (if t268 = true then ((impl_goodHunks.f k (l0.length : Int) l1).bind fun t269 => (impl_Patch.j0 k l0 l1 (!t269))) else (impl_Patch.j0 k l0 l1 true))
set_option maxHeartbeats 8000000 in
set_option maxRecDepth 100000 in
theorem impl_Patch.calls (k : Nat) (A0 : Option Addr) (c0 : Nat) (l0 : List ByteArray) (A1 : Option Addr) (c1 : Nat) (l1 : List (S106)) (r1 : List ByteArray) (r2 : Bool) (w : World) (hr0 : Kd.C Kd.string w A0 l0.length l0) (hc0 : l0.length ≤ c0) (hr1 : Kd.C k106 w A1 l1.length l1) (hc1 : l1.length ≤ c1) (h : impl_Patch.f k l0 l1 = some (r1, r2)) :
  Calls Try.prog 32 #[.slice A0 l0.length c0, .slice A1 l1.length c1] w fun e w' => ∃ v0_ : Value, e = .returned (.tuple #[v0_, .bool r2]) ∧ Kd.R Kd.string 9 w' w.heap.size (fun _ => True) v0_ r1 ∧ Below w.heap.size w w' := by
 have HR0 := am hr0
 have HC0 := am hc0
 clear hr0 hc0
 have HR1 := am hr1
 have HC1 := am hc1
 clear hr1 hc1
 have HB := am (Below.refl w.heap.size w)
 have H : ((impl_goodLines.f k l0).bind fun t268 => (if t268 = true then ((impl_goodHunks.f k (l0.length : Int) l1).bind fun t269 => (impl_Patch.j0 k l0 l1 (!t269))) else (impl_Patch.j0 k l0 l1 true))) = some (r1, r2) := h
 clear h
 have HC3 := am H
 clear H
 go_enter Try.func32, Try.ntmps32
 go_upto_region 1 with (fail)
 go_cut [16] (fun v16 wc => ∃ (kq : Nat) (x16_2 : Bool), v16 = .bool x16_2 ∧ Aside0 (impl_Patch.j0 kq l0 l1 x16_2 = some (r1, r2)) ∧ Aside0 (kq ≤ k) ∧ Aside0 (Below w.heap.size w wc))
 case first =>
  have H := HC3.out
  clear HC3
  replace H := Option.bind_eq_some_iff.mp H
  obtain ⟨t268, A40, H⟩ := H
  replace H : (if t268 = true then ((impl_goodHunks.f k (l0.length : Int) l1).bind fun t269 => (impl_Patch.j0 k l0 l1 (!t269))) else (impl_Patch.j0 k l0 l1 true)) = some (r1, r2) := H
  have A4 := am A40
  clear A40
  by_cases c5 : t268 = true
  ·subst c5
   have H1 : ((impl_goodHunks.f k (l0.length : Int) l1).bind fun t269 => (impl_Patch.j0 k l0 l1 (!t269))) = some (r1, r2) := by rw [if_pos rfl] at H; exact H
   clear H
   have H := H1
   clear H1
   replace H := Option.bind_eq_some_iff.mp H
   obtain ⟨t269, A60, H⟩ := H
   replace H : (impl_Patch.j0 k l0 l1 (!t269)) = some (r1, r2) := H
   have A6 := am A60
   clear A60
   have H' := am H
   clear H
   go_wp2_with (first | ((with_reducible refine gateC (f := 63) rfl ?_); refine goesL_ (some 8) rfl rfl Try.func63 (by kernel_rfl) rfl #[.slice A0 l0.length c0] rfl zm ?_; (with_reducible refine (impl_goodLines.calls k _ _ l0 true _ ?side1 ?side2 A4.out).mono ?_); (case side1 => exact zq (Kd.C_below HR0.out HB.out)); (case side2 => exact HC0.out); rintro e w' ⟨rfl, ⟨nd, rfl⟩⟩; refine ⟨_, rfl, ?_⟩) | (go_at_call 90; (with_reducible refine (impl_goodHunks.calls k (l0.length : Int) _ _ l1 t269 _ ?side1 ?side2 A6.out).mono ?_); (case side1 => repeat (first | exact (Kd.C_below HR1.out zb) | (with_reducible refine Kd.C_alloc ?_ _) | (with_reducible refine Kd.C_drewN ?_ _) | (with_reducible refine Kd.C_drew ?_))); (case side2 => exact HC1.out); rintro e w7 ⟨rfl, hb⟩; have n0_ := am (below_step zb hb); clear HB; have HB := n0_; clear n0_; (try clear hb)))
   go_meet
   case rel => exact ⟨_, (!t269), zf, H', ⟨by first | omega | exact Nat.le_refl _⟩, ⟨by repeat (first | (with_reducible first | exact HB.out | apply below_alloc | apply pw_below_drewN | apply below_drew1) | exact HB.out)⟩⟩
  ·replace c5 := Bool.eq_false_iff.mpr c5
   subst c5
   have H1 : (impl_Patch.j0 k l0 l1 true) = some (r1, r2) := by rw [if_neg (show ¬ (false = true) by decide)] at H; exact H
   clear H
   have H := H1
   clear H1
   have H' := am H
   clear H
   go_wp2_with (first | ((with_reducible refine gateC (f := 63) rfl ?_); refine goesL_ (some 8) rfl rfl Try.func63 (by kernel_rfl) rfl #[.slice A0 l0.length c0] rfl zm ?_; (with_reducible refine (impl_goodLines.calls k _ _ l0 false _ ?side1 ?side2 A4.out).mono ?_); (case side1 => exact zq (Kd.C_below HR0.out HB.out)); (case side2 => exact HC0.out); rintro e w' ⟨rfl, ⟨nd, rfl⟩⟩; refine ⟨_, rfl, ?_⟩))
   go_meet
   case rel => exact ⟨_, (true), zf, H', ⟨by first | omega | exact Nat.le_refl _⟩, ⟨by repeat (first | (with_reducible first | exact HB.out | apply below_alloc | apply pw_below_drewN | apply below_drew1) | exact HB.out)⟩⟩
 case rest =>
  clear HC3
  try clear c1
  try clear p2
  try clear c3
  try clear c5
  try clear c6
  obtain ⟨kq, x16_2, rfl, HA, HJ2, HB⟩ := hcut
  cases kq with
  | zero => exact absurd HA.out (by simp [impl_Patch.j0])
  | succ kj2 =>
   have H := HA.out
   clear HA
   simp only [impl_Patch.j0] at H
   by_cases c8 : x16_2 = true
   ·subst c8
    have H1 : (some (([] : List ByteArray), false)) = some (r1, r2) := by rw [if_pos rfl] at H; exact H
    clear H
    have H := H1
    clear H1
    simp only [Option.some.injEq, Prod.mk.injEq] at H
    obtain ⟨rfl, rfl⟩ := H
    go_wp2
    go_ret2
    exact ⟨_, by first | rfl | (simp [errW_none, errW_some] <;> rfl) | (simp [*, errW_none, errW_some] <;> rfl), by first | exact Kd.R_nil _ _ _ _ _ | exact Kd.Q_nil _ _ _ _ _ | exact Kd.S_nil _ _ _ _ _, by repeat (first | (with_reducible first | exact HB.out | apply below_alloc | apply pw_below_drewN | apply below_drew1) | exact HB.out)⟩
   ·replace c8 := Bool.eq_false_iff.mpr c8
    subst c8
    have H1 : ((impl_patched.f kj2 l0 l1).bind fun t270 => ((impl_goodLines.f kj2 t270).bind fun t273 => (if t273 = true then (some (t270, true)) else (some (([] : List ByteArray), false))))) = some (r1, r2) := by rw [if_neg (show ¬ (false = true) by decide)] at H; exact H
    clear H
    have H := H1
    clear H1
    replace H := Option.bind_eq_some_iff.mp H
    obtain ⟨t270, A90, H⟩ := H
    replace H : ((impl_goodLines.f kj2 t270).bind fun t273 => (if t273 = true then (some (t270, true)) else (some (([] : List ByteArray), false)))) = some (r1, r2) := H
    have A9 := am A90
    clear A90
    replace H := Option.bind_eq_some_iff.mp H
    obtain ⟨t273, A100, H⟩ := H
    replace H : (if t273 = true then (some (t270, true)) else (some (([] : List ByteArray), false))) = some (r1, r2) := H
    have A10 := am A100
    clear A100
    by_cases c11 : t273 = true
    ·subst c11
     have H1 : (some (t270, true)) = some (r1, r2) := by rw [if_pos rfl] at H; exact H
     clear H
     have H := H1
     clear H1
     simp only [Option.some.injEq, Prod.mk.injEq] at H
     obtain ⟨rfl, rfl⟩ := H
     go_wp2_with (first | ((with_reducible refine gateC (f := 91) rfl ?_); refine goesL_ (some 19) rfl rfl Try.func91 (by kernel_rfl) rfl #[.slice A0 l0.length c0, .slice A1 l1.length c1] rfl zm ?_; (with_reducible refine (impl_patched.calls kj2 _ _ l0 _ _ l1 t270 _ ?side1 ?side2 ?side3 ?side4 A9.out).mono ?_); (case side1 => exact zq (Kd.C_below HR0.out HB.out)); (case side2 => exact HC0.out); (case side3 => exact zq (Kd.C_below HR1.out HB.out)); (case side4 => exact HC1.out); rintro e w12 ⟨v271, rfl, ho0, hb⟩; refine ⟨_, rfl, ?_⟩; have n0_ := am (Kd.R_lower ho0 (below_size zb)); have n1_ := am (below_step zb hb); clear HB; have HO272 := n0_; have HB := n1_; clear n0_ n1_; (try clear hb); (try clear ho0); obtain ⟨Ao13, co13, eo13⟩ := Kd.R_slice HO272.out; subst eo13) | ((with_reducible refine gateC (f := 63) rfl ?_); refine goesL_ (some 21) rfl rfl Try.func63 (by kernel_rfl) rfl #[.slice Ao13 t270.length co13] rfl zm ?_; (with_reducible refine (impl_goodLines.calls kj2 _ _ t270 true _ ?side1 ?side2 A10.out).mono ?_); (case side1 => repeat (first | exact (Kd.R_reads' HO272.out).2.2 | (with_reducible refine Kd.C_alloc ?_ _) | (with_reducible refine Kd.C_drewN ?_ _) | (with_reducible refine Kd.C_drew ?_))); (case side2 => exact (Kd.R_reads' HO272.out).2.1); rintro e w' ⟨rfl, ⟨nd, rfl⟩⟩; refine ⟨_, rfl, ?_⟩))
     go_ret2
     exact ⟨_, by first | rfl | (simp [errW_none, errW_some] <;> rfl) | (simp [*, errW_none, errW_some] <;> rfl), by (with_reducible repeat (first | apply Kd.R_alloc | apply Kd.R_drewN | apply Kd.R_drew)); exact HO272.out, by repeat (first | (with_reducible first | exact HB.out | apply below_alloc | apply pw_below_drewN | apply below_drew1) | exact HB.out)⟩
    ·replace c11 := Bool.eq_false_iff.mpr c11
     subst c11
     have H1 : (some (([] : List ByteArray), false)) = some (r1, r2) := by rw [if_neg (show ¬ (false = true) by decide)] at H; exact H
     clear H
     have H := H1
     clear H1
     simp only [Option.some.injEq, Prod.mk.injEq] at H
     obtain ⟨rfl, rfl⟩ := H
     go_wp2_with (first | ((with_reducible refine gateC (f := 91) rfl ?_); refine goesL_ (some 19) rfl rfl Try.func91 (by kernel_rfl) rfl #[.slice A0 l0.length c0, .slice A1 l1.length c1] rfl zm ?_; (with_reducible refine (impl_patched.calls kj2 _ _ l0 _ _ l1 t270 _ ?side1 ?side2 ?side3 ?side4 A9.out).mono ?_); (case side1 => exact zq (Kd.C_below HR0.out HB.out)); (case side2 => exact HC0.out); (case side3 => exact zq (Kd.C_below HR1.out HB.out)); (case side4 => exact HC1.out); rintro e w14 ⟨v271, rfl, ho0, hb⟩; refine ⟨_, rfl, ?_⟩; have n0_ := am (Kd.R_lower ho0 (below_size zb)); have n1_ := am (below_step zb hb); clear HB; have HO272 := n0_; have HB := n1_; clear n0_ n1_; (try clear hb); (try clear ho0); obtain ⟨Ao15, co15, eo15⟩ := Kd.R_slice HO272.out; subst eo15) | ((with_reducible refine gateC (f := 63) rfl ?_); refine goesL_ (some 21) rfl rfl Try.func63 (by kernel_rfl) rfl #[.slice Ao15 t270.length co15] rfl zm ?_; (with_reducible refine (impl_goodLines.calls kj2 _ _ t270 false _ ?side1 ?side2 A10.out).mono ?_); (case side1 => repeat (first | exact (Kd.R_reads' HO272.out).2.2 | (with_reducible refine Kd.C_alloc ?_ _) | (with_reducible refine Kd.C_drewN ?_ _) | (with_reducible refine Kd.C_drew ?_))); (case side2 => exact (Kd.R_reads' HO272.out).2.1); rintro e w' ⟨rfl, ⟨nd, rfl⟩⟩; refine ⟨_, rfl, ?_⟩))
     go_ret2
     exact ⟨_, by first | rfl | (simp [errW_none, errW_some] <;> rfl) | (simp [*, errW_none, errW_some] <;> rfl), by first | exact Kd.R_nil _ _ _ _ _ | exact Kd.Q_nil _ _ _ _ _ | exact Kd.S_nil _ _ _ _ _, by repeat (first | (with_reducible first | exact HB.out | apply below_alloc | apply pw_below_drewN | apply below_drew1) | exact HB.out)⟩
end Go.Proofs.Ytmcldkobejhaeaa.My
namespace Go.Proofs.Ytmcldkobejhaeaa.Pl
open Go.RowKit Go.Proofs.YtmcldkobejhaeaaW.PrintWords Go.Proofs.YtmcldkobejhaeaaW.PrintLast
set_option linter.unusedVariables false
set_option linter.unusedSimpArgs false
section
variable {α β : Type}
theorem ev_pos {c : Prop} [Decidable c] {g g' : Nat → Option α} {r : α} (hc : c) (h : Ev g r) : Ev (fun k => if c then g k else g' k) r :=
  Ev.congr (fun _ => if_pos hc) h
theorem ev_neg {c : Prop} [Decidable c] {g g' : Nat → Option α} {r : α} (hc : ¬ c) (h : Ev g' r) : Ev (fun k => if c then g k else g' k) r :=
  Ev.congr (fun _ => if_neg hc) h
theorem ev_ite {c : Prop} [Decidable c] {g g' : Nat → Option α} {r : α} (h : c → Ev g r) (h' : ¬ c → Ev g' r) : Ev (fun k => if c then g k else g' k) r := by
  by_cases hc : c
  · exact ev_pos hc (h hc)
  · exact ev_neg hc (h' hc)
theorem ev_some {r r' : α} (h : r = r') : Ev (fun _ => some r) r' := h ▸ Ev.now r
theorem ev_const {o : Option α} {r : α} (h : o = some r) : Ev (fun _ => o) r := ⟨0, fun _ _ => h⟩
theorem ev_to {g : Nat → Option α} {r r' : α} (h : Ev g r) (e : r = r') : Ev g r' := e ▸ h
theorem ev_bind {g : Nat → Option α} {f : Nat → α → Option β} {a : α} {r : β} (h : Ev g a) (k : Ev (fun n => f n a) r) : Ev (fun n => (g n).bind fun t => f n t) r := Ev.bind h k
end
theorem wrap64_id {x : Int} (h : -9223372036854775808 ≤ x) (h' : x ≤ 9223372036854775807) : wrap64 x = x := by
  unfold wrap64
  omega
theorem wrap_succ (i : Nat) (h : i < 9223372036854775807) : wrap64 ((i : Int) + 1) = ((i + 1 : Nat) : Int) := by
  rw [wrap64_id (by omega) (by omega)]
  omega
theorem wrap_pred (n : Nat) (h0 : 0 < n) (h : n ≤ 9223372036854775807) : wrap64 ((n : Int) - 1) = ((n - 1 : Nat) : Int) := by
  rw [wrap64_id (by omega) (by omega)]
  omega
theorem getD_lt {α : Type} (xs : List α) (d : α) (i : Nat) (h : i < xs.length) : xs.getD i d = xs[i] := by
  simp [List.getD_eq_getElem?_getD, List.getElem?_eq_getElem h]
theorem rdOf_lt {α : Type} (d : α) (xs : List α) (i : Nat) (h : i < xs.length) : rdOf d xs (i : Int) = xs[i] := getD_lt xs d i h
theorem ba_ext {a b : ByteArray} (h : a.toList = b.toList) : a = b := by
  rw [Lib.toList_data, Lib.toList_data] at h
  cases a with | mk a => cases b with | mk b =>
  cases a with | mk a => cases b with | mk b =>
  simp_all
theorem drop_cons {α : Type} (xs : List α) (i : Nat) (h : i < xs.length) : xs.drop i = xs[i] :: xs.drop (i + 1) := List.drop_eq_getElem_cons h
theorem bt_nat (s : ByteArray) (i : Nat) (h : i < s.size) : bt s (i : Int) = ((s.data.toList[i]'(by rw [data_length]; exact h)).toNat : Int) := by
  unfold bt
  rw [dif_pos (by simpa using h)]
  simp [ByteArray.getElem_eq_getElem_data]
theorem u8_eq {b c : UInt8} (h : (b.toNat : Int) = (c.toNat : Int)) : b = c := UInt8.toNat_inj.1 (by omega)
theorem u8_ne {b c : UInt8} (h : ¬ (b.toNat : Int) = (c.toNat : Int)) : ¬ c = b := fun e => h (by rw [e])
end Go.Proofs.Ytmcldkobejhaeaa.Pl
namespace Go.Proofs.Ytmcldkobejhaeaa.My
open Go.RowKit Go.Proofs.YtmcldkobejhaeaaW.PrintWords Go.Proofs.YtmcldkobejhaeaaW.PrintLast Go.Proofs.YtmcldkobejhaeaaW.PrintMore Go.Proofs.Ytmcldkobejhaeaa.Pl
set_option linter.unusedVariables false
set_option linter.unusedSimpArgs false
structure GBox (w0 W : World) (gb : Nat) (p q : Int) (v : Value) (rs : List S140) : Prop where
  o : W.heap[gb]? = some (.cells #[.int .i64 p, .int .i64 q, v] 73 (0, 0))
  r : Kd.R k140 140 W w0.heap.size (fun k => gb < k) v rs
  b : Below w0.heap.size w0 W
  ge : w0.heap.size ≤ gb
def Stay2 (gb : Nat) (w w' : World) : Prop := w.heap.size ≤ w'.heap.size ∧ (∀ k, k < gb → w'.heap[k]? = w.heap[k]?) ∧ ∀ (g : Nat) (cells : Array Value) (t : TypeId), w.heap[g]? = some (.cells cells t (0, 0)) → t ≠ 140 → t ≠ 73 → w'.heap[g]? = some (.cells cells t (0, 0))
theorem Stay2.refl (gb : Nat) (w : World) : Stay2 gb w w := ⟨Nat.le_refl _, fun _ _ => rfl, fun _ _ _ h _ _ => h⟩
theorem GBox.off {w0 W : World} {gb : Nat} {p q : Int} {v : Value} {rs : List S140} (h : GBox w0 W gb p q v rs) : some gb ≠ v.ownBlock := fun e => Nat.lt_irrefl _ (h.r.1 gb e.symm)
theorem GBox.put {w0 W w1 : World} {gb : Nat} {p q : Int} {v v1 : Value} {rs zs : List S140} (h : GBox w0 W gb p q v rs) (ho : Kd.R k140 140 w1 w0.heap.size (fun k => gb < k) v1 zs) (hb : Below w0.heap.size w0 w1) (hg : W.grownBy w1 v.ownBlock) :
    GBox w0 (w1.setCell ⟨gb, 2, none⟩ v1) gb p q v1 zs :=
  ⟨blk_put (blk_grown h.o hg h.off) 2 v1 rfl, Kd.R_far ho (p := ⟨gb, 2, none⟩) (fun k hk => Nat.ne_of_gt hk) v1, below_set hb h.ge, h.ge⟩
theorem Stay2.put {w0 w W w1 : World} {gb : Nat} {p q : Int} {v v1 : Value} {rs : List S140} (h : GBox w0 W gb p q v rs) (hs : Stay2 gb w W) (hg : W.grownBy w1 v.ownBlock) : Stay2 gb w (w1.setCell ⟨gb, 2, none⟩ v1) := by
  refine ⟨by have := hg.size; have := hs.1; simp only [World.size_setCell]; omega, fun k hk => ?_, fun g c t e h1 h2 => ?_⟩
  · have hl : k < W.heap.size := Nat.lt_trans hk (blk_lt h.o)
    refine (Below.heap_setCell w1 ⟨gb, 2, none⟩ v1 k (Nat.ne_of_lt hk)).trans ((hg.block k hl (fun e => ?_)).trans (hs.2.1 k hk))
    exact Nat.lt_irrefl _ (Nat.lt_trans hk (h.r.1 k e.symm))
  · have e2 := hs.2.2 g c t e h1 h2
    have n1 : some g ≠ v.ownBlock := Kd.R_ne h.r e2 (fun e => h1 e.symm)
    exact blk_far (blk_grown e2 hg n1) (fun e3 => by
      have e4 : g = gb := e3
      subst e4
      have := h.o
      rw [e2] at this
      injection this with this
      injection this with _ this
      exact h2 this) v1
def rowsK (kd : Int) (ls : List ByteArray) : List S140 := ls.map fun s => ⟨kd, s⟩
theorem rowsK_more (kd : Int) (ls : List ByteArray) (i : Nat) (hi : i < ls.length) : rowsK kd (ls.take i) ++ [(⟨kd, ls[i]⟩ : S140)] = rowsK kd (ls.take (i + 1)) := by
  unfold rowsK
  rw [List.take_succ_eq_append_getElem hi, List.map_append]
  rfl
theorem rowsK_length (kd : Int) (ls : List ByteArray) : (rowsK kd ls).length = ls.length := by simp [rowsK]
def RowInv (w0 w : World) (gb : Nat) (kd p q : Int) (ls : List ByteArray) (rs : List S140) (i kq : Nat) (w' : World) : Prop :=
  i + kq = ls.length ∧ ∃ v, GBox w0 w' gb p q v (rs ++ rowsK kd (ls.take i)) ∧ Stay2 gb w w'
set_option maxHeartbeats 8000000 in
set_option maxRecDepth 100000 in
theorem row_made (w0 w : World) (gb : Nat) (kd p q : Int) (A : Option Addr) (c : Nat) (ls : List ByteArray) (v : Value) (rs : List S140) (hc : GBox w0 w gb p q v rs) (hr : Kd.C Kd.string w0 A ls.length ls) (hcap : ls.length ≤ c) (hl : rs.length + ls.length ≤ 1000000) :
    Calls Try.prog 138 #[.int .i64 kd, .slice A ls.length c, .pointer (some ⟨gb, 0, none⟩)] w (fun e w' => e = .returned (.tuple #[]) ∧ ∃ v', GBox w0 w' gb p q v' (rs ++ rowsK kd ls) ∧ Stay2 gb w w') := by
  have HC := am hc
  have HR := am hr
  have HL := am hl
  clear hc hr hl
  go_enter Try.func138, Try.ntmps138
  go_wp2_with fail
  go_loopg [9] ls.length (fun kq v9 w' => ∃ i : Nat, v9 = .int .i64 (i : Int) ∧ Aside0 (RowInv w0 w gb kd p q ls rs i kq w'))
  case atStart => exact ⟨0, rfl, ⟨by omega, v, by simpa [rowsK] using HC.out, Stay2.refl _ _⟩⟩
  case round =>
    obtain ⟨i, rfl, HI⟩ := hrel
    obtain ⟨e1, v1, hcc, hss⟩ := HI.out
    obtain ⟨ys, hys⟩ : ∃ ys, ys = rs ++ rowsK kd (ls.take i) := ⟨_, rfl⟩
    have hyl : ys.length = rs.length + min i ls.length := by rw [hys, List.length_append]; simp [rowsK]
    rw [← hys] at hcc
    have HCC := am hcc
    have HSS := am hss
    have HY := am hys
    have HYL := am hyl
    clear HI hcc hss hys hyl
    have c1 : wr.cell? ⟨gb, 2, none⟩ = some v1 := (blk_cell HCC.out.o 2).trans rfl
    have c2 := blk_frozen HCC.out.o 2
    by_cases hi : i < ls.length
    · have hd : decide ((i : Int) < (ls.length : Int)) = true := decide_eq_true (by omega)
      have hd2 : decide (i < ls.length) = true := decide_eq_true hi
      have p1 : 0 ≤ (i : Int) := by omega
      have q1 : (i : Int) < (ls.length : Int) := by omega
      obtain ⟨ad, eA, hx⟩ := Kd.at_string HR.out (i : Int) p1 q1
      cases eA
      rw [rdOf_lt _ _ _ hi, Int.toNat_natCast] at hx
      replace hx := (HCC.out.b.cell (World.block_lt_of_cell? w0 _ hx)).trans hx
      replace p1 := eq_true p1
      replace q1 := eq_true q1
      obtain ⟨zs, hzs⟩ : ∃ zs, zs = ys ++ [(⟨kd, ls[i]⟩ : S140)] := ⟨_, rfl⟩
      have HZ := am hzs
      clear hzs
      go_wp2_with (first | ((with_reducible refine gateB (b := .append) (xs := #[.tmp 14, .tmp 18]) rfl ?_); at_builtin; refine Kd.R_append k140 (w0 := w0) w0.heap.size rfl (.tmp 14) (.tmp 18) 71 140 (.agg #[(.int .i64 0), (.string ⟨#[]⟩)]) 24 rfl Try.underlying71 info140 rfl (by decide) (by omega) v1 ys (⟨kd, ls[i]⟩ : S140) [.int .i64 kd, .string ls[i]] (fun k => gb < k) (fun _ => False) rfl rfl ?aP (fun _ hk => hk.elim) ?aF HCC.out.r HCC.out.b HCC.out.b.size ?aL ?_; (case aP => exact k140_mkM _ _ _ (⟨kd, ls[i]⟩ : S140)); (case aF => exact (fun k hk => Nat.lt_of_lt_of_le (blk_lt HCC.out.o) hk)); (case aL => have := HYL.out; have := HL.out; omega); intro v2 w2 ho hb hg hat; rw [← HZ.out] at ho; obtain ⟨A2, C2, rfl⟩ := Kd.R_slice ho; have HP := am (HCC.out.put ho hb hg); have HT := am (Stay2.put (v1 := .slice A2 zs.length C2) HCC.out HSS.out hg); have d7 := blk_frozen (blk_grown HCC.out.o hg HCC.out.off) 2; have d8 : w2.cell? ⟨gb, 2, none⟩ = some v1 := (blk_cell (blk_grown HCC.out.o hg HCC.out.off) 2).trans rfl; clear ho hb hat hg))
      go_roundg (ls.length - (i + 1))
      case measure => omega
      case rel => exact ⟨i + 1, by rw [wrap_succ i (by have := HL.out; omega)], ⟨by omega, .slice A2 zs.length C2, by
        have e := HP.out
        rw [HZ.out, HY.out, List.append_assoc, rowsK_more kd ls i hi] at e
        rw [HZ.out, HY.out, List.append_assoc, rowsK_more kd ls i hi]
        exact e, HT.out⟩⟩
    · have hd : decide ((i : Int) < (ls.length : Int)) = false := decide_eq_false (by omega)
      have hd2 : decide (i < ls.length) = false := decide_eq_false hi
      go_wp2
      refine bodyPost_end (results_none rfl _ _ _) rfl ?_
      refine ⟨rfl, v1, ?_, HSS.out⟩
      rw [HY.out, List.take_of_length_le (by omega)] at HCC
      exact HCC.out
end Go.Proofs.Ytmcldkobejhaeaa.My
namespace Go.Proofs.Ytmcldkobejhaeaa.Pl
open Go.RowKit Go.Proofs.YtmcldkobejhaeaaW.PrintWords Go.Proofs.YtmcldkobejhaeaaW.PrintLast Go.Proofs.Ytmcldkobejhaeaa.My
set_option linter.unusedVariables false
set_option linter.unusedSimpArgs false
def inB (n lo hi : Int) : Bool := decide (lo ≤ n) && decide (n ≤ hi)
theorem inB_iff (a b c : Int) : inB a b c = true ↔ b ≤ a ∧ a ≤ c := by
  unfold inB
  rw [Bool.and_eq_true, decide_eq_true_eq, decide_eq_true_eq]
theorem impl_in_eq (a b c : Int) : impl_in.f a b c = some (inB a b c) := by
  unfold impl_in.f inB
  by_cases h : b ≤ a
  · rw [if_pos h]; simp [h]
  · rw [if_neg (by omega)]; simp [h]
theorem spec_l1In_eq (a b c : Int) : spec_l1In.f a b c = some (inB a b c) := by
  unfold spec_l1In.f inB
  by_cases h : b ≤ a
  · rw [if_pos h]; simp [h]
  · rw [if_neg (by omega)]; simp [h]
end Go.Proofs.Ytmcldkobejhaeaa.Pl
namespace Go.Proofs.Ytmcldkobejhaeaa.Pl
open Go.RowKit Go.Proofs.YtmcldkobejhaeaaW.PrintWords Go.Proofs.YtmcldkobejhaeaaW.PrintLast
set_option linter.unusedVariables false
set_option linter.unusedSimpArgs false
def FitS (l : List ByteArray) : Prop := l.length ≤ 9223372036854775807 ∧ ∀ s ∈ l, s.size ≤ 9223372036854775807
end Go.Proofs.Ytmcldkobejhaeaa.Pl
namespace Go.Proofs.Ytmcldkobejhaeaa.Pl
open Go.RowKit Go.Proofs.YtmcldkobejhaeaaW.PrintWords Go.Proofs.YtmcldkobejhaeaaW.PrintLast Go.Proofs.Ytmcldkobejhaeaa.My
set_option linter.unusedVariables false
set_option linter.unusedSimpArgs false
def isLn (s : ByteArray) : Bool := !(s.data.toList.dropLast.contains 10) && inB s.size 1 30
def ends (s : ByteArray) : Bool := s.data.toList.getLast? == some 10
def good (l : List ByteArray) : Bool := decide (l.length ≤ 40) && (l.all isLn && l.dropLast.all ends)
theorem toList_one (c : UInt8) : (⟨#[c]⟩ : ByteArray).toList = [c] := by rw [Lib.toList_data]
theorem size_one (c : UInt8) : (⟨#[c]⟩ : ByteArray).size = 1 := rfl
theorem bt_one (c : UInt8) : bt ⟨#[c]⟩ 0 = (c.toNat : Int) := rfl
theorem index_ev (s : ByteArray) (c : UInt8) : Ev (fun k => strings_Index.f k s ⟨#[c]⟩) (Lib.indexByte s.data.toList c) := by
  have hj : ∀ b : Bool, (b = true → Lib.indexByte s.data.toList c = 0) → Ev (fun k => stringslite_Index.j0 k s ⟨#[c]⟩ 1 b) (Lib.indexByte s.data.toList c) := by
    intro b hb
    refine Ev.step (fun k => stringslite_Index.j0.eq_2 ..) ?_
    refine ev_ite (fun h => ev_some (hb h).symm) (fun _ => ?_)
    refine ev_pos rfl (ev_pos (by rw [size_one]; decide) ?_)
    refine ev_const ?_
    rw [bt_one]
    simp [stringslite_IndexByte.f]
  have h2 : Ev (fun k => stringslite_Index.f k s ⟨#[c]⟩) (Lib.indexByte s.data.toList c) := by
    simp only [stringslite_Index.f]
    refine ev_neg (by rw [size_one]; decide) ?_
    refine hj _ (fun h => ?_)
    have e : s.data.toList = [c] := by
      have := beq_iff_eq.1 h
      rw [toList_one, Lib.toList_data] at this
      exact this.symm
    rw [e]
    simp [Lib.indexByte]
  simp only [strings_Index.f]
  exact ev_bind h2 (ev_some rfl)
theorem indexByte_nonneg (l : List UInt8) (c : UInt8) : decide (Lib.indexByte l c ≥ 0) = l.contains c := by
  induction l with
  | nil => simp [Lib.indexByte]
  | cons b l ih =>
    have hge := Lib.indexByte_ge l c
    unfold Lib.indexByte
    by_cases h : (b == c) = true
    · have : b = c := beq_iff_eq.1 h
      simp [this]
    · have hb : (b == c) = false := by simpa using h
      have hne : ¬ c = b := fun e => h (by simp [e])
      rw [List.contains_cons, ← ih]
      simp only [hb]
      by_cases h2 : Lib.indexByte l c = -1
      · simp [h2, hne]
      · have h3 : (Lib.indexByte l c == -1) = false := by simpa using h2
        simp only [h3]
        have : Lib.indexByte l c ≥ 0 := by omega
        simp [hne, this]
        omega
theorem contains_ev (s : ByteArray) (c : UInt8) : Ev (fun k => strings_Contains.f k s ⟨#[c]⟩) (s.data.toList.contains c) := by
  simp only [strings_Contains.f]
  exact ev_bind (index_ev s c) (ev_some (indexByte_nonneg _ _))
theorem extract_data (s : ByteArray) (a b : Nat) : (s.extract a b).data.toList = (s.data.toList.take b).drop a := by
  rw [ByteArray.data_extract, Array.toList_extract, List.extract_eq_take_drop, ← List.drop_take]
theorem isLine_ev (s : ByteArray) (hs : s.size ≤ 9223372036854775807) : Ev (fun k => impl_isLine.f k s) (isLn s) := by
  simp only [impl_isLine.f, impl_in_eq, Option.bind_some]
  refine ev_ite (fun h => ?_) (fun h => ev_some (by unfold isLn; simp at h; simp [h]))
  have h1 : 1 ≤ s.size ∧ s.size ≤ 30 := by
    simp [inB] at h
    omega
  rw [wrap_pred s.size (by omega) hs]
  refine ev_pos (by omega) (ev_pos (by omega) ?_)
  refine ev_bind (contains_ev _ 10) (ev_some ?_)
  rw [Int.toNat_natCast, extract_data, List.drop_zero, ← data_length, ← List.dropLast_eq_take]
  unfold isLn
  rw [h]
  simp
theorem l1Line_l0 (s : ByteArray) (hs : s.size ≤ 9223372036854775807) : ∀ d i, i + d = s.size - 1 → Ev (fun k => spec_l1Line.l0 k s (i : Int)) (!((s.data.toList.dropLast.drop i).contains 10) && inB s.size 1 30) := by
  intro d
  have hl : s.data.toList.length = s.size := data_length s
  induction d with
  | zero =>
    intro i hi
    refine Ev.step (fun k => spec_l1Line.l0.eq_2 ..) ?_
    refine ev_neg (by rw [wrap64_id (by omega) (by omega)]; omega) ?_
    refine ev_const ?_
    rw [spec_l1In_eq, List.drop_of_length_le (by rw [List.length_dropLast]; omega)]
    rfl
  | succ d ih =>
    intro i hi
    refine Ev.step (fun k => spec_l1Line.l0.eq_2 ..) ?_
    refine ev_pos (by rw [wrap64_id (by omega) (by omega)]; omega) (ev_pos (by omega) (ev_pos (by omega) ?_))
    have hd : s.data.toList.dropLast.drop i = s.data.toList[i] :: s.data.toList.dropLast.drop (i + 1) := by
      rw [List.drop_eq_getElem_cons (by rw [List.length_dropLast]; omega), List.getElem_dropLast]
    rw [hd, List.contains_cons, bt_nat s i (by omega)]
    refine ev_ite (fun h => ev_some ?_) (fun h => ?_)
    · have : s.data.toList[i] = 10 := u8_eq h
      rw [this]
      simp
    · rw [wrap_succ i (by omega)]
      refine ev_to (ih (i + 1) (by omega)) ?_
      have : ((10 : UInt8) == s.data.toList[i]) = false := by
        rw [beq_eq_false_iff_ne]
        exact u8_ne h
      rw [this, Bool.false_or]
theorem l1Line_ev (s : ByteArray) (hs : s.size ≤ 9223372036854775807) : Ev (fun k => spec_l1Line.f k s) (isLn s) := by
  simp only [spec_l1Line.f]
  exact l1Line_l0 s hs (s.size - 1) 0 (by omega)
theorem isLn_size {s : ByteArray} (h : isLn s = true) : 1 ≤ s.size ∧ s.size ≤ 30 := by
  simp [isLn, inB] at h
  omega
theorem ends_last {s : ByteArray} (h : 1 ≤ s.size) : ends s = (bt s ((s.size - 1 : Nat) : Int) == 10) := by
  have hl : s.data.toList.length = s.size := data_length s
  have hq : s.data.toList.getLast? = some (s.data.toList[s.size - 1]'(by omega)) := by
    rw [List.getLast?_eq_getElem?, List.getElem?_eq_getElem (by omega)]
    simp only [hl]
  unfold ends
  rw [bt_nat s _ (by omega), hq]
  rw [Bool.eq_iff_iff]
  simp only [beq_iff_eq, Option.some.injEq]
  constructor
  · intro e; rw [e]; rfl
  · intro e; exact u8_eq e
theorem l1Ends_eq (s : ByteArray) (h : 1 ≤ s.size) (hs : s.size ≤ 9223372036854775807) : spec_l1Ends.f s = some (ends s) := by
  unfold spec_l1Ends.f
  rw [wrap_pred s.size (by omega) hs, if_pos (by omega), if_pos (by omega), ends_last h]
theorem hasSuffix_eq (s : ByteArray) (c : UInt8) (hs : s.size ≤ 9223372036854775807) : strings_HasSuffix.f s ⟨#[c]⟩ = some (s.data.toList.getLast? == some c) := by
  have hl : s.data.toList.length = s.size := data_length s
  unfold strings_HasSuffix.f stringslite_HasSuffix.f
  rw [size_one]
  by_cases h : 1 ≤ s.size
  · rw [if_pos (by omega), show ((1 : Nat) : Int) = 1 from rfl, wrap_pred s.size (by omega) hs, if_pos (by omega), if_pos (by omega), Option.bind_some, toList_one, Lib.toList_data, Int.toNat_natCast, extract_data, ← hl, List.take_length]
    have e : s.data.toList.drop (s.data.toList.length - 1) = [s.data.toList[s.data.toList.length - 1]'(by omega)] := by
      rw [List.drop_eq_getElem_cons (by omega), List.drop_of_length_le (by omega)]
    rw [e, List.getLast?_eq_getElem?, List.getElem?_eq_getElem (by omega)]
    congr 1
    rw [Bool.eq_iff_iff]
    simp
  · rw [if_neg (by omega), Option.bind_some]
    have : s.data.toList = [] := List.eq_nil_of_length_eq_zero (by omega)
    simp [this]
theorem isEnded_eq (s : ByteArray) (hs : s.size ≤ 9223372036854775807) : impl_isEnded.f s = some (ends s) := by
  unfold impl_isEnded.f
  rw [hasSuffix_eq s 10 hs]
  rfl
theorem areLines_l0 (l : List ByteArray) (hf : FitS l) : ∀ d i, i + d = l.length → ∃ j : Int, Ev (fun k => slices_IndexFunc_string_string__impl_areLines_1.l0 k l (l.length : Int) (i : Int)) j ∧ decide (j ≥ 0) = !((l.drop i).all isLn) := by
  intro d
  induction d with
  | zero =>
    intro i hi
    refine ⟨-1, Ev.step (fun k => slices_IndexFunc_string_string__impl_areLines_1.l0.eq_2 ..) (ev_neg (by omega) (ev_some rfl)), ?_⟩
    rw [List.drop_of_length_le (by omega)]
    rfl
  | succ d ih =>
    intro i hi
    have hlt : i < l.length := by omega
    have hev : Ev (fun k => impl_areLines_1.f k (rdOf ByteArray.empty l (i : Int))) (!isLn l[i]) := by
      rw [rdOf_lt _ _ _ hlt]
      simp only [impl_areLines_1.f]
      exact ev_bind (isLine_ev _ (hf.2 _ (List.getElem_mem _))) (ev_some rfl)
    obtain ⟨j, hj, hjj⟩ := ih (i + 1) (by omega)
    rw [drop_cons l i hlt, List.all_cons]
    by_cases h : isLn l[i] = true
    · refine ⟨j, Ev.step (fun k => slices_IndexFunc_string_string__impl_areLines_1.l0.eq_2 ..) (ev_pos (by omega) (ev_pos (by omega) (ev_pos (by omega) (ev_bind hev (ev_neg (by simp [h]) ?_))))), by rw [hjj, h]; simp⟩
      rw [wrap_succ i (by have := hf.1; omega)]
      exact hj
    · refine ⟨(i : Int), Ev.step (fun k => slices_IndexFunc_string_string__impl_areLines_1.l0.eq_2 ..) (ev_pos (by omega) (ev_pos (by omega) (ev_pos (by omega) (ev_bind hev (ev_pos (by simp [h]) (ev_some rfl)))))), ?_⟩
      simp [h]
theorem areLines_ev (l : List ByteArray) (hf : FitS l) : Ev (fun k => impl_areLines.f k l) (decide (l.length ≤ 40) && l.all isLn) := by
  simp only [impl_areLines.f]
  refine ev_ite (fun h => ?_) (fun h => ev_some ?_)
  · obtain ⟨j, hj, hjj⟩ := areLines_l0 l hf l.length 0 (by omega)
    simp only [slices_ContainsFunc_string_string__impl_areLines_1.f, slices_IndexFunc_string_string__impl_areLines_1.f]
    refine ev_bind (ev_bind hj (ev_some rfl)) (ev_some ?_)
    have : l.length ≤ 40 := by omega
    rw [hjj]
    simp [this]
  · have : ¬ l.length ≤ 40 := by omega
    simp [this]
theorem goodLines_l0 (l : List ByteArray) (hf : FitS l) : ∀ d i, i + d = l.length → Ev (fun k => impl_goodLines.l0 k l l (l.length : Int) (i : Int)) ((l.dropLast.drop i).all ends) := by
  intro d
  have hL := hf.1
  induction d with
  | zero =>
    intro i hi
    refine Ev.step (fun k => impl_goodLines.l0.eq_2 ..) (ev_neg (by omega) (ev_some ?_))
    rw [List.drop_of_length_le (by rw [List.length_dropLast]; omega)]
    rfl
  | succ d ih =>
    intro i hi
    have hlt : i < l.length := by omega
    refine Ev.step (fun k => impl_goodLines.l0.eq_2 ..) (ev_pos (by omega) (ev_pos (by omega) (ev_pos (by omega) ?_)))
    rw [wrap_pred l.length (by omega) hL, rdOf_lt _ _ _ hlt, isEnded_eq _ (hf.2 _ (List.getElem_mem _)), wrap_succ i (by omega)]
    simp only [Option.bind_some]
    refine ev_ite (fun h => ?_) (fun h => ?_)
    · have hd : l.dropLast.drop i = l[i] :: l.dropLast.drop (i + 1) := by
        rw [List.drop_eq_getElem_cons (by rw [List.length_dropLast]; omega), List.getElem_dropLast]
      rw [hd, List.all_cons]
      refine ev_ite (fun h => ?_) (fun h => ev_some (by simp [h]))
      rw [h, Bool.true_and]
      exact ih (i + 1) (by omega)
    · have e1 : l.dropLast.drop i = [] := List.drop_of_length_le (by rw [List.length_dropLast]; omega)
      have e2 : l.dropLast.drop (i + 1) = [] := List.drop_of_length_le (by rw [List.length_dropLast]; omega)
      have := ih (i + 1) (by omega)
      rw [e2] at this
      rw [e1]
      exact this
theorem goodLines_ev (l : List ByteArray) (hf : FitS l) : Ev (fun k => impl_goodLines.f k l) (good l) := by
  simp only [impl_goodLines.f]
  refine ev_bind (areLines_ev l hf) (ev_ite (fun h => ?_) (fun h => ev_some ?_))
  · refine ev_to (goodLines_l0 l hf l.length 0 (by omega)) ?_
    rw [List.drop_zero]
    unfold good
    rw [← Bool.and_assoc, h, Bool.true_and]
  · unfold good
    rw [← Bool.and_assoc]
    simp at h
    simp
    intro h1 h2
    exact absurd (h h1) (by simpa using h2)
theorem l1Good_l0 (l : List ByteArray) (hf : FitS l) : ∀ d i, i + d = l.length → Ev (fun k => spec_l1Good.l0 k l l (l.length : Int) (i : Int)) ((l.drop i).all isLn && (l.dropLast.drop i).all ends && decide (l.length ≤ 40)) := by
  intro d
  have hL := hf.1
  induction d with
  | zero =>
    intro i hi
    refine Ev.step (fun k => spec_l1Good.l0.eq_2 ..) (ev_neg (by omega) (ev_some ?_))
    rw [List.drop_of_length_le (by omega), List.drop_of_length_le (by rw [List.length_dropLast]; omega)]
    simp
    omega
  | succ d ih =>
    intro i hi
    have hlt : i < l.length := by omega
    refine Ev.step (fun k => spec_l1Good.l0.eq_2 ..) (ev_pos (by omega) (ev_pos (by omega) (ev_pos (by omega) ?_)))
    simp only [rdOf_lt _ _ _ hlt]
    rw [wrap_pred l.length (by omega) hL, wrap_succ i (by omega), drop_cons l i hlt, List.all_cons]
    refine ev_bind (l1Line_ev _ (hf.2 _ (List.getElem_mem _))) (ev_ite (fun h => ?_) (fun h => ev_some (by simp [h])))
    rw [h, Bool.true_and, l1Ends_eq _ (isLn_size h).1 (hf.2 _ (List.getElem_mem _))]
    simp only [Option.bind_some]
    refine ev_ite (fun h => ?_) (fun h => ?_)
    · have hd : l.dropLast.drop i = l[i] :: l.dropLast.drop (i + 1) := by
        rw [List.drop_eq_getElem_cons (by rw [List.length_dropLast]; omega), List.getElem_dropLast]
      rw [hd, List.all_cons]
      refine ev_ite (fun h => ?_) (fun h => ev_some (by simp [h]))
      rw [h, Bool.true_and]
      exact ih (i + 1) (by omega)
    · have e1 : l.dropLast.drop i = [] := List.drop_of_length_le (by rw [List.length_dropLast]; omega)
      have e2 : l.dropLast.drop (i + 1) = [] := List.drop_of_length_le (by rw [List.length_dropLast]; omega)
      have := ih (i + 1) (by omega)
      rw [e2] at this
      rw [e1]
      exact this
theorem l1Good_ev (l : List ByteArray) (hf : FitS l) : Ev (fun k => spec_l1Good.f k l) (good l) := by
  simp only [spec_l1Good.f]
  refine ev_to (l1Good_l0 l hf l.length 0 (by omega)) ?_
  rw [List.drop_zero, List.drop_zero]
  unfold good
  rw [Bool.and_comm]

abbrev IH := S106
theorem rdIH (l : List IH) (i : Nat) (h : i < l.length) : T106 l (i : Int) = l[i] := getD_lt l _ i h
theorem ih_ext {x y : IH} (h0 : x.f0 = y.f0) (h1 : x.f1 = y.f1) (h2 : x.f2 = y.f2) : x = y := by
  cases x; cases y; simp_all
def FitI (l : List IH) : Prop := l.length ≤ 9223372036854775807 ∧ ∀ x ∈ l, (-9223372036854775808 ≤ x.f0 ∧ x.f0 ≤ 9223372036854775807) ∧ (-9223372036854775808 ≤ x.f1 ∧ x.f1 ≤ 9223372036854775807) ∧ FitS x.f2
instance : DecidableEq IH := fun x y => decidable_of_iff (x.f0 = y.f0 ∧ x.f1 = y.f1 ∧ x.f2 = y.f2) ⟨fun ⟨a, b, c⟩ => ih_ext a b c, fun h => by rw [h]; exact ⟨rfl, rfl, rfl⟩⟩

def hNum (n p : Int) (x : IH) : Prop := 0 ≤ x.f0 ∧ 0 ≤ x.f1 ∧ x.f0 + x.f1 ≤ n ∧ ¬ (x.f1 = 0 ∧ x.f2.length = 0) ∧ x.f2.length ≤ 40 ∧ p < x.f0
instance (n p : Int) (x : IH) : Decidable (hNum n p x) := by unfold hNum; infer_instance
def hOK (n p : Int) (x : IH) : Bool := decide (hNum n p x) && x.f2.all isLn
def chain (n : Int) : Int → List IH → Bool
  | _, [] => true
  | p, x :: t => hOK n p x && chain n (x.f0 + x.f1) t
def goodH (n : Int) (h : List IH) : Bool := inB n 0 40 && (decide (h.length ≤ 20) && chain n (-1) h)
def before (n : Int) (h : List IH) (i : Nat) (p : Int) : Prop := (i = 0 ∧ p = -1) ∨ ∃ (j : Nat) (hj : j < h.length), i = j + 1 ∧ p = h[j].f0 + h[j].f1 ∧ 0 ≤ h[j].f0 ∧ 0 ≤ h[j].f1 ∧ p ≤ n
theorem chain_cons (n p : Int) (h : List IH) (i : Nat) (hi : i < h.length) : chain n p (h.drop i) = (hOK n p h[i] && chain n (h[i].f0 + h[i].f1) (h.drop (i + 1))) := by
  rw [List.drop_eq_getElem_cons hi]
  rfl
theorem goodHunks_l0 (n : Int) (h : List IH) (hf : FitI h) (h0 : 0 ≤ n) (h1 : n ≤ 40) : ∀ d i p, i + d = h.length → before n h i p → Ev (fun k => impl_goodHunks.l0 k n h h (h.length : Int) (i : Int)) (chain n p (h.drop i)) := by
  intro d
  have hL := hf.1
  induction d with
  | zero =>
    intro i p hi hp
    refine Ev.step (fun k => impl_goodHunks.l0.eq_2 ..) (ev_neg (by omega) (ev_some ?_))
    rw [List.drop_of_length_le (by omega)]
    rfl
  | succ d ih =>
    intro i p hi hp
    have hlt : i < h.length := by omega
    obtain ⟨b0, b1, b2⟩ := hf.2 _ (List.getElem_mem hlt)
    refine Ev.step (fun k => impl_goodHunks.l0.eq_2 ..) ?_
    simp only [rdIH h i hlt, impl_in_eq, Option.bind_some, chain_cons n p h i hlt]
    generalize hx : h[i] = x at *
    have bad : ¬ (hNum n (-1) x ∧ x.f2.all isLn = true) → Ev (fun k => impl_goodHunks.j2 k n h (i : Int) h (h.length : Int) (i : Int) true x.f0 x.f1 x.f2) (hOK n p x && chain n (x.f0 + x.f1) (h.drop (i + 1))) := by
      intro hb
      refine Ev.step (fun k => impl_goodHunks.j2.eq_2 ..) (ev_pos rfl (ev_some ?_))
      have : hOK n p x = false := by
        rw [Bool.eq_false_iff]
        intro ht
        unfold hOK at ht
        rw [Bool.and_eq_true, decide_eq_true_eq] at ht
        obtain ⟨⟨q0, q1, q2, q3, q4, q5⟩, q6⟩ := ht
        exact hb ⟨⟨q0, q1, q2, q3, q4, by omega⟩, q6⟩
      rw [this]
      rfl
    have ok : hNum n (-1) x → x.f2.all isLn = true → Ev (fun k => impl_goodHunks.j2 k n h (i : Int) h (h.length : Int) (i : Int) false x.f0 x.f1 x.f2) (hOK n p x && chain n (x.f0 + x.f1) (h.drop (i + 1))) := by
      intro hb hl
      obtain ⟨q0, q1, q2, q3, q4, q5⟩ := hb
      have nx : before n h (i + 1) (x.f0 + x.f1) := .inr ⟨i, hlt, rfl, by rw [hx], by rw [hx]; exact q0, by rw [hx]; exact q1, q2⟩
      have go : p < x.f0 → Ev (fun k => impl_goodHunks.l0 k n h h (h.length : Int) (wrap64 ((i : Int) + 1))) (hOK n p x && chain n (x.f0 + x.f1) (h.drop (i + 1))) := by
        intro hp
        rw [wrap_succ i (by omega)]
        refine ev_to (ih (i + 1) _ (by omega) nx) ?_
        have : hOK n p x = true := by
          unfold hOK
          rw [Bool.and_eq_true, decide_eq_true_eq]
          exact ⟨⟨q0, q1, q2, q3, q4, hp⟩, hl⟩
        rw [this, Bool.true_and]
      refine Ev.step (fun k => impl_goodHunks.j2.eq_2 ..) (ev_neg (by simp) (ev_ite (fun hi0 => ?_) (fun hi0 => go ?_)))
      · rcases hp with ⟨e, _⟩ | ⟨j, hj, rfl, rfl, r0, r1, r2⟩
        · omega
        · have ew : wrap64 (((j + 1 : Nat) : Int) - 1) = (j : Int) := by rw [wrap64_id (by omega) (by omega)]; omega
          simp only [ew, rdIH h j hj]
          rw [wrap64_id (by omega) (by omega)]
          refine ev_pos (by omega) (ev_pos (by omega) (ev_ite (fun hc => ev_some ?_) (fun hc => go (by omega))))
          have : hOK n (h[j].f0 + h[j].f1) x = false := by
            rw [Bool.eq_false_iff]
            intro ht
            unfold hOK at ht
            rw [Bool.and_eq_true, decide_eq_true_eq] at ht
            have := ht.1.2.2.2.2.2
            omega
          rw [this]
          rfl
      · rcases hp with ⟨_, e⟩ | ⟨j, hj, e, _⟩ <;> omega
    refine ev_pos (by omega) (ev_pos (by omega) (ev_pos (by omega) (ev_ite (fun c0 => ?_) (fun c0 => bad (fun hb => c0 ?_)))))
    · rw [inB_iff] at c0
      rw [wrap64_id (by omega) (by omega)]
      refine ev_ite (fun c1 => ?_) (fun c1 => bad (fun hb => c1 ?_))
      · rw [inB_iff] at c1
        refine ev_bind (areLines_ev x.f2 b2) (ev_ite (fun c2 => ?_) (fun c2 => bad (fun hb => c2 ?_)))
        · rw [Bool.and_eq_true, decide_eq_true_eq] at c2
          refine ev_ite (fun c3 => ?_) (fun c3 => ok ⟨c0.1, c1.1, by omega, fun e => c3 e.1, c2.1, by omega⟩ c2.2)
          by_cases c4 : x.f2.length = 0
          · rw [show (((x.f2.length : Int) == 0) = true) from by rw [c4]; rfl]
            exact bad (fun hb => hb.1.2.2.2.1 ⟨c3, c4⟩)
          · rw [show (((x.f2.length : Int) == 0) = false) from by rw [beq_eq_false_iff_ne]; omega]
            exact ok ⟨c0.1, c1.1, by omega, fun e => c4 e.2, c2.1, by omega⟩ c2.2
        · rw [Bool.and_eq_true, decide_eq_true_eq]
          exact ⟨hb.1.2.2.2.2.1, hb.2⟩
      · rw [inB_iff]
        obtain ⟨⟨q0, q1, q2, q3, q4, q5⟩, q6⟩ := hb
        omega
    · rw [inB_iff]
      obtain ⟨⟨q0, q1, q2, q3, q4, q5⟩, q6⟩ := hb
      omega
theorem goodHunks_ev (n : Int) (h : List IH) (hf : FitI h) : Ev (fun k => impl_goodHunks.f k n h) (goodH n h) := by
  simp only [impl_goodHunks.f, impl_in_eq, Option.bind_some]
  unfold goodH
  refine ev_ite (fun c => ?_) (fun c => ?_)
  · rw [c, Bool.true_and]
    rw [inB_iff] at c
    refine Ev.step (fun k => impl_goodHunks.j0.eq_2 ..) (ev_ite (fun e => ev_some ?_) (fun e => ?_))
    · rw [decide_eq_true_eq] at e
      rw [decide_eq_false (by omega), Bool.false_and]
    · rw [decide_eq_true_eq] at e
      rw [decide_eq_true (by omega), Bool.true_and]
      exact goodHunks_l0 n h hf c.1 c.2 h.length 0 (-1) (by omega) (.inl ⟨rfl, rfl⟩)
  · refine Ev.step (fun k => impl_goodHunks.j0.eq_2 ..) (ev_pos rfl (ev_some ?_))
    rw [Bool.not_eq_true] at c
    rw [c, Bool.false_and]

theorem wrap_zero (a : Int) (m : Nat) (h0 : 0 ≤ a) (h1 : a ≤ 9223372036854775807) (h2 : m ≤ 9223372036854775807) : wrap64 (a + (m : Int)) = 0 ↔ a = 0 ∧ m = 0 := by
  unfold wrap64
  omega
theorem l2Hunks_l0 (n : Int) (h : List IH) (hf : FitI h) (hn0 : -9223372036854775808 ≤ n) (hn : n ≤ 9223372036854775807) : ∀ d i p, i + d = h.length → before n h i p → Ev (fun k => spec_l2Hunks.l0 k n h h (h.length : Int) (i : Int)) (chain n p (h.drop i) && (decide (h.length ≤ 20) && inB n 0 40)) := by
  intro d
  have hL := hf.1
  induction d with
  | zero =>
    intro i p hi hp
    refine Ev.step (fun k => spec_l2Hunks.l0.eq_2 ..) (ev_neg (by omega) ?_)
    rw [List.drop_of_length_le (by omega)]
    simp only [spec_l1In_eq, Option.bind_some]
    refine ev_ite (fun c => ev_some ?_) (fun c => ev_some ?_)
    · rw [decide_eq_true (by omega)]
      rfl
    · rw [decide_eq_false (by omega)]
      rfl
  | succ d ih =>
    intro i p hi hp
    have hlt : i < h.length := by omega
    obtain ⟨b0, b1, b2⟩ := hf.2 _ (List.getElem_mem hlt)
    refine Ev.step (fun k => spec_l2Hunks.l0.eq_2 ..) ?_
    simp only [rdIH h i hlt, chain_cons n p h i hlt]
    generalize hx : h[i] = x at *
    have no : ¬ (hNum n p x ∧ x.f2.all isLn = true) → hOK n p x = false := by
      intro hb
      rw [Bool.eq_false_iff]
      intro ht
      unfold hOK at ht
      rw [Bool.and_eq_true, decide_eq_true_eq] at ht
      exact hb ht
    have bad : ¬ hNum n p x → Ev (fun k => spec_l2Hunks.j1 k n h h (h.length : Int) (i : Int) true x.f0 x.f1 x.f2) (hOK n p x && chain n (x.f0 + x.f1) (h.drop (i + 1)) && (decide (h.length ≤ 20) && inB n 0 40)) := by
      intro hb
      refine Ev.step (fun k => spec_l2Hunks.j1.eq_2 ..) (ev_pos rfl (ev_some ?_))
      rw [no (fun c => hb c.1)]
      rfl
    have ok : hNum n p x → Ev (fun k => spec_l2Hunks.j1 k n h h (h.length : Int) (i : Int) false x.f0 x.f1 x.f2) (hOK n p x && chain n (x.f0 + x.f1) (h.drop (i + 1)) && (decide (h.length ≤ 20) && inB n 0 40)) := by
      intro hb
      have nx : before n h (i + 1) (x.f0 + x.f1) := .inr ⟨i, hlt, rfl, by rw [hx], by rw [hx]; exact hb.1, by rw [hx]; exact hb.2.1, hb.2.2.1⟩
      have lp : ∀ e r, r + e = x.f2.length → Ev (fun k => spec_l2Hunks.l1 k n h h (h.length : Int) (i : Int) x.f2 (x.f2.length : Int) (r : Int)) (((x.f2.drop r).all isLn && chain n (x.f0 + x.f1) (h.drop (i + 1))) && (decide (h.length ≤ 20) && inB n 0 40)) := by
        intro e
        have hT := b2.1
        induction e with
        | zero =>
          intro r hr
          refine Ev.step (fun k => spec_l2Hunks.l1.eq_2 ..) (ev_neg (by omega) ?_)
          rw [List.drop_of_length_le (l := x.f2) (by omega), wrap_succ i (by omega), List.all_nil, Bool.true_and]
          exact ih (i + 1) _ (by omega) nx
        | succ e ihe =>
          intro r hr
          have hrt : r < x.f2.length := by omega
          refine Ev.step (fun k => spec_l2Hunks.l1.eq_2 ..) (ev_pos (by omega) (ev_pos (by omega) (ev_pos (by omega) ?_)))
          rw [rdOf_lt _ _ _ hrt, drop_cons x.f2 r hrt, List.all_cons]
          refine ev_bind (l1Line_ev _ (b2.2 _ (List.getElem_mem hrt))) (ev_ite (fun c => ?_) (fun c => ev_some ?_))
          · rw [wrap_succ r (by omega), c, Bool.true_and]
            exact ihe (r + 1) (by omega)
          · rw [Bool.not_eq_true] at c
            rw [c]
            rfl
      refine Ev.step (fun k => spec_l2Hunks.j1.eq_2 ..) (ev_neg (by simp) (ev_to (lp x.f2.length 0 (by omega)) ?_))
      unfold hOK
      rw [decide_eq_true hb, Bool.true_and, List.drop_zero]
    refine ev_pos (by omega) (ev_pos (by omega) (ev_pos (by omega) (ev_ite (fun c => bad (fun hb => ?_)) (fun c0 => ev_ite (fun c => bad (fun hb => ?_)) (fun c1 => ev_ite (fun c => bad (fun hb => ?_)) (fun c2 => ?_))))))
    · have := hb.1
      omega
    · have := hb.2.1
      omega
    · obtain ⟨q0, q1, q2, q3, q4, q5⟩ := hb
      omega
    rw [wrap64_id (x := n - x.f1) (by omega) (by omega)]
    refine ev_ite (fun c => bad (fun hb => ?_)) (fun c3 => ev_ite (fun c => bad (fun hb => ?_)) (fun c4 => ev_ite (fun c => bad (fun hb => ?_)) (fun c5 => ?_)))
    · have := hb.2.2.1
      omega
    · rw [wrap_zero _ _ (by omega) (by omega) b2.1] at c
      exact hb.2.2.2.1 c
    · have := hb.2.2.2.2.1
      omega
    rw [wrap_zero _ _ (by omega) (by omega) b2.1] at c4
    rcases hp with ⟨rfl, rfl⟩ | ⟨j, hj, rfl, rfl, r0, r1, r2⟩
    · refine ev_neg (by omega) (ok ⟨by omega, by omega, by omega, c4, by omega, by omega⟩)
    · have ew : wrap64 (((j + 1 : Nat) : Int) - 1) = (j : Int) := by rw [wrap64_id (by omega) (by omega)]; omega
      simp only [ew, rdIH h j hj]
      rw [wrap64_id (x := h[j].f0 + h[j].f1) (by omega) (by omega)]
      refine ev_pos (by omega) (ev_pos (by omega) (ev_pos (by omega) ?_))
      by_cases c : x.f0 ≤ h[j].f0 + h[j].f1
      · rw [decide_eq_true c]
        refine bad (fun hb => ?_)
        have := hb.2.2.2.2.2
        omega
      · rw [decide_eq_false c]
        exact ok ⟨by omega, by omega, by omega, c4, by omega, by omega⟩
theorem l2Hunks_ev (n : Int) (h : List IH) (hf : FitI h) (hn0 : -9223372036854775808 ≤ n) (hn : n ≤ 9223372036854775807) : Ev (fun k => spec_l2Hunks.f k n h) (goodH n h) := by
  simp only [spec_l2Hunks.f]
  refine ev_to (l2Hunks_l0 n h hf hn0 hn h.length 0 (-1) (by omega) (.inl ⟨rfl, rfl⟩)) ?_
  unfold goodH
  rw [List.drop_zero]
  cases inB n 0 40 <;> cases chain n (-1) h <;> cases decide (h.length ≤ 20) <;> rfl

def near (h : List IH) : Prop := ∀ x ∈ h, 0 ≤ x.f0 ∧ x.f0 ≤ 40 ∧ 0 ≤ x.f1 ∧ x.f1 ≤ 40 ∧ x.f2.length ≤ 40
theorem near_of_chain {n : Int} (hn : n ≤ 40) : ∀ (h : List IH) (p : Int), chain n p h = true → near h := by
  intro h
  induction h with
  | nil => intro p _ x hx; simp at hx
  | cons y t ih =>
    intro p hc x hx
    simp only [chain, Bool.and_eq_true, hOK, decide_eq_true_eq] at hc
    rcases List.mem_cons.1 hx with rfl | hx
    · obtain ⟨⟨⟨q0, q1, q2, q3, q4, q5⟩, _⟩, _⟩ := hc
      omega
    · exact ih _ hc.2 x hx
theorem near_of_good {n : Int} {h : List IH} (g : goodH n h = true) : near h ∧ h.length ≤ 20 ∧ 0 ≤ n ∧ n ≤ 40 := by
  unfold goodH at g
  rw [Bool.and_eq_true, Bool.and_eq_true, inB_iff, decide_eq_true_eq] at g
  exact ⟨near_of_chain g.1.2 h _ g.2.2, g.2.1, g.1.1, g.1.2⟩

theorem good_len {l : List ByteArray} (h : good l = true) : l.length ≤ 40 := by
  unfold good at h
  rw [Bool.and_eq_true] at h
  exact of_decide_eq_true h.1

def patchFrom (a : List ByteArray) : Nat → List IH → List ByteArray
  | p, [] => a.drop p
  | p, x :: t => (a.take x.f0.toNat).drop p ++ (x.f2 ++ patchFrom a (x.f0 + x.f1).toNat t)
theorem patchFrom_mem (a : List ByteArray) (s : ByteArray) : ∀ (h : List IH) (p : Nat), s ∈ patchFrom a p h → s ∈ a ∨ ∃ x ∈ h, s ∈ x.f2 := by
  intro h
  induction h with
  | nil => intro p hs; exact .inl (List.mem_of_mem_drop hs)
  | cons y t ih =>
    intro p hs
    simp only [patchFrom, List.mem_append] at hs
    rcases hs with hs | hs | hs
    · exact .inl (List.mem_of_mem_take (List.mem_of_mem_drop hs))
    · exact .inr ⟨y, List.mem_cons_self .., hs⟩
    · rcases ih _ hs with hs | ⟨x, hx, hs⟩
      · exact .inl hs
      · exact .inr ⟨x, List.mem_cons_of_mem _ hx, hs⟩
theorem patchFrom_len (a : List ByteArray) (ha : a.length ≤ 40) : ∀ (h : List IH) (p : Nat), near h → (patchFrom a p h).length ≤ 40 + 80 * h.length := by
  intro h
  induction h with
  | nil => intro p _; simp only [patchFrom, List.length_drop, List.length_nil]; omega
  | cons y t ih =>
    intro p hn
    have h1 := ih (y.f0 + y.f1).toNat (fun x hx => hn x (List.mem_cons_of_mem _ hx))
    have h2 := hn y (List.mem_cons_self ..)
    simp only [patchFrom, List.length_append, List.length_drop, List.length_take, List.length_cons]
    omega
theorem patchFrom_fit {a : List ByteArray} {h : List IH} (fa : FitS a) (fh : FitI h) (ha : a.length ≤ 40) (hn : near h) (hl : h.length ≤ 20) (p : Nat) : FitS (patchFrom a p h) := by
  have := patchFrom_len a ha h p hn
  refine ⟨by omega, fun s hs => ?_⟩
  rcases patchFrom_mem a s h p hs with hs | ⟨x, hx, hs⟩
  · exact fa.2 s hs
  · exact (fh.2 x hx).2.2.2 s hs
theorem patched_l0 (a : List ByteArray) (h : List IH) (hn : a.length ≤ 40) (hl : h.length ≤ 20) : ∀ d i (q : Int) (p : Nat) (acc : List ByteArray), i + d = h.length → chain a.length q (h.drop i) = true → (p : Int) ≤ q + 1 → p ≤ a.length → acc.length ≤ 40 * i + p →
    Ev (fun k => impl_patched.l0 k a acc (p : Int) h (h.length : Int) (i : Int)) (acc ++ patchFrom a p (h.drop i)) := by
  intro d
  induction d with
  | zero =>
    intro i q p acc hi hc hpq hp hacc
    refine Ev.step (fun k => impl_patched.l0.eq_2 ..) (ev_neg (by omega) (ev_pos (by omega) (ev_pos (by omega) (ev_pos ?_ (ev_some ?_)))))
    · rw [List.length_drop]
      omega
    · rw [List.drop_of_length_le (l := h) (by omega), Int.toNat_natCast]
      rfl
  | succ d ih =>
    intro i q p acc hi hc hpq hp hacc
    have hlt : i < h.length := by omega
    rw [List.drop_eq_getElem_cons hlt] at hc
    rw [List.drop_eq_getElem_cons hlt]
    simp only [chain, Bool.and_eq_true, hOK, decide_eq_true_eq] at hc
    obtain ⟨⟨⟨q0, q1, q2, q3, q4, q5⟩, _⟩, hc'⟩ := hc
    refine Ev.step (fun k => impl_patched.l0.eq_2 ..) ?_
    simp only [rdIH h i hlt, Option.bind_some]
    have e1 : wrap64 (h[i].f0 + h[i].f1) = (((h[i].f0 + h[i].f1).toNat : Nat) : Int) := by rw [wrap64_id (by omega) (by omega)]; omega
    rw [e1, wrap_succ i (by omega), Int.toNat_natCast]
    have e2 : ((a.take h[i].f0.toNat).drop p).length = h[i].f0.toNat - p := by rw [List.length_drop, List.length_take]; omega
    refine ev_pos (by omega) (ev_pos (by omega) (ev_pos (by omega) (ev_pos (by omega) (ev_pos (by omega) (ev_pos (by omega) (ev_pos (by rw [e2]; omega) (ev_pos (by rw [List.length_append, e2]; omega) ?_)))))))
    refine ev_to (ih (i + 1) _ _ _ (by omega) hc' (by omega) (by omega) (by rw [List.length_append, List.length_append, e2]; omega)) ?_
    simp only [patchFrom, List.append_assoc]
theorem l2Patch_l0 (a : List ByteArray) (h : List IH) (hn : a.length ≤ 40) (hl : h.length ≤ 20) : ∀ d i (q : Int) (p : Nat) (acc : List ByteArray), i + d = h.length → chain a.length q (h.drop i) = true → (p : Int) ≤ q + 1 → p ≤ a.length → acc.length ≤ 40 * i + p →
    Ev (fun k => spec_l2Patch.l0 k a acc (p : Int) h (h.length : Int) (i : Int)) (acc ++ patchFrom a p (h.drop i)) := by
  intro d
  induction d with
  | zero =>
    intro i q p acc hi hc hpq hp hacc
    refine Ev.step (fun k => spec_l2Patch.l0.eq_2 ..) (ev_neg (by omega) (ev_pos (by omega) (ev_pos (by omega) (ev_pos ?_ (ev_some ?_)))))
    · rw [List.length_drop]
      omega
    · rw [List.drop_of_length_le (l := h) (by omega), Int.toNat_natCast]
      rfl
  | succ d ih =>
    intro i q p acc hi hc hpq hp hacc
    have hlt : i < h.length := by omega
    rw [List.drop_eq_getElem_cons hlt] at hc
    rw [List.drop_eq_getElem_cons hlt]
    simp only [chain, Bool.and_eq_true, hOK, decide_eq_true_eq] at hc
    obtain ⟨⟨⟨q0, q1, q2, q3, q4, q5⟩, _⟩, hc'⟩ := hc
    refine Ev.step (fun k => spec_l2Patch.l0.eq_2 ..) ?_
    simp only [rdIH h i hlt, Option.bind_some]
    have e1 : wrap64 (h[i].f0 + h[i].f1) = (((h[i].f0 + h[i].f1).toNat : Nat) : Int) := by rw [wrap64_id (by omega) (by omega)]; omega
    rw [e1, wrap_succ i (by omega), Int.toNat_natCast]
    have e2 : ((a.take h[i].f0.toNat).drop p).length = h[i].f0.toNat - p := by rw [List.length_drop, List.length_take]; omega
    refine ev_pos (by omega) (ev_pos (by omega) (ev_pos (by omega) (ev_pos (by omega) (ev_pos (by omega) (ev_pos (by omega) (ev_pos (by rw [e2]; omega) (ev_pos (by rw [List.length_append, e2]; omega) ?_)))))))
    refine ev_to (ih (i + 1) _ _ _ (by omega) hc' (by omega) (by omega) (by rw [List.length_append, List.length_append, e2]; omega)) ?_
    simp only [patchFrom, List.append_assoc]
def asked (a : List ByteArray) (h : List IH) : Bool := good a && goodH a.length h
def patchH (a : List ByteArray) (h : List IH) : List ByteArray := patchFrom a 0 h
def patchR (a : List ByteArray) (h : List IH) : List ByteArray × Bool := if asked a h = true ∧ good (patchH a h) = true then (patchH a h, true) else ([], false)
theorem asked_of {a : List ByteArray} {h : List IH} (c : asked a h = true) : a.length ≤ 40 ∧ h.length ≤ 20 ∧ near h ∧ chain a.length (-1) h = true := by
  unfold asked at c
  rw [Bool.and_eq_true] at c
  obtain ⟨g1, g2, g3, g4⟩ := near_of_good c.2
  have := c.2
  unfold goodH at this
  rw [Bool.and_eq_true, Bool.and_eq_true] at this
  exact ⟨good_len c.1, g2, g1, this.2.2⟩
theorem patched_ev {a : List ByteArray} {h : List IH} (c : asked a h = true) : Ev (fun k => impl_patched.f k a h) (patchH a h) := by
  obtain ⟨c1, c2, c3, c4⟩ := asked_of c
  simp only [impl_patched.f]
  exact patched_l0 a h c1 c2 h.length 0 (-1) 0 [] (by omega) c4 (by omega) (by omega) (Nat.zero_le _)
theorem l2Patch_ev {a : List ByteArray} {h : List IH} (c : asked a h = true) : Ev (fun k => spec_l2Patch.f k a h) (patchH a h) := by
  obtain ⟨c1, c2, c3, c4⟩ := asked_of c
  simp only [spec_l2Patch.f]
  exact l2Patch_l0 a h c1 c2 h.length 0 (-1) 0 [] (by omega) c4 (by omega) (by omega) (Nat.zero_le _)
theorem l2Asked_ev (a : List ByteArray) (h : List IH) (fa : FitS a) (fh : FitI h) : Ev (fun k => spec_l2Asked.f k a h) (asked a h) := by
  simp only [spec_l2Asked.f]
  unfold asked
  have hL := fa.1
  refine ev_bind (l1Good_ev a fa) (ev_ite (fun c => ?_) (fun c => ev_some ?_))
  · rw [c, Bool.true_and]
    exact ev_bind (l2Hunks_ev _ h fh (by omega) (by omega)) (ev_some rfl)
  · rw [Bool.not_eq_true] at c
    rw [c, Bool.false_and]
theorem impl_Patch_ev (a : List ByteArray) (h : List IH) (fa : FitS a) (fh : FitI h) : Ev (fun k => impl_Patch.f k a h) (patchR a h) := by
  simp only [impl_Patch.f]
  unfold patchR
  have fin : asked a h = false → Ev (fun k => impl_Patch.j0 k a h true) (if asked a h = true ∧ good (patchH a h) = true then (patchH a h, true) else (([] : List ByteArray), false)) := by
    intro c
    rw [if_neg (fun e => by rw [c] at e; cases e.1)]
    exact Ev.step (fun k => impl_Patch.j0.eq_2 ..) (ev_pos rfl (ev_some rfl))
  refine ev_bind (goodLines_ev a fa) (ev_ite (fun c => ?_) (fun c => ?_))
  · refine ev_bind (goodHunks_ev _ h fh) ?_
    cases g : goodH a.length h with
    | false =>
      refine fin ?_
      unfold asked
      rw [g, Bool.and_false]
    | true =>
      have ca : asked a h = true := by unfold asked; rw [c, g]; rfl
      obtain ⟨c1, c2, c3, c4⟩ := asked_of ca
      refine Ev.step (fun k => impl_Patch.j0.eq_2 ..) (ev_neg (by simp) (ev_bind (patched_ev ca) (ev_bind (goodLines_ev _ (patchFrom_fit fa fh c1 c3 c2 0)) (ev_ite (fun c5 => ev_some ?_) (fun c5 => ev_some ?_)))))
      · rw [if_pos ⟨ca, c5⟩]
      · rw [if_neg (fun e => c5 e.2)]
  · refine fin ?_
    unfold asked
    rw [Bool.not_eq_true] at c
    rw [c, Bool.false_and]
theorem spec_Patch_ev (a : List ByteArray) (h : List IH) (fa : FitS a) (fh : FitI h) : Ev (fun k => spec_Patch.f k a h) (patchR a h) := by
  simp only [spec_Patch.f]
  unfold patchR
  refine ev_bind (l2Asked_ev a h fa fh) (ev_ite (fun ca => ?_) (fun ca => ev_some ?_))
  · obtain ⟨c1, c2, c3, c4⟩ := asked_of ca
    refine ev_bind (l2Patch_ev ca) (ev_bind (l1Good_ev _ (patchFrom_fit fa fh c1 c3 c2 0)) (ev_ite (fun c5 => ev_some ?_) (fun c5 => ev_some ?_)))
    · rw [if_pos (show asked a h = true ∧ good (patchH a h) = true from ⟨ca, c5⟩)]
    · rw [if_neg (show ¬ (asked a h = true ∧ good (patchH a h) = true) from fun e => c5 e.2)]
  · rw [if_neg (show ¬ (asked a h = true ∧ good (patchH a h) = true) from fun e => ca e.1)]
theorem patchR_asked {a : List ByteArray} {h : List IH} (c : (patchR a h).2 = true) : asked a h = true := by
  unfold patchR at c
  split at c
  · rename_i e
    exact e.1
  · cases c

def nearN (w : Int) : Int → List IH → Nat
  | _, [] => 0
  | e, y :: t => if y.f0 - e ≤ 2 * w then nearN w (y.f0 + y.f1) t + 1 else 0
theorem nearN_le (w : Int) : ∀ (t : List IH) (e : Int), nearN w e t ≤ t.length
  | [], _ => Nat.le_refl _
  | y :: t, e => by
    have := nearN_le w t (y.f0 + y.f1)
    simp only [nearN, List.length_cons]
    split <;> omega
def segI (a : List ByteArray) (p q : Int) : List ByteArray := (a.take q.toNat).drop p.toNat
theorem segI_len (a : List ByteArray) (p q : Int) : (segI a p q).length ≤ a.length := by
  unfold segI
  rw [List.length_drop, List.length_take]
  omega
def runRows (a : List ByteArray) : Int → List IH → List S140
  | _, [] => []
  | p, x :: t => rowsK 1 (segI a p x.f0) ++ (rowsK 2 (segI a x.f0 (x.f0 + x.f1)) ++ (rowsK 3 x.f2 ++ runRows a (x.f0 + x.f1) t))
def endOf : Int → List IH → Int
  | p, [] => p
  | _, x :: t => endOf (x.f0 + x.f1) t
def moreBy : List IH → Int
  | [] => 0
  | x :: t => ((x.f2.length : Int) - x.f1) + moreBy t
def tailRows (a : List ByteArray) (w e : Int) : List S140 := rowsK 1 (segI a e (mn (e + w) (a.length : Int)))
def fromOf (w : Int) (x : IH) : Int := mx (x.f0 - w) 0
def groupOne (a : List ByteArray) (w s : Int) (x : IH) (t : List IH) : S73 :=
  ⟨fromOf w x, fromOf w x + s, runRows a (fromOf w x) (x :: t) ++ tailRows a w (endOf (x.f0 + x.f1) t)⟩
def groupsFrom (a : List ByteArray) (w : Int) : Nat → Int → List IH → List S73
  | 0, _, _ => []
  | _ + 1, _, [] => []
  | n + 1, s, x :: t => groupOne a w s x (t.take (nearN w (x.f0 + x.f1) t)) :: groupsFrom a w n (s + moreBy (x :: t.take (nearN w (x.f0 + x.f1) t))) (t.drop (nearN w (x.f0 + x.f1) t))
def groupsR (a : List ByteArray) (h : List IH) (w : Int) : List S73 := groupsFrom a w h.length 0 h
end Go.Proofs.Ytmcldkobejhaeaa.Pl
namespace Go.Proofs.Ytmcldkobejhaeaa.My
open Go.RowKit Go.Proofs.YtmcldkobejhaeaaW.PrintWords Go.Proofs.YtmcldkobejhaeaaW.PrintLast Go.Proofs.YtmcldkobejhaeaaW.PrintMore Go.Proofs.Ytmcldkobejhaeaa.Pl
attribute [local go_sem] max2_int min2_int max_two min_two max_three min_three max_four min_four
set_option linter.unusedVariables false
set_option linter.unusedSimpArgs false
def OutInv (a : List ByteArray) (h : List IH) (W : Int) (i kq : Nat) (s : Int) (acc : List S73) : Prop :=
  i + kq = h.length ∧ -40 * (i : Int) ≤ s ∧ s ≤ 40 * (i : Int) ∧ acc.length ≤ i ∧ ∃ n, h.length - i ≤ n ∧ acc ++ groupsFrom a W n s (h.drop i) = groupsR a h W
def LastInv (h : List IH) (W : Int) (i j : Nat) : Prop :=
  i ≤ j ∧ j < h.length ∧ nearN W ((T106 h (i : Int)).f0 + (T106 h (i : Int)).f1) (h.drop (i + 1)) = (j - i) + nearN W ((T106 h (j : Int)).f0 + (T106 h (j : Int)).f1) (h.drop (j + 1))
def LastAt (h : List IH) (W : Int) (i j : Nat) : Prop :=
  i ≤ j ∧ j < h.length ∧ nearN W ((T106 h (i : Int)).f0 + (T106 h (i : Int)).f1) (h.drop (i + 1)) = j - i
theorem LastInv.more {h : List IH} {W : Int} {i j : Nat} (hv : LastInv h W i j) (hj : j + 1 < h.length) (hd : (T106 h ((j + 1 : Nat) : Int)).f0 - ((T106 h (j : Int)).f0 + (T106 h (j : Int)).f1) ≤ 2 * W) : LastInv h W i (j + 1) := by
  obtain ⟨h1, h2, h3⟩ := hv
  refine ⟨by omega, hj, ?_⟩
  rw [h3, List.drop_eq_getElem_cons hj, nearN]
  rw [rdIH h (j + 1) hj] at hd ⊢
  rw [if_pos hd]
  omega
theorem LastInv.stop {h : List IH} {W : Int} {i j : Nat} (hv : LastInv h W i j) (hj : j + 1 < h.length) (hd : ¬ (T106 h ((j + 1 : Nat) : Int)).f0 - ((T106 h (j : Int)).f0 + (T106 h (j : Int)).f1) ≤ 2 * W) : LastAt h W i j := by
  obtain ⟨h1, h2, h3⟩ := hv
  refine ⟨h1, h2, ?_⟩
  rw [h3, List.drop_eq_getElem_cons hj, nearN]
  rw [rdIH h (j + 1) hj] at hd
  rw [if_neg hd]
  omega
theorem LastInv.end_ {h : List IH} {W : Int} {i j : Nat} (hv : LastInv h W i j) (hj : ¬ j + 1 < h.length) : LastAt h W i j := by
  obtain ⟨h1, h2, h3⟩ := hv
  refine ⟨h1, h2, ?_⟩
  rw [h3, List.drop_eq_nil_of_le (by omega)]
  simp [nearN]
structure NearX (x : IH) : Prop where
  a0 : 0 ≤ x.f0
  a1 : x.f0 ≤ 40
  b0 : 0 ≤ x.f1
  b1 : x.f1 ≤ 40
  c : x.f2.length ≤ 40
theorem nearX_at {h : List IH} (hn : near h) (i : Nat) (hi : i < h.length) : NearX (T106 h (i : Int)) := by
  rw [rdIH h i hi]
  have := hn _ (List.getElem_mem hi)
  exact ⟨by omega, by omega, by omega, by omega, by omega⟩
theorem chain_get {n : Int} : ∀ (h : List IH) (p : Int) (i : Nat) (hi : i < h.length), chain n p h = true → h[i].f0 + h[i].f1 ≤ n ∧ ∀ (hi2 : i + 1 < h.length), h[i].f0 + h[i].f1 < h[i + 1].f0
  | [], _, _, hi, _ => absurd hi (Nat.not_lt_zero _)
  | [x], p, 0, hi, hc => by
    simp only [chain, hOK, Bool.and_eq_true, decide_eq_true_eq] at hc
    exact ⟨hc.1.1.2.2.1, fun h2 => absurd h2 (by simp)⟩
  | x :: y :: t, p, 0, hi, hc => by
    simp only [chain, hOK, Bool.and_eq_true, decide_eq_true_eq] at hc
    exact ⟨hc.1.1.2.2.1, fun h2 => hc.2.1.1.2.2.2.2.2⟩
  | x :: t, p, i + 1, hi, hc => by
    simp only [chain, Bool.and_eq_true] at hc
    have := chain_get t _ i (Nat.lt_of_succ_lt_succ hi) hc.2
    exact ⟨this.1, fun h2 => this.2 (Nat.lt_of_succ_lt_succ h2)⟩
def runAt (h : List IH) (k j : Nat) : List IH := (h.take (j + 1)).drop k
theorem runAt_cons {h : List IH} {k j : Nat} (hk : k ≤ j) (hj : j < h.length) : runAt h k j = T106 h (k : Int) :: runAt h (k + 1) j := by
  unfold runAt
  rw [rdIH h k (by omega), List.drop_eq_getElem_cons (by rw [List.length_take]; omega), List.getElem_take]
theorem runAt_nil (h : List IH) (j : Nat) : runAt h (j + 1) j = [] := by
  unfold runAt
  exact List.drop_eq_nil_of_le (by rw [List.length_take]; omega)
theorem groups_step {a : List ByteArray} {h : List IH} {W s : Int} {i j n : Nat} (hi : i < h.length) (hv : LastAt h W i j) :
    groupsFrom a W (n + 1) s (h.drop i) = groupOne a W s (T106 h (i : Int)) (runAt h (i + 1) j) :: groupsFrom a W n (s + moreBy (runAt h i j)) (h.drop (j + 1)) := by
  obtain ⟨h1, h2, h3⟩ := hv
  have e1 : (h.drop (i + 1)).take (j - i) = runAt h (i + 1) j := by
    unfold runAt
    rw [List.drop_take]
    congr 1
    omega
  have e2 : (h.drop (i + 1)).drop (j - i) = h.drop (j + 1) := by
    rw [List.drop_drop]
    congr 1
    omega
  have e3 := runAt_cons h1 h2
  rw [rdIH h i hi] at h3 e3 ⊢
  rw [List.drop_eq_getElem_cons hi]
  simp only [groupsFrom, h3, e1, e2, e3]
theorem seg_cut (w : World) (A0 : Option Addr) (c0 : Nat) (l0 : List ByteArray) (hr : Kd.C Kd.string w A0 l0.length l0) (hc : l0.length ≤ c0) (p q : Int) (h0 : 0 ≤ p) (h1 : p ≤ q) (h2 : q ≤ (l0.length : Int)) :
    ∃ A' : Option Addr, (∀ W : World, (Instr.slice 24 (.slice A0 l0.length c0) (some (.int .i64 p)) (some (.int .i64 q)) none).run Try.prog W = .ok (.slice A' (segI l0 p q).length (c0 - p.toNat)) W) ∧ Kd.C Kd.string w A' (segI l0 p q).length (segI l0 p q) ∧ (segI l0 p q).length ≤ c0 - p.toNat := by
  obtain ⟨i0, hi0, _, hsz, _⟩ := info_parts info9
  obtain ⟨A', hcut, hA, hC⟩ := print_mid_of (P := Try.prog) Value.string (⟨#[]⟩ : ByteArray) 24 9 .i64 .i64 Try.underlying24 hi0 hsz A0 c0 l0 p q h0 h1 h2 hc
  exact ⟨A', hcut, Kd.C_of_reads (h1 := fun _ => rfl) (hA _ (Kd.reads_of_C hr)), hC⟩
structure MidSt (w W : World) (gb gx : Nat) (pt Q : Int) (v : Value) (rs : List S140) (f c : Int) (u : Value) (v7 : Value) (acc : List S73) : Prop where
  g : GBox w W gb pt Q v rs
  x : W.heap[gx]? = some (.cells #[.int .i64 f, .int .i64 c, u] 106 (0, 0))
  s : Kd.S k73 73 W w.heap.size (fun k => k < gb) v7 acc
theorem MidSt.stay {w W W' : World} {gb gx : Nat} {pt Q : Int} {v v' : Value} {rs rs' : List S140} {f c : Int} {u v7 : Value} {acc : List S73} (h : MidSt w W gb gx pt Q v rs f c u v7 acc) (hg : GBox w W' gb pt Q v' rs') (hs : Stay2 gb W W') : MidSt w W' gb gx pt Q v' rs' f c u v7 acc :=
  ⟨hg, hs.2.2 gx _ _ h.x (by decide) (by decide), Kd.S_step h.s (fun k hk _ => hs.2.1 k hk)⟩
theorem MidSt.cells {w W : World} {gb gx : Nat} {pt Q : Int} {v : Value} {rs : List S140} {f c : Int} {u v7 : Value} {acc : List S73} (h : MidSt w W gb gx pt Q v rs f c u v7 acc) :
    W.cell? ⟨gx, 0, none⟩ = some (.int .i64 f) ∧ W.cell? ⟨gx, 1, none⟩ = some (.int .i64 c) ∧ W.cell? ⟨gx, 2, none⟩ = some u := ⟨(blk_cell h.x 0).trans rfl, (blk_cell h.x 1).trans rfl, (blk_cell h.x 2).trans rfl⟩
theorem GBox.box {w0 W W1 : World} {gb gx : Nat} {p q : Int} {v : Value} {rs : List S140} {cs : Array Value} (h : GBox w0 W gb p q v rs) (hb : Below W.heap.size W W1) (hx : W1.heap[gx]? = some (.cells cs 106 (0, 0))) (hge : w0.heap.size ≤ gx) (a b c : Value) :
    GBox w0 (((W1.setCell ⟨gx, 0, none⟩ a).setCell ⟨gx, 1, none⟩ b).setCell ⟨gx, 2, none⟩ c) gb p q v rs := by
  have ne : gb ≠ gx := blk_ne (blk_below h.o hb) hx (by decide)
  exact ⟨blk_far (blk_far (blk_far (blk_below h.o hb) (p := ⟨gx, 0, none⟩) ne a) (p := ⟨gx, 1, none⟩) ne b) (p := ⟨gx, 2, none⟩) ne c,
    Kd.R_mono (Kd.R_far (p := ⟨gx, 2, none⟩) (Kd.R_far (p := ⟨gx, 1, none⟩) (Kd.R_far (p := ⟨gx, 0, none⟩) (Kd.R_types (Kd.R_below h.r hb) hx (by decide)) (fun k hk => hk.2) a) (fun k hk => hk.2) b) (fun k hk => hk.2) c) (fun k hk => hk.1),
    below_set (below_set (below_set (below_step h.b hb) hge) hge) hge, h.ge⟩
theorem midSt_box {w W W1 : World} {gb gx : Nat} {pt Q : Int} {v : Value} {rs : List S140} {v7 : Value} {acc : List S73} (h : GBox w W gb pt Q v rs) (hs : Kd.S k73 73 W w.heap.size (fun k => k < gb) v7 acc) (hb : Below W.heap.size W W1)
    (hx : W1.heap[gx]? = some (.cells #[.int .i64 0, .int .i64 0, .slice none 0 0] 106 (0, 0))) (hgx : W.heap.size ≤ gx) (f c : Int) (u : Value) :
    MidSt w (((W1.setCell ⟨gx, 0, none⟩ (.int .i64 f)).setCell ⟨gx, 1, none⟩ (.int .i64 c)).setCell ⟨gx, 2, none⟩ u) gb gx pt Q v rs f c u v7 acc := by
  have hlt : ∀ k, k < gb → k ≠ gx := fun k hk => by have := blk_lt h.o; omega
  exact ⟨h.box hb hx (Nat.le_trans h.ge (Nat.le_trans (Nat.le_of_lt (blk_lt h.o)) hgx)) _ _ _, blk_put (blk_put (blk_put hx 0 _ rfl) 1 _ rfl) 2 _ rfl,
    Kd.S_far (p := ⟨gx, 2, none⟩) (Kd.S_far (p := ⟨gx, 1, none⟩) (Kd.S_far (p := ⟨gx, 0, none⟩) (Kd.S_below hs hb) hlt _) hlt _) hlt _⟩
def MidInv (a : List ByteArray) (h : List IH) (W s S : Int) (i j k kq : Nat) (s' p : Int) (F : List S140) (w w' : World) (gb : Nat) (pt Q : Int) : Prop :=
  i ≤ k ∧ k + kq = j + 1 ∧ s' + moreBy (runAt h k j) = S ∧ -40 * (k : Int) ≤ s' ∧ s' ≤ 40 * (k : Int) ∧ 0 ≤ p ∧ p ≤ (a.length : Int) ∧ (k ≤ j → p ≤ (T106 h (k : Int)).f0) ∧ (i < k → p = (T106 h ((k - 1 : Nat) : Int)).f0 + (T106 h ((k - 1 : Nat) : Int)).f1) ∧
  ∃ v rs, GBox w w' gb pt Q v rs ∧ rs.length ≤ 200 * k ∧ rs ++ (runRows a p (runAt h k j) ++ tailRows a W (endOf p (runAt h k j))) = F
set_option maxHeartbeats 16000000 in
set_option maxRecDepth 100000 in
theorem impl_groupsOf_made (A0 : Option Addr) (c0 : Nat) (l0 : List ByteArray) (A1 : Option Addr) (c1 : Nat) (l1 : List IH) (a2 : Int) (w : World) (hr0 : Kd.C Kd.string w A0 l0.length l0) (hc0 : l0.length ≤ c0) (hr1 : Kd.C k106 w A1 l1.length l1) (hc1 : l1.length ≤ c1) (ha : asked l0 l1 = true) (hw : 0 ≤ a2 ∧ a2 ≤ 20) :
    Calls Try.prog 101 #[.slice A0 l0.length c0, .slice A1 l1.length c1, .int .i64 a2] w fun e w' => ∃ v, e = .returned v ∧ Kd.S k73 73 w' w.heap.size (fun _ => True) v (groupsR l0 l1 a2) ∧ Below w.heap.size w w' := by
  have hu73 := Try.underlying73
  have hu106 := Try.underlying106
  have HR0 := am hr0
  have HC0 := am hc0
  have HR1 := am hr1
  have HC1 := am hc1
  obtain ⟨q1, q2, q3, q4⟩ := asked_of ha
  have HLA := am q1
  have HLH := am q2
  have HN := am q3
  have HCH := am q4
  have HW := am hw
  have HB := am (Below.refl w.heap.size w)
  clear hr0 hc0 hr1 hc1 q1 q2 q3 q4 hw ha
  go_enter Try.func101, Try.ntmps101
  go_wp2_with (first | ((with_reducible refine gate_dst (N := 16) rfl ?_); refine Kd.S_lit k73 _ 73 ?hg (N := 16) ?hd (xs := ([] : List S73)) (inner := []) (ok := fun _ => True) (okp := fun _ => True) ?hr ?hp (fun _ hk => hk) trivial (Below.refl _ _) (Nat.le_refl _) (by simp) ?_; (case hd => rfl); (case hg => rfl); (case hr => first | (go_simp; done) | (go_simp; rfl)); (case hp => exact (Reps.none _ _)); intro v277 w4 ho5 hb hg_ hnew_; clear hg_ hnew_; have HO := am (Kd.S_lower ho5 (below_size HB.out)); have HB1 := am (below_step HB.out hb); clear HB hb ho5))
  go_loopg [7, 8, 9] l1.length (fun kq v7 v8 v9 w' => ∃ (acc : List S73) (s : Int) (i : Nat), v8 = .int .i64 s ∧ v9 = .int .i64 (i : Int) ∧ Aside0 (OutInv l0 l1 a2 i kq s acc) ∧ Aside0 (Kd.S k73 73 w' w.heap.size (fun _ => True) v7 acc) ∧ Aside0 (Below w.heap.size w w'))
  case atStart => exact ⟨[], 0, 0, rfl, rfl, ⟨by omega, by omega, by omega, Nat.le_refl _, l1.length, by omega, rfl⟩, ⟨zs HO.out⟩, ⟨by repeat (first | exact HB1.out | apply below_alloc | apply pw_below_drewN | apply below_drew1)⟩⟩
  case round =>
    clear HO HB1
    obtain ⟨acc, s, i, rfl, rfl, HI, HO, HB⟩ := hrel
    obtain ⟨e1, s0, s1, e2, n, hn, e3⟩ := HI.out
    have HE := am e3
    clear HI e3
    by_cases hi : i < l1.length
    · have hd : decide ((i : Int) < (l1.length : Int)) = true := decide_eq_true (by omega)
      have hd2 : decide (i < l1.length) = true := decide_eq_true hi
      go_upto_block 2 with (fail)
      go_cut [10] (fun v10 wc => ∃ j : Nat, v10 = .int .i64 (j : Int) ∧ Aside0 (LastAt l1 a2 i j) ∧ Aside0 (Kd.S k73 73 wc w.heap.size (fun _ => True) u7 acc) ∧ Aside0 (Below w.heap.size w wc))
      case first =>
        go_wp2_with fail
        go_loopg [10] (l1.length - 1 - i) (fun kq v10 w' => ∃ j : Nat, v10 = .int .i64 (j : Int) ∧ j + kq + 1 = l1.length ∧ Aside0 (LastInv l1 a2 i j) ∧ Aside0 (Kd.S k73 73 w' w.heap.size (fun _ => True) u7 acc) ∧ Aside0 (Below w.heap.size w w'))
        case atStart => exact ⟨i, rfl, by omega, ⟨⟨Nat.le_refl _, hi, by rw [Nat.sub_self, Nat.zero_add]⟩⟩, ⟨zs HO.out⟩, HB⟩
        case round =>
          clear HO HB
          obtain ⟨j, rfl, ej, HI, HO, HB⟩ := hrel
          have hj0 : j < l1.length := HI.out.2.1
          have hw1 : wrap64 ((j : Int) + 1) = ((j + 1 : Nat) : Int) := wrap_succ j (by have := HLH.out; omega)
          obtain ⟨jn, hjn⟩ : ∃ z : Int, wrap64 ((j : Int) + 1) = z := ⟨_, rfl⟩
          have hjw : (IntKind.i64.wrap ((j : Int) + 1)) = jn := (i64_w _).trans hjn
          have hje := am (show jn = ((j + 1 : Nat) : Int) from hjn.symm.trans hw1)
          clear hw1
          by_cases hj : j + 1 < l1.length
          · have c8 : decide (jn < (l1.length : Int)) = true := decide_eq_true (by have := hje.out; omega)
            have p1 : 0 ≤ jn := by have := hje.out; omega
            have q1 : jn < (l1.length : Int) := by have := hje.out; omega
            have p2 : 0 ≤ (j : Int) := by omega
            have q2 : (j : Int) < (l1.length : Int) := by omega
            obtain ⟨ad, A2, C2, eA, hx0, hx1, hx2, hl2, hr2⟩ := at_T106 HR1.out jn p1 q1
            subst eA
            replace hx0 := (HB.out.cell (World.block_lt_of_cell? w _ hx0)).trans hx0
            obtain ⟨ad3, A3, C3, eA3, hy0, hy1, hy2, hl3, hr3⟩ := at_T106 HR1.out (j : Int) p2 q2
            obtain rfl : ad = ad3 := (by injection eA3)
            replace hy0 := (HB.out.cell (World.block_lt_of_cell? w _ hy0)).trans hy0
            replace hy1 := (HB.out.cell (World.block_lt_of_cell? w _ hy1)).trans hy1
            simp only [Int.toNat_natCast] at hy0 hy1
            have n1 := nearX_at HN.out (j + 1) hj
            rw [← hje.out] at n1
            have n2 := nearX_at HN.out j hj0
            have N1 := am n1
            have N2 := am n2
            clear n1 n2 hx1 hx2 hl2 hr2 hy2 hl3 hr3
            have hcd : wrap64 ((T106 l1 jn).f0 - wrap64 ((T106 l1 (j : Int)).f0 + (T106 l1 (j : Int)).f1)) = (T106 l1 jn).f0 - ((T106 l1 (j : Int)).f0 + (T106 l1 (j : Int)).f1) ∧ wrap64 (2 * a2) = 2 * a2 := by
              have := N1.out; have := N2.out; have := HW.out
              obtain ⟨a, b, c, d, e⟩ := N1.out
              obtain ⟨a', b', c', d', e'⟩ := N2.out
              rw [wrap64_id (x := (T106 l1 (j : Int)).f0 + (T106 l1 (j : Int)).f1) (by omega) (by omega), wrap64_id (by omega) (by omega), wrap64_id (by omega) (by omega)]
              exact ⟨rfl, rfl⟩
            have HCD := am hcd
            clear hcd
            replace p1 := eq_true p1
            replace q1 := eq_true q1
            replace p2 := eq_true p2
            replace q2 := eq_true q2
            by_cases hg : (T106 l1 jn).f0 - ((T106 l1 (j : Int)).f0 + (T106 l1 (j : Int)).f1) ≤ 2 * a2
            · have c13 : decide (wrap64 ((T106 l1 jn).f0 - wrap64 ((T106 l1 (j : Int)).f0 + (T106 l1 (j : Int)).f1)) ≤ wrap64 (2 * a2)) = true := decide_eq_true (by rw [HCD.out.1, HCD.out.2]; exact hg)
              have HG := am hg
              clear hg
              go_wp2
              repeat (go_quiet (fail); try go_wp2)
              go_roundg (l1.length - 1 - (j + 1))
              case measure => omega
              case rel => exact ⟨j + 1, by rw [← hje.out], by omega, ⟨HI.out.more hj (by rw [← hje.out]; exact HG.out)⟩, ⟨zs HO.out⟩, ⟨zb⟩⟩
            · have c13 : decide (wrap64 ((T106 l1 jn).f0 - wrap64 ((T106 l1 (j : Int)).f0 + (T106 l1 (j : Int)).f1)) ≤ wrap64 (2 * a2)) = false := decide_eq_false (by rw [HCD.out.1, HCD.out.2]; exact hg)
              have HG := am hg
              clear hg
              go_wp2
              repeat (go_quiet (fail); try go_wp2)
              go_meet
              case rel => exact ⟨j, rfl, ⟨HI.out.stop hj (by rw [← hje.out]; have := HG.out; omega)⟩, ⟨zs HO.out⟩, ⟨zb⟩⟩
          · have c8 : decide (jn < (l1.length : Int)) = false := decide_eq_false (by have := hje.out; omega)
            go_wp2
            repeat (go_quiet (fail); try go_wp2)
            go_meet
            case rel => exact ⟨j, rfl, ⟨HI.out.end_ hj⟩, ⟨zs HO.out⟩, ⟨zb⟩⟩
      case rest =>
        clear HO HB
        obtain ⟨j, rfl, HI, HO, HB⟩ := hcut
        have hij := HI.out.1
        have hj := HI.out.2.1
        have p1 : 0 ≤ (i : Int) := by omega
        have q1 : (i : Int) < (l1.length : Int) := by omega
        have p2 : 0 ≤ (j : Int) := by omega
        have q2 : (j : Int) < (l1.length : Int) := by omega
        obtain ⟨ad, A2, C2, eA, hx0, hx1, hx2, hl2, hr2⟩ := at_T106 HR1.out (i : Int) p1 q1
        subst eA
        replace hx0 := (HB.out.cell (World.block_lt_of_cell? w _ hx0)).trans hx0
        obtain ⟨ad3, A3, C3, eA3, hy0, hy1, hy2, hl3, hr3⟩ := at_T106 HR1.out (j : Int) p2 q2
        obtain rfl : ad = ad3 := (by injection eA3)
        replace hy0 := (HB.out.cell (World.block_lt_of_cell? w _ hy0)).trans hy0
        replace hy1 := (HB.out.cell (World.block_lt_of_cell? w _ hy1)).trans hy1
        simp only [Int.toNat_natCast] at hx0 hy0 hy1
        have N1 := am (nearX_at HN.out i hi)
        have N2 := am (nearX_at HN.out j hj)
        clear hx1 hx2 hl2 hr2 hy2 hl3 hr3
        obtain ⟨pt, hpt⟩ : ∃ z : Int, fromOf a2 (T106 l1 (i : Int)) = z := ⟨_, rfl⟩
        have hpt_ : (if (wrap64 ((T106 l1 (i : Int)).f0 - a2)) < 0 then 0 else (wrap64 ((T106 l1 (i : Int)).f0 - a2))) = pt := by
          obtain ⟨a, b, c, d, e⟩ := N1.out
          have := HW.out
          rw [wrap64_id (by omega) (by omega)]
          exact hpt
        have ptb : 0 ≤ pt ∧ pt ≤ (T106 l1 (i : Int)).f0 := by
          obtain ⟨a, b, c, d, e⟩ := N1.out
          have := HW.out
          rw [← hpt]
          unfold fromOf mx
          split <;> omega
        obtain ⟨en, hen⟩ : ∃ z : Int, mn ((T106 l1 (j : Int)).f0 + (T106 l1 (j : Int)).f1 + a2) (l0.length : Int) = z := ⟨_, rfl⟩
        have hen_ : (if (l0.length : Int) < (wrap64 ((wrap64 ((T106 l1 (j : Int)).f0 + (T106 l1 (j : Int)).f1)) + a2)) then (l0.length : Int) else (wrap64 ((wrap64 ((T106 l1 (j : Int)).f0 + (T106 l1 (j : Int)).f1)) + a2))) = en := by
          obtain ⟨a, b, c, d, e⟩ := N2.out
          have := HW.out
          rw [wrap64_id (x := (T106 l1 (j : Int)).f0 + (T106 l1 (j : Int)).f1) (by omega) (by omega), wrap64_id (by omega) (by omega)]
          exact hen
        have PT := am hpt
        have EN := am hen
        have PTB := am ptb
        clear hpt hen ptb
        replace p1 := eq_true p1
        replace q1 := eq_true q1
        replace p2 := eq_true p2
        replace q2 := eq_true q2
        go_wp2
        repeat (go_quiet (first | ((with_reducible refine gate_dst (N := 13) rfl ?_); refine box_event ?hg (N := 13) ?hd (cs := #[.int .i64 0, .int .i64 0, .slice none 0 0]) (t := 73) ?hr ?_; (case hd => rfl); (case hg => rfl); (case hr => first | (go_simp; done) | (go_simp; rfl)); intro gb hgb w13 hbox hb; have HO2 := am (Kd.S_old (zs HO.out) hb); have HB2 := am (below_step zb hb); have BK := am hbox; have GE := am (show w.heap.size ≤ gb by rw [hgb]; exact below_size zb); have GB := am hgb; have y0 : w13.cell? ⟨gb, 0, none⟩ = some (.int .i64 0) := (blk_cell BK.out 0).trans rfl; have y1 : w13.cell? ⟨gb, 1, none⟩ = some (.int .i64 0) := (blk_cell BK.out 1).trans rfl; have y2 : w13.cell? ⟨gb, 2, none⟩ = some (.slice none 0 0) := (blk_cell BK.out 2).trans rfl; have z0 := blk_frozen BK.out 0; have z1 := blk_frozen BK.out 1; have z2 := blk_frozen BK.out 2; clear hbox hb hgb HO HB)); try go_wp2_with (first | ((with_reducible refine gate_dst (N := 13) rfl ?_); refine box_event ?hg (N := 13) ?hd (cs := #[.int .i64 0, .int .i64 0, .slice none 0 0]) (t := 73) ?hr ?_; (case hd => rfl); (case hg => rfl); (case hr => first | (go_simp; done) | (go_simp; rfl)); intro gb hgb w13 hbox hb; have HO2 := am (Kd.S_old (zs HO.out) hb); have HB2 := am (below_step zb hb); have BK := am hbox; have GE := am (show w.heap.size ≤ gb by rw [hgb]; exact below_size zb); have GB := am hgb; have y0 : w13.cell? ⟨gb, 0, none⟩ = some (.int .i64 0) := (blk_cell BK.out 0).trans rfl; have y1 : w13.cell? ⟨gb, 1, none⟩ = some (.int .i64 0) := (blk_cell BK.out 1).trans rfl; have y2 : w13.cell? ⟨gb, 2, none⟩ = some (.slice none 0 0) := (blk_cell BK.out 2).trans rfl; have z0 := blk_frozen BK.out 0; have z1 := blk_frozen BK.out 1; have z2 := blk_frozen BK.out 2; clear hbox hb hgb HO HB)))
        have HS := am (show Kd.S k73 73 (((w13.setCell ⟨gb, 0, none⟩ (.int .i64 pt)).setCell ⟨gb, 1, none⟩ (.int .i64 (wrap64 (pt + s)))).setCell ⟨gb, 2, none⟩ (.slice none 0 0)) w.heap.size (fun k => k < gb) u7 acc from
          Kd.S_far (p := ⟨gb, 2, none⟩) (Kd.S_far (p := ⟨gb, 1, none⟩) (Kd.S_far (p := ⟨gb, 0, none⟩) (Kd.S_mono HO2.out (fun k hk => by rw [GB.out]; exact hk.2)) (fun k hk => Nat.ne_of_lt hk) _) (fun k hk => Nat.ne_of_lt hk) _) (fun k hk => Nat.ne_of_lt hk) _)
        have HG := am (show GBox w (((w13.setCell ⟨gb, 0, none⟩ (.int .i64 pt)).setCell ⟨gb, 1, none⟩ (.int .i64 (wrap64 (pt + s)))).setCell ⟨gb, 2, none⟩ (.slice none 0 0)) gb pt (wrap64 (pt + s)) (.slice none 0 0) [] from
          ⟨blk_put (blk_put (blk_put BK.out 0 _ rfl) 1 _ rfl) 2 _ rfl, Kd.R_nil _ _ _ _ _, below_set (below_set (below_set HB2.out GE.out) GE.out) GE.out, GE.out⟩)
        generalize (((w13.setCell ⟨gb, 0, none⟩ (.int .i64 pt)).setCell ⟨gb, 1, none⟩ (.int .i64 (wrap64 (pt + s)))).setCell ⟨gb, 2, none⟩ (.slice none 0 0)) = w15 at HS HG ⊢
        clear HO2 HB2 BK GB y0 y1 y2 z0 z1 z2 hx0 hy0 hy1 hpt_ hen_
        obtain ⟨Q, hQ⟩ : ∃ z : Int, wrap64 (pt + s) = z := ⟨_, rfl⟩
        rw [hQ] at HG
        have HQ := am (show pt + s = Q from by
          rw [← hQ]
          obtain ⟨a, b, c, d, e⟩ := N1.out
          have := PTB.out
          have := HLH.out
          rw [wrap64_id (by omega) (by omega)])
        clear hQ
        obtain ⟨F, hF⟩ : ∃ z, runRows l0 pt (runAt l1 i j) ++ tailRows l0 a2 (endOf pt (runAt l1 i j)) = z := ⟨_, rfl⟩
        obtain ⟨S, hS⟩ : ∃ z, s + moreBy (runAt l1 i j) = z := ⟨_, rfl⟩
        have HF := am hF
        have HSS := am hS
        have hcg := chain_get l1 (-1) j hj HCH.out
        have hcgi := chain_get l1 (-1) i hi HCH.out
        rw [← rdIH l1 j hj] at hcg
        rw [← rdIH l1 i hi] at hcgi
        have HCJ := am hcg.1
        have HCI := am hcgi.1
        clear hF hS hcg hcgi
        go_loopg [8, 9, 11] (j + 1 - i) (fun kq v8 v9 v11 w' => ∃ (s' : Int) (k : Nat) (p : Int), v8 = .int .i64 s' ∧ v9 = .int .i64 (k : Int) ∧ v11 = .int .i64 p ∧ Aside0 (MidInv l0 l1 a2 s S i j k kq s' p F w w' gb pt Q) ∧ Aside0 (Kd.S k73 73 w' w.heap.size (fun k => k < gb) u7 acc))
        case atStart => exact ⟨s, i, pt, rfl, rfl, rfl, ⟨⟨Nat.le_refl _, by omega, HSS.out, s0, s1, PTB.out.1, by have := N1.out.b0; have := PTB.out; have := HCI.out; omega, fun _ => PTB.out.2, fun h => absurd h (Nat.lt_irrefl _), _, [], HG.out, Nat.zero_le _, HF.out⟩⟩, HS⟩
        case round =>
          clear HS HG
          obtain ⟨s', k, p, rfl, rfl, rfl, HI2, HS⟩ := hrel
          obtain ⟨k1, k2, k3, k4, k5, k6, k7, k8, k9, v, rs, hg, hl, hF⟩ := HI2.out
          have HG := am hg
          have HF2 := am hF
          have HL := am hl
          have K3 := am k3
          have K8 := am k8
          have K9 := am k9
          clear HI2 hg hF hl k3 k8 k9
          by_cases hk : k ≤ j
          · have hd : decide ((k : Int) ≤ (j : Int)) = true := decide_eq_true (by omega)
            have hd2 : decide (k ≤ j) = true := decide_eq_true hk
            have hkl : k < l1.length := by omega
            have p1 : 0 ≤ (k : Int) := by omega
            have q1 : (k : Int) < (l1.length : Int) := by omega
            obtain ⟨ad3, A4, C4, eA3, hy0, hy1, hy2, hl4, hr4⟩ := at_T106 HR1.out (k : Int) p1 q1
            obtain rfl : ad = ad3 := (by injection eA3)
            clear eA3
            replace hy0 := (HG.out.b.cell (World.block_lt_of_cell? w _ hy0)).trans hy0
            replace hy1 := (HG.out.b.cell (World.block_lt_of_cell? w _ hy1)).trans hy1
            replace hy2 := (HG.out.b.cell (World.block_lt_of_cell? w _ hy2)).trans hy2
            simp only [Int.toNat_natCast] at hy0 hy1 hy2
            have hck := chain_get l1 (-1) k hkl HCH.out
            rw [← rdIH l1 k hkl] at hck
            have hnk := nearX_at HN.out k hkl
            have hrun := runAt_cons hk hj (h := l1)
            have hp8 := K8.out hk
            have hnext : ∀ (h2 : k + 1 ≤ j), (T106 l1 (k : Int)).f0 + (T106 l1 (k : Int)).f1 < (T106 l1 ((k + 1 : Nat) : Int)).f0 := fun h2 => by
              rw [rdIH l1 (k + 1) (by omega)]
              exact hck.2 (by omega)
            have XE0 : T106 l1 (k : Int) = T106 l1 (k : Int) := rfl
            obtain ⟨x, hxe⟩ : ∃ x, x = T106 l1 (k : Int) := ⟨_, rfl⟩
            rw [← hxe] at hy0 hy1 hy2 hl4 hr4 hck hnk hrun hp8 hnext
            have XE := am hxe
            clear hxe XE0
            -- hy1 hy2 hl4 hr4 hck hnk hrun hp8 hnext K8
            have HL4 := am hl4
            have HR4 := am hr4
            have HCK := am hck.1
            have HNK := am hnk
            have HRUN := am hrun
            have HP8 := am hp8
            have HNX := am hnext
            have hfc : wrap64 (x.f0 + x.f1) = x.f0 + x.f1 := wrap64_id (by have := hnk.a0; have := hnk.b0; omega) (by have := hnk.a1; have := hnk.b1; omega)
            have HFC := am hfc
            obtain ⟨S1, hcut1, hC1, hn1⟩ := seg_cut w A0 c0 l0 HR0.out HC0.out p x.f0 k6 hp8 (by have := hnk.b0; have := hck.1; omega)
            obtain ⟨S2, hcut2, hC2, hn2⟩ := seg_cut w A0 c0 l0 HR0.out HC0.out x.f0 (wrap64 (x.f0 + x.f1)) hnk.a0 (by rw [hfc]; have := hnk.b0; omega) (by rw [hfc]; exact hck.1)
            have HC1_ := am hC1
            have HC2_ := am hC2
            have HN1 := am hn1
            have HN2 := am hn2
            clear hl4 hr4 hck hnk hrun hp8 hnext hfc hC1 hC2 hn1 hn2
            replace p1 := eq_true p1
            replace q1 := eq_true q1
            go_wp2_with (first | ((with_reducible refine gate_dst (N := 15) rfl ?_); refine box_event ?hg (N := 15) ?hd (cs := #[.int .i64 0, .int .i64 0, .slice none 0 0]) (t := 106) ?hr ?_; (case hd => rfl); (case hg => rfl); (case hr => first | (go_simp; done) | (go_simp; rfl)); intro gx hgx w6 hbox hb; have BX := am hbox; have GX := am hgx; have BB := am hb; have y0 : w6.cell? ⟨gx, 0, none⟩ = some (.int .i64 0) := (blk_cell BX.out 0).trans rfl; have y1 : w6.cell? ⟨gx, 1, none⟩ = some (.int .i64 0) := (blk_cell BX.out 1).trans rfl; have y2 : w6.cell? ⟨gx, 2, none⟩ = some (.slice none 0 0) := (blk_cell BX.out 2).trans rfl; have z0 := blk_frozen BX.out 0; have z1 := blk_frozen BX.out 1; have z2 := blk_frozen BX.out 2; clear hbox hb hgx))
            have HM := am (midSt_box HG.out HS.out BB.out BX.out (Nat.le_of_eq GX.out.symm) x.f0 x.f1 (.slice A4 x.f2.length C4))
            clear HG HS BB BX GX y0 y1 y2 z0 z1 z2 hy0 hy1 hy2
            have sg1 := segI_len l0 p x.f0
            have sg2 := segI_len l0 x.f0 (wrap64 (x.f0 + x.f1))
            refine Calls.mono (row_made w _ gb 1 pt Q S1 _ (segI l0 p x.f0) v rs HM.out.g HC1_.out HN1.out (by have := HL.out; have := HLA.out; have := HLH.out; omega)) ?_
            rintro _ w8 ⟨rfl, v8, hg8, hs8⟩
            dsimp only
            have HM8 := am (HM.out.stay hg8 hs8)
            clear HM hg8 hs8
            obtain ⟨y0, y1, y2⟩ := HM8.out.cells
            go_wp2_with fail
            clear y0 y1 y2
            refine Calls.mono (row_made w _ gb 2 pt Q S2 _ (segI l0 x.f0 (wrap64 (x.f0 + x.f1))) v8 _ HM8.out.g HC2_.out HN2.out (by rw [List.length_append, rowsK_length]; have := HL.out; have := HLA.out; have := HLH.out; omega)) ?_
            rintro _ w9 ⟨rfl, v9, hg9, hs9⟩
            dsimp only
            have HM9 := am (HM8.out.stay hg9 hs9)
            clear HM8 hg9 hs9
            obtain ⟨y0, y1, y2⟩ := HM9.out.cells
            go_wp2_with fail
            clear y0 y1 y2
            refine Calls.mono (row_made w _ gb 3 pt Q A4 _ x.f2 v9 _ HM9.out.g HR4.out HL4.out (by rw [List.length_append, List.length_append, rowsK_length, rowsK_length]; have := HL.out; have := HLA.out; have := HLH.out; have := HNK.out.c; omega)) ?_
            rintro _ w10 ⟨rfl, v10, hg10, hs10⟩
            dsimp only
            have HM10 := am (HM9.out.stay hg10 hs10)
            clear HM9 hg10 hs10
            obtain ⟨y0, y1, y2⟩ := HM10.out.cells
            go_wp2_with fail
            have hb := HNK.out
            have hlh := HLH.out
            have hla := HLA.out
            have hs2 : wrap64 (s' + wrap64 ((x.f2.length : Int) - x.f1)) = s' + ((x.f2.length : Int) - x.f1) := by
              obtain ⟨a, b, c, d, e⟩ := hb
              rw [wrap64_id (x := (x.f2.length : Int) - x.f1) (by omega) (by omega), wrap64_id (by omega) (by omega)]
            have HR_ := HRUN.out
            have HF_ := HF2.out
            rw [HR_] at HF_
            simp only [runRows, endOf] at HF_
            have hinv : MidInv l0 l1 a2 s S i j (k + 1) (j + 1 - (k + 1)) (s' + ((x.f2.length : Int) - x.f1)) (x.f0 + x.f1) F w w10 gb pt Q := by
              have h3 := K3.out
              rw [HR_] at h3
              simp only [moreBy] at h3
              obtain ⟨a, b, c, d, e⟩ := hb
              refine ⟨by omega, by omega, by omega, by omega, by omega, by omega, HCK.out, fun h2 => Int.le_of_lt (HNX.out h2), fun _ => ?_, v10, _, HM10.out.g, ?_, ?_⟩
              · rw [Nat.add_sub_cancel]
                exact XE.out ▸ rfl
              · simp only [List.length_append, rowsK_length]
                have := HL.out
                omega
              · rw [← HF_, HFC.out]
                simp only [List.append_assoc]
            have HINV := am hinv
            have HS10 := am HM10.out.s
            clear hinv HM10
            go_roundg (j + 1 - (k + 1))
            case measure => omega
            case rel => exact ⟨_, k + 1, _, rfl, by rw [wrap_succ k (by omega)], rfl, by rw [hs2, HFC.out]; exact HINV, HS10⟩
          · have hd : decide ((k : Int) ≤ (j : Int)) = false := decide_eq_false (by omega)
            have hd2 : decide (k ≤ j) = false := decide_eq_false hk
            have hkj : k = j + 1 := by omega
            subst hkj
            have hpe := K9.out (by omega)
            rw [Nat.add_sub_cancel] at hpe
            have hnj := N2.out
            have hHW := HW.out
            have hCJ := HCJ.out
            have hen2 : p ≤ en ∧ en ≤ (l0.length : Int) ∧ mn (p + a2) (l0.length : Int) = en := by
              have hE := EN.out
              rw [← hpe] at hE hCJ
              refine ⟨?_, ?_, hE⟩
              · rw [← hE]; unfold mn; split <;> omega
              · rw [← hE]; unfold mn; split <;> omega
            obtain ⟨S1, hcut1, hC1, hn1⟩ := seg_cut w A0 c0 l0 HR0.out HC0.out p en k6 hen2.1 hen2.2.1
            have HEN2 := am hen2.2.2
            have HC1_ := am hC1
            have HN1 := am hn1
            clear hen2 hC1 hn1 hpe hnj hHW hCJ
            go_wp2_with fail
            have sg1 := segI_len l0 p en
            refine Calls.mono (row_made w _ gb 1 pt Q S1 _ (segI l0 p en) v rs HG.out HC1_.out HN1.out (by have := HL.out; have := HLA.out; have := HLH.out; omega)) ?_
            rintro _ w8 ⟨rfl, v8, hg8, hs8⟩
            dsimp only
            have HS8 := am (Kd.S_step HS.out (fun k hk _ => hs8.2.1 k hk))
            have hF3 : rs ++ rowsK 1 (segI l0 p en) = F := by
              have := HF2.out
              rw [runAt_nil] at this
              simp only [runRows, endOf, List.nil_append, tailRows] at this
              rw [HEN2.out] at this
              exact this
            rw [hF3] at hg8
            have HFL := am (show F.length ≤ 1000000 from by rw [← hF3, List.length_append, rowsK_length]; have := HL.out; have := HLA.out; have := HLH.out; omega)
            obtain ⟨Av, Cv, rfl⟩ := Kd.R_slice hg8.r
            have HG8 := am hg8
            clear HG HS hg8 hs8 hF3
            have y0 : w8.cell? ⟨gb, 0, none⟩ = some (.int .i64 pt) := (blk_cell HG8.out.o 0).trans rfl
            have y1 : w8.cell? ⟨gb, 1, none⟩ = some (.int .i64 Q) := (blk_cell HG8.out.o 1).trans rfl
            have y2 : w8.cell? ⟨gb, 2, none⟩ = some (.slice Av F.length Cv) := (blk_cell HG8.out.o 2).trans rfl
            have hown : ∀ k_, gb < k_ → some k_ ≠ (u7 : Value).ownBlock := fun k_ hk e => Nat.lt_irrefl _ (Nat.lt_trans hk ((Kd.S_R HS8.out).1 k_ e.symm))
            have HOWN := am hown
            clear hown
            obtain ⟨zs, hzs⟩ : ∃ zs, zs = acc ++ [(⟨pt, Q, F⟩ : S73)] := ⟨_, rfl⟩
            have HZ := am hzs
            clear hzs
            go_wp2_with (first | ((with_reducible refine gateB (b := .append) (xs := #[.tmp 132, .tmp 134]) rfl ?_); at_builtin; refine Kd.S_append k73 (w0 := w) w.heap.size rfl (.tmp 132) (.tmp 134) 57 73 (.agg #[(.int .i64 0), (.int .i64 0), (.slice none 0 0)]) 40 rfl Try.underlying57 info73 rfl (by decide) (by omega) u7 acc (⟨pt, Q, F⟩ : S73) [.int .i64 pt, .int .i64 Q, .slice Av F.length Cv] (fun _ => True) (fun k_ => gb < k_) rfl rfl ?aP (fun k_ hk_ => ⟨trivial, HOWN.out k_ hk_⟩) (fun _ _ => trivial) ?aO HG8.out.b HG8.out.b.size ?aL ?_; (case aP => exact k73_mkM _ _ _ (⟨pt, Q, F⟩ : S73) HG8.out.r); (case aO => exact Kd.S_mono HS8.out (fun k_ hk => ⟨trivial, Nat.not_lt.2 (Nat.le_of_lt hk)⟩)); (case aL => have := HLH.out; omega); intro v190 w22 ho hb hg hat; rw [← HZ.out] at ho; have HB9 := am hb; have HO9 := am ho; clear ho hb hg hat))
            have h3 := K3.out
            rw [runAt_nil] at h3
            simp only [moreBy, Int.add_zero] at h3
            subst h3
            have hout : OutInv l0 l1 a2 (j + 1) (l1.length - (j + 1)) s' zs := by
              refine ⟨by omega, by omega, by omega, by rw [HZ.out, List.length_append, List.length_singleton]; omega, n - 1, by omega, ?_⟩
              have h4 := HE.out
              obtain ⟨m, rfl⟩ : ∃ m, n = m + 1 := ⟨n - 1, by omega⟩
              rw [groups_step hi HI.out, HSS.out] at h4
              rw [← h4, HZ.out, List.append_assoc, List.singleton_append, Nat.add_sub_cancel]
              congr 2
              have h5 := HF.out
              rw [runAt_cons hij hj] at h5
              unfold groupOne
              rw [PT.out, HQ.out]
              rw [← h5]
              rfl
            have HOUT := am hout
            clear hout
            go_roundg (l1.length - (j + 1))
            case measure => omega
            case rel => exact ⟨zs, _, j + 1, rfl, rfl, HOUT, HO9, HB9⟩
    · have hd : decide ((i : Int) < (l1.length : Int)) = false := decide_eq_false (by omega)
      have hd2 : decide (i < l1.length) = false := decide_eq_false hi
      go_wp2
      go_ret
      have e4 := HE.out
      rw [List.drop_eq_nil_of_le (by omega)] at e4
      have e5 : groupsFrom l0 a2 n s [] = [] := by cases n <;> rfl
      rw [e5, List.append_nil] at e4
      subst e4
      exact ⟨_, rfl, HO.out, HB.out⟩
end Go.Proofs.Ytmcldkobejhaeaa.My
namespace Go.Proofs.Ytmcldkobejhaeaa.My
open Go.RowKit Go.Proofs.YtmcldkobejhaeaaW.PrintWords Go.Proofs.YtmcldkobejhaeaaW.PrintLast Go.Proofs.YtmcldkobejhaeaaW.PrintMore Go.Proofs.Ytmcldkobejhaeaa.Pl
set_option linter.unusedVariables false in
def impl_groupsOf.f (k : Nat) (l0 : List ByteArray) (l1 : List IH) (a2 : Int) : Option (List S73) := if asked l0 l1 = true ∧ 0 ≤ a2 ∧ a2 ≤ 20 then some (groupsR l0 l1 a2) else none
theorem impl_groupsOf.calls (k : Nat) (A0 : Option Addr) (c0 : Nat) (l0 : List ByteArray) (A1 : Option Addr) (c1 : Nat) (l1 : List S106) (a2 : Int) (r : List S73) (w : World) (hr0 : Kd.C Kd.string w A0 l0.length l0) (hc0 : l0.length ≤ c0) (hr1 : Kd.C k106 w A1 l1.length l1) (hc1 : l1.length ≤ c1) (h : impl_groupsOf.f k l0 l1 a2 = some r) :
  Calls Try.prog 101 #[.slice A0 l0.length c0, .slice A1 l1.length c1, .int .i64 a2] w fun e w' => ∃ v0_ : Value, e = .returned (v0_) ∧ Kd.S k73 73 w' w.heap.size (fun _ => True) v0_ r ∧ Below w.heap.size w w' := by
  simp only [impl_groupsOf.f] at h
  split at h
  · rename_i c
    injection h with h
    subst h
    exact impl_groupsOf_made A0 c0 l0 A1 c1 l1 a2 w hr0 hc0 hr1 hc1 c.1 c.2
  · cases h
end Go.Proofs.Ytmcldkobejhaeaa.My
namespace Go.Proofs.Ytmcldkobejhaeaa.My
open Go.RowKit Go.Proofs.YtmcldkobejhaeaaW.PrintWords Go.Proofs.YtmcldkobejhaeaaW.PrintLast Go.Proofs.YtmcldkobejhaeaaW.PrintMore
attribute [local go_sem] max2_int min2_int max_two min_two max_three min_three max_four min_four
set_option linter.unusedVariables false
set_option linter.unusedSimpArgs false
def impl_isWidth.f (a0 : Int) : Option (Bool) := (impl_in.f a0 0 20).bind fun t274 => (some t274)
set_option maxHeartbeats 8000000 in
set_option maxRecDepth 100000 in
theorem impl_isWidth.calls (a0 : Int) (r : Bool) (w : World) (h : impl_isWidth.f a0 = some r) :
  Calls Try.prog 100 #[.int .i64 a0] w fun e w' => e = .returned (.bool r) ∧ Drawn0 w w' := by
 have H : ((impl_in.f a0 0 20).bind fun t274 => (some t274)) = some r := h
 clear h
 replace H := Option.bind_eq_some_iff.mp H
 obtain ⟨t274, A20, H⟩ := H
 replace H : (some t274) = some r := H
 have A2 := am A20
 clear A20
 obtain rfl := Option.some.inj H
 go_enter Try.func100, Try.ntmps100
 go_wp2_with (first | ((with_reducible refine gateC (f := 64) rfl ?_); refine goesL_ (some 4) rfl rfl Try.func64 (by kernel_rfl) rfl #[.int .i64 a0, .int .i64 0, .int .i64 20] rfl zm ?_; (with_reducible refine (impl_in.calls a0 0 20 t274 _ A2.out).mono ?_); rintro e w' ⟨rfl, ⟨nd, rfl⟩⟩; refine ⟨_, rfl, ?_⟩))
 go_ret
 exact ⟨by first | rfl | (simp; done) | (simp [*]; done), by repeat (first | exact Drawn0.refl _ | apply Drawn0.step)⟩
end Go.Proofs.Ytmcldkobejhaeaa.My