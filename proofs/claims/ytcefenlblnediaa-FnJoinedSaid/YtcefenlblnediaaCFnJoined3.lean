/- Part 3 of 6 of a proof of this sentence: The Go function loop.example/g00825/laws.FnJoined returns true for every input, and each argument reads afterwards as it read before. No condition. -/
import Derived.Lib.Strings
import Derived.Lib.Bytealg
import Derived.Test.YtcefenlblnediaaCFnJoined2
/- Written by this session's program (wip/gen): a plain function with the same answers as the Go function, and the proof that the Go code comes to them. Asked: that the plain function has an answer. -/
namespace Go.Proofs.Ytcefenlblnediaa.My
open Go.RowKit Go.Proofs.YtcefenlblnediaaW.PrintWords Go.Proofs.YtcefenlblnediaaW.PrintLast Go.Proofs.YtcefenlblnediaaW.PrintMore
attribute [local go_sem] max2_int min2_int max_two min_two max_three min_three max_four min_four
set_option linter.unusedVariables false
set_option linter.unusedSimpArgs false

/-! ### impl_between: function 95 -/
def impl_between.l0 : Nat → List ByteArray → List (S111) → Int → Int → List (List Int) → Int → Int → Option ((List (S111)))
 | 0, _, _, _, _, _, _, _ => none
 | k + 1, x1, x7, x8, x9, x21, x22, x23 => if x23 < x22 then (if 0 ≤ x23 then (if x23 < (x21.length : Int) then (if 0 < ((rd_L12 x21 x23).length : Int) then (if (rd (rd_L12 x21 x23) 0) > x8 then (if 1 < ((rd_L12 x21 x23).length : Int) then (if 0 ≤ x9 then (if x9 ≤ (rd (rd_L12 x21 x23) 1) then (if (rd (rd_L12 x21 x23) 1) ≤ (x1.length : Int) then ((slices_Clone_string_string.f ((x1.take ((rd (rd_L12 x21 x23) 1) : Int).toNat).drop (x9 : Int).toNat)).bind fun t494 => (if x7.length < 3518437208883 then (impl_between.l0 k x1 (x7 ++ [(⟨x8, wrap64 ((rd (rd_L12 x21 x23) 0) - x8), t494⟩ : S111)]) (wrap64 ((rd (rd_L12 x21 x23) 0) + 1)) (wrap64 ((rd (rd_L12 x21 x23) 1) + 1)) x21 x22 (wrap64 (x23 + 1))) else (none))) else (none)) else (none)) else (none)) else (none)) else (if 1 < ((rd_L12 x21 x23).length : Int) then (if (rd (rd_L12 x21 x23) 1) > x9 then (if 0 ≤ x9 then (if x9 ≤ (rd (rd_L12 x21 x23) 1) then (if (rd (rd_L12 x21 x23) 1) ≤ (x1.length : Int) then ((slices_Clone_string_string.f ((x1.take ((rd (rd_L12 x21 x23) 1) : Int).toNat).drop (x9 : Int).toNat)).bind fun t509 => (if x7.length < 3518437208883 then (impl_between.l0 k x1 (x7 ++ [(⟨x8, wrap64 ((rd (rd_L12 x21 x23) 0) - x8), t509⟩ : S111)]) (wrap64 ((rd (rd_L12 x21 x23) 0) + 1)) (wrap64 ((rd (rd_L12 x21 x23) 1) + 1)) x21 x22 (wrap64 (x23 + 1))) else (none))) else (none)) else (none)) else (none)) else (impl_between.l0 k x1 x7 (wrap64 ((rd (rd_L12 x21 x23) 0) + 1)) (wrap64 ((rd (rd_L12 x21 x23) 1) + 1)) x21 x22 (wrap64 (x23 + 1)))) else (none))) else (none)) else (none)) else (none)) else (some x7)
def impl_between.f (k : Nat) (l0 : List ByteArray) (t474 : List ByteArray) (l2 : List (List Int)) : Option ((List (S111))) := if l2.length < 1000000 then ((some (l2 ++ [(([(l0.length : Int), (t474.length : Int)] : List Int))] : List (List Int))).bind fun y483 => (impl_between.l0 k t474 (([] : List (S111))) 0 0 y483 (y483.length : Int) 0)) else (none)
def impl_between.T6 : Bool × List (List Nat × List Nat) := (true, [([], []), ([], []), ([], []), ([2], [2]), ([3], [3]), ([], []), ([4, 5], [4, 5]), ([], []), ([], []), ([], []), ([9], [9]), ([10], [10]), ([7, 8, 11], [7, 8, 11]), ([12], [12]), ([1, 6, 13], [1, 6, 13]), ([14], [14]), ([0, 15, 13], [0, 15]), ([16, 16, 0, 1, 2, 3, 4, 5, 6, 7, 8, 9, 10, 11, 12, 13, 14, 15, 16], [0, 16])])
def impl_between.B6 : List Nat := [0, 0, 0, 4, 12, 0, 60, 0, 0, 0, 512, 1536, 3968, 8064, 16382, 32766, 65535, 131071]
theorem impl_between.tab6 : rtab .any (opsOf Try.f95 6) = impl_between.T6 := by kernel_rfl
theorem impl_between.bits6 : waitsOk impl_between.T6.2 impl_between.B6 = true := by kernel_rfl
def impl_between.T7 : Bool × List (List Nat × List Nat) := (true, [([], []), ([0], [0]), ([1], [1]), ([2], [2]), ([], []), ([4], [4]), ([5], [5]), ([6], [6]), ([3, 0, 1, 2, 3], [3]), ([7, 8, 0, 1, 2, 3, 4, 5, 6, 7, 8], [7])])
def impl_between.B7 : List Nat := [0, 1, 3, 7, 0, 16, 48, 112, 15, 511]
theorem impl_between.tab7 : rtab .any (opsOf Try.f95 7) = impl_between.T7 := by kernel_rfl
theorem impl_between.bits7 : waitsOk impl_between.T7.2 impl_between.B7 = true := by kernel_rfl
set_option maxHeartbeats 8000000 in
set_option maxRecDepth 100000 in
theorem impl_between.calls (k : Nat) (A0 : Option Addr) (c0 : Nat) (l0 : List ByteArray) (Ao7 : Option Addr) (co7 : Nat) (t474 : List ByteArray) (A2 : Option Addr) (c2 : Nat) (l2 : List (List Int)) (r : List (S111)) (w wE : World) (ho1 : Kd.R Kd.string 9 wE w.heap.size (fun _ => True) (.slice Ao7 t474.length co7) t474) (ho2 : Kd.S (Kd.slice 3 (Kd.int .i64)) 113 wE w.heap.size (fun _ => True) (.slice A2 l2.length c2) l2) (hb0 : Below w.heap.size w wE) (h : impl_between.f k l0 t474 l2 = some r) :
  Calls Try.prog 95 #[.slice A0 l0.length c0, .slice Ao7 t474.length co7, .slice A2 l2.length c2] wE fun e w' => ∃ v0_ : Value, e = .returned (v0_) ∧ Kd.S k111 111 w' w.heap.size (fun _ => True) v0_ r ∧ Below w.heap.size w w' := by
 have hu111 := Try.underlying111
 have HO476 := Aside0.mk ho1
 have HO2 := Aside0.mk ho2
 have HB := Aside0.mk hb0
 clear ho1 ho2 hb0
 have H : (if l2.length < 1000000 then ((some (l2 ++ [(([(l0.length : Int), (t474.length : Int)] : List Int))] : List (List Int))).bind fun y483 => (impl_between.l0 k t474 (([] : List (S111))) 0 0 y483 (y483.length : Int) 0)) else (none)) = some r := h
 clear h
 obtain ⟨y477, hy477⟩ : ∃ y_ : List (S111), y_ = (([] : List (S111))) := ⟨_, rfl⟩
 replace H : (if l2.length < 1000000 then ((some (l2 ++ [(([(l0.length : Int), (t474.length : Int)] : List Int))] : List (List Int))).bind fun y483 => (impl_between.l0 k t474 y477 0 0 y483 (y483.length : Int) 0)) else (none)) = some r := by first | (rw [hy477]; with_reducible exact H) | (have H2_ := (Option.bind_some _ _).symm.trans H; rw [hy477]; with_reducible exact H2_) | (have H2_ := (Option.bind_some _ _).symm.trans H; with_reducible exact H2_) | with_reducible exact H | (rw [hy477]; exact H) | exact H
 have Ny477 := Aside0.mk hy477
 clear hy477
 obtain ⟨y480, hy480⟩ : ∃ y_ : List Int, y_ = (([(l0.length : Int), (t474.length : Int)] : List Int)) := ⟨_, rfl⟩
 replace H : (if l2.length < 1000000 then ((some (l2 ++ [y480] : List (List Int))).bind fun y483 => (impl_between.l0 k t474 y477 0 0 y483 (y483.length : Int) 0)) else (none)) = some r := by first | (rw [hy480]; with_reducible exact H) | (have H2_ := (Option.bind_some _ _).symm.trans H; rw [hy480]; with_reducible exact H2_) | (have H2_ := (Option.bind_some _ _).symm.trans H; with_reducible exact H2_) | with_reducible exact H | (rw [hy480]; exact H) | exact H
 have Ny480 := Aside0.mk hy480
 clear hy480
 by_cases c3 : l2.length < 1000000
 ·rw [if_pos c3] at H
  have LMc3 := Aside0.mk c3
  clear c3
  obtain ⟨y483, hy483⟩ : ∃ y_ : List (List Int), y_ = (l2 ++ [y480]) := ⟨_, rfl⟩
  replace H : (impl_between.l0 k t474 y477 0 0 y483 (y483.length : Int) 0) = some r := by first | (rw [hy483]; with_reducible exact H) | (have H2_ := (Option.bind_some _ _).symm.trans H; rw [hy483]; with_reducible exact H2_) | (have H2_ := (Option.bind_some _ _).symm.trans H; with_reducible exact H2_) | with_reducible exact H | (rw [hy483]; exact H) | exact H
  have Ny483 := Aside0.mk hy483
  clear hy483
  have H' := Aside0.mk H
  clear H
  go_enter Try.func95, Try.ntmps95
  go_wp2_with (first | ((with_reducible refine gate_dst (N := 12) rfl ?_); refine Kd.S_lit k111 _ 111 ?hg (N := 12) ?hd (xs := ([] : List (S111))) (inner := []) (ok := fun _ => True) (okp := fun _ => True) ?hr ?hp (fun _ hk => hk) trivial (Below.refl _ _) (Nat.le_refl _) (by simp) ?_; (case hd => rfl); (case hg => rfl); (case hr => first | (go_simp; done) | (go_simp; rfl)); (case hp => exact (Reps.none _ _)); intro v478 w5 ho6 hb hg_ hnew_; clear hg_ hnew_; (first | rw [← Ny477.out] at ho6 | (simp only [Int.reduceToNat] at ho6; rw [← Ny477.out] at ho6)); have n0_ := Aside0.mk (Kd.R_below (zr HO476.out) hb); have n1_ := Aside0.mk (Kd.S_lower (Kd.S_new' ho6 (Kd.R_lt (zr HO476.out))) (below_size zb)); have n2_ := Aside0.mk (below_step zb hb); have m2_ := Aside0.mk (Kd.S_below (zs HO2.out) hb); clear HO2; have HO2 := m2_; clear m2_; clear HO476; clear HB; have HO476 := n0_; have HO479 := n1_; have HB := n2_; clear n0_ n1_ n2_; clear hb ho6) | ((with_reducible refine gateC (f := 157) rfl ?_); refine goesL_ (some 14) rfl rfl Try.func157 (by kernel_rfl) rfl #[.slice A2 l2.length c2] rfl zm ?_; (with_reducible refine (cloneRows_made A2 c2 l2 w _ ?side1 ?side2 ?side3).mono ?_); (case side1 => exact zs HO2.out); (case side2 => exact zb); (case side3 => have := LMc3.out; omega); rintro e wc_ ⟨vc_, rfl, hoc_, hb⟩; refine ⟨_, rfl, ?_⟩; have n0_ := Aside0.mk (Kd.R_below (zr HO476.out) hb); have n1_ := Aside0.mk (Kd.S_below (zs HO479.out) hb); have n2_ := Aside0.mk (below_step zb hb); have HOc := Aside0.mk hoc_; clear HO2; clear HO476; clear HO479; clear HB; have HO476 := n0_; have HO479 := n1_; have HB := n2_; clear n0_ n1_ n2_ hoc_ hb) | ((with_reducible refine gate_dst (N := 19) rfl ?_); refine Kd.R_lit (Kd.int .i64) _ 3 ?hg (N := 19) ?hd (xs := ([(l0.length : Int), (t474.length : Int)] : List Int)) (inner := [.int .i64 (l0.length : Int), .int .i64 (t474.length : Int)]) (ok := fun _ => True) (okp := fun _ => True) ?hr ?hp (fun _ hk => hk) trivial (Below.refl _ _) (Nat.le_refl _) (by simp) ?_; (case hd => rfl); (case hg => rfl); (case hr => first | (go_simp; done) | (go_simp; rfl)); (case hp => exact (Reps.one (show Kd.M (Kd.int .i64) _ _ _ (l0.length : Int) [.int .i64 (l0.length : Int)] from rfl) (Reps.one (show Kd.M (Kd.int .i64) _ _ _ (t474.length : Int) [.int .i64 (t474.length : Int)] from rfl) (Reps.none _ _)))); intro v481 w8 ho9 hb hg_ hnew_; clear hg_ hnew_; (first | rw [← Ny480.out] at ho9 | (simp only [Int.reduceToNat] at ho9; rw [← Ny480.out] at ho9)); have n0_ := Aside0.mk (Kd.R_below (zr HO476.out) hb); have n1_ := Aside0.mk (Kd.S_below (zs HO479.out) hb); have m2_ := Aside0.mk (Kd.S_elder' (zs HOc.out) (Kd.R_base ho9) hb); clear HOc; have HOc := m2_; clear m2_; have n2_ := Aside0.mk (Kd.R_lower ho9 (below_size zb)); have n3_ := Aside0.mk (below_step zb hb); clear HO476; clear HO479; clear HB; have HO476 := n0_; have HO479 := n1_; have HO482 := n2_; have HB := n3_; clear n0_ n1_ n2_ n3_; clear hb ho9; obtain ⟨Ao11, co11, eo11⟩ := Kd.R_slice HO482.out; subst eo11) | ((with_reducible refine gateB (b := .append) (xs := #[.tmp 14, .tmp 20]) rfl ?_); at_builtin; refine Kd.S_append (Kd.slice 3 (Kd.int .i64)) (w0 := w) w.heap.size rfl (.tmp 14) (.tmp 20) 115 113 (.slice none 0 0) 24 rfl Try.underlying115 info113 rfl (by decide) (by omega) vc_ l2 y480 [.slice Ao11 y480.length co11] (fun _ => True) (fun k_ => some k_ = (.slice Ao11 y480.length co11 : Value).ownBlock) rfl rfl ?aP (fun k_ hk_ => ((Kd.R_mono (ok' := fun k_ => ((fun _ => True)) k_ ∧ some k_ ≠ (vc_ : Value).ownBlock) (Kd.R_apart' (HO482.out) (Kd.S_typed (zs HOc.out)) (by decide)) (fun k_ hk => ⟨trivial, hk.2⟩))).1 k_ hk_.symm) ?aF ?aO ?aB ?aS ?aL ?_; (case aP => exact Kd.M_row (Kd.R_mono (Kd.R_tight rfl (Kd.R_mono (ok' := fun k_ => ((fun _ => True)) k_ ∧ some k_ ≠ (vc_ : Value).ownBlock) (Kd.R_apart' (HO482.out) (Kd.S_typed (zs HOc.out)) (by decide)) (fun k_ hk => ⟨trivial, hk.2⟩))) (fun _ h_ => h_))); (case aB => exact zb); (case aF => exact (fun _ _ => trivial)); (case aO => exact (Kd.S_mono HOc.out (fun k_ hk => ⟨hk.1, fun e_ => hk.2 e_⟩))); (case aS => exact (below_size zb)); (case aL => have := LMc3.out; omega); intro v484 w10 ho hb hg hat; rw [← Ny483.out] at ho; have n0_ := Aside0.mk (Kd.R_over' (zr HO476.out) (Kd.S_typed (zs HOc.out)) (by decide) hg); have n1_ := Aside0.mk (Kd.S_over' (zs HO479.out) (Kd.S_typed (zs HOc.out)) (by decide) hg); have n2_ := Aside0.mk (hb); have n3_ := Aside0.mk (ho); clear HO476; clear HO479; clear HB; clear HO482; have HO476 := n0_; have HO479 := n1_; have HB := n2_; have HO485 := n3_; clear n0_ n1_ n2_ n3_; clear ho hb hg hat; obtain ⟨Ao12, co12, eo12⟩ := Kd.S_slice HO485.out; subst eo12))
  go_loopg [7, 8, 9, 23] k (fun kq v7 v8 v9 v23 w' => ∃ (x7_1 : List (S111)) (x8_1 : Int) (x9_1 : Int) (x23_1 : Int), v8 = .int .i64 x8_1 ∧ v9 = .int .i64 x9_1 ∧ v23 = .int .i64 x23_1 ∧ Aside0 (impl_between.l0 kq t474 x7_1 x8_1 x9_1 y483 (y483.length : Int) x23_1 = some r) ∧ Aside0 (kq ≤ k) ∧ Aside0 (Kd.R Kd.string 9 w' w.heap.size (fun _ => True) (.slice Ao7 t474.length co7) t474) ∧ Aside0 (Kd.S k111 111 w' w.heap.size (fun k_ => some k_ ≠ ((.slice Ao7 t474.length co7) : Value).ownBlock) v7 x7_1) ∧ Aside0 (Kd.S (Kd.slice 3 (Kd.int .i64)) 113 w' w.heap.size (fun _ => True) (.slice Ao12 y483.length co12) y483) ∧ Aside0 (Below w.heap.size w w'))
  case atStart => exact ⟨(y477), (0), (0), (0), zf, zf, zf, H', ⟨Nat.le_refl _⟩, ⟨by (with_reducible repeat (first | apply Kd.R_alloc | apply Kd.R_drewN | apply Kd.R_drew)); exact HO476.out⟩, ⟨by (with_reducible repeat (first | apply Kd.S_alloc | apply Kd.S_drewN | apply Kd.S_drew)); exact Kd.S_mono HO479.out (fun _ hk => hk.2)⟩, ⟨by (with_reducible repeat (first | apply Kd.S_alloc | apply Kd.S_drewN | apply Kd.S_drew)); exact HO485.out⟩, ⟨by repeat (first | (with_reducible first | exact HB.out | apply below_alloc | apply pw_below_drewN | apply below_drew1) | exact HB.out)⟩⟩
  case round =>
   clear H'
   try clear c1
   try clear p2
   try clear c3
   try clear c9
   try clear c10
   obtain ⟨x7_1, x8_1, x9_1, x23_1, rfl, rfl, rfl, HA, HK1, HO_1, HO_7, HO_21, HB⟩ := hrel
   cases gk with
   | zero => exact absurd HA.out (by simp [impl_between.l0])
   | succ k1 =>
    have H := HA.out
    clear HA
    simp only [impl_between.l0] at H
    by_cases c13 : x23_1 < (y483.length : Int)
    ·rw [if_pos c13] at H
     have c13b0 : decide (x23_1 < (y483.length : Int)) = true := decide_eq_true c13
     clear c13
     by_cases c14 : 0 ≤ x23_1
     ·rw [if_pos c14] at H
      have c14b0 : decide (0 ≤ x23_1) = true := decide_eq_true c14
      clear c14
      by_cases c15 : x23_1 < (y483.length : Int)
      ·rw [if_pos c15] at H
       have c15b0 : decide (x23_1 < (y483.length : Int)) = true := decide_eq_true c15
       clear c15
       by_cases c16 : 0 < ((rd_L12 y483 x23_1).length : Int)
       ·rw [if_pos c16] at H
        have c16b0 : decide (0 < ((rd_L12 y483 x23_1).length : Int)) = true := decide_eq_true c16
        have c16b1 : decide (0 < (rd_L12 y483 x23_1).length) = true := decide_eq_true (by omega)
        clear c16
        by_cases c17 : (rd (rd_L12 y483 x23_1) 0) > x8_1
        ·rw [if_pos c17] at H
         have c17b0 : decide (x8_1 < (rd (rd_L12 y483 x23_1) 0)) = true := decide_eq_true c17
         clear c17
         by_cases c18 : 1 < ((rd_L12 y483 x23_1).length : Int)
         ·rw [if_pos c18] at H
          have c18b0 : decide (1 < ((rd_L12 y483 x23_1).length : Int)) = true := decide_eq_true c18
          have c18b1 : decide (1 < (rd_L12 y483 x23_1).length) = true := decide_eq_true (by omega)
          clear c18
          by_cases c19 : 0 ≤ x9_1
          ·rw [if_pos c19] at H
           have c19b0 := eq_true c19
           have c19b1 : decide (0 ≤ x9_1) = true := decide_eq_true c19
           clear c19
           by_cases c20 : x9_1 ≤ (rd (rd_L12 y483 x23_1) 1)
           ·rw [if_pos c20] at H
            have c20b0 := eq_true c20
            have c20b1 : decide (x9_1 ≤ (rd (rd_L12 y483 x23_1) 1)) = true := decide_eq_true c20
            clear c20
            by_cases c21 : (rd (rd_L12 y483 x23_1) 1) ≤ (t474.length : Int)
            ·rw [if_pos c21] at H
             have c21b0 := eq_true c21
             have c21b1 : decide ((rd (rd_L12 y483 x23_1) 1) ≤ (t474.length : Int)) = true := decide_eq_true c21
             clear c21
             obtain ⟨y490, hy490⟩ : ∃ y_ : List ByteArray, y_ = ((t474.take ((rd (rd_L12 y483 x23_1) 1) : Int).toNat).drop (x9_1 : Int).toNat) := ⟨_, rfl⟩
             replace H : ((slices_Clone_string_string.f y490).bind fun t494 => (if x7_1.length < 3518437208883 then (impl_between.l0 k1 t474 (x7_1 ++ [(⟨x8_1, wrap64 ((rd (rd_L12 y483 x23_1) 0) - x8_1), t494⟩ : S111)]) (wrap64 ((rd (rd_L12 y483 x23_1) 0) + 1)) (wrap64 ((rd (rd_L12 y483 x23_1) 1) + 1)) y483 (y483.length : Int) (wrap64 (x23_1 + 1))) else (none))) = some r := by first | (rw [hy490]; with_reducible exact H) | (have H2_ := (Option.bind_some _ _).symm.trans H; rw [hy490]; with_reducible exact H2_) | (have H2_ := (Option.bind_some _ _).symm.trans H; with_reducible exact H2_) | with_reducible exact H | (rw [hy490]; exact H) | exact H
             have Ny490 := Aside0.mk hy490
             clear hy490
             replace H := Option.bind_eq_some_iff.mp H
             obtain ⟨t494, A220, H⟩ := H
             replace H : (if x7_1.length < 3518437208883 then (impl_between.l0 k1 t474 (x7_1 ++ [(⟨x8_1, wrap64 ((rd (rd_L12 y483 x23_1) 0) - x8_1), t494⟩ : S111)]) (wrap64 ((rd (rd_L12 y483 x23_1) 0) + 1)) (wrap64 ((rd (rd_L12 y483 x23_1) 1) + 1)) y483 (y483.length : Int) (wrap64 (x23_1 + 1))) else (none)) = some r := H
             have A22 := Aside0.mk A220
             clear A220
             by_cases c23 : x7_1.length < 3518437208883
             ·rw [if_pos c23] at H
              have LMc23 := Aside0.mk c23
              clear c23
              obtain ⟨y497, hy497⟩ : ∃ y_ : List (S111), y_ = (x7_1 ++ [(⟨x8_1, wrap64 ((rd (rd_L12 y483 x23_1) 0) - x8_1), t494⟩ : S111)]) := ⟨_, rfl⟩
              replace H : (impl_between.l0 k1 t474 y497 (wrap64 ((rd (rd_L12 y483 x23_1) 0) + 1)) (wrap64 ((rd (rd_L12 y483 x23_1) 1) + 1)) y483 (y483.length : Int) (wrap64 (x23_1 + 1))) = some r := by first | (rw [hy497]; with_reducible exact H) | (have H2_ := (Option.bind_some _ _).symm.trans H; rw [hy497]; with_reducible exact H2_) | (have H2_ := (Option.bind_some _ _).symm.trans H; with_reducible exact H2_) | with_reducible exact H | (rw [hy497]; exact H) | exact H
              have Ny497 := Aside0.mk hy497
              clear hy497
              have H' := Aside0.mk H
              clear H
              have p486 : 0 ≤ (x23_1 : Int) := oa
              have q486 : x23_1 < (y483.length : Int) := oa
              obtain ⟨ad486, A486_0, c486_0, e486, hx486_0, hl486_0, hi486_0⟩ := at_L12 (Kd.S_reads' HO_21.out).2.2 x23_1 p486 q486
              cases e486
              obtain ⟨ce486, hce486, hMe486, hcc486⟩ := Kd.S_get HO_21.out [] x23_1 p486 (by first | exact q486 | exact oa | (have e_ := (Kd.S_reads' HO_21.out).1; omega))
              obtain ⟨ve486_0, rfl, ge486_0⟩ := hMe486
              have hv486_0 := hcc486 0 _ rfl
              rw [Nat.add_zero, show ((Kd.slice 3 (Kd.int .i64))).sz = 1 from rfl, Nat.mul_one] at hv486_0
              replace hv486_0 := Option.some.inj (hv486_0.symm.trans hx486_0)
              rw [hv486_0] at ge486_0
              have HL486_0 := Aside0.mk (show Kd.R (Kd.int .i64) 3 _ _ _ _ (rd_L12 y483 x23_1) from ge486_0)
              clear hv486_0 ge486_0
              clear hcc486 hce486
              have HR486_0 := Aside0.mk hi486_0
              have HC486_0 := Aside0.mk hl486_0
              clear hi486_0 hl486_0
              replace p486 := eq_true p486
              replace q486 := eq_true q486
              have p487 : 0 ≤ (0 : Int) := (by omega)
              have q487 : 0 < ((rd_L12 y483 x23_1).length : Int) := oa
              obtain ⟨ad487, e487, hx487_0⟩ := Kd.at_int (by repeat (first | (with_reducible exact HR486_0.out) | (with_reducible refine Kd.C_alloc ?_ _) | (with_reducible refine Kd.C_drewN ?_ _) | (with_reducible refine Kd.C_drew ?_) | exact HR486_0.out)) 0 p487 q487
              cases e487
              have qi487 : (0 < (rd_L12 y483 x23_1).length) = True := eq_true (by omega)
              (try rw [show ((0 : Int)).toNat = 0 from rfl] at hx487_0)
              (try rw [Addr.add_zero'] at hx487_0)
              replace p487 := eq_true p487
              replace q487 := eq_true q487
              try go_wp2
              have n0_ := Aside0.mk (Kd.R_drew HO_1.out)
              have n1_ := Aside0.mk (Kd.S_drew HO_7.out)
              have n2_ := Aside0.mk (Kd.S_drew HO_21.out)
              have n3_ := Aside0.mk (Kd.R_drew HL486_0.out)
              have n4_ := Aside0.mk (Kd.C_drew HR486_0.out)
              have n5_ := Aside0.mk (below_drew1 HB.out)
              clear HO_1
              clear HO_7
              clear HO_21
              clear HL486_0
              clear HR486_0
              clear HB
              have HO_1 := n0_
              have HO_7 := n1_
              have HO_21 := n2_
              have HL486_0 := n3_
              have HR486_0 := n4_
              have HB := n5_
              clear n0_ n1_ n2_ n3_ n4_ n5_
              have p488 : 0 ≤ (0 : Int) := (by omega)
              have q488 : 0 < ((rd_L12 y483 x23_1).length : Int) := oa
              obtain ⟨ad488, e488, hx488_0⟩ := Kd.at_int (by repeat (first | (with_reducible exact HR486_0.out) | (with_reducible refine Kd.C_alloc ?_ _) | (with_reducible refine Kd.C_drewN ?_ _) | (with_reducible refine Kd.C_drew ?_) | exact HR486_0.out)) 0 p488 q488
              obtain rfl : ad487 = ad488 := (by injection e488)
              have qi488 : (0 < (rd_L12 y483 x23_1).length) = True := eq_true (by omega)
              (try rw [show ((0 : Int)).toNat = 0 from rfl] at hx488_0)
              (try rw [Addr.add_zero'] at hx488_0)
              replace p488 := eq_true p488
              replace q488 := eq_true q488
              have p489 : 0 ≤ (1 : Int) := (by omega)
              have q489 : 1 < ((rd_L12 y483 x23_1).length : Int) := oa
              obtain ⟨ad489, e489, hx489_0⟩ := Kd.at_int (by repeat (first | (with_reducible exact HR486_0.out) | (with_reducible refine Kd.C_alloc ?_ _) | (with_reducible refine Kd.C_drewN ?_ _) | (with_reducible refine Kd.C_drew ?_) | exact HR486_0.out)) 1 p489 q489
              obtain rfl : ad487 = ad489 := (by injection e489)
              (try simp only [show (1 : Int).toNat = 1 from rfl, Nat.reduceMul, Nat.reduceEqDiff, Go.Addr.add, ↓reduceIte] at hx489_0)
              have qi489 : (1 < (rd_L12 y483 x23_1).length) = True := eq_true (by omega)
              (try rw [show ((1 : Int)).toNat = 1 from rfl] at hx489_0)
              replace p489 := eq_true p489
              replace q489 := eq_true q489
              have q25 : ((rd (rd_L12 y483 x23_1) 1) : Int) ≤ ((t474.length : Int) : Int) := oa
              obtain ⟨i025, hi025, _, hsz25, _⟩ := info_parts info9
              have hroom25 : t474.length ≤ co7 := (Kd.R_reads' HO_1.out).2.1
              have hC25 : Kd.C Kd.string _ Ao7 t474.length t474 := (Kd.R_reads' HO_1.out).2.2
              have ql25 : (x9_1 : Int) ≤ ((rd (rd_L12 y483 x23_1) 1) : Int) := oa
              have q025 : (0 : Int) ≤ (x9_1 : Int) := oa
              have hcut25 := cut_mid (P := Try.prog) 22 9 .i64 .i64 Try.underlying22 hi025 1 hsz25 Ao7 t474.length co7 x9_1 (rd (rd_L12 y483 x23_1) 1) q025 ql25 q25 hroom25
              have hr25 := Kd.C_mid (lo := (x9_1 : Int).toNat) (hi := ((rd (rd_L12 y483 x23_1) 1) : Int).toNat) (c := co7) hC25 (by omega) (by omega) hroom25
              obtain ⟨A25, hA25⟩ : ∃ A1, A1 = (if co7 = (x9_1 : Int).toNat then Ao7 else (Ao7 : Option Addr).map (·.add ((x9_1 : Int).toNat * 1))) := ⟨_, rfl⟩
              obtain ⟨c25, hc25⟩ : ∃ c1, c1 = co7 - (x9_1 : Int).toNat := ⟨_, rfl⟩
              have hy25 : y490.length = ((rd (rd_L12 y483 x23_1) 1) : Int).toNat - (x9_1 : Int).toNat := (by rw [Ny490.out, List.length_drop, List.length_take] <;> omega)
              rw [show ((t474).take ((rd (rd_L12 y483 x23_1) 1) : Int).toNat).drop (x9_1 : Int).toNat = y490 from Ny490.out.symm] at hr25
              replace hr25 : Kd.C Kd.string _ A25 y490.length y490 := (by rw [hA25]; exact hr25)
              rw [← hy25, ← hA25, ← hc25] at hcut25
              have HR493 := Aside0.mk hr25
              have HC493 := Aside0.mk (show y490.length ≤ c25 from by rw [hy25, hc25]; exact Nat.sub_le_sub_right (Nat.le_trans (by omega) hroom25) _)
              clear hr25 hC25 hroom25 hi025 hsz25 hc25
              have KY25 := Aside0.mk hy25
              have KA25 := Aside0.mk hA25
              clear hy25 hA25
              have KL25 := Aside0.mk (show ((rd (rd_L12 y483 x23_1) 1) : Int).toNat ≤ t474.length from by omega)
              have KM25 := Aside0.mk (show (x9_1 : Int).toNat ≤ ((rd (rd_L12 y483 x23_1) 1) : Int).toNat from by omega)
              replace q25 := eq_true q25
              refine start_ (n := 18) (S := fun w' => w'.cell? ad487 = some (.int .i64 (rd (rd_L12 y483 x23_1) 0)) ∧ w'.cell? ⟨ad487.block, ad487.off + 1, none⟩ = some (.int .i64 (rd (rd_L12 y483 x23_1) 1))) (ds := [15, 16]) #[O,O,O,O,O,O,O,O,O,O,O,O,O,O,O,O,O,O] (by kernel_rfl) rfl rfl ⟨hx488_0, hx489_0⟩ (fun hHeld => ?_); refine with_tabW impl_between.tab6 impl_between.bits6 (fun HT_ HW_ => ?_)
              generalize wr.drew = w24 at HO_1 HO_7 HO_21 HL486_0 HR486_0 HB HR493 hx488_0 hx489_0 hHeld ⊢
              refine pure_ (i := 0) (N := some 39) (v := ?_) (a' := ?_) #[Y,O,O,O,O,O,O,O,O,O,O,O,O,O,O,O,O,O] rfl rfl zx (fun _ _ _ h => h) (Or.inl ⟨by rfl, ?_⟩) ?_ ?_
              rotate_left; (intro w'; go_simp; with_reducible rfl); rotate_left; (simp only [Act.put,qa,qb,qc,i64_w,i32_w]; rfl)
              refine pure_ (i := 1) (N := some 40) (v := ?_) (a' := ?_) #[Y,Y,O,O,O,O,O,O,O,O,O,O,O,O,O,O,O,O] rfl rfl zx (fun _ _ _ h => h) (Or.inl ⟨by rfl, ?_⟩) ?_ ?_
              rotate_left; (intro w'; go_simp; with_reducible rfl); rotate_left; (simp only [Act.put,qa,qb,qc,i64_w,i32_w]; rfl)
              refine pure_ (i := 2) (N := some 41) (v := ?_) (a' := ?_) #[Y,Y,Y,O,O,O,O,O,O,O,O,O,O,O,O,O,O,O] rfl rfl zx (fun _ _ _ h => h) (Or.inl ⟨by rfl, ?_⟩) ?_ ?_
              rotate_left; (intro w'; go_simp; with_reducible rfl); rotate_left; (simp only [Act.put,qa,qb,qc,i64_w,i32_w]; rfl)
              refine pure_ (i := 3) (N := some 42) (v := ?_) (a' := ?_) #[Y,Y,Y,Y,O,O,O,O,O,O,O,O,O,O,O,O,O,O] rfl rfl zx (fun _ _ _ h => h) (Or.inl ⟨by rfl, ?_⟩) ?_ ?_
              rotate_left; (intro w'; go_simp; with_reducible rfl); rotate_left; (simp only [Act.put,qa,qb,qc,i64_w,i32_w]; rfl)
              refine pure_ (i := 5) (N := some 44) (v := ?_) (a' := ?_) #[Y,Y,Y,Y,O,Y,O,O,O,O,O,O,O,O,O,O,O,O] rfl rfl zx (fun _ _ _ h => h) (Or.inl ⟨by rfl, ?_⟩) ?_ ?_
              rotate_left; (intro w'; go_simp; with_reducible rfl); rotate_left; (simp only [Act.put,qa,qb,qc,i64_w,i32_w]; rfl)
              refine pure_ (i := 7) (N := some 46) (v := ?_) (a' := ?_) #[Y,Y,Y,Y,O,Y,O,Y,O,O,O,O,O,O,O,O,O,O] rfl rfl zx (fun _ _ _ h => h) (Or.inl ⟨by rfl, ?_⟩) ?_ ?_
              rotate_left; (intro w'; go_simp; with_reducible rfl); rotate_left; (simp only [Act.put,qa,qb,qc,i64_w,i32_w]; rfl)
              refine pure_ (i := 8) (N := some 47) (v := ?_) (a' := ?_) #[Y,Y,Y,Y,O,Y,O,Y,Y,O,O,O,O,O,O,O,O,O] rfl rfl zx (fun _ _ _ h => h) (Or.inl ⟨by rfl, ?_⟩) ?_ ?_
              rotate_left; (intro w'; go_simp; with_reducible rfl); rotate_left; (simp only [Act.put,qa,qb,qc,i64_w,i32_w]; rfl)
              refine pure_ (i := 9) (N := some 48) (v := ?_) (a' := ?_) #[Y,Y,Y,Y,O,Y,O,Y,Y,Y,O,O,O,O,O,O,O,O] rfl rfl zx (fun _ _ _ h => h) (Or.inl ⟨by rfl, ?_⟩) ?_ ?_
              rotate_left; (intro w'; go_simp; with_reducible rfl); rotate_left; (simp only [Act.put,qa,qb,qc,i64_w,i32_w]; rfl)
              refine pure_ (i := 10) (N := some 49) (v := ?_) (a' := ?_) #[Y,Y,Y,Y,O,Y,O,Y,Y,Y,Y,O,O,O,O,O,O,O] rfl rfl zx (fun _ _ _ h => h) (Or.inl ⟨by rfl, ?_⟩) ?_ ?_
              rotate_left; (intro w'; go_simp; with_reducible rfl); rotate_left; (simp only [Act.put,qa,qb,qc,i64_w,i32_w]; rfl)
              refine take_ (i := 4) (N := some 43) (v := ?_) (a' := ?_) #[Y,Y,Y,Y,Y,Y,O,Y,Y,Y,Y,O,O,O,O,O,O,O] rfl rfl (take_ofW HT_.out HW_.out (by kernel_rfl)) (fun _ _ _ h => h) (Or.inl ⟨by rfl, ?_⟩) hHeld ?_ ?_
              rotate_left; (rintro w' ⟨s0, s1⟩; go_simp; with_reducible rfl); rotate_left; (simp only [Act.put,qa,qb,qc,i64_w,i32_w]; rfl)
              refine pure_ (i := 6) (N := some 45) (v := ?_) (a' := ?_) #[Y,Y,Y,Y,Y,Y,Y,Y,Y,Y,Y,O,O,O,O,O,O,O] rfl rfl zx (fun _ _ _ h => h) (Or.inl ⟨by rfl, ?_⟩) ?_ ?_
              rotate_left; (intro w'; go_simp; with_reducible rfl); rotate_left; (simp only [Act.put,qa,qb,qc,i64_w,i32_w]; rfl)
              refine take_ (i := 11) (N := some 50) (v := ?_) (a' := ?_) #[Y,Y,Y,Y,Y,Y,Y,Y,Y,Y,Y,Y,O,O,O,O,O,O] rfl rfl (take_ofW HT_.out HW_.out (by kernel_rfl)) (fun _ _ _ h => h) (Or.inl ⟨by rfl, ?_⟩) hHeld ?_ ?_
              rotate_left; (rintro w' ⟨s0, s1⟩; go_simp; with_reducible rfl); rotate_left; (simp only [Act.put,qa,qb,qc,i64_w,i32_w]; rfl)
              refine pure_ (i := 12) (N := some 51) (v := ?_) (a' := ?_) #[Y,Y,Y,Y,Y,Y,Y,Y,Y,Y,Y,Y,Y,O,O,O,O,O] rfl rfl zx (fun _ _ _ h => h) (Or.inl ⟨by rfl, ?_⟩) ?_ ?_
              rotate_left; (intro w'; go_simp; with_reducible rfl); rotate_left; (simp only [Act.put,qa,qb,qc,i64_w,i32_w]; rfl)
              refine one_ (i := 13) (N := some 52) #[Y,Y,Y,Y,Y,Y,Y,Y,Y,Y,Y,Y,Y,Y,O,O,O,O] rfl rfl (one_of HT_.out (by kernel_rfl)) (by decide) (fun K hK => ?_)
              refine goes_ Try.func108 (by kernel_rfl) rfl #[.slice A25 y490.length c25] (by rfl) rfl rfl zm ?_
              with_reducible refine (slices_Clone_string_string.calls _ _ y490 t494 _ ?side1 ?side2 A22.out).mono ?_
              (case side1 => repeat (first | exact (by repeat (first | (with_reducible exact HR493.out) | (with_reducible refine Kd.C_alloc ?_ _) | (with_reducible refine Kd.C_drewN ?_ _) | (with_reducible refine Kd.C_drew ?_) | exact HR493.out)) | (with_reducible refine Kd.C_alloc ?_ _) | (with_reducible refine Kd.C_drewN ?_ _) | (with_reducible refine Kd.C_drew ?_)))
              (case side2 => exact HC493.out)
              rintro e w26 ⟨v495, rfl, ho0, hb⟩
              have HS0_ := (hb.cell (World.block_lt_of_cell? _ _ (hHeld.1))).trans (hHeld.1)
              have HS1_ := (hb.cell (World.block_lt_of_cell? _ _ (hHeld.2))).trans (hHeld.2)
              refine ⟨_, rfl, ?_⟩
              have n0_ := Aside0.mk (Kd.R_elder' (zr HO_1.out) (Kd.R_base ho0) hb)
              have n1_ := Aside0.mk (Kd.S_elder' (zs HO_7.out) (Kd.R_base ho0) hb)
              have n2_ := Aside0.mk (Kd.S_below (zs HO_21.out) hb)
              have n3_ := Aside0.mk (Kd.R_below (zr HL486_0.out) hb)
              have n4_ := Aside0.mk (Kd.R_lower (Kd.R_new' ho0 (Kd.R_lt (zr HO_1.out))) (below_size zb))
              have n5_ := Aside0.mk (Kd.C_below (by repeat (first | (with_reducible exact HR486_0.out) | (with_reducible refine Kd.C_alloc ?_ _) | (with_reducible refine Kd.C_drewN ?_ _) | (with_reducible refine Kd.C_drew ?_) | exact HR486_0.out)) hb)
              have n6_ := Aside0.mk (Kd.C_below (by repeat (first | (with_reducible exact HR493.out) | (with_reducible refine Kd.C_alloc ?_ _) | (with_reducible refine Kd.C_drewN ?_ _) | (with_reducible refine Kd.C_drew ?_) | exact HR493.out)) hb)
              have n7_ := Aside0.mk (below_step zb hb)
              clear HO_1
              clear HO_7
              clear HO_21
              clear HL486_0
              clear HR486_0
              clear HR493
              clear HB
              have HO_1 := n0_
              have HO_7 := n1_
              have HO_21 := n2_
              have HL486_0 := n3_
              have HO496 := n4_
              have HR486_0 := n5_
              have HR493 := n6_
              have HB := n7_
              clear n0_ n1_ n2_ n3_ n4_ n5_ n6_ n7_
              (try clear hb)
              (try clear hb2)
              (try clear hk)
              (try clear hi)
              (try clear ho0)
              obtain ⟨Ao27, co27, eo27⟩ := Kd.R_slice HO496.out
              (first | subst eo27 | (injection eo27 with f1_ f2_ f3_; have f4_ := f1_.symm; have f5_ := f3_.symm; clear f1_ f2_ f3_; subst f4_; subst f5_))
              refine hK.out _ _ ⟨HS0_, HS1_⟩ (fun hHeld => ?_)
              clear hK K
              refine norm_ (a' := ?_) ?_ ?_
              rotate_left
              ·show Act.put _ (some 52) _ = _
               simp only [Act.put,qa,qb,qc,i64_w,i32_w]
               rfl
              refine pure_ (i := 14) (N := some 53) (v := ?_) (a' := ?_) #[Y,Y,Y,Y,Y,Y,Y,Y,Y,Y,Y,Y,Y,Y,Y,O,O,O] rfl rfl zx (fun _ _ _ h => h) (Or.inl ⟨by rfl, ?_⟩) ?_ ?_
              rotate_left; (intro w'; go_simp; with_reducible rfl); rotate_left; (simp only [Act.put,qa,qb,qc,i64_w,i32_w]; rfl)
              refine last_ (i := 15) (N := some 54) #[Y,Y,Y,Y,Y,Y,Y,Y,Y,Y,Y,Y,Y,Y,Y,Y,O,O] rfl rfl (one_of HT_.out (by kernel_rfl)) (by decide) (fun K hK => ?_)
              refine value_ (w1 := ?_) (v := ?_) (by rfl) rfl ?_ ?_
              rotate_left 2
              ·go_simp
               constructor
               ·rfl
               ·rfl
              refine hK.out _ _ ?_
              clear hK K
              refine norm_ (a' := ?_) ?_ ?_
              rotate_left
              ·show Act.put _ (some 54) _ = _
               simp only [Act.put,qa,qb,qc,i64_w,i32_w]
               rfl
              refine last_ (i := 16) (N := some 55) #[Y,Y,Y,Y,Y,Y,Y,Y,Y,Y,Y,Y,Y,Y,Y,Y,Y,O] rfl rfl (one_of HT_.out (by kernel_rfl)) (by decide) (fun K hK => ?_)
              refine Kd.S_append_step k111 (w0 := w) w.heap.size (by rfl) (.tmp 39) (.tmp 54) 39 111 (.agg #[(.int .i64 0), (.int .i64 0), (.slice none 0 0)]) 40 rfl Try.underlying39 info111 rfl (by decide) (by omega) u7 x7_1 (⟨x8_1, wrap64 ((rd (rd_L12 y483 x23_1) 0) - x8_1), t494⟩ : S111) [.int .i64 x8_1, .int .i64 (wrap64 ((rd (rd_L12 y483 x23_1) 0) - x8_1)), .slice Ao27 t494.length co27] (fun k_ => some k_ ≠ (.slice Ao7 t474.length co7 : Value).ownBlock) (fun k_ => some k_ = (.slice Ao27 t494.length co27 : Value).ownBlock) rfl rfl ?aP (fun k_ hk_ => ((Kd.R_mono (ok' := fun k_ => ((fun k_ => some k_ ≠ (.slice Ao7 t474.length co7 : Value).ownBlock)) k_ ∧ some k_ ≠ (u7 : Value).ownBlock) (Kd.R_apart' (HO496.out) (Kd.S_typed HO_7.out) (by decide)) (fun k_ hk => ⟨hk.1.2, hk.2⟩))).1 k_ hk_.symm) ?aF ?aO ?aB ?aS ?aL ?_
              (case aP => exact k111_mkM _ _ _ (⟨x8_1, wrap64 ((rd (rd_L12 y483 x23_1) 0) - x8_1), t494⟩ : S111) (Kd.R_mono (Kd.R_tight rfl (Kd.R_mono (ok' := fun k_ => ((fun k_ => some k_ ≠ (.slice Ao7 t474.length co7 : Value).ownBlock)) k_ ∧ some k_ ≠ (u7 : Value).ownBlock) (Kd.R_apart' (HO496.out) (Kd.S_typed HO_7.out) (by decide)) (fun k_ hk => ⟨hk.1.2, hk.2⟩))) (fun _ h_ => h_)))
              (case aB => exact zb)
              (case aF => exact (fun k_ hk => Kd.fresh' (Kd.R_lt (zr HO_1.out)) k_ hk))
              (case aO => exact (by (with_reducible repeat (first | apply Kd.S_alloc | apply Kd.S_drewN | apply Kd.S_drew)); exact Kd.S_mono HO_7.out (fun k_ hk => ⟨hk.1, fun e_ => hk.2 e_⟩)))
              (case aS => exact (below_size zb))
              (case aL => have := LMc23.out; omega)
              intro v498 w28 ho hb hg hat
              rw [← Ny497.out] at ho
              have n0_ := Aside0.mk (Kd.R_over' (zr HO_1.out) (Kd.S_typed (zs HO_7.out)) (by decide) hg)
              have n1_ := Aside0.mk (Kd.S_over' (zs HO_21.out) (Kd.S_typed (zs HO_7.out)) (by decide) hg)
              have n2_ := Aside0.mk (Kd.R_over' (zr HL486_0.out) (Kd.S_typed (zs HO_7.out)) (by decide) hg)
              have n3_ := Aside0.mk (hb)
              have n4_ := Aside0.mk ((show Kd.C Kd.string w28 A25 y490.length y490 from by rw [Ny490.out, KA25.out]; exact Kd.C_mid (lo := (x9_1 : Int).toNat) (hi := ((rd (rd_L12 y483 x23_1) 1) : Int).toNat) (c := co7) ((Kd.R_reads' (Kd.R_over' (zr HO_1.out) (Kd.S_typed (zs HO_7.out)) (by decide) hg)).2.2) KM25.out KL25.out ((Kd.R_reads' (Kd.R_over' (zr HO_1.out) (Kd.S_typed (zs HO_7.out)) (by decide) hg)).2.1)))
              have n5_ := Aside0.mk (ho)
              clear HO_1
              clear HO_21
              clear HL486_0
              clear HB
              clear HR493
              clear HO_7
              clear HO496
              have HO_1 := n0_
              have HO_21 := n1_
              have HL486_0 := n2_
              have HB := n3_
              have HR493 := n4_
              have HO499 := n5_
              clear n0_ n1_ n2_ n3_ n4_ n5_
              clear ho hb hg hat
              refine hK.out _ _ ?_
              clear hK K
              refine norm_ (a' := ?_) ?_ ?_
              rotate_left
              ·show Act.put _ (some 55) _ = _
               simp only [Act.put,qa,qb,qc,i64_w,i32_w]
               rfl
              refine pure_ (i := 17) (N := some 7) (v := ?_) (a' := ?_) #[Y,Y,Y,Y,Y,Y,Y,Y,Y,Y,Y,Y,Y,Y,Y,Y,Y,Y] rfl rfl zx (fun _ _ _ h => h) (Or.inl ⟨by rfl, ?_⟩) ?_ ?_
              rotate_left; (intro w'; go_simp; with_reducible rfl); rotate_left; (simp only [Act.put,qa,qb,qc,i64_w,i32_w]; rfl)
              refine done_ (done_of HT_.out (by kernel_rfl)) ?_
              try go_wp2
              have n0_ := Aside0.mk (Kd.R_drew HO_1.out)
              have n1_ := Aside0.mk (Kd.S_drew HO_21.out)
              have n2_ := Aside0.mk (Kd.R_drew HL486_0.out)
              have n3_ := Aside0.mk (Kd.S_drew HO499.out)
              have n4_ := Aside0.mk (Kd.C_drew HR493.out)
              have n5_ := Aside0.mk (below_drew1 HB.out)
              clear HO_1
              clear HO_21
              clear HL486_0
              clear HO499
              clear HR493
              clear HB
              have HO_1 := n0_
              have HO_21 := n1_
              have HL486_0 := n2_
              have HO499 := n3_
              have HR493 := n4_
              have HB := n5_
              clear n0_ n1_ n2_ n3_ n4_ n5_
              have p500 : 0 ≤ (0 : Int) := (by omega)
              have q500 : 0 < ((rd_L12 y483 x23_1).length : Int) := oa
              obtain ⟨ad500, e500, hx500_0⟩ := Kd.at_int ((Kd.R_reads' (HL486_0.out)).2.2) 0 p500 q500
              obtain rfl : ad487 = ad500 := (by injection e500)
              have qi500 : (0 < (rd_L12 y483 x23_1).length) = True := eq_true (by omega)
              (try rw [show ((0 : Int)).toNat = 0 from rfl] at hx500_0)
              (try rw [Addr.add_zero'] at hx500_0)
              replace p500 := eq_true p500
              replace q500 := eq_true q500
              have p501 : 0 ≤ (1 : Int) := (by omega)
              have q501 : 1 < ((rd_L12 y483 x23_1).length : Int) := oa
              obtain ⟨ad501, e501, hx501_0⟩ := Kd.at_int ((Kd.R_reads' (HL486_0.out)).2.2) 1 p501 q501
              obtain rfl : ad487 = ad501 := (by injection e501)
              (try simp only [show (1 : Int).toNat = 1 from rfl, Nat.reduceMul, Nat.reduceEqDiff, Go.Addr.add, ↓reduceIte] at hx501_0)
              have qi501 : (1 < (rd_L12 y483 x23_1).length) = True := eq_true (by omega)
              (try rw [show ((1 : Int)).toNat = 1 from rfl] at hx501_0)
              replace p501 := eq_true p501
              replace q501 := eq_true q501
              refine start_ (n := 10) (S := fun w' => w'.cell? ad487 = some (.int .i64 (rd (rd_L12 y483 x23_1) 0)) ∧ w'.cell? ⟨ad487.block, ad487.off + 1, none⟩ = some (.int .i64 (rd (rd_L12 y483 x23_1) 1))) (ds := []) #[O,O,O,O,O,O,O,O,O,O] (by kernel_rfl) rfl rfl ⟨hx500_0, hx501_0⟩ (fun hHeld => ?_); refine with_tabW impl_between.tab7 impl_between.bits7 (fun HT_ HW_ => ?_)
              generalize w28.drew = w29 at HO_1 HO_21 HL486_0 HO499 HR493 HB hx500_0 hx501_0 hHeld ⊢
              refine pure_ (i := 0) (N := some 56) (v := ?_) (a' := ?_) #[Y,O,O,O,O,O,O,O,O,O] rfl rfl zx (fun _ _ _ h => h) (Or.inl ⟨by rfl, ?_⟩) ?_ ?_
              rotate_left; (intro w'; go_simp; with_reducible rfl); rotate_left; (simp only [Act.put,qa,qb,qc,i64_w,i32_w]; rfl)
              refine pure_ (i := 1) (N := some 57) (v := ?_) (a' := ?_) #[Y,Y,O,O,O,O,O,O,O,O] rfl rfl zx (fun _ _ _ h => h) (Or.inl ⟨by rfl, ?_⟩) ?_ ?_
              rotate_left; (intro w'; go_simp; with_reducible rfl); rotate_left; (simp only [Act.put,qa,qb,qc,i64_w,i32_w]; rfl)
              refine pure_ (i := 4) (N := some 60) (v := ?_) (a' := ?_) #[Y,Y,O,O,Y,O,O,O,O,O] rfl rfl zx (fun _ _ _ h => h) (Or.inl ⟨by rfl, ?_⟩) ?_ ?_
              rotate_left; (intro w'; go_simp; with_reducible rfl); rotate_left; (simp only [Act.put,qa,qb,qc,i64_w,i32_w]; rfl)
              refine pure_ (i := 5) (N := some 61) (v := ?_) (a' := ?_) #[Y,Y,O,O,Y,Y,O,O,O,O] rfl rfl zx (fun _ _ _ h => h) (Or.inl ⟨by rfl, ?_⟩) ?_ ?_
              rotate_left; (intro w'; go_simp; with_reducible rfl); rotate_left; (simp only [Act.put,qa,qb,qc,i64_w,i32_w]; rfl)
              refine take_ (i := 2) (N := some 58) (v := ?_) (a' := ?_) #[Y,Y,Y,O,Y,Y,O,O,O,O] rfl rfl (take_ofW HT_.out HW_.out (by kernel_rfl)) (fun _ _ _ h => h) (Or.inl ⟨by rfl, ?_⟩) hHeld ?_ ?_
              rotate_left; (rintro w' ⟨s0, s1⟩; go_simp; with_reducible rfl); rotate_left; (simp only [Act.put,qa,qb,qc,i64_w,i32_w]; rfl)
              refine pure_ (i := 3) (N := some 59) (v := ?_) (a' := ?_) #[Y,Y,Y,Y,Y,Y,O,O,O,O] rfl rfl zx (fun _ _ _ h => h) (Or.inl ⟨by rfl, ?_⟩) ?_ ?_
              rotate_left; (intro w'; go_simp; with_reducible rfl); rotate_left; (simp only [Act.put,qa,qb,qc,i64_w,i32_w]; rfl)
              refine pure_ (i := 8) (N := some 8) (v := ?_) (a' := ?_) #[Y,Y,Y,Y,Y,Y,O,O,Y,O] rfl rfl zx (fun _ _ _ h => h) (Or.inl ⟨by rfl, ?_⟩) ?_ ?_
              rotate_left; (intro w'; go_simp; with_reducible rfl); rotate_left; (simp only [Act.put,qa,qb,qc,i64_w,i32_w]; rfl)
              refine take_ (i := 6) (N := some 62) (v := ?_) (a' := ?_) #[Y,Y,Y,Y,Y,Y,Y,O,Y,O] rfl rfl (take_ofW HT_.out HW_.out (by kernel_rfl)) (fun _ _ _ h => h) (Or.inl ⟨by rfl, ?_⟩) hHeld ?_ ?_
              rotate_left; (rintro w' ⟨s0, s1⟩; go_simp; with_reducible rfl); rotate_left; (simp only [Act.put,qa,qb,qc,i64_w,i32_w]; rfl)
              refine pure_ (i := 7) (N := some 63) (v := ?_) (a' := ?_) #[Y,Y,Y,Y,Y,Y,Y,Y,Y,O] rfl rfl zx (fun _ _ _ h => h) (Or.inl ⟨by rfl, ?_⟩) ?_ ?_
              rotate_left; (intro w'; go_simp; with_reducible rfl); rotate_left; (simp only [Act.put,qa,qb,qc,i64_w,i32_w]; rfl)
              refine pure_ (i := 9) (N := some 9) (v := ?_) (a' := ?_) #[Y,Y,Y,Y,Y,Y,Y,Y,Y,Y] rfl rfl zx (fun _ _ _ h => h) (Or.inl ⟨by rfl, ?_⟩) ?_ ?_
              rotate_left; (intro w'; go_simp; with_reducible rfl); rotate_left; (simp only [Act.put,qa,qb,qc,i64_w,i32_w]; rfl)
              refine done_ (done_of HT_.out (by kernel_rfl)) ?_
              try go_wp2
              go_roundg k1
              case measure => have := HK1.out; omega
              case rel => exact ⟨(y497), (wrap64 ((rd (rd_L12 y483 x23_1) 0) + 1)), (wrap64 ((rd (rd_L12 y483 x23_1) 1) + 1)), (wrap64 (x23_1 + 1)), zf, zf, zf, H', ⟨by have := HK1.out; omega⟩, ⟨by (with_reducible repeat (first | apply Kd.R_alloc | apply Kd.R_drewN | apply Kd.R_drew)); exact Kd.R_mono HO_1.out (fun _ hk => trivial)⟩, ⟨by (with_reducible repeat (first | apply Kd.S_alloc | apply Kd.S_drewN | apply Kd.S_drew)); exact HO499.out⟩, ⟨by (with_reducible repeat (first | apply Kd.S_alloc | apply Kd.S_drewN | apply Kd.S_drew)); exact HO_21.out⟩, ⟨by repeat (first | (with_reducible first | exact HB.out | apply below_alloc | apply pw_below_drewN | apply below_drew1) | exact HB.out)⟩⟩
             ·rw [if_neg c23] at H
              exact absurd H (by simp)
            ·rw [if_neg c21] at H
             exact absurd H (by simp)
           ·rw [if_neg c20] at H
            exact absurd H (by simp)
          ·rw [if_neg c19] at H
           exact absurd H (by simp)
         ·rw [if_neg c18] at H
          exact absurd H (by simp)
        ·rw [if_neg c17] at H
         have c17b0 : decide (x8_1 < (rd (rd_L12 y483 x23_1) 0)) = false := decide_eq_false c17
         clear c17
         by_cases c30 : 1 < ((rd_L12 y483 x23_1).length : Int)
         ·rw [if_pos c30] at H
          have c30b0 : decide (1 < ((rd_L12 y483 x23_1).length : Int)) = true := decide_eq_true c30
          have c30b1 : decide (1 < (rd_L12 y483 x23_1).length) = true := decide_eq_true (by omega)
          clear c30
          by_cases c31 : (rd (rd_L12 y483 x23_1) 1) > x9_1
          ·rw [if_pos c31] at H
           have c31b0 : decide (x9_1 < (rd (rd_L12 y483 x23_1) 1)) = true := decide_eq_true c31
           clear c31
           by_cases c32 : 0 ≤ x9_1
           ·rw [if_pos c32] at H
            have c32b0 := eq_true c32
            have c32b1 : decide (0 ≤ x9_1) = true := decide_eq_true c32
            clear c32
            by_cases c33 : x9_1 ≤ (rd (rd_L12 y483 x23_1) 1)
            ·rw [if_pos c33] at H
             have c33b0 := eq_true c33
             have c33b1 : decide (x9_1 ≤ (rd (rd_L12 y483 x23_1) 1)) = true := decide_eq_true c33
             clear c33
             by_cases c34 : (rd (rd_L12 y483 x23_1) 1) ≤ (t474.length : Int)
             ·rw [if_pos c34] at H
              have c34b0 := eq_true c34
              have c34b1 : decide ((rd (rd_L12 y483 x23_1) 1) ≤ (t474.length : Int)) = true := decide_eq_true c34
              clear c34
              obtain ⟨y505, hy505⟩ : ∃ y_ : List ByteArray, y_ = ((t474.take ((rd (rd_L12 y483 x23_1) 1) : Int).toNat).drop (x9_1 : Int).toNat) := ⟨_, rfl⟩
              replace H : ((slices_Clone_string_string.f y505).bind fun t509 => (if x7_1.length < 3518437208883 then (impl_between.l0 k1 t474 (x7_1 ++ [(⟨x8_1, wrap64 ((rd (rd_L12 y483 x23_1) 0) - x8_1), t509⟩ : S111)]) (wrap64 ((rd (rd_L12 y483 x23_1) 0) + 1)) (wrap64 ((rd (rd_L12 y483 x23_1) 1) + 1)) y483 (y483.length : Int) (wrap64 (x23_1 + 1))) else (none))) = some r := by first | (rw [hy505]; with_reducible exact H) | (have H2_ := (Option.bind_some _ _).symm.trans H; rw [hy505]; with_reducible exact H2_) | (have H2_ := (Option.bind_some _ _).symm.trans H; with_reducible exact H2_) | with_reducible exact H | (rw [hy505]; exact H) | exact H
              have Ny505 := Aside0.mk hy505
              clear hy505
              replace H := Option.bind_eq_some_iff.mp H
              obtain ⟨t509, A350, H⟩ := H
              replace H : (if x7_1.length < 3518437208883 then (impl_between.l0 k1 t474 (x7_1 ++ [(⟨x8_1, wrap64 ((rd (rd_L12 y483 x23_1) 0) - x8_1), t509⟩ : S111)]) (wrap64 ((rd (rd_L12 y483 x23_1) 0) + 1)) (wrap64 ((rd (rd_L12 y483 x23_1) 1) + 1)) y483 (y483.length : Int) (wrap64 (x23_1 + 1))) else (none)) = some r := H
              have A35 := Aside0.mk A350
              clear A350
              by_cases c36 : x7_1.length < 3518437208883
              ·rw [if_pos c36] at H
               have LMc36 := Aside0.mk c36
               clear c36
               obtain ⟨y512, hy512⟩ : ∃ y_ : List (S111), y_ = (x7_1 ++ [(⟨x8_1, wrap64 ((rd (rd_L12 y483 x23_1) 0) - x8_1), t509⟩ : S111)]) := ⟨_, rfl⟩
               replace H : (impl_between.l0 k1 t474 y512 (wrap64 ((rd (rd_L12 y483 x23_1) 0) + 1)) (wrap64 ((rd (rd_L12 y483 x23_1) 1) + 1)) y483 (y483.length : Int) (wrap64 (x23_1 + 1))) = some r := by first | (rw [hy512]; with_reducible exact H) | (have H2_ := (Option.bind_some _ _).symm.trans H; rw [hy512]; with_reducible exact H2_) | (have H2_ := (Option.bind_some _ _).symm.trans H; with_reducible exact H2_) | with_reducible exact H | (rw [hy512]; exact H) | exact H
               have Ny512 := Aside0.mk hy512
               clear hy512
               have H' := Aside0.mk H
               clear H
               have p486 : 0 ≤ (x23_1 : Int) := oa
               have q486 : x23_1 < (y483.length : Int) := oa
               obtain ⟨ad486, A486_0, c486_0, e486, hx486_0, hl486_0, hi486_0⟩ := at_L12 (Kd.S_reads' HO_21.out).2.2 x23_1 p486 q486
               cases e486
               obtain ⟨ce486, hce486, hMe486, hcc486⟩ := Kd.S_get HO_21.out [] x23_1 p486 (by first | exact q486 | exact oa | (have e_ := (Kd.S_reads' HO_21.out).1; omega))
               obtain ⟨ve486_0, rfl, ge486_0⟩ := hMe486
               have hv486_0 := hcc486 0 _ rfl
               rw [Nat.add_zero, show ((Kd.slice 3 (Kd.int .i64))).sz = 1 from rfl, Nat.mul_one] at hv486_0
               replace hv486_0 := Option.some.inj (hv486_0.symm.trans hx486_0)
               rw [hv486_0] at ge486_0
               have HL486_0 := Aside0.mk (show Kd.R (Kd.int .i64) 3 _ _ _ _ (rd_L12 y483 x23_1) from ge486_0)
               clear hv486_0 ge486_0
               clear hcc486 hce486
               have HR486_0 := Aside0.mk hi486_0
               have HC486_0 := Aside0.mk hl486_0
               clear hi486_0 hl486_0
               replace p486 := eq_true p486
               replace q486 := eq_true q486
               have p487 : 0 ≤ (0 : Int) := (by omega)
               have q487 : 0 < ((rd_L12 y483 x23_1).length : Int) := oa
               obtain ⟨ad487, e487, hx487_0⟩ := Kd.at_int (by repeat (first | (with_reducible exact HR486_0.out) | (with_reducible refine Kd.C_alloc ?_ _) | (with_reducible refine Kd.C_drewN ?_ _) | (with_reducible refine Kd.C_drew ?_) | exact HR486_0.out)) 0 p487 q487
               cases e487
               have qi487 : (0 < (rd_L12 y483 x23_1).length) = True := eq_true (by omega)
               (try rw [show ((0 : Int)).toNat = 0 from rfl] at hx487_0)
               (try rw [Addr.add_zero'] at hx487_0)
               replace p487 := eq_true p487
               replace q487 := eq_true q487
               have p502 : 0 ≤ (1 : Int) := (by omega)
               have q502 : 1 < ((rd_L12 y483 x23_1).length : Int) := oa
               obtain ⟨ad502, e502, hx502_0⟩ := Kd.at_int (by repeat (first | (with_reducible exact HR486_0.out) | (with_reducible refine Kd.C_alloc ?_ _) | (with_reducible refine Kd.C_drewN ?_ _) | (with_reducible refine Kd.C_drew ?_) | exact HR486_0.out)) 1 p502 q502
               obtain rfl : ad487 = ad502 := (by injection e502)
               (try simp only [show (1 : Int).toNat = 1 from rfl, Nat.reduceMul, Nat.reduceEqDiff, Go.Addr.add, ↓reduceIte] at hx502_0)
               have qi502 : (1 < (rd_L12 y483 x23_1).length) = True := eq_true (by omega)
               (try rw [show ((1 : Int)).toNat = 1 from rfl] at hx502_0)
               replace p502 := eq_true p502
               replace q502 := eq_true q502
               try go_wp2
               have n0_ := Aside0.mk (Kd.R_drew HO_1.out)
               have n1_ := Aside0.mk (Kd.S_drew HO_7.out)
               have n2_ := Aside0.mk (Kd.S_drew HO_21.out)
               have n3_ := Aside0.mk (Kd.R_drew HL486_0.out)
               have n4_ := Aside0.mk (Kd.C_drew HR486_0.out)
               have n5_ := Aside0.mk (below_drew1 HB.out)
               clear HO_1
               clear HO_7
               clear HO_21
               clear HL486_0
               clear HR486_0
               clear HB
               have HO_1 := n0_
               have HO_7 := n1_
               have HO_21 := n2_
               have HL486_0 := n3_
               have HR486_0 := n4_
               have HB := n5_
               clear n0_ n1_ n2_ n3_ n4_ n5_
               have p503 : 0 ≤ (0 : Int) := (by omega)
               have q503 : 0 < ((rd_L12 y483 x23_1).length : Int) := oa
               obtain ⟨ad503, e503, hx503_0⟩ := Kd.at_int (by repeat (first | (with_reducible exact HR486_0.out) | (with_reducible refine Kd.C_alloc ?_ _) | (with_reducible refine Kd.C_drewN ?_ _) | (with_reducible refine Kd.C_drew ?_) | exact HR486_0.out)) 0 p503 q503
               obtain rfl : ad487 = ad503 := (by injection e503)
               have qi503 : (0 < (rd_L12 y483 x23_1).length) = True := eq_true (by omega)
               (try rw [show ((0 : Int)).toNat = 0 from rfl] at hx503_0)
               (try rw [Addr.add_zero'] at hx503_0)
               replace p503 := eq_true p503
               replace q503 := eq_true q503
               have p504 : 0 ≤ (1 : Int) := (by omega)
               have q504 : 1 < ((rd_L12 y483 x23_1).length : Int) := oa
               obtain ⟨ad504, e504, hx504_0⟩ := Kd.at_int (by repeat (first | (with_reducible exact HR486_0.out) | (with_reducible refine Kd.C_alloc ?_ _) | (with_reducible refine Kd.C_drewN ?_ _) | (with_reducible refine Kd.C_drew ?_) | exact HR486_0.out)) 1 p504 q504
               obtain rfl : ad487 = ad504 := (by injection e504)
               (try simp only [show (1 : Int).toNat = 1 from rfl, Nat.reduceMul, Nat.reduceEqDiff, Go.Addr.add, ↓reduceIte] at hx504_0)
               have qi504 : (1 < (rd_L12 y483 x23_1).length) = True := eq_true (by omega)
               (try rw [show ((1 : Int)).toNat = 1 from rfl] at hx504_0)
               replace p504 := eq_true p504
               replace q504 := eq_true q504
               have q38 : ((rd (rd_L12 y483 x23_1) 1) : Int) ≤ ((t474.length : Int) : Int) := oa
               obtain ⟨i038, hi038, _, hsz38, _⟩ := info_parts info9
               have hroom38 : t474.length ≤ co7 := (Kd.R_reads' HO_1.out).2.1
               have hC38 : Kd.C Kd.string _ Ao7 t474.length t474 := (Kd.R_reads' HO_1.out).2.2
               have ql38 : (x9_1 : Int) ≤ ((rd (rd_L12 y483 x23_1) 1) : Int) := oa
               have q038 : (0 : Int) ≤ (x9_1 : Int) := oa
               have hcut38 := cut_mid (P := Try.prog) 22 9 .i64 .i64 Try.underlying22 hi038 1 hsz38 Ao7 t474.length co7 x9_1 (rd (rd_L12 y483 x23_1) 1) q038 ql38 q38 hroom38
               have hr38 := Kd.C_mid (lo := (x9_1 : Int).toNat) (hi := ((rd (rd_L12 y483 x23_1) 1) : Int).toNat) (c := co7) hC38 (by omega) (by omega) hroom38
               obtain ⟨A38, hA38⟩ : ∃ A1, A1 = (if co7 = (x9_1 : Int).toNat then Ao7 else (Ao7 : Option Addr).map (·.add ((x9_1 : Int).toNat * 1))) := ⟨_, rfl⟩
               obtain ⟨c38, hc38⟩ : ∃ c1, c1 = co7 - (x9_1 : Int).toNat := ⟨_, rfl⟩
               have hy38 : y505.length = ((rd (rd_L12 y483 x23_1) 1) : Int).toNat - (x9_1 : Int).toNat := (by rw [Ny505.out, List.length_drop, List.length_take] <;> omega)
               rw [show ((t474).take ((rd (rd_L12 y483 x23_1) 1) : Int).toNat).drop (x9_1 : Int).toNat = y505 from Ny505.out.symm] at hr38
               replace hr38 : Kd.C Kd.string _ A38 y505.length y505 := (by rw [hA38]; exact hr38)
               rw [← hy38, ← hA38, ← hc38] at hcut38
               have HR508 := Aside0.mk hr38
               have HC508 := Aside0.mk (show y505.length ≤ c38 from by rw [hy38, hc38]; exact Nat.sub_le_sub_right (Nat.le_trans (by omega) hroom38) _)
               clear hr38 hC38 hroom38 hi038 hsz38 hc38
               have KY38 := Aside0.mk hy38
               have KA38 := Aside0.mk hA38
               clear hy38 hA38
               have KL38 := Aside0.mk (show ((rd (rd_L12 y483 x23_1) 1) : Int).toNat ≤ t474.length from by omega)
               have KM38 := Aside0.mk (show (x9_1 : Int).toNat ≤ ((rd (rd_L12 y483 x23_1) 1) : Int).toNat from by omega)
               replace q38 := eq_true q38
               refine start_ (n := 18) (S := fun w' => w'.cell? ad487 = some (.int .i64 (rd (rd_L12 y483 x23_1) 0)) ∧ w'.cell? ⟨ad487.block, ad487.off + 1, none⟩ = some (.int .i64 (rd (rd_L12 y483 x23_1) 1))) (ds := [15, 16]) #[O,O,O,O,O,O,O,O,O,O,O,O,O,O,O,O,O,O] (by kernel_rfl) rfl rfl ⟨hx503_0, hx504_0⟩ (fun hHeld => ?_); refine with_tabW impl_between.tab6 impl_between.bits6 (fun HT_ HW_ => ?_)
               generalize wr.drew = w37 at HO_1 HO_7 HO_21 HL486_0 HR486_0 HB HR508 hx503_0 hx504_0 hHeld ⊢
               refine pure_ (i := 0) (N := some 39) (v := ?_) (a' := ?_) #[Y,O,O,O,O,O,O,O,O,O,O,O,O,O,O,O,O,O] rfl rfl zx (fun _ _ _ h => h) (Or.inl ⟨by rfl, ?_⟩) ?_ ?_
               rotate_left; (intro w'; go_simp; with_reducible rfl); rotate_left; (simp only [Act.put,qa,qb,qc,i64_w,i32_w]; rfl)
               refine pure_ (i := 1) (N := some 40) (v := ?_) (a' := ?_) #[Y,Y,O,O,O,O,O,O,O,O,O,O,O,O,O,O,O,O] rfl rfl zx (fun _ _ _ h => h) (Or.inl ⟨by rfl, ?_⟩) ?_ ?_
               rotate_left; (intro w'; go_simp; with_reducible rfl); rotate_left; (simp only [Act.put,qa,qb,qc,i64_w,i32_w]; rfl)
               refine pure_ (i := 2) (N := some 41) (v := ?_) (a' := ?_) #[Y,Y,Y,O,O,O,O,O,O,O,O,O,O,O,O,O,O,O] rfl rfl zx (fun _ _ _ h => h) (Or.inl ⟨by rfl, ?_⟩) ?_ ?_
               rotate_left; (intro w'; go_simp; with_reducible rfl); rotate_left; (simp only [Act.put,qa,qb,qc,i64_w,i32_w]; rfl)
               refine pure_ (i := 3) (N := some 42) (v := ?_) (a' := ?_) #[Y,Y,Y,Y,O,O,O,O,O,O,O,O,O,O,O,O,O,O] rfl rfl zx (fun _ _ _ h => h) (Or.inl ⟨by rfl, ?_⟩) ?_ ?_
               rotate_left; (intro w'; go_simp; with_reducible rfl); rotate_left; (simp only [Act.put,qa,qb,qc,i64_w,i32_w]; rfl)
               refine pure_ (i := 5) (N := some 44) (v := ?_) (a' := ?_) #[Y,Y,Y,Y,O,Y,O,O,O,O,O,O,O,O,O,O,O,O] rfl rfl zx (fun _ _ _ h => h) (Or.inl ⟨by rfl, ?_⟩) ?_ ?_
               rotate_left; (intro w'; go_simp; with_reducible rfl); rotate_left; (simp only [Act.put,qa,qb,qc,i64_w,i32_w]; rfl)
               refine pure_ (i := 7) (N := some 46) (v := ?_) (a' := ?_) #[Y,Y,Y,Y,O,Y,O,Y,O,O,O,O,O,O,O,O,O,O] rfl rfl zx (fun _ _ _ h => h) (Or.inl ⟨by rfl, ?_⟩) ?_ ?_
               rotate_left; (intro w'; go_simp; with_reducible rfl); rotate_left; (simp only [Act.put,qa,qb,qc,i64_w,i32_w]; rfl)
               refine pure_ (i := 8) (N := some 47) (v := ?_) (a' := ?_) #[Y,Y,Y,Y,O,Y,O,Y,Y,O,O,O,O,O,O,O,O,O] rfl rfl zx (fun _ _ _ h => h) (Or.inl ⟨by rfl, ?_⟩) ?_ ?_
               rotate_left; (intro w'; go_simp; with_reducible rfl); rotate_left; (simp only [Act.put,qa,qb,qc,i64_w,i32_w]; rfl)
               refine pure_ (i := 9) (N := some 48) (v := ?_) (a' := ?_) #[Y,Y,Y,Y,O,Y,O,Y,Y,Y,O,O,O,O,O,O,O,O] rfl rfl zx (fun _ _ _ h => h) (Or.inl ⟨by rfl, ?_⟩) ?_ ?_
               rotate_left; (intro w'; go_simp; with_reducible rfl); rotate_left; (simp only [Act.put,qa,qb,qc,i64_w,i32_w]; rfl)
               refine pure_ (i := 10) (N := some 49) (v := ?_) (a' := ?_) #[Y,Y,Y,Y,O,Y,O,Y,Y,Y,Y,O,O,O,O,O,O,O] rfl rfl zx (fun _ _ _ h => h) (Or.inl ⟨by rfl, ?_⟩) ?_ ?_
               rotate_left; (intro w'; go_simp; with_reducible rfl); rotate_left; (simp only [Act.put,qa,qb,qc,i64_w,i32_w]; rfl)
               refine take_ (i := 4) (N := some 43) (v := ?_) (a' := ?_) #[Y,Y,Y,Y,Y,Y,O,Y,Y,Y,Y,O,O,O,O,O,O,O] rfl rfl (take_ofW HT_.out HW_.out (by kernel_rfl)) (fun _ _ _ h => h) (Or.inl ⟨by rfl, ?_⟩) hHeld ?_ ?_
               rotate_left; (rintro w' ⟨s0, s1⟩; go_simp; with_reducible rfl); rotate_left; (simp only [Act.put,qa,qb,qc,i64_w,i32_w]; rfl)
               refine pure_ (i := 6) (N := some 45) (v := ?_) (a' := ?_) #[Y,Y,Y,Y,Y,Y,Y,Y,Y,Y,Y,O,O,O,O,O,O,O] rfl rfl zx (fun _ _ _ h => h) (Or.inl ⟨by rfl, ?_⟩) ?_ ?_
               rotate_left; (intro w'; go_simp; with_reducible rfl); rotate_left; (simp only [Act.put,qa,qb,qc,i64_w,i32_w]; rfl)
               refine take_ (i := 11) (N := some 50) (v := ?_) (a' := ?_) #[Y,Y,Y,Y,Y,Y,Y,Y,Y,Y,Y,Y,O,O,O,O,O,O] rfl rfl (take_ofW HT_.out HW_.out (by kernel_rfl)) (fun _ _ _ h => h) (Or.inl ⟨by rfl, ?_⟩) hHeld ?_ ?_
               rotate_left; (rintro w' ⟨s0, s1⟩; go_simp; with_reducible rfl); rotate_left; (simp only [Act.put,qa,qb,qc,i64_w,i32_w]; rfl)
               refine pure_ (i := 12) (N := some 51) (v := ?_) (a' := ?_) #[Y,Y,Y,Y,Y,Y,Y,Y,Y,Y,Y,Y,Y,O,O,O,O,O] rfl rfl zx (fun _ _ _ h => h) (Or.inl ⟨by rfl, ?_⟩) ?_ ?_
               rotate_left; (intro w'; go_simp; with_reducible rfl); rotate_left; (simp only [Act.put,qa,qb,qc,i64_w,i32_w]; rfl)
               refine one_ (i := 13) (N := some 52) #[Y,Y,Y,Y,Y,Y,Y,Y,Y,Y,Y,Y,Y,Y,O,O,O,O] rfl rfl (one_of HT_.out (by kernel_rfl)) (by decide) (fun K hK => ?_)
               refine goes_ Try.func108 (by kernel_rfl) rfl #[.slice A38 y505.length c38] (by rfl) rfl rfl zm ?_
               with_reducible refine (slices_Clone_string_string.calls _ _ y505 t509 _ ?side1 ?side2 A35.out).mono ?_
               (case side1 => repeat (first | exact (by repeat (first | (with_reducible exact HR508.out) | (with_reducible refine Kd.C_alloc ?_ _) | (with_reducible refine Kd.C_drewN ?_ _) | (with_reducible refine Kd.C_drew ?_) | exact HR508.out)) | (with_reducible refine Kd.C_alloc ?_ _) | (with_reducible refine Kd.C_drewN ?_ _) | (with_reducible refine Kd.C_drew ?_)))
               (case side2 => exact HC508.out)
               rintro e w39 ⟨v510, rfl, ho0, hb⟩
               have HS0_ := (hb.cell (World.block_lt_of_cell? _ _ (hHeld.1))).trans (hHeld.1)
               have HS1_ := (hb.cell (World.block_lt_of_cell? _ _ (hHeld.2))).trans (hHeld.2)
               refine ⟨_, rfl, ?_⟩
               have n0_ := Aside0.mk (Kd.R_elder' (zr HO_1.out) (Kd.R_base ho0) hb)
               have n1_ := Aside0.mk (Kd.S_elder' (zs HO_7.out) (Kd.R_base ho0) hb)
               have n2_ := Aside0.mk (Kd.S_below (zs HO_21.out) hb)
               have n3_ := Aside0.mk (Kd.R_below (zr HL486_0.out) hb)
               have n4_ := Aside0.mk (Kd.R_lower (Kd.R_new' ho0 (Kd.R_lt (zr HO_1.out))) (below_size zb))
               have n5_ := Aside0.mk (Kd.C_below (by repeat (first | (with_reducible exact HR486_0.out) | (with_reducible refine Kd.C_alloc ?_ _) | (with_reducible refine Kd.C_drewN ?_ _) | (with_reducible refine Kd.C_drew ?_) | exact HR486_0.out)) hb)
               have n6_ := Aside0.mk (Kd.C_below (by repeat (first | (with_reducible exact HR508.out) | (with_reducible refine Kd.C_alloc ?_ _) | (with_reducible refine Kd.C_drewN ?_ _) | (with_reducible refine Kd.C_drew ?_) | exact HR508.out)) hb)
               have n7_ := Aside0.mk (below_step zb hb)
               clear HO_1
               clear HO_7
               clear HO_21
               clear HL486_0
               clear HR486_0
               clear HR508
               clear HB
               have HO_1 := n0_
               have HO_7 := n1_
               have HO_21 := n2_
               have HL486_0 := n3_
               have HO511 := n4_
               have HR486_0 := n5_
               have HR508 := n6_
               have HB := n7_
               clear n0_ n1_ n2_ n3_ n4_ n5_ n6_ n7_
               (try clear hb)
               (try clear hb2)
               (try clear hk)
               (try clear hi)
               (try clear ho0)
               obtain ⟨Ao40, co40, eo40⟩ := Kd.R_slice HO511.out
               (first | subst eo40 | (injection eo40 with f1_ f2_ f3_; have f4_ := f1_.symm; have f5_ := f3_.symm; clear f1_ f2_ f3_; subst f4_; subst f5_))
               refine hK.out _ _ ⟨HS0_, HS1_⟩ (fun hHeld => ?_)
               clear hK K
               refine norm_ (a' := ?_) ?_ ?_
               rotate_left
               ·show Act.put _ (some 52) _ = _
                simp only [Act.put,qa,qb,qc,i64_w,i32_w]
                rfl
               refine pure_ (i := 14) (N := some 53) (v := ?_) (a' := ?_) #[Y,Y,Y,Y,Y,Y,Y,Y,Y,Y,Y,Y,Y,Y,Y,O,O,O] rfl rfl zx (fun _ _ _ h => h) (Or.inl ⟨by rfl, ?_⟩) ?_ ?_
               rotate_left; (intro w'; go_simp; with_reducible rfl); rotate_left; (simp only [Act.put,qa,qb,qc,i64_w,i32_w]; rfl)
               refine last_ (i := 15) (N := some 54) #[Y,Y,Y,Y,Y,Y,Y,Y,Y,Y,Y,Y,Y,Y,Y,Y,O,O] rfl rfl (one_of HT_.out (by kernel_rfl)) (by decide) (fun K hK => ?_)
               refine value_ (w1 := ?_) (v := ?_) (by rfl) rfl ?_ ?_
               rotate_left 2
               ·go_simp
                constructor
                ·rfl
                ·rfl
               refine hK.out _ _ ?_
               clear hK K
               refine norm_ (a' := ?_) ?_ ?_
               rotate_left
               ·show Act.put _ (some 54) _ = _
                simp only [Act.put,qa,qb,qc,i64_w,i32_w]
                rfl
               refine last_ (i := 16) (N := some 55) #[Y,Y,Y,Y,Y,Y,Y,Y,Y,Y,Y,Y,Y,Y,Y,Y,Y,O] rfl rfl (one_of HT_.out (by kernel_rfl)) (by decide) (fun K hK => ?_)
               refine Kd.S_append_step k111 (w0 := w) w.heap.size (by rfl) (.tmp 39) (.tmp 54) 39 111 (.agg #[(.int .i64 0), (.int .i64 0), (.slice none 0 0)]) 40 rfl Try.underlying39 info111 rfl (by decide) (by omega) u7 x7_1 (⟨x8_1, wrap64 ((rd (rd_L12 y483 x23_1) 0) - x8_1), t509⟩ : S111) [.int .i64 x8_1, .int .i64 (wrap64 ((rd (rd_L12 y483 x23_1) 0) - x8_1)), .slice Ao40 t509.length co40] (fun k_ => some k_ ≠ (.slice Ao7 t474.length co7 : Value).ownBlock) (fun k_ => some k_ = (.slice Ao40 t509.length co40 : Value).ownBlock) rfl rfl ?aP (fun k_ hk_ => ((Kd.R_mono (ok' := fun k_ => ((fun k_ => some k_ ≠ (.slice Ao7 t474.length co7 : Value).ownBlock)) k_ ∧ some k_ ≠ (u7 : Value).ownBlock) (Kd.R_apart' (HO511.out) (Kd.S_typed HO_7.out) (by decide)) (fun k_ hk => ⟨hk.1.2, hk.2⟩))).1 k_ hk_.symm) ?aF ?aO ?aB ?aS ?aL ?_
               (case aP => exact k111_mkM _ _ _ (⟨x8_1, wrap64 ((rd (rd_L12 y483 x23_1) 0) - x8_1), t509⟩ : S111) (Kd.R_mono (Kd.R_tight rfl (Kd.R_mono (ok' := fun k_ => ((fun k_ => some k_ ≠ (.slice Ao7 t474.length co7 : Value).ownBlock)) k_ ∧ some k_ ≠ (u7 : Value).ownBlock) (Kd.R_apart' (HO511.out) (Kd.S_typed HO_7.out) (by decide)) (fun k_ hk => ⟨hk.1.2, hk.2⟩))) (fun _ h_ => h_)))
               (case aB => exact zb)
               (case aF => exact (fun k_ hk => Kd.fresh' (Kd.R_lt (zr HO_1.out)) k_ hk))
               (case aO => exact (by (with_reducible repeat (first | apply Kd.S_alloc | apply Kd.S_drewN | apply Kd.S_drew)); exact Kd.S_mono HO_7.out (fun k_ hk => ⟨hk.1, fun e_ => hk.2 e_⟩)))
               (case aS => exact (below_size zb))
               (case aL => have := LMc36.out; omega)
               intro v513 w41 ho hb hg hat
               rw [← Ny512.out] at ho
               have n0_ := Aside0.mk (Kd.R_over' (zr HO_1.out) (Kd.S_typed (zs HO_7.out)) (by decide) hg)
               have n1_ := Aside0.mk (Kd.S_over' (zs HO_21.out) (Kd.S_typed (zs HO_7.out)) (by decide) hg)
               have n2_ := Aside0.mk (Kd.R_over' (zr HL486_0.out) (Kd.S_typed (zs HO_7.out)) (by decide) hg)
               have n3_ := Aside0.mk (hb)
               have n4_ := Aside0.mk ((show Kd.C Kd.string w41 A38 y505.length y505 from by rw [Ny505.out, KA38.out]; exact Kd.C_mid (lo := (x9_1 : Int).toNat) (hi := ((rd (rd_L12 y483 x23_1) 1) : Int).toNat) (c := co7) ((Kd.R_reads' (Kd.R_over' (zr HO_1.out) (Kd.S_typed (zs HO_7.out)) (by decide) hg)).2.2) KM38.out KL38.out ((Kd.R_reads' (Kd.R_over' (zr HO_1.out) (Kd.S_typed (zs HO_7.out)) (by decide) hg)).2.1)))
               have n5_ := Aside0.mk (ho)
               clear HO_1
               clear HO_21
               clear HL486_0
               clear HB
               clear HR508
               clear HO_7
               clear HO511
               have HO_1 := n0_
               have HO_21 := n1_
               have HL486_0 := n2_
               have HB := n3_
               have HR508 := n4_
               have HO514 := n5_
               clear n0_ n1_ n2_ n3_ n4_ n5_
               clear ho hb hg hat
               refine hK.out _ _ ?_
               clear hK K
               refine norm_ (a' := ?_) ?_ ?_
               rotate_left
               ·show Act.put _ (some 55) _ = _
                simp only [Act.put,qa,qb,qc,i64_w,i32_w]
                rfl
               refine pure_ (i := 17) (N := some 7) (v := ?_) (a' := ?_) #[Y,Y,Y,Y,Y,Y,Y,Y,Y,Y,Y,Y,Y,Y,Y,Y,Y,Y] rfl rfl zx (fun _ _ _ h => h) (Or.inl ⟨by rfl, ?_⟩) ?_ ?_
               rotate_left; (intro w'; go_simp; with_reducible rfl); rotate_left; (simp only [Act.put,qa,qb,qc,i64_w,i32_w]; rfl)
               refine done_ (done_of HT_.out (by kernel_rfl)) ?_
               try go_wp2
               have n0_ := Aside0.mk (Kd.R_drew HO_1.out)
               have n1_ := Aside0.mk (Kd.S_drew HO_21.out)
               have n2_ := Aside0.mk (Kd.R_drew HL486_0.out)
               have n3_ := Aside0.mk (Kd.S_drew HO514.out)
               have n4_ := Aside0.mk (Kd.C_drew HR508.out)
               have n5_ := Aside0.mk (below_drew1 HB.out)
               clear HO_1
               clear HO_21
               clear HL486_0
               clear HO514
               clear HR508
               clear HB
               have HO_1 := n0_
               have HO_21 := n1_
               have HL486_0 := n2_
               have HO514 := n3_
               have HR508 := n4_
               have HB := n5_
               clear n0_ n1_ n2_ n3_ n4_ n5_
               have p515 : 0 ≤ (0 : Int) := (by omega)
               have q515 : 0 < ((rd_L12 y483 x23_1).length : Int) := oa
               obtain ⟨ad515, e515, hx515_0⟩ := Kd.at_int ((Kd.R_reads' (HL486_0.out)).2.2) 0 p515 q515
               obtain rfl : ad487 = ad515 := (by injection e515)
               have qi515 : (0 < (rd_L12 y483 x23_1).length) = True := eq_true (by omega)
               (try rw [show ((0 : Int)).toNat = 0 from rfl] at hx515_0)
               (try rw [Addr.add_zero'] at hx515_0)
               replace p515 := eq_true p515
               replace q515 := eq_true q515
               have p516 : 0 ≤ (1 : Int) := (by omega)
               have q516 : 1 < ((rd_L12 y483 x23_1).length : Int) := oa
               obtain ⟨ad516, e516, hx516_0⟩ := Kd.at_int ((Kd.R_reads' (HL486_0.out)).2.2) 1 p516 q516
               obtain rfl : ad487 = ad516 := (by injection e516)
               (try simp only [show (1 : Int).toNat = 1 from rfl, Nat.reduceMul, Nat.reduceEqDiff, Go.Addr.add, ↓reduceIte] at hx516_0)
               have qi516 : (1 < (rd_L12 y483 x23_1).length) = True := eq_true (by omega)
               (try rw [show ((1 : Int)).toNat = 1 from rfl] at hx516_0)
               replace p516 := eq_true p516
               replace q516 := eq_true q516
               refine start_ (n := 10) (S := fun w' => w'.cell? ad487 = some (.int .i64 (rd (rd_L12 y483 x23_1) 0)) ∧ w'.cell? ⟨ad487.block, ad487.off + 1, none⟩ = some (.int .i64 (rd (rd_L12 y483 x23_1) 1))) (ds := []) #[O,O,O,O,O,O,O,O,O,O] (by kernel_rfl) rfl rfl ⟨hx515_0, hx516_0⟩ (fun hHeld => ?_); refine with_tabW impl_between.tab7 impl_between.bits7 (fun HT_ HW_ => ?_)
               generalize w41.drew = w42 at HO_1 HO_21 HL486_0 HO514 HR508 HB hx515_0 hx516_0 hHeld ⊢
               refine pure_ (i := 0) (N := some 56) (v := ?_) (a' := ?_) #[Y,O,O,O,O,O,O,O,O,O] rfl rfl zx (fun _ _ _ h => h) (Or.inl ⟨by rfl, ?_⟩) ?_ ?_
               rotate_left; (intro w'; go_simp; with_reducible rfl); rotate_left; (simp only [Act.put,qa,qb,qc,i64_w,i32_w]; rfl)
               refine pure_ (i := 1) (N := some 57) (v := ?_) (a' := ?_) #[Y,Y,O,O,O,O,O,O,O,O] rfl rfl zx (fun _ _ _ h => h) (Or.inl ⟨by rfl, ?_⟩) ?_ ?_
               rotate_left; (intro w'; go_simp; with_reducible rfl); rotate_left; (simp only [Act.put,qa,qb,qc,i64_w,i32_w]; rfl)
               refine pure_ (i := 4) (N := some 60) (v := ?_) (a' := ?_) #[Y,Y,O,O,Y,O,O,O,O,O] rfl rfl zx (fun _ _ _ h => h) (Or.inl ⟨by rfl, ?_⟩) ?_ ?_
               rotate_left; (intro w'; go_simp; with_reducible rfl); rotate_left; (simp only [Act.put,qa,qb,qc,i64_w,i32_w]; rfl)
               refine pure_ (i := 5) (N := some 61) (v := ?_) (a' := ?_) #[Y,Y,O,O,Y,Y,O,O,O,O] rfl rfl zx (fun _ _ _ h => h) (Or.inl ⟨by rfl, ?_⟩) ?_ ?_
               rotate_left; (intro w'; go_simp; with_reducible rfl); rotate_left; (simp only [Act.put,qa,qb,qc,i64_w,i32_w]; rfl)
               refine take_ (i := 2) (N := some 58) (v := ?_) (a' := ?_) #[Y,Y,Y,O,Y,Y,O,O,O,O] rfl rfl (take_ofW HT_.out HW_.out (by kernel_rfl)) (fun _ _ _ h => h) (Or.inl ⟨by rfl, ?_⟩) hHeld ?_ ?_
               rotate_left; (rintro w' ⟨s0, s1⟩; go_simp; with_reducible rfl); rotate_left; (simp only [Act.put,qa,qb,qc,i64_w,i32_w]; rfl)
               refine pure_ (i := 3) (N := some 59) (v := ?_) (a' := ?_) #[Y,Y,Y,Y,Y,Y,O,O,O,O] rfl rfl zx (fun _ _ _ h => h) (Or.inl ⟨by rfl, ?_⟩) ?_ ?_
               rotate_left; (intro w'; go_simp; with_reducible rfl); rotate_left; (simp only [Act.put,qa,qb,qc,i64_w,i32_w]; rfl)
               refine pure_ (i := 8) (N := some 8) (v := ?_) (a' := ?_) #[Y,Y,Y,Y,Y,Y,O,O,Y,O] rfl rfl zx (fun _ _ _ h => h) (Or.inl ⟨by rfl, ?_⟩) ?_ ?_
               rotate_left; (intro w'; go_simp; with_reducible rfl); rotate_left; (simp only [Act.put,qa,qb,qc,i64_w,i32_w]; rfl)
               refine take_ (i := 6) (N := some 62) (v := ?_) (a' := ?_) #[Y,Y,Y,Y,Y,Y,Y,O,Y,O] rfl rfl (take_ofW HT_.out HW_.out (by kernel_rfl)) (fun _ _ _ h => h) (Or.inl ⟨by rfl, ?_⟩) hHeld ?_ ?_
               rotate_left; (rintro w' ⟨s0, s1⟩; go_simp; with_reducible rfl); rotate_left; (simp only [Act.put,qa,qb,qc,i64_w,i32_w]; rfl)
               refine pure_ (i := 7) (N := some 63) (v := ?_) (a' := ?_) #[Y,Y,Y,Y,Y,Y,Y,Y,Y,O] rfl rfl zx (fun _ _ _ h => h) (Or.inl ⟨by rfl, ?_⟩) ?_ ?_
               rotate_left; (intro w'; go_simp; with_reducible rfl); rotate_left; (simp only [Act.put,qa,qb,qc,i64_w,i32_w]; rfl)
               refine pure_ (i := 9) (N := some 9) (v := ?_) (a' := ?_) #[Y,Y,Y,Y,Y,Y,Y,Y,Y,Y] rfl rfl zx (fun _ _ _ h => h) (Or.inl ⟨by rfl, ?_⟩) ?_ ?_
               rotate_left; (intro w'; go_simp; with_reducible rfl); rotate_left; (simp only [Act.put,qa,qb,qc,i64_w,i32_w]; rfl)
               refine done_ (done_of HT_.out (by kernel_rfl)) ?_
               try go_wp2
               go_roundg k1
               case measure => have := HK1.out; omega
               case rel => exact ⟨(y512), (wrap64 ((rd (rd_L12 y483 x23_1) 0) + 1)), (wrap64 ((rd (rd_L12 y483 x23_1) 1) + 1)), (wrap64 (x23_1 + 1)), zf, zf, zf, H', ⟨by have := HK1.out; omega⟩, ⟨by (with_reducible repeat (first | apply Kd.R_alloc | apply Kd.R_drewN | apply Kd.R_drew)); exact Kd.R_mono HO_1.out (fun _ hk => trivial)⟩, ⟨by (with_reducible repeat (first | apply Kd.S_alloc | apply Kd.S_drewN | apply Kd.S_drew)); exact HO514.out⟩, ⟨by (with_reducible repeat (first | apply Kd.S_alloc | apply Kd.S_drewN | apply Kd.S_drew)); exact HO_21.out⟩, ⟨by repeat (first | (with_reducible first | exact HB.out | apply below_alloc | apply pw_below_drewN | apply below_drew1) | exact HB.out)⟩⟩
              ·rw [if_neg c36] at H
               exact absurd H (by simp)
             ·rw [if_neg c34] at H
              exact absurd H (by simp)
            ·rw [if_neg c33] at H
             exact absurd H (by simp)
           ·rw [if_neg c32] at H
            exact absurd H (by simp)
          ·rw [if_neg c31] at H
           have c31b0 : decide (x9_1 < (rd (rd_L12 y483 x23_1) 1)) = false := decide_eq_false c31
           clear c31
           have H' := Aside0.mk H
           clear H
           have p486 : 0 ≤ (x23_1 : Int) := oa
           have q486 : x23_1 < (y483.length : Int) := oa
           obtain ⟨ad486, A486_0, c486_0, e486, hx486_0, hl486_0, hi486_0⟩ := at_L12 (Kd.S_reads' HO_21.out).2.2 x23_1 p486 q486
           cases e486
           obtain ⟨ce486, hce486, hMe486, hcc486⟩ := Kd.S_get HO_21.out [] x23_1 p486 (by first | exact q486 | exact oa | (have e_ := (Kd.S_reads' HO_21.out).1; omega))
           obtain ⟨ve486_0, rfl, ge486_0⟩ := hMe486
           have hv486_0 := hcc486 0 _ rfl
           rw [Nat.add_zero, show ((Kd.slice 3 (Kd.int .i64))).sz = 1 from rfl, Nat.mul_one] at hv486_0
           replace hv486_0 := Option.some.inj (hv486_0.symm.trans hx486_0)
           rw [hv486_0] at ge486_0
           have HL486_0 := Aside0.mk (show Kd.R (Kd.int .i64) 3 _ _ _ _ (rd_L12 y483 x23_1) from ge486_0)
           clear hv486_0 ge486_0
           clear hcc486 hce486
           have HR486_0 := Aside0.mk hi486_0
           have HC486_0 := Aside0.mk hl486_0
           clear hi486_0 hl486_0
           replace p486 := eq_true p486
           replace q486 := eq_true q486
           have p487 : 0 ≤ (0 : Int) := (by omega)
           have q487 : 0 < ((rd_L12 y483 x23_1).length : Int) := oa
           obtain ⟨ad487, e487, hx487_0⟩ := Kd.at_int (by repeat (first | (with_reducible exact HR486_0.out) | (with_reducible refine Kd.C_alloc ?_ _) | (with_reducible refine Kd.C_drewN ?_ _) | (with_reducible refine Kd.C_drew ?_) | exact HR486_0.out)) 0 p487 q487
           cases e487
           have qi487 : (0 < (rd_L12 y483 x23_1).length) = True := eq_true (by omega)
           (try rw [show ((0 : Int)).toNat = 0 from rfl] at hx487_0)
           (try rw [Addr.add_zero'] at hx487_0)
           replace p487 := eq_true p487
           replace q487 := eq_true q487
           have p502 : 0 ≤ (1 : Int) := (by omega)
           have q502 : 1 < ((rd_L12 y483 x23_1).length : Int) := oa
           obtain ⟨ad502, e502, hx502_0⟩ := Kd.at_int (by repeat (first | (with_reducible exact HR486_0.out) | (with_reducible refine Kd.C_alloc ?_ _) | (with_reducible refine Kd.C_drewN ?_ _) | (with_reducible refine Kd.C_drew ?_) | exact HR486_0.out)) 1 p502 q502
           obtain rfl : ad487 = ad502 := (by injection e502)
           (try simp only [show (1 : Int).toNat = 1 from rfl, Nat.reduceMul, Nat.reduceEqDiff, Go.Addr.add, ↓reduceIte] at hx502_0)
           have qi502 : (1 < (rd_L12 y483 x23_1).length) = True := eq_true (by omega)
           (try rw [show ((1 : Int)).toNat = 1 from rfl] at hx502_0)
           replace p502 := eq_true p502
           replace q502 := eq_true q502
           try go_wp2
           have n0_ := Aside0.mk (Kd.R_drew HO_1.out)
           have n1_ := Aside0.mk (Kd.S_drew HO_7.out)
           have n2_ := Aside0.mk (Kd.S_drew HO_21.out)
           have n3_ := Aside0.mk (Kd.R_drew HL486_0.out)
           have n4_ := Aside0.mk (Kd.C_drew HR486_0.out)
           have n5_ := Aside0.mk (below_drew1 HB.out)
           clear HO_1
           clear HO_7
           clear HO_21
           clear HL486_0
           clear HR486_0
           clear HB
           have HO_1 := n0_
           have HO_7 := n1_
           have HO_21 := n2_
           have HL486_0 := n3_
           have HR486_0 := n4_
           have HB := n5_
           clear n0_ n1_ n2_ n3_ n4_ n5_
           have p517 : 0 ≤ (0 : Int) := (by omega)
           have q517 : 0 < ((rd_L12 y483 x23_1).length : Int) := oa
           obtain ⟨ad517, e517, hx517_0⟩ := Kd.at_int (by repeat (first | (with_reducible exact HR486_0.out) | (with_reducible refine Kd.C_alloc ?_ _) | (with_reducible refine Kd.C_drewN ?_ _) | (with_reducible refine Kd.C_drew ?_) | exact HR486_0.out)) 0 p517 q517
           obtain rfl : ad487 = ad517 := (by injection e517)
           have qi517 : (0 < (rd_L12 y483 x23_1).length) = True := eq_true (by omega)
           (try rw [show ((0 : Int)).toNat = 0 from rfl] at hx517_0)
           (try rw [Addr.add_zero'] at hx517_0)
           replace p517 := eq_true p517
           replace q517 := eq_true q517
           have p518 : 0 ≤ (1 : Int) := (by omega)
           have q518 : 1 < ((rd_L12 y483 x23_1).length : Int) := oa
           obtain ⟨ad518, e518, hx518_0⟩ := Kd.at_int (by repeat (first | (with_reducible exact HR486_0.out) | (with_reducible refine Kd.C_alloc ?_ _) | (with_reducible refine Kd.C_drewN ?_ _) | (with_reducible refine Kd.C_drew ?_) | exact HR486_0.out)) 1 p518 q518
           obtain rfl : ad487 = ad518 := (by injection e518)
           (try simp only [show (1 : Int).toNat = 1 from rfl, Nat.reduceMul, Nat.reduceEqDiff, Go.Addr.add, ↓reduceIte] at hx518_0)
           have qi518 : (1 < (rd_L12 y483 x23_1).length) = True := eq_true (by omega)
           (try rw [show ((1 : Int)).toNat = 1 from rfl] at hx518_0)
           replace p518 := eq_true p518
           replace q518 := eq_true q518
           refine start_ (n := 10) (S := fun w' => w'.cell? ad487 = some (.int .i64 (rd (rd_L12 y483 x23_1) 0)) ∧ w'.cell? ⟨ad487.block, ad487.off + 1, none⟩ = some (.int .i64 (rd (rd_L12 y483 x23_1) 1))) (ds := []) #[O,O,O,O,O,O,O,O,O,O] (by kernel_rfl) rfl rfl ⟨hx517_0, hx518_0⟩ (fun hHeld => ?_); refine with_tabW impl_between.tab7 impl_between.bits7 (fun HT_ HW_ => ?_)
           generalize wr.drew = w43 at HO_1 HO_7 HO_21 HL486_0 HR486_0 HB hx517_0 hx518_0 hHeld ⊢
           refine pure_ (i := 0) (N := some 56) (v := ?_) (a' := ?_) #[Y,O,O,O,O,O,O,O,O,O] rfl rfl zx (fun _ _ _ h => h) (Or.inl ⟨by rfl, ?_⟩) ?_ ?_
           rotate_left; (intro w'; go_simp; with_reducible rfl); rotate_left; (simp only [Act.put,qa,qb,qc,i64_w,i32_w]; rfl)
           refine pure_ (i := 1) (N := some 57) (v := ?_) (a' := ?_) #[Y,Y,O,O,O,O,O,O,O,O] rfl rfl zx (fun _ _ _ h => h) (Or.inl ⟨by rfl, ?_⟩) ?_ ?_
           rotate_left; (intro w'; go_simp; with_reducible rfl); rotate_left; (simp only [Act.put,qa,qb,qc,i64_w,i32_w]; rfl)
           refine pure_ (i := 4) (N := some 60) (v := ?_) (a' := ?_) #[Y,Y,O,O,Y,O,O,O,O,O] rfl rfl zx (fun _ _ _ h => h) (Or.inl ⟨by rfl, ?_⟩) ?_ ?_
           rotate_left; (intro w'; go_simp; with_reducible rfl); rotate_left; (simp only [Act.put,qa,qb,qc,i64_w,i32_w]; rfl)
           refine pure_ (i := 5) (N := some 61) (v := ?_) (a' := ?_) #[Y,Y,O,O,Y,Y,O,O,O,O] rfl rfl zx (fun _ _ _ h => h) (Or.inl ⟨by rfl, ?_⟩) ?_ ?_
           rotate_left; (intro w'; go_simp; with_reducible rfl); rotate_left; (simp only [Act.put,qa,qb,qc,i64_w,i32_w]; rfl)
           refine take_ (i := 2) (N := some 58) (v := ?_) (a' := ?_) #[Y,Y,Y,O,Y,Y,O,O,O,O] rfl rfl (take_ofW HT_.out HW_.out (by kernel_rfl)) (fun _ _ _ h => h) (Or.inl ⟨by rfl, ?_⟩) hHeld ?_ ?_
           rotate_left; (rintro w' ⟨s0, s1⟩; go_simp; with_reducible rfl); rotate_left; (simp only [Act.put,qa,qb,qc,i64_w,i32_w]; rfl)
           refine pure_ (i := 3) (N := some 59) (v := ?_) (a' := ?_) #[Y,Y,Y,Y,Y,Y,O,O,O,O] rfl rfl zx (fun _ _ _ h => h) (Or.inl ⟨by rfl, ?_⟩) ?_ ?_
           rotate_left; (intro w'; go_simp; with_reducible rfl); rotate_left; (simp only [Act.put,qa,qb,qc,i64_w,i32_w]; rfl)
           refine pure_ (i := 8) (N := some 8) (v := ?_) (a' := ?_) #[Y,Y,Y,Y,Y,Y,O,O,Y,O] rfl rfl zx (fun _ _ _ h => h) (Or.inl ⟨by rfl, ?_⟩) ?_ ?_
           rotate_left; (intro w'; go_simp; with_reducible rfl); rotate_left; (simp only [Act.put,qa,qb,qc,i64_w,i32_w]; rfl)
           refine take_ (i := 6) (N := some 62) (v := ?_) (a' := ?_) #[Y,Y,Y,Y,Y,Y,Y,O,Y,O] rfl rfl (take_ofW HT_.out HW_.out (by kernel_rfl)) (fun _ _ _ h => h) (Or.inl ⟨by rfl, ?_⟩) hHeld ?_ ?_
           rotate_left; (rintro w' ⟨s0, s1⟩; go_simp; with_reducible rfl); rotate_left; (simp only [Act.put,qa,qb,qc,i64_w,i32_w]; rfl)
           refine pure_ (i := 7) (N := some 63) (v := ?_) (a' := ?_) #[Y,Y,Y,Y,Y,Y,Y,Y,Y,O] rfl rfl zx (fun _ _ _ h => h) (Or.inl ⟨by rfl, ?_⟩) ?_ ?_
           rotate_left; (intro w'; go_simp; with_reducible rfl); rotate_left; (simp only [Act.put,qa,qb,qc,i64_w,i32_w]; rfl)
           refine pure_ (i := 9) (N := some 9) (v := ?_) (a' := ?_) #[Y,Y,Y,Y,Y,Y,Y,Y,Y,Y] rfl rfl zx (fun _ _ _ h => h) (Or.inl ⟨by rfl, ?_⟩) ?_ ?_
           rotate_left; (intro w'; go_simp; with_reducible rfl); rotate_left; (simp only [Act.put,qa,qb,qc,i64_w,i32_w]; rfl)
           refine done_ (done_of HT_.out (by kernel_rfl)) ?_
           try go_wp2
           go_roundg k1
           case measure => have := HK1.out; omega
           case rel => exact ⟨(x7_1), (wrap64 ((rd (rd_L12 y483 x23_1) 0) + 1)), (wrap64 ((rd (rd_L12 y483 x23_1) 1) + 1)), (wrap64 (x23_1 + 1)), zf, zf, zf, H', ⟨by have := HK1.out; omega⟩, ⟨by (with_reducible repeat (first | apply Kd.R_alloc | apply Kd.R_drewN | apply Kd.R_drew)); exact HO_1.out⟩, ⟨by (with_reducible repeat (first | apply Kd.S_alloc | apply Kd.S_drewN | apply Kd.S_drew)); exact HO_7.out⟩, ⟨by (with_reducible repeat (first | apply Kd.S_alloc | apply Kd.S_drewN | apply Kd.S_drew)); exact HO_21.out⟩, ⟨by repeat (first | (with_reducible first | exact HB.out | apply below_alloc | apply pw_below_drewN | apply below_drew1) | exact HB.out)⟩⟩
         ·rw [if_neg c30] at H
          exact absurd H (by simp)
       ·rw [if_neg c16] at H
        exact absurd H (by simp)
      ·rw [if_neg c15] at H
       exact absurd H (by simp)
     ·rw [if_neg c14] at H
      exact absurd H (by simp)
    ·rw [if_neg c13] at H
     have c13b0 : decide (x23_1 < (y483.length : Int)) = false := decide_eq_false c13
     clear c13
     obtain rfl := Option.some.inj H
     go_wp2
     go_ret
     exact ⟨_, by first | rfl | (simp [errW_none, errW_some] <;> rfl) | (simp [*, errW_none, errW_some] <;> rfl), by (with_reducible repeat (first | apply Kd.S_alloc | apply Kd.S_drewN | apply Kd.S_drew)); exact Kd.S_mono HO_7.out (fun _ hk => trivial), by repeat (first | (with_reducible first | exact HB.out | apply below_alloc | apply pw_below_drewN | apply below_drew1) | exact HB.out)⟩
 ·rw [if_neg c3] at H
  exact absurd H (by simp)

end Go.Proofs.Ytcefenlblnediaa.My

/- Plain Lean, no program in sight: what holds from some number of rounds on, whole numbers that do not wrap, lists by an index. -/
namespace Go.Proofs.Ytcefenlblnediaa.Pl
open Go.RowKit Go.Proofs.YtcefenlblnediaaW.PrintWords Go.Proofs.YtcefenlblnediaaW.PrintLast
set_option linter.unusedVariables false
set_option linter.unusedSimpArgs false

section
variable {α β : Type}
theorem ev_pos {c : Prop} [Decidable c] {g g' : Nat → Option α} {r : α} (hc : c) (h : Ev g r) : Ev (fun k => if c then g k else g' k) r :=
  Ev.congr (fun _ => if_pos hc) h
theorem ev_neg {c : Prop} [Decidable c] {g g' : Nat → Option α} {r : α} (hc : ¬ c) (h : Ev g' r) : Ev (fun k => if c then g k else g' k) r :=
  Ev.congr (fun _ => if_neg hc) h
theorem ev_ite {c : Prop} [Decidable c] {g g' : Nat → Option α} {r : α} (h : c → Ev g r) (h' : ¬ c → Ev g' r) : Ev (fun k => if c then g k else g' k) r := by
  by_cases hc : c
  · exact ev_pos hc (h hc)
  · exact ev_neg hc (h' hc)
theorem ev_some {r r' : α} (h : r = r') : Ev (fun _ => some r) r' := h ▸ Ev.now r
theorem ev_const {o : Option α} {r : α} (h : o = some r) : Ev (fun _ => o) r := ⟨0, fun _ _ => h⟩
theorem ev_to {g : Nat → Option α} {r r' : α} (h : Ev g r) (e : r = r') : Ev g r' := e ▸ h
theorem ev_bind {g : Nat → Option α} {f : Nat → α → Option β} {a : α} {r : β} (h : Ev g a) (k : Ev (fun n => f n a) r) : Ev (fun n => (g n).bind fun t => f n t) r := Ev.bind h k
end

theorem wrap64_id {x : Int} (h : -9223372036854775808 ≤ x) (h' : x ≤ 9223372036854775807) : wrap64 x = x := by
  unfold wrap64
  omega
theorem wrap_succ (i : Nat) (h : i < 9223372036854775807) : wrap64 ((i : Int) + 1) = ((i + 1 : Nat) : Int) := by
  rw [wrap64_id (by omega) (by omega)]
  omega
theorem wrap_pred (n : Nat) (h0 : 0 < n) (h : n ≤ 9223372036854775807) : wrap64 ((n : Int) - 1) = ((n - 1 : Nat) : Int) := by
  rw [wrap64_id (by omega) (by omega)]
  omega
theorem wrap_sub (n m : Nat) (h0 : m ≤ n) (h : n ≤ 9223372036854775807) : wrap64 ((n : Int) - (m : Int)) = ((n - m : Nat) : Int) := by
  rw [wrap64_id (by omega) (by omega)]
  omega
theorem wrap_add (n m : Nat) (h : n + m ≤ 9223372036854775807) : wrap64 ((n : Int) + (m : Int)) = ((n + m : Nat) : Int) := by
  rw [wrap64_id (by omega) (by omega)]
  omega

theorem rdOf_nat {α : Type} (d : α) (xs : List α) (i : Nat) : rdOf d xs (i : Int) = xs.getD i d := rfl
theorem rd_nat (xs : List Int) (i : Nat) : rd xs (i : Int) = xs.getD i 0 := rfl
theorem getD_lt {α : Type} (xs : List α) (d : α) (i : Nat) (h : i < xs.length) : xs.getD i d = xs[i] := by
  simp [List.getD_eq_getElem?_getD, List.getElem?_eq_getElem h]
theorem rdOf_lt {α : Type} (d : α) (xs : List α) (i : Nat) (h : i < xs.length) : rdOf d xs (i : Int) = xs[i] := getD_lt xs d i h
theorem ba_ext {a b : ByteArray} (h : a.toList = b.toList) : a = b := by
  rw [Lib.toList_data, Lib.toList_data] at h
  cases a with | mk a => cases b with | mk b =>
  cases a with | mk a => cases b with | mk b =>
  simp_all
theorem ba_iff {a b : ByteArray} : a.toList = b.toList ↔ a = b := ⟨ba_ext, fun h => by rw [h]⟩
theorem drop_cons {α : Type} (xs : List α) (i : Nat) (h : i < xs.length) : xs.drop i = xs[i] :: xs.drop (i + 1) := List.drop_eq_getElem_cons h
theorem bt_nat (s : ByteArray) (i : Nat) (h : i < s.size) : bt s (i : Int) = ((s.data.toList[i]'(by rw [data_length]; exact h)).toNat : Int) := by
  unfold bt
  rw [dif_pos (by simpa using h)]
  simp [ByteArray.getElem_eq_getElem_data]
theorem u8_eq {b c : UInt8} (h : (b.toNat : Int) = (c.toNat : Int)) : b = c := UInt8.toNat_inj.1 (by omega)
theorem u8_ne {b c : UInt8} (h : ¬ (b.toNat : Int) = (c.toNat : Int)) : ¬ c = b := fun e => h (by rw [e])
end Go.Proofs.Ytcefenlblnediaa.Pl

/- Written by this session's program (wip/gen): a plain function with the same answers as the Go function, and the proof that the Go code comes to them. Asked: that the plain function has an answer. -/
namespace Go.Proofs.Ytcefenlblnediaa.My
open Go.RowKit Go.Proofs.YtcefenlblnediaaW.PrintWords Go.Proofs.YtcefenlblnediaaW.PrintLast Go.Proofs.YtcefenlblnediaaW.PrintMore
attribute [local go_sem] max2_int min2_int max_two min_two max_three min_three max_four min_four
set_option linter.unusedVariables false
set_option linter.unusedSimpArgs false

/-! ### spec_l1In: function 114 -/
def spec_l1In.f (a0 : Int) (a1 : Int) (a2 : Int) : Option (Bool) := if a0 ≥ a1 then (some (decide (a0 ≤ a2))) else (some false)
set_option maxHeartbeats 8000000 in
set_option maxRecDepth 100000 in
theorem spec_l1In.calls (a0 : Int) (a1 : Int) (a2 : Int) (r : Bool) (w : World) (h : spec_l1In.f a0 a1 a2 = some r) :
  Calls Try.prog 114 #[.int .i64 a0, .int .i64 a1, .int .i64 a2] w fun e w' => e = .returned (.bool r) ∧ Drawn0 w w' := by
 have H : (if a0 ≥ a1 then (some (decide (a0 ≤ a2))) else (some false)) = some r := h
 clear h
 by_cases c4 : a0 ≥ a1
 ·rw [if_pos c4] at H
  have c4b0 : decide (a1 ≤ a0) = true := decide_eq_true c4
  clear c4
  obtain rfl := Option.some.inj H
  go_enter Try.func114, Try.ntmps114
  go_wp2
  go_ret
  exact ⟨by first | rfl | (simp; done) | (simp [*]; done), by repeat (first | exact Drawn0.refl _ | apply Drawn0.step)⟩
 ·rw [if_neg c4] at H
  have c4b0 : decide (a1 ≤ a0) = false := decide_eq_false c4
  clear c4
  obtain rfl := Option.some.inj H
  go_enter Try.func114, Try.ntmps114
  go_wp2
  go_ret
  exact ⟨by first | rfl | (simp; done) | (simp [*]; done), by repeat (first | exact Drawn0.refl _ | apply Drawn0.step)⟩

end Go.Proofs.Ytcefenlblnediaa.My

/- Plain Lean: whether a number lies between two. No condition. -/
namespace Go.Proofs.Ytcefenlblnediaa.Pl
open Go.RowKit Go.Proofs.YtcefenlblnediaaW.PrintWords Go.Proofs.YtcefenlblnediaaW.PrintLast Go.Proofs.Ytcefenlblnediaa.My
set_option linter.unusedVariables false
set_option linter.unusedSimpArgs false

def inB (n lo hi : Int) : Bool := decide (lo ≤ n) && decide (n ≤ hi)
theorem inB_iff (a b c : Int) : inB a b c = true ↔ b ≤ a ∧ a ≤ c := by
  unfold inB
  rw [Bool.and_eq_true, decide_eq_true_eq, decide_eq_true_eq]
theorem impl_in_eq (a b c : Int) : impl_in.f a b c = some (inB a b c) := by
  unfold impl_in.f inB
  by_cases h : b ≤ a
  · rw [if_pos h]; simp [h]
  · rw [if_neg (by omega)]; simp [h]
theorem spec_l1In_eq (a b c : Int) : spec_l1In.f a b c = some (inB a b c) := by
  unfold spec_l1In.f inB
  by_cases h : b ≤ a
  · rw [if_pos h]; simp [h]
  · rw [if_neg (by omega)]; simp [h]
end Go.Proofs.Ytcefenlblnediaa.Pl

/- Plain Lean: texts that fit. No condition. -/
namespace Go.Proofs.Ytcefenlblnediaa.Pl
open Go.RowKit Go.Proofs.YtcefenlblnediaaW.PrintWords Go.Proofs.YtcefenlblnediaaW.PrintLast
set_option linter.unusedVariables false
set_option linter.unusedSimpArgs false
/-- What came in fits. -/
def FitS (l : List ByteArray) : Prop := l.length ≤ 9223372036854775807 ∧ ∀ s ∈ l, s.size ≤ 9223372036854775807
end Go.Proofs.Ytcefenlblnediaa.Pl

/- Written by this session's program (wip/gen): a plain function with the same answers as the Go function, and the proof that the Go code comes to them. Asked: that the plain function has an answer. -/
namespace Go.Proofs.Ytcefenlblnediaa.My
open Go.RowKit Go.Proofs.YtcefenlblnediaaW.PrintWords Go.Proofs.YtcefenlblnediaaW.PrintLast Go.Proofs.YtcefenlblnediaaW.PrintMore
attribute [local go_sem] max2_int min2_int max_two min_two max_three min_three max_four min_four
set_option linter.unusedVariables false
set_option linter.unusedSimpArgs false

/-! ### spec_l1Ends: function 148 -/
def spec_l1Ends.f (a0 : ByteArray) : Option (Bool) := if 0 ≤ (wrap64 ((a0.size : Int) - 1)) then (if (wrap64 ((a0.size : Int) - 1)) < (a0.size : Int) then (some ((bt a0 (wrap64 ((a0.size : Int) - 1))) == 10)) else (none)) else (none)
set_option maxHeartbeats 8000000 in
set_option maxRecDepth 100000 in
theorem spec_l1Ends.calls (a0 : ByteArray) (r : Bool) (w : World) (h : spec_l1Ends.f a0 = some r) :
  Calls Try.prog 148 #[.string a0] w fun e w' => e = .returned (.bool r) ∧ Drawn0 w w' := by
 have H : (if 0 ≤ (wrap64 ((a0.size : Int) - 1)) then (if (wrap64 ((a0.size : Int) - 1)) < (a0.size : Int) then (some ((bt a0 (wrap64 ((a0.size : Int) - 1))) == 10)) else (none)) else (none)) = some r := h
 clear h
 obtain ⟨ji2, hji2⟩ : ∃ j_ : Int, (wrap64 ((a0.size : Int) - 1)) = j_ := ⟨_, rfl⟩
 replace H : (if 0 ≤ (ji2) then (if (ji2) < (a0.size : Int) then (some ((bt a0 (ji2)) == 10)) else (none)) else (none)) = some r := by first | (rw [hji2] at H; exact H) | (simp only [hji2] at H ⊢; exact H)
 have hji2w : (IntKind.i64.wrap ((a0.size : Int) - 1)) = ji2 := (i64_w _).trans hji2
 by_cases c3 : 0 ≤ (ji2)
 ·rw [if_pos c3] at H
  have c3b0 : decide (0 ≤ (ji2)) = true := decide_eq_true c3
  clear c3
  by_cases c4 : (ji2) < (a0.size : Int)
  ·rw [if_pos c4] at H
   have c4b0 : decide ((ji2) < (a0.size : Int)) = true := decide_eq_true c4
   clear c4
   obtain rfl := Option.some.inj H
   have p5 : 0 ≤ ((ji2) : Int) := oa
   have q5 : (ji2) < (a0.size : Int) := oa
   have hx5 := bt_at a0 (ji2)
   replace p5 := eq_true p5
   replace q5 := eq_true q5
   go_enter Try.func148, Try.ntmps148
   go_wp2
   go_ret
   exact ⟨by first | rfl | (simp; done) | (simp only [← hji2] <;> (first | rfl | simp)) | (simp [*]; done), by repeat (first | exact Drawn0.refl _ | apply Drawn0.step)⟩
  ·rw [if_neg c4] at H
   exact absurd H (by simp)
 ·rw [if_neg c3] at H
  exact absurd H (by simp)

end Go.Proofs.Ytcefenlblnediaa.My

/- Written by this session's program (wip/gen): a plain function with the same answers as the Go function, and the proof that the Go code comes to them. Asked: that the plain function has an answer. -/
namespace Go.Proofs.Ytcefenlblnediaa.My
open Go.RowKit Go.Proofs.YtcefenlblnediaaW.PrintWords Go.Proofs.YtcefenlblnediaaW.PrintLast Go.Proofs.YtcefenlblnediaaW.PrintMore
attribute [local go_sem] max2_int min2_int max_two min_two max_three min_three max_four min_four
set_option linter.unusedVariables false
set_option linter.unusedSimpArgs false

/-! ### spec_l1Line: function 147 -/
def spec_l1Line.l0 : Nat → ByteArray → Int → Option (Bool)
 | 0, _, _ => none
 | k + 1, x0, x3 => if x3 < (wrap64 ((x0.size : Int) - 1)) then (if 0 ≤ x3 then (if x3 < (x0.size : Int) then (if (bt x0 x3) = 10 then (some false) else (spec_l1Line.l0 k x0 (wrap64 (x3 + 1)))) else (none)) else (none)) else ((spec_l1In.f (x0.size : Int) 1 30).bind fun t102 => (some t102))
def spec_l1Line.f (k : Nat) (a0 : ByteArray) : Option (Bool) := spec_l1Line.l0 k a0 0
set_option maxHeartbeats 8000000 in
set_option maxRecDepth 100000 in
theorem spec_l1Line.calls (k : Nat) (a0 : ByteArray) (r : Bool) (w : World) (h : spec_l1Line.f k a0 = some r) :
  Calls Try.prog 147 #[.string a0] w fun e w' => e = .returned (.bool r) ∧ Drawn0 w w' := by
 have H : (spec_l1Line.l0 k a0 0) = some r := h
 clear h
 have H' := Aside0.mk H
 clear H
 go_enter Try.func147, Try.ntmps147
 go_wp2
 go_loopg [3] k (fun kq v3 w' => ∃ (x3_1 : Int), v3 = .int .i64 x3_1 ∧ Aside0 (spec_l1Line.l0 kq a0 x3_1 = some r) ∧ Aside0 (kq ≤ k) ∧ Drawn0 w w')
 case atStart => exact ⟨(0), zf, H', ⟨Nat.le_refl _⟩, by repeat (first | exact Drawn0.refl _ | apply Drawn0.step)⟩
 case round =>
  clear H'
  try clear c1
  obtain ⟨x3_1, rfl, HA, HK1, ⟨m1, rfl⟩⟩ := hrel
  cases gk with
  | zero => exact absurd HA.out (by simp [spec_l1Line.l0])
  | succ k1 =>
   have H := HA.out
   clear HA
   simp only [spec_l1Line.l0] at H
   by_cases c2 : x3_1 < (wrap64 ((a0.size : Int) - 1))
   ·rw [if_pos c2] at H
    have c2b0 : decide (x3_1 < (wrap64 ((a0.size : Int) - 1))) = true := decide_eq_true c2
    clear c2
    by_cases c3 : 0 ≤ x3_1
    ·rw [if_pos c3] at H
     have c3b0 : decide (0 ≤ x3_1) = true := decide_eq_true c3
     clear c3
     by_cases c4 : x3_1 < (a0.size : Int)
     ·rw [if_pos c4] at H
      have c4b0 : decide (x3_1 < (a0.size : Int)) = true := decide_eq_true c4
      clear c4
      by_cases c6 : (bt a0 x3_1) = 10
      ·rw [if_pos c6] at H
       have c6b0 : ((bt a0 x3_1) == 10) = true := beq_iff_eq.mpr c6
       have c6b1 : ((bt a0 x3_1) != 10) = false := bne_eq_false_iff_eq.mpr c6
       clear c6
       obtain rfl := Option.some.inj H
       have p5 : 0 ≤ (x3_1 : Int) := oa
       have q5 : x3_1 < (a0.size : Int) := oa
       have hx5 := bt_at a0 x3_1
       replace p5 := eq_true p5
       replace q5 := eq_true q5
       go_wp2
       go_ret
       exact ⟨by first | rfl | (simp; done) | (simp [*]; done), by repeat (first | exact Drawn0.refl _ | apply Drawn0.step)⟩
      ·rw [if_neg c6] at H
       have c6b0 : ((bt a0 x3_1) == 10) = false := beq_eq_false_iff_ne.mpr c6
       have c6b1 : ((bt a0 x3_1) != 10) = true := bne_iff_ne.mpr c6
       have H' := Aside0.mk H
       clear H
       have p5 : 0 ≤ (x3_1 : Int) := oa
       have q5 : x3_1 < (a0.size : Int) := oa
       have hx5 := bt_at a0 x3_1
       replace p5 := eq_true p5
       replace q5 := eq_true q5
       go_wp2
       go_roundg k1
       case measure => have := HK1.out; omega
       case rel => exact ⟨(wrap64 (x3_1 + 1)), zf, H', ⟨by have := HK1.out; omega⟩, by repeat (first | exact Drawn0.refl _ | apply Drawn0.step)⟩
     ·rw [if_neg c4] at H
      exact absurd H (by simp)
    ·rw [if_neg c3] at H
     exact absurd H (by simp)
   ·rw [if_neg c2] at H
    have c2b0 : decide (x3_1 < (wrap64 ((a0.size : Int) - 1))) = false := decide_eq_false c2
    clear c2
    replace H := Option.bind_eq_some_iff.mp H
    obtain ⟨t102, A70, H⟩ := H
    replace H : (some t102) = some r := H
    have A7 := Aside0.mk A70
    clear A70
    obtain rfl := Option.some.inj H
    go_wp2_with (first | ((with_reducible refine gateC (f := 114) rfl ?_); refine goesL_ (some 17) rfl rfl Try.func114 (by kernel_rfl) rfl #[.int .i64 (a0.size : Int), .int .i64 1, .int .i64 30] rfl zm ?_; (with_reducible refine (spec_l1In.calls (a0.size : Int) 1 30 t102 _ A7.out).mono ?_); rintro e w' ⟨rfl, ⟨nd, rfl⟩⟩; refine ⟨_, rfl, ?_⟩))
    go_ret
    exact ⟨by first | rfl | (simp; done) | (simp [*]; done), by repeat (first | exact Drawn0.refl _ | apply Drawn0.step)⟩

end Go.Proofs.Ytcefenlblnediaa.My

/- Written by this session's program (wip/gen): a plain function with the same answers as the Go function, and the proof that the Go code comes to them. Asked: that the plain function has an answer. -/
namespace Go.Proofs.Ytcefenlblnediaa.My
open Go.RowKit Go.Proofs.YtcefenlblnediaaW.PrintWords Go.Proofs.YtcefenlblnediaaW.PrintLast Go.Proofs.YtcefenlblnediaaW.PrintMore
attribute [local go_sem] max2_int min2_int max_two min_two max_three min_three max_four min_four
set_option linter.unusedVariables false
set_option linter.unusedSimpArgs false

/-! ### spec_l1Good: function 78 -/
def spec_l1Good.l0 : Nat → List ByteArray → List ByteArray → Int → Int → Option (Bool)
 | 0, _, _, _, _ => none
 | k + 1, x0, x5, x6, x7 => if x7 < x6 then (if 0 ≤ x7 then (if x7 < (x5.length : Int) then ((spec_l1Line.f k (rdOf ByteArray.empty x5 x7)).bind fun t104 => (if t104 = true then (if x7 < (wrap64 ((x0.length : Int) - 1)) then ((spec_l1Ends.f (rdOf ByteArray.empty x5 x7)).bind fun t105 => (if t105 = true then (spec_l1Good.l0 k x0 x5 x6 (wrap64 (x7 + 1))) else (some false))) else (spec_l1Good.l0 k x0 x5 x6 (wrap64 (x7 + 1)))) else (some false))) else (none)) else (none)) else (some (decide ((x0.length : Int) ≤ 40)))
def spec_l1Good.f (k : Nat) (l0 : List ByteArray) : Option (Bool) := spec_l1Good.l0 k l0 l0 (l0.length : Int) 0
set_option maxHeartbeats 8000000 in
set_option maxRecDepth 100000 in
theorem spec_l1Good.calls (k : Nat) (A0 : Option Addr) (c0 : Nat) (l0 : List ByteArray) (r : Bool) (w : World) (hr0 : Kd.C Kd.string w A0 l0.length l0) (hc0 : l0.length ≤ c0) (h : spec_l1Good.f k l0 = some r) :
  Calls Try.prog 78 #[.slice A0 l0.length c0] w fun e w' => e = .returned (.bool r) ∧ Drawn0 w w' := by
 have HR0 := Aside0.mk hr0
 have HC0 := Aside0.mk hc0
 clear hr0 hc0
 have H : (spec_l1Good.l0 k l0 l0 (l0.length : Int) 0) = some r := h
 clear h
 have H' := Aside0.mk H
 clear H
 go_enter Try.func78, Try.ntmps78
 go_wp2
 go_loopg [7] k (fun kq v7 w' => ∃ (x7_1 : Int), v7 = .int .i64 x7_1 ∧ Aside0 (spec_l1Good.l0 kq l0 l0 (l0.length : Int) x7_1 = some r) ∧ Aside0 (kq ≤ k) ∧ Drawn0 w w')
 case atStart => exact ⟨(0), zf, H', ⟨Nat.le_refl _⟩, by repeat (first | exact Drawn0.refl _ | apply Drawn0.step)⟩
 case round =>
  clear H'
  obtain ⟨x7_1, rfl, HA, HK1, ⟨m1, rfl⟩⟩ := hrel
  cases gk with
  | zero => exact absurd HA.out (by simp [spec_l1Good.l0])
  | succ k1 =>
   have H := HA.out
   clear HA
   simp only [spec_l1Good.l0] at H
   by_cases c2 : x7_1 < (l0.length : Int)
   ·rw [if_pos c2] at H
    have c2b0 : decide (x7_1 < (l0.length : Int)) = true := decide_eq_true c2
    clear c2
    by_cases c3 : 0 ≤ x7_1
    ·rw [if_pos c3] at H
     have c3b0 : decide (0 ≤ x7_1) = true := decide_eq_true c3
     clear c3
     by_cases c4 : x7_1 < (l0.length : Int)
     ·rw [if_pos c4] at H
      have c4b0 : decide (x7_1 < (l0.length : Int)) = true := decide_eq_true c4
      clear c4
      replace H := Option.bind_eq_some_iff.mp H
      obtain ⟨t104, A50, H⟩ := H
      replace H : (if t104 = true then (if x7_1 < (wrap64 ((l0.length : Int) - 1)) then ((spec_l1Ends.f (rdOf ByteArray.empty l0 x7_1)).bind fun t105 => (if t105 = true then (spec_l1Good.l0 k1 l0 l0 (l0.length : Int) (wrap64 (x7_1 + 1))) else (some false))) else (spec_l1Good.l0 k1 l0 l0 (l0.length : Int) (wrap64 (x7_1 + 1)))) else (some false)) = some r := H
      have A5 := Aside0.mk A50
      clear A50
      by_cases c6 : t104 = true
      ·subst c6
       have H1 : (if x7_1 < (wrap64 ((l0.length : Int) - 1)) then ((spec_l1Ends.f (rdOf ByteArray.empty l0 x7_1)).bind fun t105 => (if t105 = true then (spec_l1Good.l0 k1 l0 l0 (l0.length : Int) (wrap64 (x7_1 + 1))) else (some false))) else (spec_l1Good.l0 k1 l0 l0 (l0.length : Int) (wrap64 (x7_1 + 1)))) = some r := by rw [if_pos rfl] at H; exact H
       clear H
       have H := H1
       clear H1
       by_cases c7 : x7_1 < (wrap64 ((l0.length : Int) - 1))
       ·rw [if_pos c7] at H
        have c7b0 : decide (x7_1 < (wrap64 ((l0.length : Int) - 1))) = true := decide_eq_true c7
        clear c7
        replace H := Option.bind_eq_some_iff.mp H
        obtain ⟨t105, A80, H⟩ := H
        replace H : (if t105 = true then (spec_l1Good.l0 k1 l0 l0 (l0.length : Int) (wrap64 (x7_1 + 1))) else (some false)) = some r := H
        have A8 := Aside0.mk A80
        clear A80
        by_cases c9 : t105 = true
        ·subst c9
         have H1 : (spec_l1Good.l0 k1 l0 l0 (l0.length : Int) (wrap64 (x7_1 + 1))) = some r := by rw [if_pos rfl] at H; exact H
         clear H
         have H := H1
         clear H1
         have H' := Aside0.mk H
         clear H
         have p103 : 0 ≤ (x7_1 : Int) := oa
         have q103 : x7_1 < (l0.length : Int) := oa
         obtain ⟨ad103, e103, hx103_0⟩ := Kd.at_string HR0.out x7_1 p103 q103
         cases e103
         replace p103 := eq_true p103
         replace q103 := eq_true q103
         go_wp2_with (first | ((with_reducible refine gateC (f := 147) rfl ?_); refine goesL_ (some 13) rfl rfl Try.func147 (by kernel_rfl) rfl #[.string (rdOf ByteArray.empty l0 x7_1)] rfl zm ?_; (with_reducible refine (spec_l1Line.calls k1 (rdOf ByteArray.empty l0 x7_1) true _ A5.out).mono ?_); rintro e w' ⟨rfl, ⟨nd, rfl⟩⟩; refine ⟨_, rfl, ?_⟩) | (go_at_call 148; (with_reducible refine (spec_l1Ends.calls (rdOf ByteArray.empty l0 x7_1) true _ A8.out).mono ?_); rintro e w' ⟨rfl, ⟨nd, rfl⟩⟩))
         go_roundg k1
         case measure => have := HK1.out; omega
         case rel => exact ⟨(wrap64 (x7_1 + 1)), zf, H', ⟨by have := HK1.out; omega⟩, by repeat (first | exact Drawn0.refl _ | apply Drawn0.step)⟩
        ·replace c9 := Bool.eq_false_iff.mpr c9
         subst c9
         have H1 : (some false) = some r := by rw [if_neg (show ¬ (false = true) by decide)] at H; exact H
         clear H
         have H := H1
         clear H1
         obtain rfl := Option.some.inj H
         have p103 : 0 ≤ (x7_1 : Int) := oa
         have q103 : x7_1 < (l0.length : Int) := oa
         obtain ⟨ad103, e103, hx103_0⟩ := Kd.at_string HR0.out x7_1 p103 q103
         cases e103
         replace p103 := eq_true p103
         replace q103 := eq_true q103
         go_wp2_with (first | ((with_reducible refine gateC (f := 147) rfl ?_); refine goesL_ (some 13) rfl rfl Try.func147 (by kernel_rfl) rfl #[.string (rdOf ByteArray.empty l0 x7_1)] rfl zm ?_; (with_reducible refine (spec_l1Line.calls k1 (rdOf ByteArray.empty l0 x7_1) true _ A5.out).mono ?_); rintro e w' ⟨rfl, ⟨nd, rfl⟩⟩; refine ⟨_, rfl, ?_⟩) | (go_at_call 148; (with_reducible refine (spec_l1Ends.calls (rdOf ByteArray.empty l0 x7_1) false _ A8.out).mono ?_); rintro e w' ⟨rfl, ⟨nd, rfl⟩⟩))
         go_ret
         exact ⟨by first | rfl | (simp; done) | (simp [*]; done), by repeat (first | exact Drawn0.refl _ | apply Drawn0.step)⟩
       ·rw [if_neg c7] at H
        have c7b0 : decide (x7_1 < (wrap64 ((l0.length : Int) - 1))) = false := decide_eq_false c7
        clear c7
        have H' := Aside0.mk H
        clear H
        have p103 : 0 ≤ (x7_1 : Int) := oa
        have q103 : x7_1 < (l0.length : Int) := oa
        obtain ⟨ad103, e103, hx103_0⟩ := Kd.at_string HR0.out x7_1 p103 q103
        cases e103
        replace p103 := eq_true p103
        replace q103 := eq_true q103
        go_wp2_with (first | ((with_reducible refine gateC (f := 147) rfl ?_); refine goesL_ (some 13) rfl rfl Try.func147 (by kernel_rfl) rfl #[.string (rdOf ByteArray.empty l0 x7_1)] rfl zm ?_; (with_reducible refine (spec_l1Line.calls k1 (rdOf ByteArray.empty l0 x7_1) true _ A5.out).mono ?_); rintro e w' ⟨rfl, ⟨nd, rfl⟩⟩; refine ⟨_, rfl, ?_⟩))
        go_roundg k1
        case measure => have := HK1.out; omega
        case rel => exact ⟨(wrap64 (x7_1 + 1)), zf, H', ⟨by have := HK1.out; omega⟩, by repeat (first | exact Drawn0.refl _ | apply Drawn0.step)⟩
      ·replace c6 := Bool.eq_false_iff.mpr c6
       subst c6
       have H1 : (some false) = some r := by rw [if_neg (show ¬ (false = true) by decide)] at H; exact H
       clear H
       have H := H1
       clear H1
       obtain rfl := Option.some.inj H
       have p103 : 0 ≤ (x7_1 : Int) := oa
       have q103 : x7_1 < (l0.length : Int) := oa
       obtain ⟨ad103, e103, hx103_0⟩ := Kd.at_string HR0.out x7_1 p103 q103
       cases e103
       replace p103 := eq_true p103
       replace q103 := eq_true q103
       go_wp2_with (first | ((with_reducible refine gateC (f := 147) rfl ?_); refine goesL_ (some 13) rfl rfl Try.func147 (by kernel_rfl) rfl #[.string (rdOf ByteArray.empty l0 x7_1)] rfl zm ?_; (with_reducible refine (spec_l1Line.calls k1 (rdOf ByteArray.empty l0 x7_1) false _ A5.out).mono ?_); rintro e w' ⟨rfl, ⟨nd, rfl⟩⟩; refine ⟨_, rfl, ?_⟩))
       go_ret
       exact ⟨by first | rfl | (simp; done) | (simp [*]; done), by repeat (first | exact Drawn0.refl _ | apply Drawn0.step)⟩
     ·rw [if_neg c4] at H
      exact absurd H (by simp)
    ·rw [if_neg c3] at H
     exact absurd H (by simp)
   ·rw [if_neg c2] at H
    have c2b0 : decide (x7_1 < (l0.length : Int)) = false := decide_eq_false c2
    clear c2
    obtain rfl := Option.some.inj H
    go_wp2
    go_ret
    exact ⟨by first | rfl | (simp; done) | (simp [*]; done), by repeat (first | exact Drawn0.refl _ | apply Drawn0.step)⟩

end Go.Proofs.Ytcefenlblnediaa.My

/- Plain Lean: chapter 1: what a line and good lines are, for the program and the reference. Conditions: lengths and sizes below 2^63. -/
namespace Go.Proofs.Ytcefenlblnediaa.Pl
open Go.RowKit Go.Proofs.YtcefenlblnediaaW.PrintWords Go.Proofs.YtcefenlblnediaaW.PrintLast Go.Proofs.Ytcefenlblnediaa.My
set_option linter.unusedVariables false
set_option linter.unusedSimpArgs false

/-- A line. -/
def isLn (s : ByteArray) : Bool := !(s.data.toList.dropLast.contains 10) && inB s.size 1 30
/-- Its last byte is 10. -/
def ends (s : ByteArray) : Bool := s.data.toList.getLast? == some 10
def good (l : List ByteArray) : Bool := decide (l.length ≤ 40) && (l.all isLn && l.dropLast.all ends)

theorem toList_one (c : UInt8) : (⟨#[c]⟩ : ByteArray).toList = [c] := by rw [Lib.toList_data]
theorem size_one (c : UInt8) : (⟨#[c]⟩ : ByteArray).size = 1 := rfl
theorem bt_one (c : UInt8) : bt ⟨#[c]⟩ 0 = (c.toNat : Int) := rfl

theorem index_ev (s : ByteArray) (c : UInt8) : Ev (fun k => strings_Index.f k s ⟨#[c]⟩) (Lib.indexByte s.data.toList c) := by
  have hj : ∀ b : Bool, (b = true → Lib.indexByte s.data.toList c = 0) → Ev (fun k => stringslite_Index.j0 k s ⟨#[c]⟩ 1 b) (Lib.indexByte s.data.toList c) := by
    intro b hb
    refine Ev.step (fun k => stringslite_Index.j0.eq_2 ..) ?_
    refine ev_ite (fun h => ev_some (hb h).symm) (fun _ => ?_)
    refine ev_pos rfl (ev_pos (by rw [size_one]; decide) ?_)
    refine ev_const ?_
    rw [bt_one]
    simp [stringslite_IndexByte.f]
  have h2 : Ev (fun k => stringslite_Index.f k s ⟨#[c]⟩) (Lib.indexByte s.data.toList c) := by
    simp only [stringslite_Index.f]
    refine ev_neg (by rw [size_one]; decide) ?_
    refine hj _ (fun h => ?_)
    have e : s.data.toList = [c] := by
      have := beq_iff_eq.1 h
      rw [toList_one, Lib.toList_data] at this
      exact this.symm
    rw [e]
    simp [Lib.indexByte]
  simp only [strings_Index.f]
  exact ev_bind h2 (ev_some rfl)

theorem indexByte_nonneg (l : List UInt8) (c : UInt8) : decide (Lib.indexByte l c ≥ 0) = l.contains c := by
  induction l with
  | nil => simp [Lib.indexByte]
  | cons b l ih =>
    have hge := Lib.indexByte_ge l c
    unfold Lib.indexByte
    by_cases h : (b == c) = true
    · have : b = c := beq_iff_eq.1 h
      simp [this]
    · have hb : (b == c) = false := by simpa using h
      have hne : ¬ c = b := fun e => h (by simp [e])
      rw [List.contains_cons, ← ih]
      simp only [hb]
      by_cases h2 : Lib.indexByte l c = -1
      · simp [h2, hne]
      · have h3 : (Lib.indexByte l c == -1) = false := by simpa using h2
        simp only [h3]
        have : Lib.indexByte l c ≥ 0 := by omega
        simp [hne, this]
        omega

theorem contains_ev (s : ByteArray) (c : UInt8) : Ev (fun k => strings_Contains.f k s ⟨#[c]⟩) (s.data.toList.contains c) := by
  simp only [strings_Contains.f]
  exact ev_bind (index_ev s c) (ev_some (indexByte_nonneg _ _))

theorem extract_data (s : ByteArray) (a b : Nat) : (s.extract a b).data.toList = (s.data.toList.take b).drop a := by
  rw [ByteArray.data_extract, Array.toList_extract, List.extract_eq_take_drop, ← List.drop_take]

theorem isLine_ev (s : ByteArray) (hs : s.size ≤ 9223372036854775807) : Ev (fun k => impl_isLine.f k s) (isLn s) := by
  simp only [impl_isLine.f, impl_in_eq, Option.bind_some]
  refine ev_ite (fun h => ?_) (fun h => ev_some (by unfold isLn; simp at h; simp [h]))
  have h1 : 1 ≤ s.size ∧ s.size ≤ 30 := by
    simp [inB] at h
    omega
  rw [wrap_pred s.size (by omega) hs]
  refine ev_pos (by omega) (ev_pos (by omega) ?_)
  refine ev_bind (contains_ev _ 10) (ev_some ?_)
  rw [Int.toNat_natCast, extract_data, List.drop_zero, ← data_length, ← List.dropLast_eq_take]
  unfold isLn
  rw [h]
  simp

theorem l1Line_l0 (s : ByteArray) (hs : s.size ≤ 9223372036854775807) : ∀ d i, i + d = s.size - 1 → Ev (fun k => spec_l1Line.l0 k s (i : Int)) (!((s.data.toList.dropLast.drop i).contains 10) && inB s.size 1 30) := by
  intro d
  have hl : s.data.toList.length = s.size := data_length s
  induction d with
  | zero =>
    intro i hi
    refine Ev.step (fun k => spec_l1Line.l0.eq_2 ..) ?_
    refine ev_neg (by rw [wrap64_id (by omega) (by omega)]; omega) ?_
    refine ev_const ?_
    rw [spec_l1In_eq, List.drop_of_length_le (by rw [List.length_dropLast]; omega)]
    rfl
  | succ d ih =>
    intro i hi
    refine Ev.step (fun k => spec_l1Line.l0.eq_2 ..) ?_
    refine ev_pos (by rw [wrap64_id (by omega) (by omega)]; omega) (ev_pos (by omega) (ev_pos (by omega) ?_))
    have hd : s.data.toList.dropLast.drop i = s.data.toList[i] :: s.data.toList.dropLast.drop (i + 1) := by
      rw [List.drop_eq_getElem_cons (by rw [List.length_dropLast]; omega), List.getElem_dropLast]
    rw [hd, List.contains_cons, bt_nat s i (by omega)]
    refine ev_ite (fun h => ev_some ?_) (fun h => ?_)
    · have : s.data.toList[i] = 10 := u8_eq h
      rw [this]
      simp
    · rw [wrap_succ i (by omega)]
      refine ev_to (ih (i + 1) (by omega)) ?_
      have : ((10 : UInt8) == s.data.toList[i]) = false := by
        rw [beq_eq_false_iff_ne]
        exact u8_ne h
      rw [this, Bool.false_or]

theorem l1Line_ev (s : ByteArray) (hs : s.size ≤ 9223372036854775807) : Ev (fun k => spec_l1Line.f k s) (isLn s) := by
  simp only [spec_l1Line.f]
  exact l1Line_l0 s hs (s.size - 1) 0 (by omega)

theorem isLn_size {s : ByteArray} (h : isLn s = true) : 1 ≤ s.size ∧ s.size ≤ 30 := by
  simp [isLn, inB] at h
  omega

theorem ends_last {s : ByteArray} (h : 1 ≤ s.size) : ends s = (bt s ((s.size - 1 : Nat) : Int) == 10) := by
  have hl : s.data.toList.length = s.size := data_length s
  have hq : s.data.toList.getLast? = some (s.data.toList[s.size - 1]'(by omega)) := by
    rw [List.getLast?_eq_getElem?, List.getElem?_eq_getElem (by omega)]
    simp only [hl]
  unfold ends
  rw [bt_nat s _ (by omega), hq]
  rw [Bool.eq_iff_iff]
  simp only [beq_iff_eq, Option.some.injEq]
  constructor
  · intro e; rw [e]; rfl
  · intro e; exact u8_eq e

theorem l1Ends_eq (s : ByteArray) (h : 1 ≤ s.size) (hs : s.size ≤ 9223372036854775807) : spec_l1Ends.f s = some (ends s) := by
  unfold spec_l1Ends.f
  rw [wrap_pred s.size (by omega) hs, if_pos (by omega), if_pos (by omega), ends_last h]

theorem hasSuffix_eq (s : ByteArray) (c : UInt8) (hs : s.size ≤ 9223372036854775807) : strings_HasSuffix.f s ⟨#[c]⟩ = some (s.data.toList.getLast? == some c) := by
  have hl : s.data.toList.length = s.size := data_length s
  unfold strings_HasSuffix.f stringslite_HasSuffix.f
  rw [size_one]
  by_cases h : 1 ≤ s.size
  · rw [if_pos (by omega), show ((1 : Nat) : Int) = 1 from rfl, wrap_pred s.size (by omega) hs, if_pos (by omega), if_pos (by omega), Option.bind_some, toList_one, Lib.toList_data, Int.toNat_natCast, extract_data, ← hl, List.take_length]
    have e : s.data.toList.drop (s.data.toList.length - 1) = [s.data.toList[s.data.toList.length - 1]'(by omega)] := by
      rw [List.drop_eq_getElem_cons (by omega), List.drop_of_length_le (by omega)]
    rw [e, List.getLast?_eq_getElem?, List.getElem?_eq_getElem (by omega)]
    congr 1
    rw [Bool.eq_iff_iff]
    simp
  · rw [if_neg (by omega), Option.bind_some]
    have : s.data.toList = [] := List.eq_nil_of_length_eq_zero (by omega)
    simp [this]

theorem isEnded_eq (s : ByteArray) (hs : s.size ≤ 9223372036854775807) : impl_isEnded.f s = some (ends s) := by
  unfold impl_isEnded.f
  rw [hasSuffix_eq s 10 hs]
  rfl

theorem areLines_l0 (l : List ByteArray) (hf : FitS l) : ∀ d i, i + d = l.length → ∃ j : Int, Ev (fun k => slices_IndexFunc_string_string__impl_areLines_1.l0 k l (l.length : Int) (i : Int)) j ∧ decide (j ≥ 0) = !((l.drop i).all isLn) := by
  intro d
  induction d with
  | zero =>
    intro i hi
    refine ⟨-1, Ev.step (fun k => slices_IndexFunc_string_string__impl_areLines_1.l0.eq_2 ..) (ev_neg (by omega) (ev_some rfl)), ?_⟩
    rw [List.drop_of_length_le (by omega)]
    rfl
  | succ d ih =>
    intro i hi
    have hlt : i < l.length := by omega
    have hev : Ev (fun k => impl_areLines_1.f k (rdOf ByteArray.empty l (i : Int))) (!isLn l[i]) := by
      rw [rdOf_lt _ _ _ hlt]
      simp only [impl_areLines_1.f]
      exact ev_bind (isLine_ev _ (hf.2 _ (List.getElem_mem _))) (ev_some rfl)
    obtain ⟨j, hj, hjj⟩ := ih (i + 1) (by omega)
    rw [drop_cons l i hlt, List.all_cons]
    by_cases h : isLn l[i] = true
    · refine ⟨j, Ev.step (fun k => slices_IndexFunc_string_string__impl_areLines_1.l0.eq_2 ..) (ev_pos (by omega) (ev_pos (by omega) (ev_pos (by omega) (ev_bind hev (ev_neg (by simp [h]) ?_))))), by rw [hjj, h]; simp⟩
      rw [wrap_succ i (by have := hf.1; omega)]
      exact hj
    · refine ⟨(i : Int), Ev.step (fun k => slices_IndexFunc_string_string__impl_areLines_1.l0.eq_2 ..) (ev_pos (by omega) (ev_pos (by omega) (ev_pos (by omega) (ev_bind hev (ev_pos (by simp [h]) (ev_some rfl)))))), ?_⟩
      simp [h]

theorem areLines_ev (l : List ByteArray) (hf : FitS l) : Ev (fun k => impl_areLines.f k l) (decide (l.length ≤ 40) && l.all isLn) := by
  simp only [impl_areLines.f]
  refine ev_ite (fun h => ?_) (fun h => ev_some ?_)
  · obtain ⟨j, hj, hjj⟩ := areLines_l0 l hf l.length 0 (by omega)
    simp only [slices_ContainsFunc_string_string__impl_areLines_1.f, slices_IndexFunc_string_string__impl_areLines_1.f]
    refine ev_bind (ev_bind hj (ev_some rfl)) (ev_some ?_)
    have : l.length ≤ 40 := by omega
    rw [hjj]
    simp [this]
  · have : ¬ l.length ≤ 40 := by omega
    simp [this]

theorem goodLines_l0 (l : List ByteArray) (hf : FitS l) : ∀ d i, i + d = l.length → Ev (fun k => impl_goodLines.l0 k l l (l.length : Int) (i : Int)) ((l.dropLast.drop i).all ends) := by
  intro d
  have hL := hf.1
  induction d with
  | zero =>
    intro i hi
    refine Ev.step (fun k => impl_goodLines.l0.eq_2 ..) (ev_neg (by omega) (ev_some ?_))
    rw [List.drop_of_length_le (by rw [List.length_dropLast]; omega)]
    rfl
  | succ d ih =>
    intro i hi
    have hlt : i < l.length := by omega
    refine Ev.step (fun k => impl_goodLines.l0.eq_2 ..) (ev_pos (by omega) (ev_pos (by omega) (ev_pos (by omega) ?_)))
    rw [wrap_pred l.length (by omega) hL, rdOf_lt _ _ _ hlt, isEnded_eq _ (hf.2 _ (List.getElem_mem _)), wrap_succ i (by omega)]
    simp only [Option.bind_some]
    refine ev_ite (fun h => ?_) (fun h => ?_)
    · have hd : l.dropLast.drop i = l[i] :: l.dropLast.drop (i + 1) := by
        rw [List.drop_eq_getElem_cons (by rw [List.length_dropLast]; omega), List.getElem_dropLast]
      rw [hd, List.all_cons]
      refine ev_ite (fun h => ?_) (fun h => ev_some (by simp [h]))
      rw [h, Bool.true_and]
      exact ih (i + 1) (by omega)
    · have e1 : l.dropLast.drop i = [] := List.drop_of_length_le (by rw [List.length_dropLast]; omega)
      have e2 : l.dropLast.drop (i + 1) = [] := List.drop_of_length_le (by rw [List.length_dropLast]; omega)
      have := ih (i + 1) (by omega)
      rw [e2] at this
      rw [e1]
      exact this

theorem goodLines_ev (l : List ByteArray) (hf : FitS l) : Ev (fun k => impl_goodLines.f k l) (good l) := by
  simp only [impl_goodLines.f]
  refine ev_bind (areLines_ev l hf) (ev_ite (fun h => ?_) (fun h => ev_some ?_))
  · refine ev_to (goodLines_l0 l hf l.length 0 (by omega)) ?_
    rw [List.drop_zero]
    unfold good
    rw [← Bool.and_assoc, h, Bool.true_and]
  · unfold good
    rw [← Bool.and_assoc]
    simp at h
    simp
    intro h1 h2
    exact absurd (h h1) (by simpa using h2)

theorem l1Good_l0 (l : List ByteArray) (hf : FitS l) : ∀ d i, i + d = l.length → Ev (fun k => spec_l1Good.l0 k l l (l.length : Int) (i : Int)) ((l.drop i).all isLn && (l.dropLast.drop i).all ends && decide (l.length ≤ 40)) := by
  intro d
  have hL := hf.1
  induction d with
  | zero =>
    intro i hi
    refine Ev.step (fun k => spec_l1Good.l0.eq_2 ..) (ev_neg (by omega) (ev_some ?_))
    rw [List.drop_of_length_le (by omega), List.drop_of_length_le (by rw [List.length_dropLast]; omega)]
    simp
    omega
  | succ d ih =>
    intro i hi
    have hlt : i < l.length := by omega
    refine Ev.step (fun k => spec_l1Good.l0.eq_2 ..) (ev_pos (by omega) (ev_pos (by omega) (ev_pos (by omega) ?_)))
    simp only [rdOf_lt _ _ _ hlt]
    rw [wrap_pred l.length (by omega) hL, wrap_succ i (by omega), drop_cons l i hlt, List.all_cons]
    refine ev_bind (l1Line_ev _ (hf.2 _ (List.getElem_mem _))) (ev_ite (fun h => ?_) (fun h => ev_some (by simp [h])))
    rw [h, Bool.true_and, l1Ends_eq _ (isLn_size h).1 (hf.2 _ (List.getElem_mem _))]
    simp only [Option.bind_some]
    refine ev_ite (fun h => ?_) (fun h => ?_)
    · have hd : l.dropLast.drop i = l[i] :: l.dropLast.drop (i + 1) := by
        rw [List.drop_eq_getElem_cons (by rw [List.length_dropLast]; omega), List.getElem_dropLast]
      rw [hd, List.all_cons]
      refine ev_ite (fun h => ?_) (fun h => ev_some (by simp [h]))
      rw [h, Bool.true_and]
      exact ih (i + 1) (by omega)
    · have e1 : l.dropLast.drop i = [] := List.drop_of_length_le (by rw [List.length_dropLast]; omega)
      have e2 : l.dropLast.drop (i + 1) = [] := List.drop_of_length_le (by rw [List.length_dropLast]; omega)
      have := ih (i + 1) (by omega)
      rw [e2] at this
      rw [e1]
      exact this

theorem l1Good_ev (l : List ByteArray) (hf : FitS l) : Ev (fun k => spec_l1Good.f k l) (good l) := by
  simp only [spec_l1Good.f]
  refine ev_to (l1Good_l0 l hf l.length 0 (by omega)) ?_
  rw [List.drop_zero, List.drop_zero]
  unfold good
  rw [Bool.and_comm]
end Go.Proofs.Ytcefenlblnediaa.Pl

/- Plain Lean: hunks that fit. No condition. -/
namespace Go.Proofs.Ytcefenlblnediaa.Pl
open Go.RowKit Go.Proofs.YtcefenlblnediaaW.PrintWords Go.Proofs.YtcefenlblnediaaW.PrintLast Go.Proofs.Ytcefenlblnediaa.My
set_option linter.unusedVariables false
set_option linter.unusedSimpArgs false
abbrev IH := S111
theorem rdIH (l : List IH) (i : Nat) (h : i < l.length) : rd_T111 l (i : Int) = l[i] := getD_lt l _ i h

theorem ih_ext {x y : IH} (h0 : x.f0 = y.f0) (h1 : x.f1 = y.f1) (h2 : x.f2 = y.f2) : x = y := by
  cases x; cases y; simp_all

/-- Hunks that came in fit. -/
def FitI (l : List IH) : Prop := l.length ≤ 9223372036854775807 ∧ ∀ x ∈ l, (-9223372036854775808 ≤ x.f0 ∧ x.f0 ≤ 9223372036854775807) ∧ (-9223372036854775808 ≤ x.f1 ∧ x.f1 ≤ 9223372036854775807) ∧ FitS x.f2

instance : DecidableEq IH := fun x y => decidable_of_iff (x.f0 = y.f0 ∧ x.f1 = y.f1 ∧ x.f2 = y.f2) ⟨fun ⟨a, b, c⟩ => ih_ext a b c, fun h => by rw [h]; exact ⟨rfl, rfl, rfl⟩⟩

end Go.Proofs.Ytcefenlblnediaa.Pl

/- Written by this session's program (wip/gen): a plain function with the same answers as the Go function, and the proof that the Go code comes to them. Asked: that the plain function has an answer. -/
namespace Go.Proofs.Ytcefenlblnediaa.My
open Go.RowKit Go.Proofs.YtcefenlblnediaaW.PrintWords Go.Proofs.YtcefenlblnediaaW.PrintLast Go.Proofs.YtcefenlblnediaaW.PrintMore
attribute [local go_sem] max2_int min2_int max_two min_two max_three min_three max_four min_four
set_option linter.unusedVariables false
set_option linter.unusedSimpArgs false

/-! ### spec_l2Hunks: function 92 -/
mutual
def spec_l2Hunks.l0 : Nat → Int → List (S111) → List (S111) → Int → Int → Option (Bool)
 | 0, _, _, _, _, _ => none
 | k + 1, x0, x1, x9, x10, x11 => if x11 < x10 then (if 0 ≤ x11 then (if x11 < (x9.length : Int) then (if ((rd_T111 x9 x11).f0) < 0 then (spec_l2Hunks.j1 k x0 x1 x9 x10 x11 true ((rd_T111 x9 x11).f0) ((rd_T111 x9 x11).f1) ((rd_T111 x9 x11).f2)) else (if ((rd_T111 x9 x11).f1) < 0 then (spec_l2Hunks.j1 k x0 x1 x9 x10 x11 true ((rd_T111 x9 x11).f0) ((rd_T111 x9 x11).f1) ((rd_T111 x9 x11).f2)) else (if ((rd_T111 x9 x11).f1) > x0 then (spec_l2Hunks.j1 k x0 x1 x9 x10 x11 true ((rd_T111 x9 x11).f0) ((rd_T111 x9 x11).f1) ((rd_T111 x9 x11).f2)) else (if ((rd_T111 x9 x11).f0) > (wrap64 (x0 - ((rd_T111 x9 x11).f1))) then (spec_l2Hunks.j1 k x0 x1 x9 x10 x11 true ((rd_T111 x9 x11).f0) ((rd_T111 x9 x11).f1) ((rd_T111 x9 x11).f2)) else (if (wrap64 (((rd_T111 x9 x11).f1) + (((rd_T111 x9 x11).f2).length : Int))) = 0 then (spec_l2Hunks.j1 k x0 x1 x9 x10 x11 true ((rd_T111 x9 x11).f0) ((rd_T111 x9 x11).f1) ((rd_T111 x9 x11).f2)) else (if (((rd_T111 x9 x11).f2).length : Int) > 40 then (spec_l2Hunks.j1 k x0 x1 x9 x10 x11 true ((rd_T111 x9 x11).f0) ((rd_T111 x9 x11).f1) ((rd_T111 x9 x11).f2)) else (if x11 > 0 then (if 0 ≤ (wrap64 (x11 - 1)) then (if (wrap64 (x11 - 1)) < (x1.length : Int) then (spec_l2Hunks.j1 k x0 x1 x9 x10 x11 (decide (((rd_T111 x9 x11).f0) ≤ (wrap64 (((rd_T111 x1 (wrap64 (x11 - 1))).f0) + ((rd_T111 x1 (wrap64 (x11 - 1))).f1))))) ((rd_T111 x9 x11).f0) ((rd_T111 x9 x11).f1) ((rd_T111 x9 x11).f2)) else (none)) else (none)) else (spec_l2Hunks.j1 k x0 x1 x9 x10 x11 false ((rd_T111 x9 x11).f0) ((rd_T111 x9 x11).f1) ((rd_T111 x9 x11).f2))))))))) else (none)) else (none)) else (if (x1.length : Int) ≤ 20 then ((spec_l1In.f x0 0 40).bind fun t340 => (some t340)) else (some false))
def spec_l2Hunks.j1 : Nat → Int → List (S111) → List (S111) → Int → Int → Bool → Int → Int → List ByteArray → Option (Bool)
 | 0, _, _, _, _, _, _, _, _, _ => none
 | k + 1, x0, x1, x9, x10, x11, x75, x343000, x343001, x343002 => if x75 = true then (some false) else (spec_l2Hunks.l1 k x0 x1 x9 x10 x11 x343002 (x343002.length : Int) 0)
def spec_l2Hunks.l1 : Nat → Int → List (S111) → List (S111) → Int → Int → List ByteArray → Int → Int → Option (Bool)
 | 0, _, _, _, _, _, _, _, _ => none
 | k + 1, x0, x1, x9, x10, x11, x77, x78, x79 => if x79 < x78 then (if 0 ≤ x79 then (if x79 < (x77.length : Int) then ((spec_l1Line.f k (rdOf ByteArray.empty x77 x79)).bind fun t346 => (if t346 = true then (spec_l2Hunks.l1 k x0 x1 x9 x10 x11 x77 x78 (wrap64 (x79 + 1))) else (some false))) else (none)) else (none)) else (spec_l2Hunks.l0 k x0 x1 x9 x10 (wrap64 (x11 + 1)))
end
def spec_l2Hunks.f (k : Nat) (a0 : Int) (l1 : List (S111)) : Option (Bool) := spec_l2Hunks.l0 k a0 l1 l1 (l1.length : Int) 0
set_option maxHeartbeats 8000000 in
set_option maxRecDepth 100000 in
theorem spec_l2Hunks.calls (k : Nat) (a0 : Int) (A1 : Option Addr) (c1 : Nat) (l1 : List (S111)) (r : Bool) (w : World) (hr1 : Kd.C k111 w A1 l1.length l1) (hc1 : l1.length ≤ c1) (h : spec_l2Hunks.f k a0 l1 = some r) :
  Calls Try.prog 92 #[.int .i64 a0, .slice A1 l1.length c1] w fun e w' => e = .returned (.bool r) ∧ Below w.heap.size w w' := by
 have hu111 := Try.underlying111
 have HR1 := Aside0.mk hr1
 have HC1 := Aside0.mk hc1
 clear hr1 hc1
 have HB := Aside0.mk (Below.refl w.heap.size w)
 have H : (spec_l2Hunks.l0 k a0 l1 l1 (l1.length : Int) 0) = some r := h
 clear h
 have H' := Aside0.mk H
 clear H
 go_enter Try.func92, Try.ntmps92
 go_wp2
 repeat (go_quiet (fail); try go_wp2)
 go_loopg [11] k (fun kq v11 w' => ∃ (x11_1 : Int), v11 = .int .i64 x11_1 ∧ Aside0 (spec_l2Hunks.l0 kq a0 l1 l1 (l1.length : Int) x11_1 = some r) ∧ Aside0 (kq ≤ k) ∧ Aside0 (Below w.heap.size w w'))
 case atStart => exact ⟨(0), zf, H', ⟨Nat.le_refl _⟩, ⟨by repeat (first | (with_reducible first | exact HB.out | apply below_alloc | apply pw_below_drewN | apply below_drew1) | exact HB.out)⟩⟩
 case round =>
  clear H'
  try clear c1
  try clear p2
  obtain ⟨x11_1, rfl, HA, HK1, HB⟩ := hrel
  cases gk with
  | zero => exact absurd HA.out (by simp [spec_l2Hunks.l0])
  | succ k1 =>
   have H := HA.out
   clear HA
   simp only [spec_l2Hunks.l0] at H
   by_cases c3 : x11_1 < (l1.length : Int)
   ·rw [if_pos c3] at H
    have c3b0 : decide (x11_1 < (l1.length : Int)) = true := decide_eq_true c3
    clear c3
    by_cases c4 : 0 ≤ x11_1
    ·rw [if_pos c4] at H
     have c4b0 : decide (0 ≤ x11_1) = true := decide_eq_true c4
     clear c4
     by_cases c5 : x11_1 < (l1.length : Int)
     ·rw [if_pos c5] at H
      have c5b0 : decide (x11_1 < (l1.length : Int)) = true := decide_eq_true c5
      clear c5
      have HC6 := Aside0.mk H
      clear H
      have p341 : 0 ≤ (x11_1 : Int) := oa
      have q341 : x11_1 < (l1.length : Int) := oa
      obtain ⟨ad341, A341_2, c341_2, e341, hx341_0, hx341_1, hx341_2, hl341_2, hi341_2⟩ := at_T111 HR1.out x11_1 p341 q341
      cases e341
      replace hx341_0 := (HB.out.cell (World.block_lt_of_cell? w _ hx341_0)).trans hx341_0
      replace hx341_1 := (HB.out.cell (World.block_lt_of_cell? w _ hx341_1)).trans hx341_1
      replace hx341_2 := (HB.out.cell (World.block_lt_of_cell? w _ hx341_2)).trans hx341_2
      have HR341_2 := Aside0.mk hi341_2
      have HC341_2 := Aside0.mk hl341_2
      clear hi341_2 hl341_2
      replace p341 := eq_true p341
      replace q341 := eq_true q341
      go_upto_region 4 with (first | ((with_reducible refine gate_dst (N := 6) rfl ?_); (try (refine gate_guard (by rfl) ?_; dsimp only)); refine box_event ?hg (N := 6) ?hd (cs := #[.int .i64 0, .int .i64 0, .slice none 0 0]) (t := 111) ?hr ?_; (case hd => rfl); (case hg => rfl); (case hr => first | (go_simp; done) | (go_simp; rfl)); intro gb342 hg w7 hbox hb; have n0_ := Aside0.mk (below_step zb hb); have n1_ := Aside0.mk (hbox); have n2_ := Aside0.mk ((by rw [hg]; exact (below_size zb) : w.heap.size ≤ gb342)); have n3_ := Aside0.mk ((by rw [hg]; exact (below_size zb) : w.heap.size ≤ gb342)); clear HB; have HB := n0_; have BK342 := n1_; have GW342 := n2_; have GE342 := n3_; clear n0_ n1_ n2_ n3_; clear hb hbox hg; have hcz8_0 : w7.cell? ⟨gb342, 0, none⟩ = some (.int .i64 0) := (blk_cell BK342.out 0).trans rfl; have hcz8_1 : w7.cell? ⟨gb342, 1, none⟩ = some (.int .i64 0) := (blk_cell BK342.out 1).trans rfl; have hcz8_2 : w7.cell? ⟨gb342, 2, none⟩ = some (.slice none 0 0) := (blk_cell BK342.out 2).trans rfl; have hfz8_0 := blk_frozen BK342.out 0; have hfz8_1 := blk_frozen BK342.out 1; have hfz8_2 := blk_frozen BK342.out 2))
      repeat (go_quiet (first | ((with_reducible refine gate_dst (N := 6) rfl ?_); (try (refine gate_guard (by rfl) ?_; dsimp only)); refine box_event ?hg (N := 6) ?hd (cs := #[.int .i64 0, .int .i64 0, .slice none 0 0]) (t := 111) ?hr ?_; (case hd => rfl); (case hg => rfl); (case hr => first | (go_simp; done) | (go_simp; rfl)); intro gb342 hg w7 hbox hb; have n0_ := Aside0.mk (below_step zb hb); have n1_ := Aside0.mk (hbox); have n2_ := Aside0.mk ((by rw [hg]; exact (below_size zb) : w.heap.size ≤ gb342)); have n3_ := Aside0.mk ((by rw [hg]; exact (below_size zb) : w.heap.size ≤ gb342)); clear HB; have HB := n0_; have BK342 := n1_; have GW342 := n2_; have GE342 := n3_; clear n0_ n1_ n2_ n3_; clear hb hbox hg; have hcz8_0 : w7.cell? ⟨gb342, 0, none⟩ = some (.int .i64 0) := (blk_cell BK342.out 0).trans rfl; have hcz8_1 : w7.cell? ⟨gb342, 1, none⟩ = some (.int .i64 0) := (blk_cell BK342.out 1).trans rfl; have hcz8_2 : w7.cell? ⟨gb342, 2, none⟩ = some (.slice none 0 0) := (blk_cell BK342.out 2).trans rfl; have hfz8_0 := blk_frozen BK342.out 0; have hfz8_1 := blk_frozen BK342.out 1; have hfz8_2 := blk_frozen BK342.out 2)); go_upto_region 4 with (first | ((with_reducible refine gate_dst (N := 6) rfl ?_); (try (refine gate_guard (by rfl) ?_; dsimp only)); refine box_event ?hg (N := 6) ?hd (cs := #[.int .i64 0, .int .i64 0, .slice none 0 0]) (t := 111) ?hr ?_; (case hd => rfl); (case hg => rfl); (case hr => first | (go_simp; done) | (go_simp; rfl)); intro gb342 hg w7 hbox hb; have n0_ := Aside0.mk (below_step zb hb); have n1_ := Aside0.mk (hbox); have n2_ := Aside0.mk ((by rw [hg]; exact (below_size zb) : w.heap.size ≤ gb342)); have n3_ := Aside0.mk ((by rw [hg]; exact (below_size zb) : w.heap.size ≤ gb342)); clear HB; have HB := n0_; have BK342 := n1_; have GW342 := n2_; have GE342 := n3_; clear n0_ n1_ n2_ n3_; clear hb hbox hg; have hcz8_0 : w7.cell? ⟨gb342, 0, none⟩ = some (.int .i64 0) := (blk_cell BK342.out 0).trans rfl; have hcz8_1 : w7.cell? ⟨gb342, 1, none⟩ = some (.int .i64 0) := (blk_cell BK342.out 1).trans rfl; have hcz8_2 : w7.cell? ⟨gb342, 2, none⟩ = some (.slice none 0 0) := (blk_cell BK342.out 2).trans rfl; have hfz8_0 := blk_frozen BK342.out 0; have hfz8_1 := blk_frozen BK342.out 1; have hfz8_2 := blk_frozen BK342.out 2)))
      (try simp only [Act.put, List.setIfInBounds_toArray, List.set_cons_zero, List.set_cons_succ])
      go_cut [75] (fun v75 wc => ∃ (kq : Nat) (x75_5 : Bool), v75 = .bool x75_5 ∧ Aside0 (spec_l2Hunks.j1 kq a0 l1 l1 (l1.length : Int) x11_1 x75_5 ((rd_T111 l1 x11_1).f0) ((rd_T111 l1 x11_1).f1) ((rd_T111 l1 x11_1).f2) = some r) ∧ Aside0 (kq ≤ k1) ∧ Aside0 (wc.heap[gb342]? = some (.cells #[.int .i64 ((rd_T111 l1 x11_1).f0), .int .i64 ((rd_T111 l1 x11_1).f1), (.slice A341_2 ((rd_T111 l1 x11_1).f2).length c341_2)] 111 (0, 0))) ∧ Aside0 (Below w.heap.size w wc))
      case first =>
       have H := HC6.out
       clear HC6
       by_cases c9 : ((rd_T111 l1 x11_1).f0) < 0
       ·rw [if_pos c9] at H
        have c9b0 : decide (((rd_T111 l1 x11_1).f0) < 0) = true := decide_eq_true c9
        clear c9
        (first | rw [c9b0] | (simp only [i64_w, i32_w]; rw [c9b0]) | skip)
        have H' := Aside0.mk H
        clear H
        have hcz10_0 : w7.cell? ⟨gb342, 0, none⟩ = some (.int .i64 0) := (blk_cell BK342.out 0).trans rfl
        have hcz10_1 : w7.cell? ⟨gb342, 1, none⟩ = some (.int .i64 0) := (blk_cell BK342.out 1).trans rfl
        have hcz10_2 : w7.cell? ⟨gb342, 2, none⟩ = some (.slice none 0 0) := (blk_cell BK342.out 2).trans rfl
        have hfz10_0 := blk_frozen BK342.out 0
        have hfz10_1 := blk_frozen BK342.out 1
        have hfz10_2 := blk_frozen BK342.out 2
        go_wp2
        repeat (go_quiet (fail); try go_wp2)
        go_meet
        case rel => exact ⟨_, (true), zf, H', ⟨by have := HK1.out; first | omega | exact Nat.le_refl _⟩, ⟨by (with_reducible repeat (first | refine blk_drewN ?_ _ | refine blk_drew ?_ | refine blk_alloc ?_ _)); refine blk_put (cs := #[.int .i64 ((rd_T111 l1 x11_1).f0), .int .i64 ((rd_T111 l1 x11_1).f1), .slice none 0 0]) ?_ 2 _ rfl; (with_reducible repeat (first | refine blk_drewN ?_ _ | refine blk_drew ?_ | refine blk_alloc ?_ _)); refine blk_put (cs := #[.int .i64 ((rd_T111 l1 x11_1).f0), .int .i64 0, .slice none 0 0]) ?_ 1 _ rfl; (with_reducible repeat (first | refine blk_drewN ?_ _ | refine blk_drew ?_ | refine blk_alloc ?_ _)); refine blk_put (cs := #[.int .i64 0, .int .i64 0, .slice none 0 0]) ?_ 0 _ rfl; (with_reducible repeat (first | refine blk_drewN ?_ _ | refine blk_drew ?_ | refine blk_alloc ?_ _)); exact BK342.out⟩, ⟨by repeat (first | (with_reducible first | exact HB.out | apply below_alloc | apply pw_below_drewN | apply below_drew1 | refine below_set ?_ GE342.out) | exact HB.out)⟩⟩
       ·rw [if_neg c9] at H
        have c9b0 : decide (((rd_T111 l1 x11_1).f0) < 0) = false := decide_eq_false c9
        clear c9
        (first | rw [c9b0] | (simp only [i64_w, i32_w]; rw [c9b0]) | skip)
        by_cases c11 : ((rd_T111 l1 x11_1).f1) < 0
        ·rw [if_pos c11] at H
         have c11b0 : decide (((rd_T111 l1 x11_1).f1) < 0) = true := decide_eq_true c11
         clear c11
         have H' := Aside0.mk H
         clear H
         have hcz12_0 : w7.cell? ⟨gb342, 0, none⟩ = some (.int .i64 0) := (blk_cell BK342.out 0).trans rfl
         have hcz12_1 : w7.cell? ⟨gb342, 1, none⟩ = some (.int .i64 0) := (blk_cell BK342.out 1).trans rfl
         have hcz12_2 : w7.cell? ⟨gb342, 2, none⟩ = some (.slice none 0 0) := (blk_cell BK342.out 2).trans rfl
         have hfz12_0 := blk_frozen BK342.out 0
         have hfz12_1 := blk_frozen BK342.out 1
         have hfz12_2 := blk_frozen BK342.out 2
         go_wp2
         repeat (go_quiet (fail); try go_wp2)
         go_meet
         case rel => exact ⟨_, (true), zf, H', ⟨by have := HK1.out; first | omega | exact Nat.le_refl _⟩, ⟨by (with_reducible repeat (first | refine blk_drewN ?_ _ | refine blk_drew ?_ | refine blk_alloc ?_ _)); refine blk_put (cs := #[.int .i64 ((rd_T111 l1 x11_1).f0), .int .i64 ((rd_T111 l1 x11_1).f1), .slice none 0 0]) ?_ 2 _ rfl; (with_reducible repeat (first | refine blk_drewN ?_ _ | refine blk_drew ?_ | refine blk_alloc ?_ _)); refine blk_put (cs := #[.int .i64 ((rd_T111 l1 x11_1).f0), .int .i64 0, .slice none 0 0]) ?_ 1 _ rfl; (with_reducible repeat (first | refine blk_drewN ?_ _ | refine blk_drew ?_ | refine blk_alloc ?_ _)); refine blk_put (cs := #[.int .i64 0, .int .i64 0, .slice none 0 0]) ?_ 0 _ rfl; (with_reducible repeat (first | refine blk_drewN ?_ _ | refine blk_drew ?_ | refine blk_alloc ?_ _)); exact BK342.out⟩, ⟨by repeat (first | (with_reducible first | exact HB.out | apply below_alloc | apply pw_below_drewN | apply below_drew1 | refine below_set ?_ GE342.out) | exact HB.out)⟩⟩
        ·rw [if_neg c11] at H
         have c11b0 : decide (((rd_T111 l1 x11_1).f1) < 0) = false := decide_eq_false c11
         clear c11
         by_cases c13 : ((rd_T111 l1 x11_1).f1) > a0
         ·rw [if_pos c13] at H
          have c13b0 : decide (a0 < ((rd_T111 l1 x11_1).f1)) = true := decide_eq_true c13
          clear c13
          have H' := Aside0.mk H
          clear H
          have hcz14_0 : w7.cell? ⟨gb342, 0, none⟩ = some (.int .i64 0) := (blk_cell BK342.out 0).trans rfl
          have hcz14_1 : w7.cell? ⟨gb342, 1, none⟩ = some (.int .i64 0) := (blk_cell BK342.out 1).trans rfl
          have hcz14_2 : w7.cell? ⟨gb342, 2, none⟩ = some (.slice none 0 0) := (blk_cell BK342.out 2).trans rfl
          have hfz14_0 := blk_frozen BK342.out 0
          have hfz14_1 := blk_frozen BK342.out 1
          have hfz14_2 := blk_frozen BK342.out 2
          go_wp2
          repeat (go_quiet (fail); try go_wp2)
          go_meet
          case rel => exact ⟨_, (true), zf, H', ⟨by have := HK1.out; first | omega | exact Nat.le_refl _⟩, ⟨by (with_reducible repeat (first | refine blk_drewN ?_ _ | refine blk_drew ?_ | refine blk_alloc ?_ _)); refine blk_put (cs := #[.int .i64 ((rd_T111 l1 x11_1).f0), .int .i64 ((rd_T111 l1 x11_1).f1), .slice none 0 0]) ?_ 2 _ rfl; (with_reducible repeat (first | refine blk_drewN ?_ _ | refine blk_drew ?_ | refine blk_alloc ?_ _)); refine blk_put (cs := #[.int .i64 ((rd_T111 l1 x11_1).f0), .int .i64 0, .slice none 0 0]) ?_ 1 _ rfl; (with_reducible repeat (first | refine blk_drewN ?_ _ | refine blk_drew ?_ | refine blk_alloc ?_ _)); refine blk_put (cs := #[.int .i64 0, .int .i64 0, .slice none 0 0]) ?_ 0 _ rfl; (with_reducible repeat (first | refine blk_drewN ?_ _ | refine blk_drew ?_ | refine blk_alloc ?_ _)); exact BK342.out⟩, ⟨by repeat (first | (with_reducible first | exact HB.out | apply below_alloc | apply pw_below_drewN | apply below_drew1 | refine below_set ?_ GE342.out) | exact HB.out)⟩⟩
         ·rw [if_neg c13] at H
          have c13b0 : decide (a0 < ((rd_T111 l1 x11_1).f1)) = false := decide_eq_false c13
          clear c13
          by_cases c15 : ((rd_T111 l1 x11_1).f0) > (wrap64 (a0 - ((rd_T111 l1 x11_1).f1)))
          ·rw [if_pos c15] at H
           have c15b0 : decide ((wrap64 (a0 - ((rd_T111 l1 x11_1).f1))) < ((rd_T111 l1 x11_1).f0)) = true := decide_eq_true c15
           clear c15
           have H' := Aside0.mk H
           clear H
           have hcz16_0 : w7.cell? ⟨gb342, 0, none⟩ = some (.int .i64 0) := (blk_cell BK342.out 0).trans rfl
           have hcz16_1 : w7.cell? ⟨gb342, 1, none⟩ = some (.int .i64 0) := (blk_cell BK342.out 1).trans rfl
           have hcz16_2 : w7.cell? ⟨gb342, 2, none⟩ = some (.slice none 0 0) := (blk_cell BK342.out 2).trans rfl
           have hfz16_0 := blk_frozen BK342.out 0
           have hfz16_1 := blk_frozen BK342.out 1
           have hfz16_2 := blk_frozen BK342.out 2
           go_wp2
           repeat (go_quiet (fail); try go_wp2)
           go_meet
           case rel => exact ⟨_, (true), zf, H', ⟨by have := HK1.out; first | omega | exact Nat.le_refl _⟩, ⟨by (with_reducible repeat (first | refine blk_drewN ?_ _ | refine blk_drew ?_ | refine blk_alloc ?_ _)); refine blk_put (cs := #[.int .i64 ((rd_T111 l1 x11_1).f0), .int .i64 ((rd_T111 l1 x11_1).f1), .slice none 0 0]) ?_ 2 _ rfl; (with_reducible repeat (first | refine blk_drewN ?_ _ | refine blk_drew ?_ | refine blk_alloc ?_ _)); refine blk_put (cs := #[.int .i64 ((rd_T111 l1 x11_1).f0), .int .i64 0, .slice none 0 0]) ?_ 1 _ rfl; (with_reducible repeat (first | refine blk_drewN ?_ _ | refine blk_drew ?_ | refine blk_alloc ?_ _)); refine blk_put (cs := #[.int .i64 0, .int .i64 0, .slice none 0 0]) ?_ 0 _ rfl; (with_reducible repeat (first | refine blk_drewN ?_ _ | refine blk_drew ?_ | refine blk_alloc ?_ _)); exact BK342.out⟩, ⟨by repeat (first | (with_reducible first | exact HB.out | apply below_alloc | apply pw_below_drewN | apply below_drew1 | refine below_set ?_ GE342.out) | exact HB.out)⟩⟩
          ·rw [if_neg c15] at H
           have c15b0 : decide ((wrap64 (a0 - ((rd_T111 l1 x11_1).f1))) < ((rd_T111 l1 x11_1).f0)) = false := decide_eq_false c15
           clear c15
           by_cases c17 : (wrap64 (((rd_T111 l1 x11_1).f1) + (((rd_T111 l1 x11_1).f2).length : Int))) = 0
           ·rw [if_pos c17] at H
            have c17b0 : ((wrap64 (((rd_T111 l1 x11_1).f1) + (((rd_T111 l1 x11_1).f2).length : Int))) == 0) = true := beq_iff_eq.mpr c17
            have c17b1 : ((wrap64 (((rd_T111 l1 x11_1).f1) + (((rd_T111 l1 x11_1).f2).length : Int))) != 0) = false := bne_eq_false_iff_eq.mpr c17
            clear c17
            have H' := Aside0.mk H
            clear H
            have hcz18_0 : w7.cell? ⟨gb342, 0, none⟩ = some (.int .i64 0) := (blk_cell BK342.out 0).trans rfl
            have hcz18_1 : w7.cell? ⟨gb342, 1, none⟩ = some (.int .i64 0) := (blk_cell BK342.out 1).trans rfl
            have hcz18_2 : w7.cell? ⟨gb342, 2, none⟩ = some (.slice none 0 0) := (blk_cell BK342.out 2).trans rfl
            have hfz18_0 := blk_frozen BK342.out 0
            have hfz18_1 := blk_frozen BK342.out 1
            have hfz18_2 := blk_frozen BK342.out 2
            go_wp2
            repeat (go_quiet (fail); try go_wp2)
            go_meet
            case rel => exact ⟨_, (true), zf, H', ⟨by have := HK1.out; first | omega | exact Nat.le_refl _⟩, ⟨by (with_reducible repeat (first | refine blk_drewN ?_ _ | refine blk_drew ?_ | refine blk_alloc ?_ _)); refine blk_put (cs := #[.int .i64 ((rd_T111 l1 x11_1).f0), .int .i64 ((rd_T111 l1 x11_1).f1), .slice none 0 0]) ?_ 2 _ rfl; (with_reducible repeat (first | refine blk_drewN ?_ _ | refine blk_drew ?_ | refine blk_alloc ?_ _)); refine blk_put (cs := #[.int .i64 ((rd_T111 l1 x11_1).f0), .int .i64 0, .slice none 0 0]) ?_ 1 _ rfl; (with_reducible repeat (first | refine blk_drewN ?_ _ | refine blk_drew ?_ | refine blk_alloc ?_ _)); refine blk_put (cs := #[.int .i64 0, .int .i64 0, .slice none 0 0]) ?_ 0 _ rfl; (with_reducible repeat (first | refine blk_drewN ?_ _ | refine blk_drew ?_ | refine blk_alloc ?_ _)); exact BK342.out⟩, ⟨by repeat (first | (with_reducible first | exact HB.out | apply below_alloc | apply pw_below_drewN | apply below_drew1 | refine below_set ?_ GE342.out) | exact HB.out)⟩⟩
           ·rw [if_neg c17] at H
            have c17b0 : ((wrap64 (((rd_T111 l1 x11_1).f1) + (((rd_T111 l1 x11_1).f2).length : Int))) == 0) = false := beq_eq_false_iff_ne.mpr c17
            have c17b1 : ((wrap64 (((rd_T111 l1 x11_1).f1) + (((rd_T111 l1 x11_1).f2).length : Int))) != 0) = true := bne_iff_ne.mpr c17
            by_cases c19 : (((rd_T111 l1 x11_1).f2).length : Int) > 40
            ·rw [if_pos c19] at H
             have c19b0 : decide (40 < (((rd_T111 l1 x11_1).f2).length : Int)) = true := decide_eq_true c19
             have c19b1 : decide (40 < ((rd_T111 l1 x11_1).f2).length) = true := decide_eq_true (by omega)
             clear c19
             have H' := Aside0.mk H
             clear H
             have hcz20_0 : w7.cell? ⟨gb342, 0, none⟩ = some (.int .i64 0) := (blk_cell BK342.out 0).trans rfl
             have hcz20_1 : w7.cell? ⟨gb342, 1, none⟩ = some (.int .i64 0) := (blk_cell BK342.out 1).trans rfl
             have hcz20_2 : w7.cell? ⟨gb342, 2, none⟩ = some (.slice none 0 0) := (blk_cell BK342.out 2).trans rfl
             have hfz20_0 := blk_frozen BK342.out 0
             have hfz20_1 := blk_frozen BK342.out 1
             have hfz20_2 := blk_frozen BK342.out 2
             go_wp2
             repeat (go_quiet (fail); try go_wp2)
             go_meet
             case rel => exact ⟨_, (true), zf, H', ⟨by have := HK1.out; first | omega | exact Nat.le_refl _⟩, ⟨by (with_reducible repeat (first | refine blk_drewN ?_ _ | refine blk_drew ?_ | refine blk_alloc ?_ _)); refine blk_put (cs := #[.int .i64 ((rd_T111 l1 x11_1).f0), .int .i64 ((rd_T111 l1 x11_1).f1), .slice none 0 0]) ?_ 2 _ rfl; (with_reducible repeat (first | refine blk_drewN ?_ _ | refine blk_drew ?_ | refine blk_alloc ?_ _)); refine blk_put (cs := #[.int .i64 ((rd_T111 l1 x11_1).f0), .int .i64 0, .slice none 0 0]) ?_ 1 _ rfl; (with_reducible repeat (first | refine blk_drewN ?_ _ | refine blk_drew ?_ | refine blk_alloc ?_ _)); refine blk_put (cs := #[.int .i64 0, .int .i64 0, .slice none 0 0]) ?_ 0 _ rfl; (with_reducible repeat (first | refine blk_drewN ?_ _ | refine blk_drew ?_ | refine blk_alloc ?_ _)); exact BK342.out⟩, ⟨by repeat (first | (with_reducible first | exact HB.out | apply below_alloc | apply pw_below_drewN | apply below_drew1 | refine below_set ?_ GE342.out) | exact HB.out)⟩⟩
            ·rw [if_neg c19] at H
             have c19b0 : decide (40 < (((rd_T111 l1 x11_1).f2).length : Int)) = false := decide_eq_false c19
             have c19b1 : decide (40 < ((rd_T111 l1 x11_1).f2).length) = false := decide_eq_false (by omega)
             clear c19
             by_cases c21 : x11_1 > 0
             ·rw [if_pos c21] at H
              have c21b0 : decide (0 < x11_1) = true := decide_eq_true c21
              clear c21
              obtain ⟨ji22, hji22⟩ : ∃ j_ : Int, (wrap64 (x11_1 - 1)) = j_ := ⟨_, rfl⟩
              replace H : (if 0 ≤ (ji22) then (if (ji22) < (l1.length : Int) then (spec_l2Hunks.j1 k1 a0 l1 l1 (l1.length : Int) x11_1 (decide (((rd_T111 l1 x11_1).f0) ≤ (wrap64 (((rd_T111 l1 (ji22)).f0) + ((rd_T111 l1 (ji22)).f1))))) ((rd_T111 l1 x11_1).f0) ((rd_T111 l1 x11_1).f1) ((rd_T111 l1 x11_1).f2)) else (none)) else (none)) = some r := by first | (rw [hji22] at H; exact H) | (simp only [hji22] at H ⊢; exact H)
              have hji22w : (IntKind.i64.wrap (x11_1 - 1)) = ji22 := (i64_w _).trans hji22
              by_cases c23 : 0 ≤ (ji22)
              ·rw [if_pos c23] at H
               have c23b0 : decide (0 ≤ (ji22)) = true := decide_eq_true c23
               clear c23
               by_cases c24 : (ji22) < (l1.length : Int)
               ·rw [if_pos c24] at H
                have c24b0 : decide ((ji22) < (l1.length : Int)) = true := decide_eq_true c24
                clear c24
                have H' := Aside0.mk H
                clear H
                have hcz25_0 : w7.cell? ⟨gb342, 0, none⟩ = some (.int .i64 0) := (blk_cell BK342.out 0).trans rfl
                have hcz25_1 : w7.cell? ⟨gb342, 1, none⟩ = some (.int .i64 0) := (blk_cell BK342.out 1).trans rfl
                have hcz25_2 : w7.cell? ⟨gb342, 2, none⟩ = some (.slice none 0 0) := (blk_cell BK342.out 2).trans rfl
                have hfz25_0 := blk_frozen BK342.out 0
                have hfz25_1 := blk_frozen BK342.out 1
                have hfz25_2 := blk_frozen BK342.out 2
                have p343 : 0 ≤ ((ji22) : Int) := oa
                have q343 : (ji22) < (l1.length : Int) := oa
                obtain ⟨ad343, A343_2, c343_2, e343, hx343_0, hx343_1, hx343_2, hl343_2, hi343_2⟩ := at_T111 HR1.out (ji22) p343 q343
                obtain rfl : ad341 = ad343 := (by injection e343)
                have hn343_0 : ad341.block ≠ gb342 := Nat.ne_of_lt (Nat.lt_of_lt_of_le (zl hx343_0) GW342.out)
                have hn343_1 : ad341.block ≠ gb342 := Nat.ne_of_lt (Nat.lt_of_lt_of_le (zl hx343_0) GW342.out)
                have hn343_2 : ad341.block ≠ gb342 := Nat.ne_of_lt (Nat.lt_of_lt_of_le (zl hx343_0) GW342.out)
                replace hx343_0 := (HB.out.cell (World.block_lt_of_cell? w _ hx343_0)).trans hx343_0
                replace hx343_1 := (HB.out.cell (World.block_lt_of_cell? w _ hx343_1)).trans hx343_1
                replace hx343_2 := (HB.out.cell (World.block_lt_of_cell? w _ hx343_2)).trans hx343_2
                have HR343_2 := Aside0.mk hi343_2
                have HC343_2 := Aside0.mk hl343_2
                clear hi343_2 hl343_2
                replace hx343_0 := (cell_far (p := ⟨gb342, 0, none⟩) (zn hn343_0) (.int .i64 ((rd_T111 l1 x11_1).f0))).trans hx343_0
                replace hx343_1 := (cell_far (p := ⟨gb342, 0, none⟩) (zn hn343_0) (.int .i64 ((rd_T111 l1 x11_1).f0))).trans hx343_1
                replace hx343_2 := (cell_far (p := ⟨gb342, 0, none⟩) (zn hn343_0) (.int .i64 ((rd_T111 l1 x11_1).f0))).trans hx343_2
                replace hx343_0 := (cell_far (p := ⟨gb342, 1, none⟩) (zn hn343_1) (.int .i64 ((rd_T111 l1 x11_1).f1))).trans hx343_0
                replace hx343_1 := (cell_far (p := ⟨gb342, 1, none⟩) (zn hn343_1) (.int .i64 ((rd_T111 l1 x11_1).f1))).trans hx343_1
                replace hx343_2 := (cell_far (p := ⟨gb342, 1, none⟩) (zn hn343_1) (.int .i64 ((rd_T111 l1 x11_1).f1))).trans hx343_2
                replace hx343_0 := (cell_far (p := ⟨gb342, 2, none⟩) (zn hn343_2) (.slice A341_2 ((rd_T111 l1 x11_1).f2).length c341_2)).trans hx343_0
                replace hx343_1 := (cell_far (p := ⟨gb342, 2, none⟩) (zn hn343_2) (.slice A341_2 ((rd_T111 l1 x11_1).f2).length c341_2)).trans hx343_1
                replace hx343_2 := (cell_far (p := ⟨gb342, 2, none⟩) (zn hn343_2) (.slice A341_2 ((rd_T111 l1 x11_1).f2).length c341_2)).trans hx343_2
                (try have hy343_0 := fun (n_ : Nat) => (show (((((w7.drewN n_).setCell ⟨gb342, 0, none⟩ (.int .i64 ((rd_T111 l1 x11_1).f0))).setCell ⟨gb342, 1, none⟩ (.int .i64 ((rd_T111 l1 x11_1).f1))).setCell ⟨gb342, 2, none⟩ (.slice A341_2 ((rd_T111 l1 x11_1).f2).length c341_2))).cell? _ = some _ from hx343_0))
                (try have hy343_1 := fun (n_ : Nat) => (show (((((w7.drewN n_).setCell ⟨gb342, 0, none⟩ (.int .i64 ((rd_T111 l1 x11_1).f0))).setCell ⟨gb342, 1, none⟩ (.int .i64 ((rd_T111 l1 x11_1).f1))).setCell ⟨gb342, 2, none⟩ (.slice A341_2 ((rd_T111 l1 x11_1).f2).length c341_2))).cell? _ = some _ from hx343_1))
                (try have hy343_2 := fun (n_ : Nat) => (show (((((w7.drewN n_).setCell ⟨gb342, 0, none⟩ (.int .i64 ((rd_T111 l1 x11_1).f0))).setCell ⟨gb342, 1, none⟩ (.int .i64 ((rd_T111 l1 x11_1).f1))).setCell ⟨gb342, 2, none⟩ (.slice A341_2 ((rd_T111 l1 x11_1).f2).length c341_2))).cell? _ = some _ from hx343_2))
                clear hn343_0
                clear hn343_1
                clear hn343_2
                replace p343 := eq_true p343
                replace q343 := eq_true q343
                have p344 : 0 ≤ ((ji22) : Int) := oa
                have q344 : (ji22) < (l1.length : Int) := oa
                obtain ⟨ad344, A344_2, c344_2, e344, hx344_0, hx344_1, hx344_2, hl344_2, hi344_2⟩ := at_T111 HR1.out (ji22) p344 q344
                obtain rfl : ad341 = ad344 := (by injection e344)
                have hn344_0 : ad341.block ≠ gb342 := Nat.ne_of_lt (Nat.lt_of_lt_of_le (zl hx344_0) GW342.out)
                have hn344_1 : ad341.block ≠ gb342 := Nat.ne_of_lt (Nat.lt_of_lt_of_le (zl hx344_0) GW342.out)
                have hn344_2 : ad341.block ≠ gb342 := Nat.ne_of_lt (Nat.lt_of_lt_of_le (zl hx344_0) GW342.out)
                replace hx344_0 := (HB.out.cell (World.block_lt_of_cell? w _ hx344_0)).trans hx344_0
                replace hx344_1 := (HB.out.cell (World.block_lt_of_cell? w _ hx344_1)).trans hx344_1
                replace hx344_2 := (HB.out.cell (World.block_lt_of_cell? w _ hx344_2)).trans hx344_2
                have HR344_2 := Aside0.mk hi344_2
                have HC344_2 := Aside0.mk hl344_2
                clear hi344_2 hl344_2
                replace hx344_0 := (cell_far (p := ⟨gb342, 0, none⟩) (zn hn344_0) (.int .i64 ((rd_T111 l1 x11_1).f0))).trans hx344_0
                replace hx344_1 := (cell_far (p := ⟨gb342, 0, none⟩) (zn hn344_0) (.int .i64 ((rd_T111 l1 x11_1).f0))).trans hx344_1
                replace hx344_2 := (cell_far (p := ⟨gb342, 0, none⟩) (zn hn344_0) (.int .i64 ((rd_T111 l1 x11_1).f0))).trans hx344_2
                replace hx344_0 := (cell_far (p := ⟨gb342, 1, none⟩) (zn hn344_1) (.int .i64 ((rd_T111 l1 x11_1).f1))).trans hx344_0
                replace hx344_1 := (cell_far (p := ⟨gb342, 1, none⟩) (zn hn344_1) (.int .i64 ((rd_T111 l1 x11_1).f1))).trans hx344_1
                replace hx344_2 := (cell_far (p := ⟨gb342, 1, none⟩) (zn hn344_1) (.int .i64 ((rd_T111 l1 x11_1).f1))).trans hx344_2
                replace hx344_0 := (cell_far (p := ⟨gb342, 2, none⟩) (zn hn344_2) (.slice A341_2 ((rd_T111 l1 x11_1).f2).length c341_2)).trans hx344_0
                replace hx344_1 := (cell_far (p := ⟨gb342, 2, none⟩) (zn hn344_2) (.slice A341_2 ((rd_T111 l1 x11_1).f2).length c341_2)).trans hx344_1
                replace hx344_2 := (cell_far (p := ⟨gb342, 2, none⟩) (zn hn344_2) (.slice A341_2 ((rd_T111 l1 x11_1).f2).length c341_2)).trans hx344_2
                (try have hy344_0 := fun (n_ : Nat) => (show (((((w7.drewN n_).setCell ⟨gb342, 0, none⟩ (.int .i64 ((rd_T111 l1 x11_1).f0))).setCell ⟨gb342, 1, none⟩ (.int .i64 ((rd_T111 l1 x11_1).f1))).setCell ⟨gb342, 2, none⟩ (.slice A341_2 ((rd_T111 l1 x11_1).f2).length c341_2))).cell? _ = some _ from hx344_0))
                (try have hy344_1 := fun (n_ : Nat) => (show (((((w7.drewN n_).setCell ⟨gb342, 0, none⟩ (.int .i64 ((rd_T111 l1 x11_1).f0))).setCell ⟨gb342, 1, none⟩ (.int .i64 ((rd_T111 l1 x11_1).f1))).setCell ⟨gb342, 2, none⟩ (.slice A341_2 ((rd_T111 l1 x11_1).f2).length c341_2))).cell? _ = some _ from hx344_1))
                (try have hy344_2 := fun (n_ : Nat) => (show (((((w7.drewN n_).setCell ⟨gb342, 0, none⟩ (.int .i64 ((rd_T111 l1 x11_1).f0))).setCell ⟨gb342, 1, none⟩ (.int .i64 ((rd_T111 l1 x11_1).f1))).setCell ⟨gb342, 2, none⟩ (.slice A341_2 ((rd_T111 l1 x11_1).f2).length c341_2))).cell? _ = some _ from hx344_2))
                clear hn344_0
                clear hn344_1
                clear hn344_2
                replace p344 := eq_true p344
                replace q344 := eq_true q344
                have eb_ := Option.some.inj (hx343_2.symm.trans hx344_2)
                injection eb_ with ea_ en_ ec_
                subst ea_
                subst ec_
                clear en_
                go_wp2
                repeat (go_quiet (fail); try go_wp2)
                go_meet
                case rel => exact ⟨_, (decide (((rd_T111 l1 x11_1).f0) ≤ (wrap64 (((rd_T111 l1 (ji22)).f0) + ((rd_T111 l1 (ji22)).f1))))), (by first | rfl | (simp; done) | (simp only [← hji22] <;> (first | rfl | simp)) | (simp [*]; done)), H', ⟨by have := HK1.out; first | omega | exact Nat.le_refl _⟩, ⟨by (with_reducible repeat (first | refine blk_drewN ?_ _ | refine blk_drew ?_ | refine blk_alloc ?_ _)); refine blk_put (cs := #[.int .i64 ((rd_T111 l1 x11_1).f0), .int .i64 ((rd_T111 l1 x11_1).f1), .slice none 0 0]) ?_ 2 _ rfl; (with_reducible repeat (first | refine blk_drewN ?_ _ | refine blk_drew ?_ | refine blk_alloc ?_ _)); refine blk_put (cs := #[.int .i64 ((rd_T111 l1 x11_1).f0), .int .i64 0, .slice none 0 0]) ?_ 1 _ rfl; (with_reducible repeat (first | refine blk_drewN ?_ _ | refine blk_drew ?_ | refine blk_alloc ?_ _)); refine blk_put (cs := #[.int .i64 0, .int .i64 0, .slice none 0 0]) ?_ 0 _ rfl; (with_reducible repeat (first | refine blk_drewN ?_ _ | refine blk_drew ?_ | refine blk_alloc ?_ _)); exact BK342.out⟩, ⟨by repeat (first | (with_reducible first | exact HB.out | apply below_alloc | apply pw_below_drewN | apply below_drew1 | refine below_set ?_ GE342.out) | exact HB.out)⟩⟩
               ·rw [if_neg c24] at H
                exact absurd H (by simp)
              ·rw [if_neg c23] at H
               exact absurd H (by simp)
             ·rw [if_neg c21] at H
              have c21b0 : decide (0 < x11_1) = false := decide_eq_false c21
              clear c21
              have H' := Aside0.mk H
              clear H
              have hcz26_0 : w7.cell? ⟨gb342, 0, none⟩ = some (.int .i64 0) := (blk_cell BK342.out 0).trans rfl
              have hcz26_1 : w7.cell? ⟨gb342, 1, none⟩ = some (.int .i64 0) := (blk_cell BK342.out 1).trans rfl
              have hcz26_2 : w7.cell? ⟨gb342, 2, none⟩ = some (.slice none 0 0) := (blk_cell BK342.out 2).trans rfl
              have hfz26_0 := blk_frozen BK342.out 0
              have hfz26_1 := blk_frozen BK342.out 1
              have hfz26_2 := blk_frozen BK342.out 2
              go_wp2
              repeat (go_quiet (fail); try go_wp2)
              go_meet
              case rel => exact ⟨_, (false), zf, H', ⟨by have := HK1.out; first | omega | exact Nat.le_refl _⟩, ⟨by (with_reducible repeat (first | refine blk_drewN ?_ _ | refine blk_drew ?_ | refine blk_alloc ?_ _)); refine blk_put (cs := #[.int .i64 ((rd_T111 l1 x11_1).f0), .int .i64 ((rd_T111 l1 x11_1).f1), .slice none 0 0]) ?_ 2 _ rfl; (with_reducible repeat (first | refine blk_drewN ?_ _ | refine blk_drew ?_ | refine blk_alloc ?_ _)); refine blk_put (cs := #[.int .i64 ((rd_T111 l1 x11_1).f0), .int .i64 0, .slice none 0 0]) ?_ 1 _ rfl; (with_reducible repeat (first | refine blk_drewN ?_ _ | refine blk_drew ?_ | refine blk_alloc ?_ _)); refine blk_put (cs := #[.int .i64 0, .int .i64 0, .slice none 0 0]) ?_ 0 _ rfl; (with_reducible repeat (first | refine blk_drewN ?_ _ | refine blk_drew ?_ | refine blk_alloc ?_ _)); exact BK342.out⟩, ⟨by repeat (first | (with_reducible first | exact HB.out | apply below_alloc | apply pw_below_drewN | apply below_drew1 | refine below_set ?_ GE342.out) | exact HB.out)⟩⟩
      case rest =>
       clear HC6
       try clear c1
       try clear c2
       try clear p2
       try clear c3
       try clear c3b0
       try clear p3
       try clear q3
       try clear hx3
       try clear c4
       try clear c4b0
       try clear c5
       try clear c5b0
       try clear p6
       try clear c9
       try clear c9b0
       try clear c11
       try clear c11b0
       try clear c13
       try clear c13b0
       try clear c15
       try clear c15b0
       try clear c17
       try clear c17b0
       try clear c17b1
       try clear c19
       try clear c19b0
       try clear c19b1
       try clear c21
       try clear c21b0
       try clear c23
       try clear c23b0
       try clear c24
       try clear c24b0
       try clear hcz10_0
       try clear hcz10_1
       try clear hcz10_2
       try clear hcz12_0
       try clear hcz12_1
       try clear hcz12_2
       try clear hcz14_0
       try clear hcz14_1
       try clear hcz14_2
       try clear hcz16_0
       try clear hcz16_1
       try clear hcz16_2
       try clear hcz18_0
       try clear hcz18_1
       try clear hcz18_2
       try clear hcz20_0
       try clear hcz20_1
       try clear hcz20_2
       try clear hcz25_0
       try clear hcz25_1
       try clear hcz25_2
       try clear hcz26_0
       try clear hcz26_1
       try clear hcz26_2
       try clear hcz8_0
       try clear hcz8_1
       try clear hcz8_2
       try clear hfz10_0
       try clear hfz10_1
       try clear hfz10_2
       try clear hfz12_0
       try clear hfz12_1
       try clear hfz12_2
       try clear hfz14_0
       try clear hfz14_1
       try clear hfz14_2
       try clear hfz16_0
       try clear hfz16_1
       try clear hfz16_2
       try clear hfz18_0
       try clear hfz18_1
       try clear hfz18_2
       try clear hfz20_0
       try clear hfz20_1
       try clear hfz20_2
       try clear hfz25_0
       try clear hfz25_1
       try clear hfz25_2
       try clear hfz26_0
       try clear hfz26_1
       try clear hfz26_2
       try clear hfz8_0
       try clear hfz8_1
       try clear hfz8_2
       try clear hx341_0
       try clear hx341_1
       try clear hx341_2
       try clear hx343_0
       try clear hx343_1
       try clear hx343_2
       try clear hx344_0
       try clear hx344_1
       try clear hx344_2
       try clear p2
       try clear p341
       try clear p343
       try clear p344
       try clear q341
       try clear q343
       try clear q344
       obtain ⟨kq, x75_5, rfl, HA, HJ5, BK342, HB⟩ := hcut
       cases kq with
       | zero => exact absurd HA.out (by simp [spec_l2Hunks.j1])
       | succ kj5 =>
        have H := HA.out
        clear HA
        simp only [spec_l2Hunks.j1] at H
        by_cases c27 : x75_5 = true
        ·subst c27
         have H1 : (some false) = some r := by rw [if_pos rfl] at H; exact H
         clear H
         have H := H1
         clear H1
         obtain rfl := Option.some.inj H
         go_wp2
         repeat (go_quiet (fail); try go_wp2)
         go_ret
         exact ⟨by first | rfl | (simp [errW_none, errW_some] <;> rfl) | (simp [*, errW_none, errW_some] <;> rfl), by repeat (first | (with_reducible first | exact HB.out | apply below_alloc | apply pw_below_drewN | apply below_drew1 | refine below_set ?_ GE342.out) | exact HB.out)⟩
        ·replace c27 := Bool.eq_false_iff.mpr c27
         subst c27
         have H1 : (spec_l2Hunks.l1 kj5 a0 l1 l1 (l1.length : Int) x11_1 ((rd_T111 l1 x11_1).f2) (((rd_T111 l1 x11_1).f2).length : Int) 0) = some r := by rw [if_neg (show ¬ (false = true) by decide)] at H; exact H
         clear H
         have H := H1
         clear H1
         have H' := Aside0.mk H
         clear H
         have hcz28_0 : wc.cell? ⟨gb342, 0, none⟩ = some (.int .i64 ((rd_T111 l1 x11_1).f0)) := (blk_cell BK342.out 0).trans rfl
         have hcz28_1 : wc.cell? ⟨gb342, 1, none⟩ = some (.int .i64 ((rd_T111 l1 x11_1).f1)) := (blk_cell BK342.out 1).trans rfl
         have hcz28_2 : wc.cell? ⟨gb342, 2, none⟩ = some (.slice A341_2 ((rd_T111 l1 x11_1).f2).length c341_2) := (blk_cell BK342.out 2).trans rfl
         have hfz28_0 := blk_frozen BK342.out 0
         have hfz28_1 := blk_frozen BK342.out 1
         have hfz28_2 := blk_frozen BK342.out 2
         go_wp2
         repeat (go_quiet (fail); try go_wp2)
         go_loopg [79] kj5 (fun kq v79 w' => ∃ (x79_3 : Int), v79 = .int .i64 x79_3 ∧ Aside0 (spec_l2Hunks.l1 kq a0 l1 l1 (l1.length : Int) x11_1 ((rd_T111 l1 x11_1).f2) (((rd_T111 l1 x11_1).f2).length : Int) x79_3 = some r) ∧ Aside0 (kq ≤ kj5) ∧ Aside0 (w'.heap[gb342]? = some (.cells #[.int .i64 ((rd_T111 l1 x11_1).f0), .int .i64 ((rd_T111 l1 x11_1).f1), (.slice A341_2 ((rd_T111 l1 x11_1).f2).length c341_2)] 111 (0, 0))) ∧ Aside0 (Below w.heap.size w w'))
         case atStart => exact ⟨(0), zf, H', ⟨Nat.le_refl _⟩, ⟨by (with_reducible repeat (first | refine blk_drewN ?_ _ | refine blk_drew ?_ | refine blk_alloc ?_ _)); exact BK342.out⟩, ⟨by repeat (first | (with_reducible first | exact HB.out | apply below_alloc | apply pw_below_drewN | apply below_drew1 | refine below_set ?_ GE342.out) | exact HB.out)⟩⟩
         case round =>
          clear H'
          try clear c1
          try clear c2
          try clear p2
          try clear c3
          try clear c3b0
          try clear p3
          try clear q3
          try clear hx3
          try clear c4
          try clear c4b0
          try clear c5
          try clear c5b0
          try clear p6
          try clear c9
          try clear c9b0
          try clear c11
          try clear c11b0
          try clear c13
          try clear c13b0
          try clear c15
          try clear c15b0
          try clear c17
          try clear c17b0
          try clear c17b1
          try clear c19
          try clear c19b0
          try clear c19b1
          try clear c21
          try clear c21b0
          try clear c23
          try clear c23b0
          try clear c24
          try clear c24b0
          try clear c27
          try clear hcz10_0
          try clear hcz10_1
          try clear hcz10_2
          try clear hcz12_0
          try clear hcz12_1
          try clear hcz12_2
          try clear hcz14_0
          try clear hcz14_1
          try clear hcz14_2
          try clear hcz16_0
          try clear hcz16_1
          try clear hcz16_2
          try clear hcz18_0
          try clear hcz18_1
          try clear hcz18_2
          try clear hcz20_0
          try clear hcz20_1
          try clear hcz20_2
          try clear hcz25_0
          try clear hcz25_1
          try clear hcz25_2
          try clear hcz26_0
          try clear hcz26_1
          try clear hcz26_2
          try clear hcz28_0
          try clear hcz28_1
          try clear hcz28_2
          try clear hcz8_0
          try clear hcz8_1
          try clear hcz8_2
          try clear hfz10_0
          try clear hfz10_1
          try clear hfz10_2
          try clear hfz12_0
          try clear hfz12_1
          try clear hfz12_2
          try clear hfz14_0
          try clear hfz14_1
          try clear hfz14_2
          try clear hfz16_0
          try clear hfz16_1
          try clear hfz16_2
          try clear hfz18_0
          try clear hfz18_1
          try clear hfz18_2
          try clear hfz20_0
          try clear hfz20_1
          try clear hfz20_2
          try clear hfz25_0
          try clear hfz25_1
          try clear hfz25_2
          try clear hfz26_0
          try clear hfz26_1
          try clear hfz26_2
          try clear hfz28_0
          try clear hfz28_1
          try clear hfz28_2
          try clear hfz8_0
          try clear hfz8_1
          try clear hfz8_2
          try clear hx341_0
          try clear hx341_1
          try clear hx341_2
          try clear hx343_0
          try clear hx343_1
          try clear hx343_2
          try clear hx344_0
          try clear hx344_1
          try clear hx344_2
          try clear p2
          try clear p3
          try clear p341
          try clear p343
          try clear p344
          try clear p6
          try clear q3
          try clear q341
          try clear q343
          try clear q344
          obtain ⟨x79_3, rfl, HA, HK3, BK342, HB⟩ := hrel
          cases gk with
          | zero => exact absurd HA.out (by simp [spec_l2Hunks.l1])
          | succ k3 =>
           have H := HA.out
           clear HA
           simp only [spec_l2Hunks.l1] at H
           by_cases c29 : x79_3 < (((rd_T111 l1 x11_1).f2).length : Int)
           ·rw [if_pos c29] at H
            have c29b0 : decide (x79_3 < (((rd_T111 l1 x11_1).f2).length : Int)) = true := decide_eq_true c29
            clear c29
            by_cases c30 : 0 ≤ x79_3
            ·rw [if_pos c30] at H
             have c30b0 : decide (0 ≤ x79_3) = true := decide_eq_true c30
             clear c30
             by_cases c31 : x79_3 < (((rd_T111 l1 x11_1).f2).length : Int)
             ·rw [if_pos c31] at H
              have c31b0 : decide (x79_3 < (((rd_T111 l1 x11_1).f2).length : Int)) = true := decide_eq_true c31
              clear c31
              replace H := Option.bind_eq_some_iff.mp H
              obtain ⟨t346, A320, H⟩ := H
              replace H : (if t346 = true then (spec_l2Hunks.l1 k3 a0 l1 l1 (l1.length : Int) x11_1 ((rd_T111 l1 x11_1).f2) (((rd_T111 l1 x11_1).f2).length : Int) (wrap64 (x79_3 + 1))) else (some false)) = some r := H
              have A32 := Aside0.mk A320
              clear A320
              by_cases c33 : t346 = true
              ·subst c33
               have H1 : (spec_l2Hunks.l1 k3 a0 l1 l1 (l1.length : Int) x11_1 ((rd_T111 l1 x11_1).f2) (((rd_T111 l1 x11_1).f2).length : Int) (wrap64 (x79_3 + 1))) = some r := by rw [if_pos rfl] at H; exact H
               clear H
               have H := H1
               clear H1
               have H' := Aside0.mk H
               clear H
               have p345 : 0 ≤ (x79_3 : Int) := oa
               have q345 : x79_3 < (((rd_T111 l1 x11_1).f2).length : Int) := oa
               obtain ⟨ad345, e345, hx345_0⟩ := Kd.at_string HR341_2.out x79_3 p345 q345
               cases e345
               replace hx345_0 := (HB.out.cell (World.block_lt_of_cell? w _ hx345_0)).trans hx345_0
               replace p345 := eq_true p345
               replace q345 := eq_true q345
               go_wp2_with (first | (go_at_call 147; (with_reducible refine (spec_l1Line.calls k3 (rdOf ByteArray.empty ((rd_T111 l1 x11_1).f2) x79_3) true _ A32.out).mono ?_); rintro e w' ⟨rfl, ⟨nd, rfl⟩⟩; (try exact zd)))
               repeat (go_quiet (first | (go_at_call 147; (with_reducible refine (spec_l1Line.calls k3 (rdOf ByteArray.empty ((rd_T111 l1 x11_1).f2) x79_3) true _ A32.out).mono ?_); rintro e w' ⟨rfl, ⟨nd, rfl⟩⟩; (try exact zd))); try go_wp2_with (first | (go_at_call 147; (with_reducible refine (spec_l1Line.calls k3 (rdOf ByteArray.empty ((rd_T111 l1 x11_1).f2) x79_3) true _ A32.out).mono ?_); rintro e w' ⟨rfl, ⟨nd, rfl⟩⟩; (try exact zd))))
               go_roundg k3
               case measure => have := HK1.out; have := HJ5.out; have := HK3.out; omega
               case rel => exact ⟨(wrap64 (x79_3 + 1)), zf, H', ⟨by have := HK1.out; have := HJ5.out; have := HK3.out; omega⟩, ⟨by (with_reducible repeat (first | refine blk_drewN ?_ _ | refine blk_drew ?_ | refine blk_alloc ?_ _)); exact BK342.out⟩, ⟨by repeat (first | (with_reducible first | exact HB.out | apply below_alloc | apply pw_below_drewN | apply below_drew1 | refine below_set ?_ GE342.out) | exact HB.out)⟩⟩
              ·replace c33 := Bool.eq_false_iff.mpr c33
               subst c33
               have H1 : (some false) = some r := by rw [if_neg (show ¬ (false = true) by decide)] at H; exact H
               clear H
               have H := H1
               clear H1
               obtain rfl := Option.some.inj H
               have p345 : 0 ≤ (x79_3 : Int) := oa
               have q345 : x79_3 < (((rd_T111 l1 x11_1).f2).length : Int) := oa
               obtain ⟨ad345, e345, hx345_0⟩ := Kd.at_string HR341_2.out x79_3 p345 q345
               cases e345
               replace hx345_0 := (HB.out.cell (World.block_lt_of_cell? w _ hx345_0)).trans hx345_0
               replace p345 := eq_true p345
               replace q345 := eq_true q345
               go_wp2_with (first | (go_at_call 147; (with_reducible refine (spec_l1Line.calls k3 (rdOf ByteArray.empty ((rd_T111 l1 x11_1).f2) x79_3) false _ A32.out).mono ?_); rintro e w' ⟨rfl, ⟨nd, rfl⟩⟩; (try exact zd)))
               repeat (go_quiet (first | (go_at_call 147; (with_reducible refine (spec_l1Line.calls k3 (rdOf ByteArray.empty ((rd_T111 l1 x11_1).f2) x79_3) false _ A32.out).mono ?_); rintro e w' ⟨rfl, ⟨nd, rfl⟩⟩; (try exact zd))); try go_wp2_with (first | (go_at_call 147; (with_reducible refine (spec_l1Line.calls k3 (rdOf ByteArray.empty ((rd_T111 l1 x11_1).f2) x79_3) false _ A32.out).mono ?_); rintro e w' ⟨rfl, ⟨nd, rfl⟩⟩; (try exact zd))))
               go_ret
               exact ⟨by first | rfl | (simp [errW_none, errW_some] <;> rfl) | (simp [*, errW_none, errW_some] <;> rfl), by repeat (first | (with_reducible first | exact HB.out | apply below_alloc | apply pw_below_drewN | apply below_drew1 | refine below_set ?_ GE342.out) | exact HB.out)⟩
             ·rw [if_neg c31] at H
              exact absurd H (by simp)
            ·rw [if_neg c30] at H
             exact absurd H (by simp)
           ·rw [if_neg c29] at H
            have c29b0 : decide (x79_3 < (((rd_T111 l1 x11_1).f2).length : Int)) = false := decide_eq_false c29
            clear c29
            have H' := Aside0.mk H
            clear H
            go_wp2
            repeat (go_quiet (fail); try go_wp2)
            go_roundg k3
            case measure => have := HK1.out; have := HJ5.out; have := HK3.out; omega
            case rel => exact ⟨(wrap64 (x11_1 + 1)), zf, H', ⟨by have := HK1.out; have := HJ5.out; have := HK3.out; omega⟩, ⟨by repeat (first | (with_reducible first | exact HB.out | apply below_alloc | apply pw_below_drewN | apply below_drew1 | refine below_set ?_ GE342.out) | exact HB.out)⟩⟩
     ·rw [if_neg c5] at H
      exact absurd H (by simp)
    ·rw [if_neg c4] at H
     exact absurd H (by simp)
   ·rw [if_neg c3] at H
    have c3b0 : decide (x11_1 < (l1.length : Int)) = false := decide_eq_false c3
    clear c3
    by_cases c34 : (l1.length : Int) ≤ 20
    ·rw [if_pos c34] at H
     have c34b0 : decide ((l1.length : Int) ≤ 20) = true := decide_eq_true c34
     have c34b1 : decide (l1.length ≤ 20) = true := decide_eq_true (by omega)
     clear c34
     replace H := Option.bind_eq_some_iff.mp H
     obtain ⟨t340, A350, H⟩ := H
     replace H : (some t340) = some r := H
     have A35 := Aside0.mk A350
     clear A350
     obtain rfl := Option.some.inj H
     go_wp2_with (first | (go_at_call 114; (with_reducible refine (spec_l1In.calls a0 0 40 t340 _ A35.out).mono ?_); rintro e w' ⟨rfl, ⟨nd, rfl⟩⟩; (try exact zd)))
     repeat (go_quiet (first | (go_at_call 114; (with_reducible refine (spec_l1In.calls a0 0 40 t340 _ A35.out).mono ?_); rintro e w' ⟨rfl, ⟨nd, rfl⟩⟩; (try exact zd))); try go_wp2_with (first | (go_at_call 114; (with_reducible refine (spec_l1In.calls a0 0 40 t340 _ A35.out).mono ?_); rintro e w' ⟨rfl, ⟨nd, rfl⟩⟩; (try exact zd))))
     go_ret
     exact ⟨by first | rfl | (simp [errW_none, errW_some] <;> rfl) | (simp [*, errW_none, errW_some] <;> rfl), by repeat (first | (with_reducible first | exact HB.out | apply below_alloc | apply pw_below_drewN | apply below_drew1) | exact HB.out)⟩
    ·rw [if_neg c34] at H
     have c34b0 : decide ((l1.length : Int) ≤ 20) = false := decide_eq_false c34
     have c34b1 : decide (l1.length ≤ 20) = false := decide_eq_false (by omega)
     clear c34
     obtain rfl := Option.some.inj H
     go_wp2
     repeat (go_quiet (fail); try go_wp2)
     go_ret
     exact ⟨by first | rfl | (simp [errW_none, errW_some] <;> rfl) | (simp [*, errW_none, errW_some] <;> rfl), by repeat (first | (with_reducible first | exact HB.out | apply below_alloc | apply pw_below_drewN | apply below_drew1) | exact HB.out)⟩

end Go.Proofs.Ytcefenlblnediaa.My

/- Plain Lean: chapter 2: when hunks are good, for the program and the reference. Conditions: lengths and sizes below 2^63. -/
namespace Go.Proofs.Ytcefenlblnediaa.Pl
open Go.RowKit Go.Proofs.YtcefenlblnediaaW.PrintWords Go.Proofs.YtcefenlblnediaaW.PrintLast Go.Proofs.Ytcefenlblnediaa.My
set_option linter.unusedVariables false
set_option linter.unusedSimpArgs false

/-- What one hunk must be, the last one having ended at p. -/
def hNum (n p : Int) (x : IH) : Prop := 0 ≤ x.f0 ∧ 0 ≤ x.f1 ∧ x.f0 + x.f1 ≤ n ∧ ¬ (x.f1 = 0 ∧ x.f2.length = 0) ∧ x.f2.length ≤ 40 ∧ p < x.f0
instance (n p : Int) (x : IH) : Decidable (hNum n p x) := by unfold hNum; infer_instance
def hOK (n p : Int) (x : IH) : Bool := decide (hNum n p x) && x.f2.all isLn
/-- Each starts past the last one's end. -/
def chain (n : Int) : Int → List IH → Bool
  | _, [] => true
  | p, x :: t => hOK n p x && chain n (x.f0 + x.f1) t
def goodH (n : Int) (h : List IH) : Bool := inB n 0 40 && (decide (h.length ≤ 20) && chain n (-1) h)

/-- Where the last one before place i ended. -/
def before (n : Int) (h : List IH) (i : Nat) (p : Int) : Prop := (i = 0 ∧ p = -1) ∨ ∃ (j : Nat) (hj : j < h.length), i = j + 1 ∧ p = h[j].f0 + h[j].f1 ∧ 0 ≤ h[j].f0 ∧ 0 ≤ h[j].f1 ∧ p ≤ n

theorem chain_cons (n p : Int) (h : List IH) (i : Nat) (hi : i < h.length) : chain n p (h.drop i) = (hOK n p h[i] && chain n (h[i].f0 + h[i].f1) (h.drop (i + 1))) := by
  rw [List.drop_eq_getElem_cons hi]
  rfl

theorem goodHunks_l0 (n : Int) (h : List IH) (hf : FitI h) (h0 : 0 ≤ n) (h1 : n ≤ 40) : ∀ d i p, i + d = h.length → before n h i p → Ev (fun k => impl_goodHunks.l0 k n h h (h.length : Int) (i : Int)) (chain n p (h.drop i)) := by
  intro d
  have hL := hf.1
  induction d with
  | zero =>
    intro i p hi hp
    refine Ev.step (fun k => impl_goodHunks.l0.eq_2 ..) (ev_neg (by omega) (ev_some ?_))
    rw [List.drop_of_length_le (by omega)]
    rfl
  | succ d ih =>
    intro i p hi hp
    have hlt : i < h.length := by omega
    obtain ⟨b0, b1, b2⟩ := hf.2 _ (List.getElem_mem hlt)
    refine Ev.step (fun k => impl_goodHunks.l0.eq_2 ..) ?_
    simp only [rdIH h i hlt, impl_in_eq, Option.bind_some, chain_cons n p h i hlt]
    generalize hx : h[i] = x at *
    have bad : ¬ (hNum n (-1) x ∧ x.f2.all isLn = true) → Ev (fun k => impl_goodHunks.j2 k n h (i : Int) h (h.length : Int) (i : Int) true x.f0 x.f1 x.f2) (hOK n p x && chain n (x.f0 + x.f1) (h.drop (i + 1))) := by
      intro hb
      refine Ev.step (fun k => impl_goodHunks.j2.eq_2 ..) (ev_pos rfl (ev_some ?_))
      have : hOK n p x = false := by
        rw [Bool.eq_false_iff]
        intro ht
        unfold hOK at ht
        rw [Bool.and_eq_true, decide_eq_true_eq] at ht
        obtain ⟨⟨q0, q1, q2, q3, q4, q5⟩, q6⟩ := ht
        exact hb ⟨⟨q0, q1, q2, q3, q4, by omega⟩, q6⟩
      rw [this]
      rfl
    have ok : hNum n (-1) x → x.f2.all isLn = true → Ev (fun k => impl_goodHunks.j2 k n h (i : Int) h (h.length : Int) (i : Int) false x.f0 x.f1 x.f2) (hOK n p x && chain n (x.f0 + x.f1) (h.drop (i + 1))) := by
      intro hb hl
      obtain ⟨q0, q1, q2, q3, q4, q5⟩ := hb
      have nx : before n h (i + 1) (x.f0 + x.f1) := .inr ⟨i, hlt, rfl, by rw [hx], by rw [hx]; exact q0, by rw [hx]; exact q1, q2⟩
      have go : p < x.f0 → Ev (fun k => impl_goodHunks.l0 k n h h (h.length : Int) (wrap64 ((i : Int) + 1))) (hOK n p x && chain n (x.f0 + x.f1) (h.drop (i + 1))) := by
        intro hp
        rw [wrap_succ i (by omega)]
        refine ev_to (ih (i + 1) _ (by omega) nx) ?_
        have : hOK n p x = true := by
          unfold hOK
          rw [Bool.and_eq_true, decide_eq_true_eq]
          exact ⟨⟨q0, q1, q2, q3, q4, hp⟩, hl⟩
        rw [this, Bool.true_and]
      refine Ev.step (fun k => impl_goodHunks.j2.eq_2 ..) (ev_neg (by simp) (ev_ite (fun hi0 => ?_) (fun hi0 => go ?_)))
      · rcases hp with ⟨e, _⟩ | ⟨j, hj, rfl, rfl, r0, r1, r2⟩
        · omega
        · have ew : wrap64 (((j + 1 : Nat) : Int) - 1) = (j : Int) := by rw [wrap64_id (by omega) (by omega)]; omega
          simp only [ew, rdIH h j hj]
          rw [wrap64_id (by omega) (by omega)]
          refine ev_pos (by omega) (ev_pos (by omega) (ev_ite (fun hc => ev_some ?_) (fun hc => go (by omega))))
          have : hOK n (h[j].f0 + h[j].f1) x = false := by
            rw [Bool.eq_false_iff]
            intro ht
            unfold hOK at ht
            rw [Bool.and_eq_true, decide_eq_true_eq] at ht
            have := ht.1.2.2.2.2.2
            omega
          rw [this]
          rfl
      · rcases hp with ⟨_, e⟩ | ⟨j, hj, e, _⟩ <;> omega
    refine ev_pos (by omega) (ev_pos (by omega) (ev_pos (by omega) (ev_ite (fun c0 => ?_) (fun c0 => bad (fun hb => c0 ?_)))))
    · rw [inB_iff] at c0
      rw [wrap64_id (by omega) (by omega)]
      refine ev_ite (fun c1 => ?_) (fun c1 => bad (fun hb => c1 ?_))
      · rw [inB_iff] at c1
        refine ev_bind (areLines_ev x.f2 b2) (ev_ite (fun c2 => ?_) (fun c2 => bad (fun hb => c2 ?_)))
        · rw [Bool.and_eq_true, decide_eq_true_eq] at c2
          refine ev_ite (fun c3 => ?_) (fun c3 => ok ⟨c0.1, c1.1, by omega, fun e => c3 e.1, c2.1, by omega⟩ c2.2)
          by_cases c4 : x.f2.length = 0
          · rw [show (((x.f2.length : Int) == 0) = true) from by rw [c4]; rfl]
            exact bad (fun hb => hb.1.2.2.2.1 ⟨c3, c4⟩)
          · rw [show (((x.f2.length : Int) == 0) = false) from by rw [beq_eq_false_iff_ne]; omega]
            exact ok ⟨c0.1, c1.1, by omega, fun e => c4 e.2, c2.1, by omega⟩ c2.2
        · rw [Bool.and_eq_true, decide_eq_true_eq]
          exact ⟨hb.1.2.2.2.2.1, hb.2⟩
      · rw [inB_iff]
        obtain ⟨⟨q0, q1, q2, q3, q4, q5⟩, q6⟩ := hb
        omega
    · rw [inB_iff]
      obtain ⟨⟨q0, q1, q2, q3, q4, q5⟩, q6⟩ := hb
      omega

theorem goodHunks_ev (n : Int) (h : List IH) (hf : FitI h) : Ev (fun k => impl_goodHunks.f k n h) (goodH n h) := by
  simp only [impl_goodHunks.f, impl_in_eq, Option.bind_some]
  unfold goodH
  refine ev_ite (fun c => ?_) (fun c => ?_)
  · rw [c, Bool.true_and]
    rw [inB_iff] at c
    refine Ev.step (fun k => impl_goodHunks.j0.eq_2 ..) (ev_ite (fun e => ev_some ?_) (fun e => ?_))
    · rw [decide_eq_true_eq] at e
      rw [decide_eq_false (by omega), Bool.false_and]
    · rw [decide_eq_true_eq] at e
      rw [decide_eq_true (by omega), Bool.true_and]
      exact goodHunks_l0 n h hf c.1 c.2 h.length 0 (-1) (by omega) (.inl ⟨rfl, rfl⟩)
  · refine Ev.step (fun k => impl_goodHunks.j0.eq_2 ..) (ev_pos rfl (ev_some ?_))
    rw [Bool.not_eq_true] at c
    rw [c, Bool.false_and]
end Go.Proofs.Ytcefenlblnediaa.Pl

/- Plain Lean: chapter 2: when hunks are good for the reference: as for the program. Conditions: lengths and sizes below 2^63. -/
namespace Go.Proofs.Ytcefenlblnediaa.Pl
open Go.RowKit Go.Proofs.YtcefenlblnediaaW.PrintWords Go.Proofs.YtcefenlblnediaaW.PrintLast Go.Proofs.Ytcefenlblnediaa.My
set_option linter.unusedVariables false
set_option linter.unusedSimpArgs false

theorem wrap_zero (a : Int) (m : Nat) (h0 : 0 ≤ a) (h1 : a ≤ 9223372036854775807) (h2 : m ≤ 9223372036854775807) : wrap64 (a + (m : Int)) = 0 ↔ a = 0 ∧ m = 0 := by
  unfold wrap64
  omega

theorem l2Hunks_l0 (n : Int) (h : List IH) (hf : FitI h) (hn0 : -9223372036854775808 ≤ n) (hn : n ≤ 9223372036854775807) : ∀ d i p, i + d = h.length → before n h i p → Ev (fun k => spec_l2Hunks.l0 k n h h (h.length : Int) (i : Int)) (chain n p (h.drop i) && (decide (h.length ≤ 20) && inB n 0 40)) := by
  intro d
  have hL := hf.1
  induction d with
  | zero =>
    intro i p hi hp
    refine Ev.step (fun k => spec_l2Hunks.l0.eq_2 ..) (ev_neg (by omega) ?_)
    rw [List.drop_of_length_le (by omega)]
    simp only [spec_l1In_eq, Option.bind_some]
    refine ev_ite (fun c => ev_some ?_) (fun c => ev_some ?_)
    · rw [decide_eq_true (by omega)]
      rfl
    · rw [decide_eq_false (by omega)]
      rfl
  | succ d ih =>
    intro i p hi hp
    have hlt : i < h.length := by omega
    obtain ⟨b0, b1, b2⟩ := hf.2 _ (List.getElem_mem hlt)
    refine Ev.step (fun k => spec_l2Hunks.l0.eq_2 ..) ?_
    simp only [rdIH h i hlt, chain_cons n p h i hlt]
    generalize hx : h[i] = x at *
    have no : ¬ (hNum n p x ∧ x.f2.all isLn = true) → hOK n p x = false := by
      intro hb
      rw [Bool.eq_false_iff]
      intro ht
      unfold hOK at ht
      rw [Bool.and_eq_true, decide_eq_true_eq] at ht
      exact hb ht
    have bad : ¬ hNum n p x → Ev (fun k => spec_l2Hunks.j1 k n h h (h.length : Int) (i : Int) true x.f0 x.f1 x.f2) (hOK n p x && chain n (x.f0 + x.f1) (h.drop (i + 1)) && (decide (h.length ≤ 20) && inB n 0 40)) := by
      intro hb
      refine Ev.step (fun k => spec_l2Hunks.j1.eq_2 ..) (ev_pos rfl (ev_some ?_))
      rw [no (fun c => hb c.1)]
      rfl
    have ok : hNum n p x → Ev (fun k => spec_l2Hunks.j1 k n h h (h.length : Int) (i : Int) false x.f0 x.f1 x.f2) (hOK n p x && chain n (x.f0 + x.f1) (h.drop (i + 1)) && (decide (h.length ≤ 20) && inB n 0 40)) := by
      intro hb
      have nx : before n h (i + 1) (x.f0 + x.f1) := .inr ⟨i, hlt, rfl, by rw [hx], by rw [hx]; exact hb.1, by rw [hx]; exact hb.2.1, hb.2.2.1⟩
      have lp : ∀ e r, r + e = x.f2.length → Ev (fun k => spec_l2Hunks.l1 k n h h (h.length : Int) (i : Int) x.f2 (x.f2.length : Int) (r : Int)) (((x.f2.drop r).all isLn && chain n (x.f0 + x.f1) (h.drop (i + 1))) && (decide (h.length ≤ 20) && inB n 0 40)) := by
        intro e
        have hT := b2.1
        induction e with
        | zero =>
          intro r hr
          refine Ev.step (fun k => spec_l2Hunks.l1.eq_2 ..) (ev_neg (by omega) ?_)
          rw [List.drop_of_length_le (l := x.f2) (by omega), wrap_succ i (by omega), List.all_nil, Bool.true_and]
          exact ih (i + 1) _ (by omega) nx
        | succ e ihe =>
          intro r hr
          have hrt : r < x.f2.length := by omega
          refine Ev.step (fun k => spec_l2Hunks.l1.eq_2 ..) (ev_pos (by omega) (ev_pos (by omega) (ev_pos (by omega) ?_)))
          rw [rdOf_lt _ _ _ hrt, drop_cons x.f2 r hrt, List.all_cons]
          refine ev_bind (l1Line_ev _ (b2.2 _ (List.getElem_mem hrt))) (ev_ite (fun c => ?_) (fun c => ev_some ?_))
          · rw [wrap_succ r (by omega), c, Bool.true_and]
            exact ihe (r + 1) (by omega)
          · rw [Bool.not_eq_true] at c
            rw [c]
            rfl
      refine Ev.step (fun k => spec_l2Hunks.j1.eq_2 ..) (ev_neg (by simp) (ev_to (lp x.f2.length 0 (by omega)) ?_))
      unfold hOK
      rw [decide_eq_true hb, Bool.true_and, List.drop_zero]
    refine ev_pos (by omega) (ev_pos (by omega) (ev_pos (by omega) (ev_ite (fun c => bad (fun hb => ?_)) (fun c0 => ev_ite (fun c => bad (fun hb => ?_)) (fun c1 => ev_ite (fun c => bad (fun hb => ?_)) (fun c2 => ?_))))))
    · have := hb.1
      omega
    · have := hb.2.1
      omega
    · obtain ⟨q0, q1, q2, q3, q4, q5⟩ := hb
      omega
    rw [wrap64_id (x := n - x.f1) (by omega) (by omega)]
    refine ev_ite (fun c => bad (fun hb => ?_)) (fun c3 => ev_ite (fun c => bad (fun hb => ?_)) (fun c4 => ev_ite (fun c => bad (fun hb => ?_)) (fun c5 => ?_)))
    · have := hb.2.2.1
      omega
    · rw [wrap_zero _ _ (by omega) (by omega) b2.1] at c
      exact hb.2.2.2.1 c
    · have := hb.2.2.2.2.1
      omega
    rw [wrap_zero _ _ (by omega) (by omega) b2.1] at c4
    rcases hp with ⟨rfl, rfl⟩ | ⟨j, hj, rfl, rfl, r0, r1, r2⟩
    · refine ev_neg (by omega) (ok ⟨by omega, by omega, by omega, c4, by omega, by omega⟩)
    · have ew : wrap64 (((j + 1 : Nat) : Int) - 1) = (j : Int) := by rw [wrap64_id (by omega) (by omega)]; omega
      simp only [ew, rdIH h j hj]
      rw [wrap64_id (x := h[j].f0 + h[j].f1) (by omega) (by omega)]
      refine ev_pos (by omega) (ev_pos (by omega) (ev_pos (by omega) ?_))
      by_cases c : x.f0 ≤ h[j].f0 + h[j].f1
      · rw [decide_eq_true c]
        refine bad (fun hb => ?_)
        have := hb.2.2.2.2.2
        omega
      · rw [decide_eq_false c]
        exact ok ⟨by omega, by omega, by omega, c4, by omega, by omega⟩

theorem l2Hunks_ev (n : Int) (h : List IH) (hf : FitI h) (hn0 : -9223372036854775808 ≤ n) (hn : n ≤ 9223372036854775807) : Ev (fun k => spec_l2Hunks.f k n h) (goodH n h) := by
  simp only [spec_l2Hunks.f]
  refine ev_to (l2Hunks_l0 n h hf hn0 hn h.length 0 (-1) (by omega) (.inl ⟨rfl, rfl⟩)) ?_
  unfold goodH
  rw [List.drop_zero]
  cases inB n 0 40 <;> cases chain n (-1) h <;> cases decide (h.length ≤ 20) <;> rfl
end Go.Proofs.Ytcefenlblnediaa.Pl

/- Plain Lean: chapter 2: good hunks' numbers are small. No condition. -/
namespace Go.Proofs.Ytcefenlblnediaa.Pl
open Go.RowKit Go.Proofs.YtcefenlblnediaaW.PrintWords Go.Proofs.YtcefenlblnediaaW.PrintLast Go.Proofs.Ytcefenlblnediaa.My
set_option linter.unusedVariables false
set_option linter.unusedSimpArgs false

/-- All numbers small. -/
def near (h : List IH) : Prop := ∀ x ∈ h, 0 ≤ x.f0 ∧ x.f0 ≤ 40 ∧ 0 ≤ x.f1 ∧ x.f1 ≤ 40 ∧ x.f2.length ≤ 40

theorem near_of_chain {n : Int} (hn : n ≤ 40) : ∀ (h : List IH) (p : Int), chain n p h = true → near h := by
  intro h
  induction h with
  | nil => intro p _ x hx; simp at hx
  | cons y t ih =>
    intro p hc x hx
    simp only [chain, Bool.and_eq_true, hOK, decide_eq_true_eq] at hc
    rcases List.mem_cons.1 hx with rfl | hx
    · obtain ⟨⟨⟨q0, q1, q2, q3, q4, q5⟩, _⟩, _⟩ := hc
      omega
    · exact ih _ hc.2 x hx
theorem near_of_good {n : Int} {h : List IH} (g : goodH n h = true) : near h ∧ h.length ≤ 20 ∧ 0 ≤ n ∧ n ≤ 40 := by
  unfold goodH at g
  rw [Bool.and_eq_true, Bool.and_eq_true, inB_iff, decide_eq_true_eq] at g
  exact ⟨near_of_chain g.1.2 h _ g.2.2, g.2.1, g.1.1, g.1.2⟩

end Go.Proofs.Ytcefenlblnediaa.Pl

/- Plain Lean: chapter 2: how far a line is moved. No condition. -/
namespace Go.Proofs.Ytcefenlblnediaa.Pl
open Go.RowKit Go.Proofs.YtcefenlblnediaaW.PrintWords Go.Proofs.YtcefenlblnediaaW.PrintLast Go.Proofs.Ytcefenlblnediaa.My
set_option linter.unusedVariables false
set_option linter.unusedSimpArgs false

/-- How far line i is moved by the hunks ahead of it; none where it is gone. -/
def moved (i : Int) : List IH → Option Int
  | [] => some 0
  | x :: t => if x.f0 + x.f1 ≤ i then (moved i t).map (fun m => ((x.f2.length : Int) - x.f1) + m) else if x.f0 ≤ i then none else moved i t
theorem moved_bounds (i : Int) : ∀ (h : List IH), near h → ∀ m, moved i h = some m → -40 * (h.length : Int) ≤ m ∧ m ≤ 40 * (h.length : Int) := by
  intro h
  induction h with
  | nil => intro _ m hm; simp only [moved, Option.some.injEq] at hm; simp only [List.length_nil]; omega
  | cons y t ih =>
    intro hn m hm
    obtain ⟨q0, q1, q2, q3, q4⟩ := hn y (List.mem_cons_self ..)
    have ht := ih (fun x hx => hn x (List.mem_cons_of_mem _ hx))
    simp only [moved] at hm
    simp only [List.length_cons]
    split at hm
    · obtain ⟨m', h1, h2⟩ := Option.map_eq_some_iff.1 hm
      have := ht m' h1
      omega
    · split at hm
      · simp at hm
      · have := ht m hm
        omega

end Go.Proofs.Ytcefenlblnediaa.Pl

/- Plain Lean: lines that stay, told by where they stood or by where they come to lie, are the same; two tellings in turn, too. Asked: hunks in order. -/
namespace Go.Proofs.Ytcefenlblnediaa.Pl
open Go.RowKit Go.Proofs.YtcefenlblnediaaW.PrintWords Go.Proofs.YtcefenlblnediaaW.PrintLast Go.Proofs.Ytcefenlblnediaa.My
set_option linter.unusedVariables false
set_option linter.unusedSimpArgs false

/-- Hunks in order, behind p. -/
def chain' (n : Int) : Int → List IH → Prop
  | _, [] => True
  | p, x :: t => (0 ≤ x.f0 ∧ 0 ≤ x.f1 ∧ x.f0 + x.f1 ≤ n ∧ p < x.f0) ∧ chain' n (x.f0 + x.f1) t
/-- Of each line behind hunks where it stood, -1 of a new one; from place p of so many on. -/
def keptFrom (n : Nat) : Nat → List IH → List Int
  | p, [] => (List.range' p (n - p)).map (fun k : Nat => (k : Int))
  | p, x :: t => (List.range' p (x.f0.toNat - p)).map (fun k : Nat => (k : Int)) ++ (List.replicate x.f2.length (-1) ++ keptFrom n (x.f0 + x.f1).toNat t)
/-- The lines that stay, with their places behind hunks, those being q on. -/
def staysK : Nat → List Int → List (Nat × Nat)
  | _, [] => []
  | q, k :: t => if 0 ≤ k then (k.toNat, q) :: staysK (q + 1) t else staysK (q + 1) t
def staysP (h : List IH) : List Nat → List (Nat × Nat)
  | [] => []
  | k :: t => match moved (k : Int) h with
    | some m => if 0 ≤ (k : Int) + m then (k, ((k : Int) + m).toNat) :: staysP h t else staysP h t
    | none => staysP h t
theorem staysK_append : ∀ (l l' : List Int) (q : Nat), staysK q (l ++ l') = staysK q l ++ staysK (q + l.length) l'
  | [], l', q => by simp [staysK]
  | k :: t, l', q => by
    simp only [List.cons_append, staysK, List.length_cons, staysK_append t l' (q + 1)]
    rw [show q + (t.length + 1) = q + 1 + t.length from by omega]
    split <;> simp
theorem staysP_append (h : List IH) : ∀ (l l' : List Nat), staysP h (l ++ l') = staysP h l ++ staysP h l'
  | [], l' => rfl
  | k :: t, l' => by
    simp only [List.cons_append, staysP, staysP_append h t l']
    cases moved (k : Int) h with
    | none => rfl
    | some m => simp only; split <;> simp
theorem staysK_new (q : Nat) : ∀ n, staysK q (List.replicate n (-1)) = []
  | 0 => rfl
  | n + 1 => by simp only [List.replicate_succ, staysK]; rw [if_neg (by omega)]; exact staysK_new (q + 1) n
theorem staysK_range : ∀ (d p q : Nat), staysK q ((List.range' p d).map (fun k : Nat => (k : Int))) = (List.range d).map fun i => (p + i, q + i)
  | 0, _, _ => rfl
  | d + 1, p, q => by
    rw [List.range'_succ, List.map_cons, staysK, if_pos (Int.natCast_nonneg _), staysK_range d (p + 1) (q + 1), List.range_succ_eq_map, List.map_cons, List.map_map]
    simp only [Int.toNat_natCast, Nat.add_zero, List.cons.injEq, true_and]
    refine List.map_congr_left (fun i _ => ?_)
    simp only [Function.comp_apply, Prod.mk.injEq]
    omega
theorem staysP_shift (h : List IH) (m : Int) : ∀ (d p q : Nat), (∀ k, p ≤ k → k < p + d → moved (k : Int) h = some m) → (p : Int) + m = (q : Int) → staysP h (List.range' p d) = (List.range d).map fun i => (p + i, q + i)
  | 0, _, _, _, _ => rfl
  | d + 1, p, q, hm, hq => by
    rw [List.range'_succ, staysP, hm p (Nat.le_refl _) (by omega)]
    simp only
    rw [if_pos (by omega), staysP_shift h m d (p + 1) (q + 1) (fun k h1 h2 => hm k (by omega) (by omega)) (by omega), List.range_succ_eq_map, List.map_cons, List.map_map]
    have e : ((p : Int) + m).toNat = q := by omega
    rw [e]
    simp only [Nat.add_zero, List.cons.injEq, true_and]
    refine List.map_congr_left (fun i _ => ?_)
    simp only [Function.comp_apply, Prod.mk.injEq]
    omega
theorem staysP_none (h : List IH) : ∀ (d p : Nat), (∀ k, p ≤ k → k < p + d → moved (k : Int) h = none) → staysP h (List.range' p d) = []
  | 0, _, _ => rfl
  | d + 1, p, hm => by
    rw [List.range'_succ, staysP, hm p (Nat.le_refl _) (by omega)]
    exact staysP_none h d (p + 1) (fun k h1 h2 => hm k (by omega) (by omega))
theorem moved_ahead {n : Int} (i : Int) : ∀ (h : List IH) (p : Int), chain' n p h → i ≤ p → moved i h = some 0
  | [], _, _, _ => rfl
  | x :: t, p, hc, hi => by
    simp only [chain'] at hc
    simp only [moved]
    rw [if_neg (by omega), if_neg (by omega)]
    exact moved_ahead i t _ hc.2 (by omega)
theorem moved_first {n : Int} (i : Int) (x : IH) (t : List IH) (hc : chain' n (x.f0 + x.f1) t) (h1 : 0 ≤ x.f1) (hi : i < x.f0) : moved i (x :: t) = some 0 := by
  simp only [moved]
  rw [if_neg (by omega), if_neg (by omega)]
  exact moved_ahead i t _ hc (by omega)
theorem staysP_tail (x : IH) (t : List IH) (s : Int) (hs : s = (x.f2.length : Int) - x.f1) : ∀ (l : List Nat), (∀ k ∈ l, x.f0 + x.f1 ≤ (k : Int)) → (∀ k ∈ l, ∀ m, moved (k : Int) t = some m → 0 ≤ (k : Int) + m ∧ 0 ≤ (k : Int) + m + s) →
    staysP (x :: t) l = (staysP t l).map fun z => (z.1, ((z.2 : Int) + s).toNat)
  | [], _, _ => rfl
  | k :: l, hk, hm => by
    have e : moved (k : Int) (x :: t) = (moved (k : Int) t).map (fun m => s + m) := by
      simp only [moved]
      rw [if_pos (hk k (List.mem_cons_self ..)), hs]
    have ih := staysP_tail x t s hs l (fun j hj => hk j (List.mem_cons_of_mem _ hj)) (fun j hj => hm j (List.mem_cons_of_mem _ hj))
    simp only [staysP, e]
    cases h : moved (k : Int) t with
    | none => exact ih
    | some m =>
      obtain ⟨h1, h2⟩ := hm k (List.mem_cons_self ..) m h
      simp only [Option.map_some]
      rw [if_pos (by omega), if_pos (by omega), ih]
      simp only [List.map_cons, List.cons.injEq, Prod.mk.injEq, true_and, and_true]
      omega
theorem staysK_shift : ∀ (l : List Int) (q : Nat) (q' : Nat) (s : Int), (q : Int) + s = (q' : Int) → staysK q' l = (staysK q l).map fun z => (z.1, ((z.2 : Int) + s).toNat)
  | [], _, _, _, _ => rfl
  | k :: t, q, q', s, h => by
    have ih := staysK_shift t (q + 1) (q' + 1) s (by omega)
    simp only [staysK]
    split
    · rw [ih]
      simp only [List.map_cons, List.cons.injEq, Prod.mk.injEq, true_and, and_true]
      omega
    · exact ih
/-- A line behind p doesn't come to lie ahead of p. -/
theorem moved_low {n : Int} (i : Int) : ∀ (h : List IH) (p : Int), chain' n p h → p ≤ i → -1 ≤ p → ∀ m, moved i h = some m → p ≤ i + m ∧ (0 ≤ i → 0 ≤ i + m)
  | [], p, _, hi, _, m, hm => by simp only [moved, Option.some.injEq] at hm; omega
  | x :: t, p, hc, hi, hp, m, hm => by
    simp only [chain'] at hc
    simp only [moved] at hm
    split at hm
    · rename_i c
      obtain ⟨m', h1, h2⟩ := Option.map_eq_some_iff.1 hm
      have := (moved_low i t _ hc.2 c (by omega) m' h1).1
      omega
    · split at hm
      · cases hm
      · rename_i c1 c2
        rw [moved_ahead i t _ hc.2 (by omega)] at hm
        injection hm with hm
        omega
theorem stays_eq (n : Nat) : ∀ (h : List IH) (p : Nat) (a : Int), chain' (n : Int) a h → a ≤ (p : Int) → -1 ≤ a → (∀ x ∈ h, (p : Int) ≤ x.f0) → staysK p (keptFrom n p h) = staysP h (List.range' p (n - p))
  | [], p, a, _, _, _, _ => by
    simp only [keptFrom]
    rw [staysK_range, staysP_shift [] 0 (n - p) p p (fun k _ _ => rfl) (by omega)]
  | x :: t, p, a, hc, ha, ha1, hf => by
    simp only [chain'] at hc
    obtain ⟨⟨c0, c1, c2, c3⟩, hc'⟩ := hc
    have hp : (p : Int) ≤ x.f0 := hf x (List.mem_cons_self ..)
    have hsp : List.range' p (n - p) = List.range' p (x.f0.toNat - p) ++ (List.range' x.f0.toNat x.f1.toNat ++ List.range' (x.f0 + x.f1).toNat (n - (x.f0 + x.f1).toNat)) := by
      have e1 : (x.f0 + x.f1).toNat = x.f0.toNat + x.f1.toNat := by omega
      have e2 : x.f0.toNat + x.f1.toNat ≤ n := by omega
      have e3 : p ≤ x.f0.toNat := by omega
      rw [e1]
      generalize x.f0.toNat = u at *
      generalize x.f1.toNat = v at *
      obtain ⟨g, rfl⟩ : ∃ g, u = p + g := ⟨u - p, by omega⟩
      obtain ⟨r, rfl⟩ : ∃ r, n = p + g + v + r := ⟨n - (p + g + v), by omega⟩
      rw [show p + g + v + r - (p + g + v) = r from by omega, show p + g - p = g from by omega, List.range'_append_1, List.range'_append_1]
      congr 1
      omega
    rw [hsp, staysP_append, staysP_append, keptFrom, staysK_append, staysK_append, staysK_new, List.nil_append]
    rw [staysK_range, staysP_shift (x :: t) 0 (x.f0.toNat - p) p p (fun k h1 h2 => moved_first k x t hc' c1 (by omega)) (by omega)]
    rw [staysP_none (x :: t) x.f1.toNat x.f0.toNat (fun k h1 h2 => by
      simp only [moved]
      rw [if_neg (by omega), if_pos (by omega)]), List.nil_append]
    congr 1
    have ht : ∀ y ∈ t, ((x.f0 + x.f1).toNat : Int) ≤ y.f0 := by
      intro y hy
      have : ∀ (l : List IH) (q : Int), chain' (n : Int) q l → ∀ z ∈ l, q ≤ z.f0 := by
        intro l
        induction l with
        | nil => intro q _ z hz; cases hz
        | cons u l ih =>
          intro q hq z hz
          simp only [chain'] at hq
          rcases List.mem_cons.1 hz with rfl | hz
          · omega
          · have := ih _ hq.2 z hz
            omega
      have := this t _ hc' y hy
      omega
    have ih := stays_eq n t (x.f0 + x.f1).toNat (x.f0 + x.f1) hc' (by omega) (by omega) ht
    rw [staysP_tail x t _ rfl _ (fun k hk => by have := (List.mem_range'_1.1 hk).1; omega) (fun k hk m hm => by
      have h1 := (List.mem_range'_1.1 hk).1
      have h2 := (moved_low (k : Int) t _ hc' (by omega) (by omega) m hm).1
      omega), ← ih]
    refine staysK_shift _ _ _ _ ?_
    simp only [List.length_map, List.length_range', List.length_replicate]
    omega
/-- Pairs that follow one another by way of a middle place. -/
def joinA (B : List (Nat × Nat)) : List (Nat × Nat) → List (Nat × Nat)
  | [] => []
  | z :: t => match B.find? (fun y => y.1 == z.2) with
    | some y => (z.1, y.2) :: joinA B t
    | none => joinA B t
def joinB (A : List (Nat × Nat)) : List (Nat × Nat) → List (Nat × Nat)
  | [] => []
  | y :: t => match A.find? (fun z => z.2 == y.1) with
    | some z => (z.1, y.2) :: joinB A t
    | none => joinB A t
theorem joinA_skip (y : Nat × Nat) (B : List (Nat × Nat)) : ∀ A : List (Nat × Nat), (∀ z ∈ A, y.1 ≠ z.2) → joinA (y :: B) A = joinA B A
  | [], _ => rfl
  | z :: t, h => by
    simp only [joinA, List.find?_cons]
    rw [show (y.1 == z.2) = false from by simp [h z (List.mem_cons_self ..)], joinA_skip y B t (fun w hw => h w (List.mem_cons_of_mem _ hw))]
theorem joinB_skip (z : Nat × Nat) (A : List (Nat × Nat)) : ∀ B : List (Nat × Nat), (∀ y ∈ B, z.2 ≠ y.1) → joinB (z :: A) B = joinB A B
  | [], _ => rfl
  | y :: t, h => by
    simp only [joinB, List.find?_cons]
    rw [show (z.2 == y.1) = false from by simp [h y (List.mem_cons_self ..)], joinB_skip z A t (fun w hw => h w (List.mem_cons_of_mem _ hw))]
theorem joinA_nil : ∀ A : List (Nat × Nat), joinA [] A = []
  | [] => rfl
  | z :: t => by simp only [joinA, List.find?_nil]; exact joinA_nil t
theorem joinB_nil : ∀ B : List (Nat × Nat), joinB [] B = []
  | [] => rfl
  | z :: t => by simp only [joinB, List.find?_nil]; exact joinB_nil t
theorem join_eq : ∀ (n : Nat) (A B : List (Nat × Nat)), A.length + B.length = n → A.Pairwise (fun u v => u.2 < v.2) → B.Pairwise (fun u v => u.1 < v.1) → joinA B A = joinB A B := by
  intro n
  induction n using Nat.strongRecOn with
  | _ n ih =>
    intro A B hn hA hB
    cases A with
    | nil => rw [joinB_nil]; rfl
    | cons z A =>
      cases B with
      | nil => rw [joinA_nil]; rfl
      | cons y B =>
        simp only [List.length_cons] at hn
        have hA' := List.pairwise_cons.1 hA
        have hB' := List.pairwise_cons.1 hB
        by_cases h1 : z.2 = y.1
        · have e1 : joinA (y :: B) (z :: A) = (z.1, y.2) :: joinA (y :: B) A := by
            simp only [joinA, List.find?_cons]
            rw [show (y.1 == z.2) = true from by simp [h1]]
          have e2 : joinB (z :: A) (y :: B) = (z.1, y.2) :: joinB (z :: A) B := by
            simp only [joinB, List.find?_cons]
            rw [show (z.2 == y.1) = true from by simp [h1]]
          rw [e1, e2, joinA_skip y B A (fun w hw => by have := hA'.1 w hw; omega), joinB_skip z A B (fun w hw => by have := hB'.1 w hw; omega), ih (A.length + B.length) (by omega) A B rfl hA'.2 hB'.2]
        · by_cases h2 : z.2 < y.1
          · have e1 : joinA (y :: B) (z :: A) = joinA (y :: B) A := by
              simp only [joinA]
              rw [List.find?_eq_none.2 (fun w hw => by
                rcases List.mem_cons.1 hw with rfl | hw
                · simp; omega
                · have := hB'.1 w hw; simp; omega)]
            rw [e1, joinB_skip z A (y :: B) (fun w hw => by
              rcases List.mem_cons.1 hw with rfl | hw
              · omega
              · have := hB'.1 w hw; omega)]
            exact ih (A.length + (B.length + 1)) (by omega) A (y :: B) (by simp only [List.length_cons]) hA'.2 hB
          · have e2 : joinB (z :: A) (y :: B) = joinB (z :: A) B := by
              simp only [joinB]
              rw [List.find?_eq_none.2 (fun w hw => by
                rcases List.mem_cons.1 hw with rfl | hw
                · simp; omega
                · have := hA'.1 w hw; simp; omega)]
            rw [e2, joinA_skip y B (z :: A) (fun w hw => by
              rcases List.mem_cons.1 hw with rfl | hw
              · omega
              · have := hA'.1 w hw; omega)]
            exact ih (A.length + 1 + B.length) (by omega) (z :: A) B (by simp only [List.length_cons]) hA hB'.2
end Go.Proofs.Ytcefenlblnediaa.Pl

/- The program's kept: for each line behind hunks where it stood. By hand, for it holds a function value that writes what it captures. Asked: good hunks' bounds. -/
namespace Go.Proofs.Ytcefenlblnediaa.My
open Go.RowKit Go.Proofs.YtcefenlblnediaaW.PrintWords Go.Proofs.YtcefenlblnediaaW.PrintLast Go.Proofs.YtcefenlblnediaaW.PrintMore Go.Proofs.Ytcefenlblnediaa.Pl
set_option linter.unusedVariables false
set_option linter.unusedSimpArgs false

/-- The two variables that the function value captures, and the list. -/
structure Caught (w0 w : World) (ga go q : Nat) (v : Value) (ys : List Int) : Prop where
  a : w.heap[ga]? = some (.cells #[.int .i64 (q : Int)] 3 (0, 0))
  o : w.heap[go]? = some (.cells #[v] 113 (0, 0))
  r : Kd.R (Kd.int .i64) 3 w w0.heap.size (fun k => k ≠ ga ∧ k ≠ go) v ys
  b : Below w0.heap.size w0 w
  ne : ga ≠ go
  ba : w0.heap.size ≤ ga
  bo : w0.heap.size ≤ go
/-- Blocks of other types stay. -/
def Stays (w w' : World) : Prop := w.heap.size ≤ w'.heap.size ∧ ∀ (g : Nat) (cells : Array Value) (t : TypeId), w.heap[g]? = some (.cells cells t (0, 0)) → t ≠ 3 → t ≠ 113 → w'.heap[g]? = some (.cells cells t (0, 0))
theorem Stays.refl (w : World) : Stays w w := ⟨Nat.le_refl _, fun _ _ _ h _ _ => h⟩
theorem Stays.trans {w w1 w2 : World} (h : Stays w w1) (h' : Stays w1 w2) : Stays w w2 := ⟨Nat.le_trans h.1 h'.1, fun g c t e h1 h2 => h'.2 g c t (h.2 g c t e h1 h2) h1 h2⟩
/-- What is written into the list and into the two variables. -/
theorem Caught.put {w0 W w1 : World} {ga go q : Nat} {v v1 : Value} {ys zs : List Int} (h : Caught w0 W ga go q v ys) (ho : Kd.R (Kd.int .i64) 3 w1 w0.heap.size (fun k => k ≠ ga ∧ k ≠ go) v1 zs) (hb : Below w0.heap.size w0 w1) (hg : W.grownBy w1 v.ownBlock) :
    Caught w0 (w1.setCell ⟨go, 0, none⟩ v1) ga go q v1 zs := by
  have n1 : some ga ≠ v.ownBlock := fun e => (h.r.1 ga e.symm).1 rfl
  have n2 : some go ≠ v.ownBlock := fun e => (h.r.1 go e.symm).2 rfl
  exact ⟨blk_far (blk_grown h.a hg n1) h.ne v1, blk_put (blk_grown h.o hg n2) 0 v1 rfl, Kd.R_far ho (p := ⟨go, 0, none⟩) (fun k hk => hk.2) v1, below_set hb h.bo, h.ne, h.ba, h.bo⟩
theorem Caught.move {w0 W : World} {ga go q : Nat} {v : Value} {ys : List Int} (h : Caught w0 W ga go q v ys) (q' : Nat) : Caught w0 (W.setCell ⟨ga, 0, none⟩ (.int .i64 (q' : Int))) ga go q' v ys :=
  ⟨blk_put h.a 0 _ rfl, blk_far h.o (fun e => h.ne e.symm) _, Kd.R_far h.r (p := ⟨ga, 0, none⟩) (fun k hk => hk.1) _, below_set h.b h.ba, h.ne, h.ba, h.bo⟩
theorem Stays.put {w0 w W w1 : World} {ga go q : Nat} {v v1 : Value} {ys : List Int} (h : Caught w0 W ga go q v ys) (hs : Stays w W) (hg : W.grownBy w1 v.ownBlock) : Stays w (w1.setCell ⟨go, 0, none⟩ v1) := by
  refine ⟨by have := hg.size; have := hs.1; simp only [World.size_setCell]; omega, fun g c t e h1 h2 => ?_⟩
  have e2 := hs.2 g c t e h1 h2
  have n1 : some g ≠ v.ownBlock := Kd.R_ne h.r e2 (fun e => h1 e.symm)
  exact blk_far (blk_grown e2 hg n1) (fun e3 => by
    have e4 : g = go := e3
    subst e4
    have := h.o
    rw [e2] at this
    injection this with this
    injection this with _ this
    exact h2 this) v1
theorem Stays.move {w0 w W : World} {ga go q : Nat} {v : Value} {ys : List Int} (h : Caught w0 W ga go q v ys) (hs : Stays w W) (u : Value) : Stays w (W.setCell ⟨ga, 0, none⟩ u) := by
  refine ⟨by have := hs.1; simp only [World.size_setCell]; omega, fun g c t e h1 h2 => ?_⟩
  have e2 := hs.2 g c t e h1 h2
  exact blk_far e2 (fun e3 => by
    have e4 : g = ga := e3
    subst e4
    have := h.a
    rw [e2] at this
    injection this with this
    injection this with _ this
    exact h1 this) u
theorem Caught.cells {w0 W : World} {ga go q : Nat} {v : Value} {ys : List Int} (h : Caught w0 W ga go q v ys) : W.cell? ⟨ga, 0, none⟩ = some (.int .i64 (q : Int)) ∧ W.cell? ⟨go, 0, none⟩ = some v ∧ W.frozen? ⟨ga, 0, none⟩ = false ∧ W.frozen? ⟨go, 0, none⟩ = false :=
  ⟨(blk_cell h.a 0).trans rfl, (blk_cell h.o 0).trans rfl, blk_frozen h.a 0, blk_frozen h.o 0⟩

/-- What the function value leaves. -/
def StayPost (w0 w : World) (ga go p t : Nat) (xs : List Int) (e : Ending) (w' : World) : Prop :=
  e = .returned (.tuple #[]) ∧ ∃ v', Caught w0 w' ga go (max p t) v' (xs ++ (List.range' p (t - p)).map (fun k : Nat => (k : Int))) ∧ Stays w w'
/-- At a round's begin. -/
def StayInv (w0 w : World) (ga go p t : Nat) (xs : List Int) (kq : Nat) (w' : World) : Prop :=
  ∃ (q : Nat) (v : Value), p ≤ q ∧ q ≤ max p t ∧ kq = t - q ∧ Caught w0 w' ga go q v (xs ++ (List.range' p (q - p)).map (fun k : Nat => (k : Int))) ∧ Stays w w'
theorem range_more (p q : Nat) (h : p ≤ q) (xs : List Int) : xs ++ (List.range' p (q - p)).map (fun k : Nat => (k : Int)) ++ [(q : Int)] = xs ++ (List.range' p (q + 1 - p)).map (fun k : Nat => (k : Int)) := by
  rw [show q + 1 - p = (q - p) + 1 from by omega, List.range'_1_concat, List.map_append, List.append_assoc, show p + (q - p) = q from by omega]
  rfl

set_option maxHeartbeats 8000000 in
set_option maxRecDepth 100000 in
theorem stay_made (w0 w : World) (ga go p t : Nat) (v : Value) (xs : List Int) (hc : Caught w0 w ga go p v xs) (hl : xs.length + (t - p) ≤ 1000000) (ht : t ≤ 1000000) (hp : p ≤ 1000000) :
    Calls Try.prog 156 #[.int .i64 (t : Int), .pointer (some ⟨ga, 0, none⟩), .pointer (some ⟨go, 0, none⟩)] w (StayPost w0 w ga go p t xs) := by
  have HC := Aside0.mk hc
  have HL := Aside0.mk hl
  clear hc hl
  go_enter Try.func156, Try.ntmps156
  go_wp2_with fail
  go_loopg [] (t - p) (fun kq w' => Aside0 (StayInv w0 w ga go p t xs kq w'))
  case atStart => exact ⟨p, v, Nat.le_refl _, by omega, rfl, by rw [Nat.sub_self]; simpa using HC.out, Stays.refl _⟩
  case round =>
    obtain ⟨q, v1, h1, h2, h3, hcc, hss⟩ := hrel.out
    obtain ⟨ys, hys⟩ : ∃ ys, ys = xs ++ (List.range' p (q - p)).map (fun k : Nat => (k : Int)) := ⟨_, rfl⟩
    have hyl : ys.length = xs.length + (q - p) := by rw [hys, List.length_append, List.length_map, List.length_range']
    rw [← hys] at hcc
    have HCC := Aside0.mk hcc
    have HSS := Aside0.mk hss
    have HQ := Aside0.mk h3
    have HY := Aside0.mk hys
    have HYL := Aside0.mk hyl
    clear hrel hcc hss h3 hys hyl
    obtain ⟨c1, c2, c3, c4⟩ := HCC.out.cells
    by_cases hi : q < t
    · have hd : decide ((q : Int) < (t : Int)) = true := decide_eq_true (by omega)
      have hd2 : decide (q < t) = true := decide_eq_true hi
      obtain ⟨zs, hzs⟩ : ∃ zs, zs = ys ++ [(q : Int)] := ⟨_, rfl⟩
      have HZ := Aside0.mk hzs
      clear hzs
      go_wp2_with (first | (at_builtin; refine Kd.R_append (Kd.int .i64) (w0 := w0) w0.heap.size rfl (.tmp 9) (.tmp 11) 113 3 (.int .i64 0) 8 rfl Try.underlying113 info3 rfl (by decide) (by omega) v1 ys (q : Int) [.int .i64 (q : Int)] (fun k => k ≠ ga ∧ k ≠ go) (fun _ => False) rfl (by first | (go_simp; done) | (go_simp; rfl)) rfl (fun _ hk => hk.elim) (fun k hk => ⟨by have := blk_lt HCC.out.a; omega, by have := blk_lt HCC.out.o; omega⟩) HCC.out.r HCC.out.b HCC.out.b.size (by have := HL.out; have := HYL.out; omega) ?_; intro v2 w2 ho hb hg hat; rw [← HZ.out] at ho; obtain ⟨A2, C2, rfl⟩ := Kd.R_slice ho; have HP := Aside0.mk (HCC.out.put ho hb hg); have HT := Aside0.mk (Stays.put HCC.out HSS.out hg (v1 := .slice A2 zs.length C2)); have d7 := blk_frozen (blk_grown HCC.out.o hg (fun e => (HCC.out.r.1 go e.symm).2 rfl)) 0; have d8 := (blk_cell (blk_grown HCC.out.o hg (fun e => (HCC.out.r.1 go e.symm).2 rfl)) 0).trans rfl; clear ho hb hat hg; obtain ⟨d1, d2, d3, d4⟩ := HP.out.cells))
      go_roundg (t - (q + 1))
      case measure => have := HQ.out; omega
      case rel => exact ⟨q + 1, .slice A2 zs.length C2, by omega, by omega, rfl, by
        have e := HP.out.move (q + 1)
        rw [show ((q + 1 : Nat) : Int) = (q : Int) + 1 from by omega, HZ.out, HY.out, range_more p q h1] at e
        rw [HZ.out, HY.out, range_more p q h1]
        exact e, Stays.move HP.out HT.out _⟩
    · have hd : decide ((q : Int) < (t : Int)) = false := decide_eq_false (by omega)
      have hd2 : decide (q < t) = false := decide_eq_false hi
      go_wp2
      refine bodyPost_end (results_none rfl _ _ _) rfl ?_
      refine ⟨rfl, v1, ?_, HSS.out⟩
      have e1 : max p t = q := by omega
      have e2 : t - p = q - p := by omega
      rw [e1, e2, ← HY.out]
      exact HCC.out

theorem Caught.below {w0 W w1 : World} {ga go q : Nat} {v : Value} {ys : List Int} (h : Caught w0 W ga go q v ys) (hb : Below W.heap.size W w1) : Caught w0 w1 ga go q v ys :=
  ⟨blk_below h.a hb, blk_below h.o hb, Kd.R_below h.r hb, below_step h.b hb, h.ne, h.ba, h.bo⟩
theorem Caught.far {w0 W : World} {ga go q g : Nat} {v : Value} {ys : List Int} {cells : Array Value} {t : TypeId} (h : Caught w0 W ga go q v ys) (hg : W.heap[g]? = some (.cells cells t (0, 0))) (h1 : t ≠ 3) (h2 : t ≠ 113) (hn : w0.heap.size ≤ g) (j : Nat) (u : Value) : Caught w0 (W.setCell ⟨g, j, none⟩ u) ga go q v ys :=
  ⟨blk_far h.a (fun e => by
    have e4 : ga = g := e
    subst e4
    have := h.a
    rw [hg] at this
    injection this with this
    injection this with _ this
    exact h1 this) u, blk_far h.o (fun e => by
    have e4 : go = g := e
    subst e4
    have := h.o
    rw [hg] at this
    injection this with this
    injection this with _ this
    exact h2 this) u, Kd.R_set h.r hg (fun q hq => by
      rcases List.mem_cons.1 hq with rfl | hq
      · exact fun e => h1 e.symm
      · cases hq) j u, below_set h.b hn, h.ne, h.ba, h.bo⟩
theorem chain_at {n : Int} : ∀ (h : List IH) (p : Int) (i : Nat) (hi : i < h.length), chain' n p h → p < h[i].f0 ∧ h[i].f0 + h[i].f1 ≤ n ∧ ∀ y ∈ h.drop (i + 1), h[i].f0 + h[i].f1 < y.f0
  | [], _, _, hi, _ => absurd hi (Nat.not_lt_zero _)
  | x :: t, p, 0, hi, hc => by
    simp only [chain'] at hc
    exact ⟨hc.1.2.2.2, hc.1.2.2.1, fun y hy => by
      obtain ⟨j, hj, e⟩ := List.getElem_of_mem (show y ∈ t from hy)
      have := (chain_at t _ j hj hc.2).1
      rw [e] at this
      exact this⟩
  | x :: t, p, i + 1, hi, hc => by
    simp only [chain'] at hc
    have := chain_at t _ i (Nat.lt_of_succ_lt_succ hi) hc.2
    exact ⟨by have h1 := this.1; have := hc.1; simp only [List.getElem_cons_succ]; omega, this.2.1, this.2.2⟩
/-- At a round's begin. -/
def KeptInv (w : World) (many : Nat) (h : List IH) (ga go i kq : Nat) (w' : World) : Prop :=
  ∃ (q : Nat) (v : Value) (acc : List Int), i + kq = h.length ∧ q ≤ 40 ∧ acc.length ≤ 100 * i ∧ (∀ x ∈ h.drop i, (q : Int) ≤ x.f0) ∧ acc ++ keptFrom many q (h.drop i) = keptFrom many 0 h ∧ Caught w w' ga go q v acc

set_option maxHeartbeats 8000000 in
set_option maxRecDepth 100000 in
theorem impl_kept_made (many : Nat) (A1 : Option Addr) (c1 : Nat) (h : List IH) (w : World) (hr1 : Kd.C k111 w A1 h.length h) (hc1 : h.length ≤ c1) (hm : many ≤ 40) (hl : h.length ≤ 20) (hn : near h) (hch : chain' (many : Int) (-1) h) :
    Calls Try.prog 94 #[.int .i64 (many : Int), .slice A1 h.length c1] w fun e w' => ∃ v, e = .returned v ∧ Kd.R (Kd.int .i64) 3 w' w.heap.size (fun _ => True) v (keptFrom many 0 h) ∧ Below w.heap.size w w' := by
  have HR1 := Aside0.mk hr1
  have HC1 := Aside0.mk hc1
  have HM := Aside0.mk hm
  have HL := Aside0.mk hl
  have HN := Aside0.mk hn
  have HCH := Aside0.mk hch
  have HB := Aside0.mk (Below.refl w.heap.size w)
  clear hr1 hc1 hm hl hn hch
  go_enter Try.func94, Try.ntmps94
  go_wp2_with (first | ((with_reducible refine gate_dst (N := 10) rfl ?_); refine Kd.R_lit (Kd.int .i64) _ 3 ?hg (N := 10) ?hd (xs := ([] : List Int)) (inner := []) (ok := fun _ => True) (okp := fun _ => True) ?hr ?hp (fun _ hk => hk) trivial (Below.refl _ _) (Nat.le_refl _) (by simp) ?_; (case hd => rfl); (case hg => rfl); (case hr => first | (go_simp; done) | (go_simp; rfl)); (case hp => exact (Reps.none _ _)); intro v0 w3 ho hb hg_ hnew_; obtain ⟨A0, C0, rfl⟩ := Kd.R_slice ho; have HO := Aside0.mk (Kd.R_lower ho (below_size HB.out)); have HB1 := Aside0.mk (below_step HB.out hb); clear hg_ hnew_ hb ho HB) | ((with_reducible refine gate_dst (N := 5) rfl ?_); refine box_event ?hg (N := 5) ?hd (cs := #[.slice none 0 0]) (t := 113) ?hr ?_; (case hd => rfl); (case hg => rfl); (case hr => first | (go_simp; done) | (go_simp; rfl)); intro go hgo w4 hbox hb; have HO2 := Aside0.mk (Kd.R_below HO.out hb); have HB2 := Aside0.mk (below_step HB1.out hb); have KO := Aside0.mk hbox; have GO := Aside0.mk (show w.heap.size ≤ go by rw [hgo]; exact below_size HB1.out); clear hbox hb hgo HO HB1) | ((with_reducible refine gate_dst (N := 6) rfl ?_); refine box_event ?hg (N := 6) ?hd (cs := #[.int .i64 0]) (t := 3) ?hr ?_; (case hd => rfl); (case hg => rfl); (case hr => first | (go_simp; done) | (go_simp; rfl)); intro ga hga w5 hbox hb; have HO3 := Aside0.mk (Kd.R_elderB HO2.out ga (Nat.le_of_eq hga.symm)); have HO4 := Aside0.mk (Kd.R_below HO3.out hb); have HB3 := Aside0.mk (below_step HB2.out hb); have KO2 := Aside0.mk (blk_below KO.out hb); have KA := Aside0.mk hbox; have GA := Aside0.mk (show w.heap.size ≤ ga by rw [hga]; exact below_size HB2.out); clear hbox hb hga HO2 HB2 KO; have hne := Aside0.mk (blk_ne KA.out KO2.out (by decide)); have q1 : w5.cell? ⟨go, 0, none⟩ = some (.slice none 0 0) := (blk_cell KO2.out 0).trans rfl; have q2 : w5.cell? ⟨ga, 0, none⟩ = some (.int .i64 0) := (blk_cell KA.out 0).trans rfl; have q3 := blk_frozen KO2.out 0; have q4 := blk_frozen KA.out 0; have q5 : (w5.setCell ⟨go, 0, none⟩ (.slice A0 0 C0)).cell? ⟨ga, 0, none⟩ = some (.int .i64 0) := (blk_cell (blk_far KA.out hne.out (.slice A0 0 C0)) 0).trans rfl; have q6 := blk_frozen (blk_far KA.out hne.out (p := ⟨go, 0, none⟩) (.slice A0 0 C0)) 0))
  have HS := Aside0.mk (show Caught w ((w5.setCell ⟨go, 0, none⟩ (.slice A0 0 C0)).setCell ⟨ga, 0, none⟩ (.int .i64 0)) ga go 0 (.slice A0 0 C0) [] from
    ⟨blk_put (blk_far KA.out hne.out _) 0 _ rfl, blk_far (blk_put KO2.out 0 _ rfl) (fun e => hne.out e.symm) _, Kd.R_far (p := ⟨ga, 0, none⟩) (Kd.R_far (p := ⟨go, 0, none⟩) (Kd.R_mono (Kd.R_types HO4.out KO2.out (by decide)) (fun k hk => ⟨hk.1.2, hk.2⟩)) (fun k hk => hk.2) _) (fun k hk => hk.1) _, below_set (below_set HB3.out GO.out) GA.out, hne.out, GA.out, GO.out⟩)
  clear HO3 HO4 HB3 KO2 KA q1 q2 q3 q4 q5 q6 hne
  go_loopg [14] h.length (fun kq v14 w' => ∃ i : Nat, v14 = .int .i64 (i : Int) ∧ Aside0 (KeptInv w many h ga go i kq w'))
  case atStart => exact ⟨0, rfl, ⟨0, _, [], by simp, by omega, by simp, fun x hx => by have := (HN.out x (by simpa using hx)).1; simpa using this, by simp, HS.out⟩⟩
  case round =>
    clear HS
    obtain ⟨i, rfl, HI⟩ := hrel
    obtain ⟨q, v, acc, e1, e2, e3, e4, e5, hc⟩ := HI.out
    have HC := Aside0.mk hc
    have E4 := Aside0.mk e4
    have E5 := Aside0.mk e5
    clear HI hc e4 e5
    by_cases hi : i < h.length
    · have hd : decide ((i : Int) < (h.length : Int)) = true := decide_eq_true (by omega)
      have hd2 : decide (i < h.length) = true := decide_eq_true hi
      obtain ⟨ad, A2, C2, eA, hx0, hx1, hx2, hl2, hr2⟩ := at_T111 HR1.out (i : Int) (by omega) (by omega)
      subst eA
      replace hx0 := (HC.out.b.cell (World.block_lt_of_cell? w _ hx0)).trans hx0
      replace hx1 := (HC.out.b.cell (World.block_lt_of_cell? w _ hx1)).trans hx1
      replace hx2 := (HC.out.b.cell (World.block_lt_of_cell? w _ hx2)).trans hx2
      simp only [Int.toNat_natCast] at hx0 hx1 hx2
      have HRD := Aside0.mk (rdIH h i hi)
      generalize rd_T111 h (i : Int) = x at *
      clear hl2 hr2
      have hmem : x ∈ h := by rw [HRD.out]; exact List.getElem_mem _
      have hxn := HN.out x hmem
      have hxd : x ∈ h.drop i := by rw [HRD.out]; rw [List.drop_eq_getElem_cons hi]; exact List.mem_cons_self ..
      have hq4 := E4.out x hxd
      have hdr : h.drop i = x :: h.drop (i + 1) := by rw [HRD.out]; exact List.drop_eq_getElem_cons hi
      obtain ⟨t, ht⟩ : ∃ t : Nat, x.f0 = (t : Int) := ⟨x.f0.toNat, by omega⟩
      obtain ⟨s, hs⟩ : ∃ s : Nat, x.f1 = (s : Int) := ⟨x.f1.toNat, by omega⟩
      rw [ht] at hx0
      rw [hs] at hx1
      have HXN := Aside0.mk hxn
      have HQ4 := Aside0.mk hq4
      have HDR := Aside0.mk hdr
      have HT := Aside0.mk ht
      have HS := Aside0.mk hs
      clear hxn hq4 hdr ht hs hmem hxd
      go_wp2_with (first | ((with_reducible refine gate_dst (N := 9) rfl ?_); refine box_event ?hg (N := 9) ?hd (cs := #[.int .i64 0, .int .i64 0, .slice none 0 0]) (t := 111) ?hr ?_; (case hd => rfl); (case hg => rfl); (case hr => first | (go_simp; done) | (go_simp; rfl)); intro gx hgx w6 hbox hb; have HC2 := Aside0.mk (HC.out.below hb); have BK := Aside0.mk hbox; have GX := Aside0.mk (show w.heap.size ≤ gx by rw [hgx]; exact below_size HC.out.b); have y0 : w6.cell? ⟨gx, 0, none⟩ = some (.int .i64 0) := (blk_cell BK.out 0).trans rfl; have y1 : w6.cell? ⟨gx, 1, none⟩ = some (.int .i64 0) := (blk_cell BK.out 1).trans rfl; have y2 : w6.cell? ⟨gx, 2, none⟩ = some (.slice none 0 0) := (blk_cell BK.out 2).trans rfl; have z0 := blk_frozen BK.out 0; have z1 := blk_frozen BK.out 1; have z2 := blk_frozen BK.out 2; clear hbox hb hgx))
      have HC3 := Aside0.mk (((HC2.out.far BK.out (by decide) (by decide) GX.out 0 (.int .i64 (t : Int))).far (blk_put BK.out 0 (.int .i64 (t : Int)) rfl) (by decide) (by decide) GX.out 1 (.int .i64 (s : Int))).far (blk_put (blk_put BK.out 0 (.int .i64 (t : Int)) rfl) 1 (.int .i64 (s : Int)) rfl) (by decide) (by decide) GX.out 2 (.slice A2 x.f2.length C2))
      have BK3 := Aside0.mk (blk_put (blk_put (blk_put BK.out 0 (.int .i64 (t : Int)) rfl) 1 (.int .i64 (s : Int)) rfl) 2 (.slice A2 x.f2.length C2) rfl)
      clear HC HC2 BK y0 y1 y2 z0 z1 z2
      refine Calls.mono (stay_made w _ ga go q t v acc HC3.out (by have := e3; have := HXN.out; have := HT.out; have := HL.out; omega) (by have := HXN.out; have := HT.out; omega) (by omega)) ?_
      rintro _ w8 ⟨rfl, v8, hc8, hs8⟩
      dsimp only
      obtain ⟨q2, hq2⟩ : ∃ q2, q2 = max q t := ⟨_, rfl⟩
      have hqt : q2 = t := by have := HQ4.out; have := HT.out; omega
      obtain ⟨ac2, hac2⟩ : ∃ ac2, ac2 = acc ++ (List.range' q (t - q)).map (fun k : Nat => (k : Int)) := ⟨_, rfl⟩
      rw [← hac2, ← hq2] at hc8
      have hl2 : ac2.length ≤ acc.length + 40 := by
        rw [hac2, List.length_append, List.length_map, List.length_range']
        have := HXN.out; have := HT.out
        omega
      have hs40 : s ≤ 40 := by have := HXN.out; have := HS.out; omega
      have ht40 : t ≤ 40 := by have := HXN.out; have := HT.out; omega
      have HC8 := Aside0.mk hc8
      have HA2 := Aside0.mk hac2
      have HQ2 := Aside0.mk hq2
      have B8 := Aside0.mk (hs8.2 gx _ _ BK3.out (by decide) (by decide))
      have c2 : w8.cell? ⟨gx, 2, none⟩ = some (.slice A2 x.f2.length C2) := (blk_cell B8.out 2).trans rfl
      clear hc8 hac2 hq2 hs8
      go_wp2_with fail
      clear c2
      go_loopg [25] x.f2.length (fun kq v25 w' => ∃ j : Nat, v25 = .int .i64 (j : Int) ∧ j + kq = x.f2.length ∧ Aside0 (∃ v, Caught w w' ga go q2 v (ac2 ++ List.replicate j (-1)) ∧ w'.heap[gx]? = some (.cells #[.int .i64 (t : Int), .int .i64 (s : Int), .slice A2 x.f2.length C2] 111 (0, 0))))
      case atStart => exact ⟨0, rfl, by omega, ⟨v8, by rw [List.replicate_zero, List.append_nil]; exact HC8.out, B8.out⟩⟩
      case round =>
        obtain ⟨j, rfl, ej, hv⟩ := hrel
        obtain ⟨v9, hc9, hb9⟩ := hv.out
        have HC9 := Aside0.mk hc9
        have HB9 := Aside0.mk hb9
        clear hc9 hb9 hv HC8 B8
        by_cases hj : j < x.f2.length
        · have hd3 : decide ((j : Int) < (x.f2.length : Int)) = true := decide_eq_true (by omega)
          have hd4 : decide (j < x.f2.length) = true := decide_eq_true hj
          obtain ⟨c1, c2, c3, c4⟩ := HC9.out.cells
          obtain ⟨ys, hys⟩ : ∃ ys, ys = ac2 ++ List.replicate j (-1) := ⟨_, rfl⟩
          have hyl : ys.length = ac2.length + j := by rw [hys, List.length_append, List.length_replicate]
          rw [← hys] at HC9
          have HY := Aside0.mk hys
          have HYL := Aside0.mk hyl
          clear hys hyl
          obtain ⟨zs, hzs⟩ : ∃ zs, zs = ys ++ [(-1 : Int)] := ⟨_, rfl⟩
          have HZ := Aside0.mk hzs
          clear hzs
          go_wp2_with (first | (at_builtin; refine Kd.R_append (Kd.int .i64) (w0 := w) w.heap.size rfl (.tmp 27) (.tmp 28) 113 3 (.int .i64 0) 8 rfl Try.underlying113 info3 rfl (by decide) (by omega) v9 ys (-1 : Int) [.int .i64 (-1 : Int)] (fun k => k ≠ ga ∧ k ≠ go) (fun _ => False) rfl (by first | (go_simp; done) | (go_simp; rfl)) rfl (fun _ hk => hk.elim) (fun k hk => ⟨by have := blk_lt HC9.out.a; omega, by have := blk_lt HC9.out.o; omega⟩) HC9.out.r HC9.out.b HC9.out.b.size (by have := HYL.out; have := HXN.out; have := HL.out; omega) ?_; intro v2 w2 ho hb hg hat; rw [← HZ.out] at ho; obtain ⟨A5, C5, rfl⟩ := Kd.R_slice ho; have HP := Aside0.mk (HC9.out.put ho hb hg); have d7 := blk_frozen (blk_grown HC9.out.o hg (fun e => (HC9.out.r.1 go e.symm).2 rfl)) 0; have d8 := (blk_cell (blk_grown HC9.out.o hg (fun e => (HC9.out.r.1 go e.symm).2 rfl)) 0).trans rfl; have hB2 := Aside0.mk (Stays.put (v1 := .slice A5 zs.length C5) HC9.out (Stays.refl _) hg); clear ho hb hat hg))
          go_roundg (x.f2.length - (j + 1))
          case measure => omega
          case rel => exact ⟨j + 1, by rw [wrap_succ j (by have := HXN.out; omega)], by omega, ⟨.slice A5 zs.length C5, by
            have e := HP.out
            rw [HZ.out, HY.out, List.append_assoc, show List.replicate j (-1 : Int) ++ [-1] = List.replicate (j + 1) (-1) from List.replicate_succ'.symm] at e
            rw [HZ.out, HY.out, List.append_assoc, show List.replicate j (-1 : Int) ++ [-1] = List.replicate (j + 1) (-1) from List.replicate_succ'.symm]
            exact e, hB2.out.2 _ _ _ HB9.out (by decide) (by decide)⟩⟩
        · have hd3 : decide ((j : Int) < (x.f2.length : Int)) = false := decide_eq_false (by omega)
          have hd4 : decide (j < x.f2.length) = false := decide_eq_false hj
          obtain ⟨c1, c2, c3, c4⟩ := HC9.out.cells
          have ej2 : j = x.f2.length := by omega
          have c6 : wr.cell? ⟨gx, 1, none⟩ = some (.int .i64 (s : Int)) := (blk_cell HB9.out 1).trans rfl
          go_wp2_with fail
          have hbnd := chain_at h (-1) i hi HCH.out
          have hxe := HRD.out
          rw [← hxe] at hbnd
          have ht := HT.out
          have hss := HS.out
          have hm40 := HM.out
          subst ej2
          have hk9 := HC9.out.move (q2 + s)
          rw [hqt] at hk9
          rw [show ((t + s : Nat) : Int) = (t : Int) + (s : Int) from by omega] at hk9
          go_roundg (h.length - (i + 1))
          case measure => omega
          case rel => exact ⟨i + 1, by rw [wrap_succ i (by have := HL.out; omega)], ⟨t + s, v9, _, by omega, by omega, by
            rw [List.length_append, List.length_replicate]
            have := HXN.out; have := e3
            omega, fun y hy => by have := hbnd.2.2 y hy; omega, by
            rw [HA2.out]
            have e := E5.out
            rw [HDR.out] at e
            simp only [keptFrom] at e
            rw [ht, hss, Int.toNat_natCast, show (((t : Int) + (s : Int)).toNat) = t + s from by omega] at e
            rw [List.append_assoc, List.append_assoc]
            exact e, hk9⟩⟩
    · have hd : decide ((i : Int) < (h.length : Int)) = false := decide_eq_false (by omega)
      have hd2 : decide (i < h.length) = false := decide_eq_false hi
      go_wp2_with fail
      refine Calls.mono (stay_made w _ ga go q many v acc HC.out (by have := HL.out; have := HM.out; omega) (by have := HM.out; omega) (by omega)) ?_
      rintro _ w8 ⟨rfl, v8, hc8, hs8⟩
      dsimp only
      have HC8 := Aside0.mk hc8
      obtain ⟨ac2, hac2⟩ : ∃ ac2, ac2 = acc ++ (List.range' q (many - q)).map (fun k : Nat => (k : Int)) := ⟨_, rfl⟩
      rw [← hac2] at hc8
      have HC8 := Aside0.mk hc8
      have HA2 := Aside0.mk hac2
      have c2 : w8.cell? ⟨go, 0, none⟩ = some v8 := (blk_cell HC8.out.o 0).trans rfl
      clear hc8 hs8 hac2
      go_wp2_with fail
      (try simp only [Exit.inBlock, Exit.then])
      refine bodyPost_ret (results_tmp rfl _ _ _) rfl ?_
      refine ⟨v8, rfl, ?_, HC8.out.b⟩
      have e5 := E5.out
      rw [List.drop_eq_nil_of_le (by omega)] at e5
      rw [← e5]
      rw [HA2.out] at HC8
      exact Kd.R_mono HC8.out.r (fun k hk => trivial)
end Go.Proofs.Ytcefenlblnediaa.My

/- The program's kept as the other texts name it: its plain form, and its contract. Asked: good hunks. -/
namespace Go.Proofs.Ytcefenlblnediaa.My
open Go.RowKit Go.Proofs.YtcefenlblnediaaW.PrintWords Go.Proofs.YtcefenlblnediaaW.PrintLast Go.Proofs.YtcefenlblnediaaW.PrintMore Go.Proofs.Ytcefenlblnediaa.Pl

def impl_kept.f (a0 : Int) (l1 : List IH) : Option (List Int) := if 0 ≤ a0 ∧ goodH a0 l1 = true then some (keptFrom a0.toNat 0 l1) else none
theorem chain_chain' {n : Int} : ∀ (h : List IH) (p : Int), chain n p h = true → chain' n p h
  | [], _, _ => trivial
  | x :: t, p, hc => by
    simp only [chain, Bool.and_eq_true] at hc
    have h1 := hc.1
    simp only [hOK, Bool.and_eq_true] at h1
    have h2 := of_decide_eq_true h1.1
    unfold hNum at h2
    exact ⟨⟨by omega, by omega, by omega, by omega⟩, chain_chain' t _ hc.2⟩
theorem impl_kept.calls (a0 : Int) (A1 : Option Addr) (c1 : Nat) (l1 : List IH) (r : List Int) (w : World) (hr1 : Kd.C k111 w A1 l1.length l1) (hc1 : l1.length ≤ c1) (h : impl_kept.f a0 l1 = some r) :
  Calls Try.prog 94 #[.int .i64 a0, .slice A1 l1.length c1] w fun e w' => ∃ v0_ : Value, e = .returned (v0_) ∧ Kd.R (Kd.int .i64) 3 w' w.heap.size (fun _ => True) v0_ r ∧ Below w.heap.size w w' := by
  simp only [impl_kept.f] at h
  split at h
  · rename_i c
    injection h with h
    subst h
    simp only [goodH, Bool.and_eq_true, decide_eq_true_eq] at c
    obtain ⟨n, rfl⟩ : ∃ n : Nat, a0 = (n : Int) := ⟨a0.toNat, by omega⟩
    have h40 := (inB_iff _ _ _).1 c.2.1
    rw [Int.toNat_natCast]
    exact impl_kept_made n A1 c1 l1 w hr1 hc1 (by omega) (by omega) (near_of_chain (by omega) l1 _ c.2.2.2) (chain_chain' l1 _ c.2.2.2)
  · cases h
end Go.Proofs.Ytcefenlblnediaa.My

/- Written by this session's program (wip/gen): a plain function with the same answers as the Go function, and the proof that the Go code comes to them. Asked: that the plain function has an answer. -/
namespace Go.Proofs.Ytcefenlblnediaa.My
open Go.RowKit Go.Proofs.YtcefenlblnediaaW.PrintWords Go.Proofs.YtcefenlblnediaaW.PrintLast Go.Proofs.YtcefenlblnediaaW.PrintMore
attribute [local go_sem] max2_int min2_int max_two min_two max_three min_three max_four min_four
set_option linter.unusedVariables false
set_option linter.unusedSimpArgs false

/-! ### impl_JoinHunks: function 27 -/
mutual
def impl_JoinHunks.j0 : Nat → List ByteArray → List (S111) → List (S111) → List ByteArray → List ByteArray → Bool → Option ((List (S111)) × Bool)
 | 0, _, _, _, _, _, _ => none
 | k + 1, x0, x1, x2, x8, x10, x34 => if x34 = true then (some (([] : List (S111)), false)) else ((impl_kept.f (x0.length : Int) x1).bind fun t518 => ((impl_kept.f (x8.length : Int) x2).bind fun t524 => (impl_JoinHunks.l0 k x0 x10 t518 (([] : List (List Int))) t524 (t524.length : Int) 0)))
def impl_JoinHunks.l0 : Nat → List ByteArray → List ByteArray → List Int → List (List Int) → List Int → Int → Int → Option ((List (S111)) × Bool)
 | 0, _, _, _, _, _, _, _ => none
 | k + 1, x0, x10, x12, x13, x43, x44, x45 => if x45 < x44 then (if 0 ≤ x45 then (if x45 < (x43.length : Int) then (if (rd x43 x45) ≥ 0 then (if 0 ≤ (rd x43 x45) then (if (rd x43 x45) < (x12.length : Int) then (if (rd x12 (rd x43 x45)) ≥ 0 then (if x13.length < 5864062014805 then (impl_JoinHunks.l0 k x0 x10 x12 (x13 ++ [(([rd x12 (rd x43 x45), x45] : List Int))]) x43 x44 (wrap64 (x45 + 1))) else (none)) else (impl_JoinHunks.l0 k x0 x10 x12 x13 x43 x44 (wrap64 (x45 + 1)))) else (none)) else (none)) else (impl_JoinHunks.l0 k x0 x10 x12 x13 x43 x44 (wrap64 (x45 + 1)))) else (none)) else (none)) else ((impl_between.f k x0 x10 x13).bind fun t536 => ((impl_goodHunks.f k (x0.length : Int) t536).bind fun t539 => (if t539 = true then (some (t536, true)) else (some (([] : List (S111)), false)))))
end
def impl_JoinHunks.f (k : Nat) (l0 : List ByteArray) (l1 : List (S111)) (l2 : List (S111)) : Option ((List (S111)) × Bool) := (impl_Patch.f k l0 l1).bind fun bt510 => ((impl_Patch.f k bt510.1 l2).bind fun bt514 => (if bt510.2 = true then (impl_JoinHunks.j0 k l0 l1 l2 bt510.1 bt514.1 (!bt514.2)) else (impl_JoinHunks.j0 k l0 l1 l2 bt510.1 bt514.1 true)))
set_option maxHeartbeats 8000000 in
set_option maxRecDepth 100000 in
theorem impl_JoinHunks.calls (k : Nat) (A0 : Option Addr) (c0 : Nat) (l0 : List ByteArray) (A1 : Option Addr) (c1 : Nat) (l1 : List (S111)) (A2 : Option Addr) (c2 : Nat) (l2 : List (S111)) (r1 : List (S111)) (r2 : Bool) (w : World) (hr0 : Kd.C Kd.string w A0 l0.length l0) (hc0 : l0.length ≤ c0) (hr1 : Kd.C k111 w A1 l1.length l1) (hc1 : l1.length ≤ c1) (hr2 : Kd.C k111 w A2 l2.length l2) (hc2 : l2.length ≤ c2) (h : impl_JoinHunks.f k l0 l1 l2 = some (r1, r2)) :
  Calls Try.prog 27 #[.slice A0 l0.length c0, .slice A1 l1.length c1, .slice A2 l2.length c2] w fun e w' => ∃ v0_ : Value, e = .returned (.tuple #[v0_, .bool r2]) ∧ Kd.S k111 111 w' w.heap.size (fun _ => True) v0_ r1 ∧ Below w.heap.size w w' := by
 have HR0 := Aside0.mk hr0
 have HC0 := Aside0.mk hc0
 clear hr0 hc0
 have HR1 := Aside0.mk hr1
 have HC1 := Aside0.mk hc1
 clear hr1 hc1
 have HR2 := Aside0.mk hr2
 have HC2 := Aside0.mk hc2
 clear hr2 hc2
 have HB := Aside0.mk (Below.refl w.heap.size w)
 have H : ((impl_Patch.f k l0 l1).bind fun bt510 => ((impl_Patch.f k bt510.1 l2).bind fun bt514 => (if bt510.2 = true then (impl_JoinHunks.j0 k l0 l1 l2 bt510.1 bt514.1 (!bt514.2)) else (impl_JoinHunks.j0 k l0 l1 l2 bt510.1 bt514.1 true)))) = some (r1, r2) := h
 clear h
 replace H := Option.bind_eq_some_iff.mp H
 obtain ⟨⟨t510, t511⟩, A40, H⟩ := H
 replace H : ((impl_Patch.f k t510 l2).bind fun bt514 => (if t511 = true then (impl_JoinHunks.j0 k l0 l1 l2 t510 bt514.1 (!bt514.2)) else (impl_JoinHunks.j0 k l0 l1 l2 t510 bt514.1 true))) = some (r1, r2) := H
 have A4 := Aside0.mk A40
 clear A40
 replace H := Option.bind_eq_some_iff.mp H
 obtain ⟨⟨t514, t515⟩, A50, H⟩ := H
 replace H : (if t511 = true then (impl_JoinHunks.j0 k l0 l1 l2 t510 t514 (!t515)) else (impl_JoinHunks.j0 k l0 l1 l2 t510 t514 true)) = some (r1, r2) := H
 have A5 := Aside0.mk A50
 clear A50
 have HC6 := Aside0.mk H
 clear H
 go_enter Try.func27, Try.ntmps27
 go_upto_region 3 with (first | ((with_reducible refine gateC (f := 35) rfl ?_); refine goesL_ (some 20) rfl rfl Try.func35 (by kernel_rfl) rfl #[.slice A0 l0.length c0, .slice A1 l1.length c1] rfl zm ?_; (with_reducible refine (impl_Patch.calls k _ _ l0 _ _ l1 t510 t511 _ ?side1 ?side2 ?side3 ?side4 A4.out).mono ?_); (case side1 => exact zq HR0.out); (case side2 => exact HC0.out); (case side3 => exact zq HR1.out); (case side4 => exact HC1.out); rintro e w7 ⟨v512, rfl, ho0, hb⟩; refine ⟨_, rfl, ?_⟩; have n0_ := Aside0.mk (Kd.R_lower ho0 (below_size zb)); have n1_ := Aside0.mk (below_step zb hb); clear HB; have HO513 := n0_; have HB := n1_; clear n0_ n1_; (try clear hb); (try clear hb2); (try clear hk); (try clear hi); (try clear ho0); obtain ⟨Ao8, co8, eo8⟩ := Kd.R_slice HO513.out; subst eo8) | ((with_reducible refine gateC (f := 35) rfl ?_); refine goesL_ (some 26) rfl rfl Try.func35 (by kernel_rfl) rfl #[.slice Ao8 t510.length co8, .slice A2 l2.length c2] rfl zm ?_; (with_reducible refine (impl_Patch.calls k _ _ t510 _ _ l2 t514 t515 _ ?side1 ?side2 ?side3 ?side4 A5.out).mono ?_); (case side1 => repeat (first | exact (Kd.R_reads' HO513.out).2.2 | (with_reducible refine Kd.C_alloc ?_ _) | (with_reducible refine Kd.C_drewN ?_ _) | (with_reducible refine Kd.C_drew ?_))); (case side2 => exact (Kd.R_reads' HO513.out).2.1); (case side3 => exact zq (Kd.C_below HR2.out HB.out)); (case side4 => exact HC2.out); rintro e w9 ⟨v516, rfl, ho0, hb⟩; refine ⟨_, rfl, ?_⟩; have n0_ := Aside0.mk (Kd.R_elder' (zr HO513.out) (Kd.R_base ho0) hb); have n1_ := Aside0.mk (Kd.R_lower (Kd.R_new' ho0 (Kd.R_lt (zr HO513.out))) (below_size zb)); have n2_ := Aside0.mk (below_step zb hb); clear HO513; clear HB; have HO513 := n0_; have HO517 := n1_; have HB := n2_; clear n0_ n1_ n2_; (try clear hb); (try clear hb2); (try clear hk); (try clear hi); (try clear ho0)))
 (try simp only [Act.put, List.setIfInBounds_toArray, List.set_cons_zero, List.set_cons_succ])
 go_cut [34] (fun v34 wc => ∃ (kq : Nat) (x34_5 : Bool), v34 = .bool x34_5 ∧ Aside0 (impl_JoinHunks.j0 kq l0 l1 l2 t510 t514 x34_5 = some (r1, r2)) ∧ Aside0 (kq ≤ k) ∧ Aside0 (Kd.R Kd.string 9 wc w.heap.size (fun k_ => some k_ ≠ (v516 : Value).ownBlock) (.slice Ao8 t510.length co8) t510) ∧ Aside0 (Kd.R Kd.string 9 wc w.heap.size (fun k_ => some k_ ≠ ((.slice Ao8 t510.length co8) : Value).ownBlock) v516 t514) ∧ Aside0 (Below w.heap.size w wc))
 case first =>
  have H := HC6.out
  clear HC6
  by_cases c10 : t511 = true
  ·subst c10
   have H1 : (impl_JoinHunks.j0 k l0 l1 l2 t510 t514 (!t515)) = some (r1, r2) := by rw [if_pos rfl] at H; exact H
   clear H
   have H := H1
   clear H1
   have H' := Aside0.mk H
   clear H
   go_wp2
   go_meet
   case rel => exact ⟨_, (!t515), zf, H', ⟨by first | omega | exact Nat.le_refl _⟩, ⟨by (with_reducible repeat (first | apply Kd.R_alloc | apply Kd.R_drewN | apply Kd.R_drew)); exact Kd.R_mono HO513.out (fun _ hk => hk.2)⟩, ⟨by (with_reducible repeat (first | apply Kd.R_alloc | apply Kd.R_drewN | apply Kd.R_drew)); exact Kd.R_mono HO517.out (fun _ hk => hk.2)⟩, ⟨by repeat (first | (with_reducible first | exact HB.out | apply below_alloc | apply pw_below_drewN | apply below_drew1) | exact HB.out)⟩⟩
  ·replace c10 := Bool.eq_false_iff.mpr c10
   subst c10
   have H1 : (impl_JoinHunks.j0 k l0 l1 l2 t510 t514 true) = some (r1, r2) := by rw [if_neg (show ¬ (false = true) by decide)] at H; exact H
   clear H
   have H := H1
   clear H1
   have H' := Aside0.mk H
   clear H
   go_wp2
   go_meet
   case rel => exact ⟨_, (true), zf, H', ⟨by first | omega | exact Nat.le_refl _⟩, ⟨by (with_reducible repeat (first | apply Kd.R_alloc | apply Kd.R_drewN | apply Kd.R_drew)); exact Kd.R_mono HO513.out (fun _ hk => hk.2)⟩, ⟨by (with_reducible repeat (first | apply Kd.R_alloc | apply Kd.R_drewN | apply Kd.R_drew)); exact Kd.R_mono HO517.out (fun _ hk => hk.2)⟩, ⟨by repeat (first | (with_reducible first | exact HB.out | apply below_alloc | apply pw_below_drewN | apply below_drew1) | exact HB.out)⟩⟩
 case rest =>
  clear HC6
  try clear c1
  try clear c2
  try clear p2
  try clear c3
  try clear c10
  obtain ⟨kq, x34_5, rfl, HA, HJ5, HO_8, HO_10, HB⟩ := hcut
  cases kq with
  | zero => exact absurd HA.out (by simp [impl_JoinHunks.j0])
  | succ kj5 =>
   have H := HA.out
   clear HA
   simp only [impl_JoinHunks.j0] at H
   by_cases c11 : x34_5 = true
   ·subst c11
    have H1 : (some (([] : List (S111)), false)) = some (r1, r2) := by rw [if_pos rfl] at H; exact H
    clear H
    have H := H1
    clear H1
    simp only [Option.some.injEq, Prod.mk.injEq] at H
    obtain ⟨rfl, rfl⟩ := H
    go_wp2
    go_ret2
    exact ⟨_, by first | rfl | (simp [errW_none, errW_some] <;> rfl) | (simp [*, errW_none, errW_some] <;> rfl), by first | exact Kd.S_nil _ _ _ _ _ | exact Kd.Q_nil _ _ _ _ _ | exact Kd.R_nil _ _ _ _ _, by repeat (first | (with_reducible first | exact HB.out | apply below_alloc | apply pw_below_drewN | apply below_drew1) | exact HB.out)⟩
   ·replace c11 := Bool.eq_false_iff.mpr c11
    subst c11
    have H1 : ((impl_kept.f (l0.length : Int) l1).bind fun t518 => ((impl_kept.f (t510.length : Int) l2).bind fun t524 => (impl_JoinHunks.l0 kj5 l0 t514 t518 (([] : List (List Int))) t524 (t524.length : Int) 0))) = some (r1, r2) := by rw [if_neg (show ¬ (false = true) by decide)] at H; exact H
    clear H
    have H := H1
    clear H1
    replace H := Option.bind_eq_some_iff.mp H
    obtain ⟨t518, A120, H⟩ := H
    replace H : ((impl_kept.f (t510.length : Int) l2).bind fun t524 => (impl_JoinHunks.l0 kj5 l0 t514 t518 (([] : List (List Int))) t524 (t524.length : Int) 0)) = some (r1, r2) := H
    have A12 := Aside0.mk A120
    clear A120
    obtain ⟨y521, hy521⟩ : ∃ y_ : List (List Int), y_ = (([] : List (List Int))) := ⟨_, rfl⟩
    replace H : ((impl_kept.f (t510.length : Int) l2).bind fun t524 => (impl_JoinHunks.l0 kj5 l0 t514 t518 y521 t524 (t524.length : Int) 0)) = some (r1, r2) := by first | (rw [hy521]; with_reducible exact H) | (have H2_ := (Option.bind_some _ _).symm.trans H; rw [hy521]; with_reducible exact H2_) | (have H2_ := (Option.bind_some _ _).symm.trans H; with_reducible exact H2_) | with_reducible exact H | (rw [hy521]; exact H) | exact H
    have Ny521 := Aside0.mk hy521
    clear hy521
    replace H := Option.bind_eq_some_iff.mp H
    obtain ⟨t524, A130, H⟩ := H
    replace H : (impl_JoinHunks.l0 kj5 l0 t514 t518 y521 t524 (t524.length : Int) 0) = some (r1, r2) := H
    have A13 := Aside0.mk A130
    clear A130
    have H' := Aside0.mk H
    clear H
    go_wp2_with (first | ((with_reducible refine gateC (f := 94) rfl ?_); refine goesL_ (some 38) rfl rfl Try.func94 (by kernel_rfl) rfl #[.int .i64 (l0.length : Int), .slice A1 l1.length c1] rfl zm ?_; (with_reducible refine (impl_kept.calls (l0.length : Int) _ _ l1 t518 _ ?side1 ?side2 A12.out).mono ?_); (case side1 => exact zq (Kd.C_below HR1.out HB.out)); (case side2 => exact HC1.out); rintro e w14 ⟨v519, rfl, ho0, hb⟩; refine ⟨_, rfl, ?_⟩; have n0_ := Aside0.mk (Kd.R_below (zr HO_8.out) hb); have n1_ := Aside0.mk (Kd.R_below (zr HO_10.out) hb); have n2_ := Aside0.mk (Kd.R_lower ho0 (below_size zb)); have n3_ := Aside0.mk (below_step zb hb); clear HO_8; clear HO_10; clear HB; have HO_8 := n0_; have HO_10 := n1_; have HO520 := n2_; have HB := n3_; clear n0_ n1_ n2_ n3_; (try clear hb); (try clear hb2); (try clear hk); (try clear hi); (try clear ho0)) | ((with_reducible refine gate_dst (N := 39) rfl ?_); refine Kd.S_lit (Kd.slice 3 (Kd.int .i64)) _ 113 ?hg (N := 39) ?hd (xs := ([] : List (List Int))) (inner := []) (ok := fun _ => True) (okp := fun _ => True) ?hr ?hp (fun _ hk => hk) trivial (Below.refl _ _) (Nat.le_refl _) (by simp) ?_; (case hd => rfl); (case hg => rfl); (case hr => first | (go_simp; done) | (go_simp; rfl)); (case hp => exact (Reps.none _ _)); intro v522 w15 ho16 hb hg_ hnew_; clear hg_ hnew_; (first | rw [← Ny521.out] at ho16 | (simp only [Int.reduceToNat] at ho16; rw [← Ny521.out] at ho16)); have n0_ := Aside0.mk (Kd.R_below (zr HO_8.out) hb); have n1_ := Aside0.mk (Kd.R_below (zr HO_10.out) hb); have n2_ := Aside0.mk (Kd.R_below (zr HO520.out) hb); have n3_ := Aside0.mk (Kd.S_lower (Kd.S_new' ho16 (Kd.R_lt (zr HO520.out))) (below_size zb)); have n4_ := Aside0.mk (below_step zb hb); clear HO_8; clear HO_10; clear HO520; clear HB; have HO_8 := n0_; have HO_10 := n1_; have HO520 := n2_; have HO523 := n3_; have HB := n4_; clear n0_ n1_ n2_ n3_ n4_; clear hb ho16) | ((with_reducible refine gateC (f := 94) rfl ?_); refine goesL_ (some 43) rfl rfl Try.func94 (by kernel_rfl) rfl #[.int .i64 (t510.length : Int), .slice A2 l2.length c2] rfl zm ?_; (with_reducible refine (impl_kept.calls (t510.length : Int) _ _ l2 t524 _ ?side1 ?side2 A13.out).mono ?_); (case side1 => exact zq (Kd.C_below HR2.out HB.out)); (case side2 => exact HC2.out); rintro e w17 ⟨v525, rfl, ho0, hb⟩; refine ⟨_, rfl, ?_⟩; have n0_ := Aside0.mk (Kd.R_below (zr HO_8.out) hb); have n1_ := Aside0.mk (Kd.R_below (zr HO_10.out) hb); have n2_ := Aside0.mk (Kd.R_elder' (zr HO520.out) (Kd.R_base ho0) hb); have n3_ := Aside0.mk (Kd.S_elder' (zs HO523.out) (Kd.R_base ho0) hb); have n4_ := Aside0.mk (Kd.R_lower (Kd.R_new' ho0 (Kd.R_lt (zr HO520.out))) (below_size zb)); have n5_ := Aside0.mk (below_step zb hb); clear HO_8; clear HO_10; clear HO520; clear HO523; clear HB; have HO_8 := n0_; have HO_10 := n1_; have HO520 := n2_; have HO523 := n3_; have HO526 := n4_; have HB := n5_; clear n0_ n1_ n2_ n3_ n4_ n5_; (try clear hb); (try clear hb2); (try clear hk); (try clear hi); (try clear ho0); obtain ⟨Ao18, co18, eo18⟩ := Kd.R_slice HO526.out; subst eo18))
    go_loopg [13, 45] kj5 (fun kq v13 v45 w' => ∃ (x13_2 : List (List Int)) (x45_2 : Int), v45 = .int .i64 x45_2 ∧ Aside0 (impl_JoinHunks.l0 kq l0 t514 t518 x13_2 t524 (t524.length : Int) x45_2 = some (r1, r2)) ∧ Aside0 (kq ≤ kj5) ∧ Aside0 (Kd.R Kd.string 9 w' w.heap.size (fun _ => True) v516 t514) ∧ Aside0 (Kd.R (Kd.int .i64) 3 w' w.heap.size (fun k_ => some k_ ≠ ((.slice Ao18 t524.length co18) : Value).ownBlock) v519 t518) ∧ Aside0 (Kd.S (Kd.slice 3 (Kd.int .i64)) 113 w' w.heap.size (fun k_ => some k_ ≠ (v519 : Value).ownBlock ∧ some k_ ≠ ((.slice Ao18 t524.length co18) : Value).ownBlock) v13 x13_2) ∧ Aside0 (Kd.R (Kd.int .i64) 3 w' w.heap.size (fun k_ => some k_ ≠ (v519 : Value).ownBlock) (.slice Ao18 t524.length co18) t524) ∧ Aside0 (Below w.heap.size w w'))
    case atStart => exact ⟨(y521), (0), zf, H', ⟨Nat.le_refl _⟩, ⟨by (with_reducible repeat (first | apply Kd.R_alloc | apply Kd.R_drewN | apply Kd.R_drew)); exact Kd.R_mono HO_10.out (fun _ hk => trivial)⟩, ⟨by (with_reducible repeat (first | apply Kd.R_alloc | apply Kd.R_drewN | apply Kd.R_drew)); exact Kd.R_mono HO520.out (fun _ hk => hk.2)⟩, ⟨by (with_reducible repeat (first | apply Kd.S_alloc | apply Kd.S_drewN | apply Kd.S_drew)); exact Kd.S_mono HO523.out (fun _ hk => ⟨hk.1.2, hk.2⟩)⟩, ⟨by (with_reducible repeat (first | apply Kd.R_alloc | apply Kd.R_drewN | apply Kd.R_drew)); exact Kd.R_mono HO526.out (fun _ hk => hk.2)⟩, ⟨by repeat (first | (with_reducible first | exact HB.out | apply below_alloc | apply pw_below_drewN | apply below_drew1) | exact HB.out)⟩⟩
    case round =>
     clear H'
     try clear c1
     try clear c2
     try clear p2
     try clear c3
     try clear c9
     try clear c10
     try clear c11
     try clear p2
     obtain ⟨x13_2, x45_2, rfl, HA, HK2, HO_10, HO_12, HO_13, HO_43, HB⟩ := hrel
     cases gk with
     | zero => exact absurd HA.out (by simp [impl_JoinHunks.l0])
     | succ k2 =>
      have H := HA.out
      clear HA
      simp only [impl_JoinHunks.l0] at H
      by_cases c19 : x45_2 < (t524.length : Int)
      ·rw [if_pos c19] at H
       have c19b0 : decide (x45_2 < (t524.length : Int)) = true := decide_eq_true c19
       clear c19
       by_cases c20 : 0 ≤ x45_2
       ·rw [if_pos c20] at H
        have c20b0 : decide (0 ≤ x45_2) = true := decide_eq_true c20
        clear c20
        by_cases c21 : x45_2 < (t524.length : Int)
        ·rw [if_pos c21] at H
         have c21b0 : decide (x45_2 < (t524.length : Int)) = true := decide_eq_true c21
         clear c21
         by_cases c22 : (rd t524 x45_2) ≥ 0
         ·rw [if_pos c22] at H
          have c22b0 : decide (0 ≤ (rd t524 x45_2)) = true := decide_eq_true c22
          clear c22
          by_cases c23 : 0 ≤ (rd t524 x45_2)
          ·rw [if_pos c23] at H
           have c23b0 : decide (0 ≤ (rd t524 x45_2)) = true := decide_eq_true c23
           clear c23
           by_cases c24 : (rd t524 x45_2) < (t518.length : Int)
           ·rw [if_pos c24] at H
            have c24b0 : decide ((rd t524 x45_2) < (t518.length : Int)) = true := decide_eq_true c24
            clear c24
            by_cases c25 : (rd t518 (rd t524 x45_2)) ≥ 0
            ·rw [if_pos c25] at H
             have c25b0 : decide (0 ≤ (rd t518 (rd t524 x45_2))) = true := decide_eq_true c25
             clear c25
             obtain ⟨y530, hy530⟩ : ∃ y_ : List Int, y_ = (([rd t518 (rd t524 x45_2), x45_2] : List Int)) := ⟨_, rfl⟩
             replace H : (if x13_2.length < 5864062014805 then (impl_JoinHunks.l0 k2 l0 t514 t518 (x13_2 ++ [y530]) t524 (t524.length : Int) (wrap64 (x45_2 + 1))) else (none)) = some (r1, r2) := by first | (rw [hy530]; with_reducible exact H) | (have H2_ := (Option.bind_some _ _).symm.trans H; rw [hy530]; with_reducible exact H2_) | (have H2_ := (Option.bind_some _ _).symm.trans H; with_reducible exact H2_) | with_reducible exact H | (rw [hy530]; exact H) | exact H
             have Ny530 := Aside0.mk hy530
             clear hy530
             by_cases c26 : x13_2.length < 5864062014805
             ·rw [if_pos c26] at H
              have LMc26 := Aside0.mk c26
              clear c26
              obtain ⟨y533, hy533⟩ : ∃ y_ : List (List Int), y_ = (x13_2 ++ [y530]) := ⟨_, rfl⟩
              replace H : (impl_JoinHunks.l0 k2 l0 t514 t518 y533 t524 (t524.length : Int) (wrap64 (x45_2 + 1))) = some (r1, r2) := by first | (rw [hy533]; with_reducible exact H) | (have H2_ := (Option.bind_some _ _).symm.trans H; rw [hy533]; with_reducible exact H2_) | (have H2_ := (Option.bind_some _ _).symm.trans H; with_reducible exact H2_) | with_reducible exact H | (rw [hy533]; exact H) | exact H
              have Ny533 := Aside0.mk hy533
              clear hy533
              have H' := Aside0.mk H
              clear H
              have p527 : 0 ≤ (x45_2 : Int) := oa
              have q527 : x45_2 < (t524.length : Int) := oa
              obtain ⟨ad527, e527, hx527_0⟩ := Kd.at_int (Kd.R_reads' HO_43.out).2.2 x45_2 p527 q527
              cases e527
              replace p527 := eq_true p527
              replace q527 := eq_true q527
              obtain ⟨Ao27, co27, eo27⟩ := Kd.R_slice HO_12.out
              subst eo27
              have p528 : 0 ≤ ((rd t524 x45_2) : Int) := oa
              have q528 : (rd t524 x45_2) < (t518.length : Int) := oa
              obtain ⟨ad528, e528, hx528_0⟩ := Kd.at_int (Kd.R_reads' HO_12.out).2.2 (rd t524 x45_2) p528 q528
              cases e528
              replace p528 := eq_true p528
              replace q528 := eq_true q528
              have p529 : 0 ≤ ((rd t524 x45_2) : Int) := oa
              have q529 : (rd t524 x45_2) < (t518.length : Int) := oa
              obtain ⟨ad529, e529, hx529_0⟩ := Kd.at_int (Kd.R_reads' HO_12.out).2.2 (rd t524 x45_2) p529 q529
              obtain rfl : ad528 = ad529 := (by injection e529)
              replace p529 := eq_true p529
              replace q529 := eq_true q529
              go_wp2_with (first | ((with_reducible refine gate_dst (N := 65) rfl ?_); refine Kd.R_lit (Kd.int .i64) _ 3 ?hg (N := 65) ?hd (xs := ([rd t518 (rd t524 x45_2), x45_2] : List Int)) (inner := [.int .i64 (rd t518 (rd t524 x45_2)), .int .i64 x45_2]) (ok := fun _ => True) (okp := fun _ => True) ?hr ?hp (fun _ hk => hk) trivial (Below.refl _ _) (Nat.le_refl _) (by simp) ?_; (case hd => rfl); (case hg => rfl); (case hr => first | (go_simp; done) | (go_simp; rfl)); (case hp => exact (Reps.one (show Kd.M (Kd.int .i64) _ _ _ (rd t518 (rd t524 x45_2)) [.int .i64 (rd t518 (rd t524 x45_2))] from rfl) (Reps.one (show Kd.M (Kd.int .i64) _ _ _ x45_2 [.int .i64 x45_2] from rfl) (Reps.none _ _)))); intro v531 w28 ho29 hb hg_ hnew_; clear hg_ hnew_; (first | rw [← Ny530.out] at ho29 | (simp only [Int.reduceToNat] at ho29; rw [← Ny530.out] at ho29)); have n0_ := Aside0.mk (Kd.R_below (zr HO_10.out) hb); have n1_ := Aside0.mk (Kd.R_elder' (zr HO_12.out) (Kd.R_base ho29) hb); have n2_ := Aside0.mk (Kd.S_elder' (zs HO_13.out) (Kd.R_base ho29) hb); have n3_ := Aside0.mk (Kd.R_elder' (zr HO_43.out) (Kd.R_base ho29) hb); have n4_ := Aside0.mk (Kd.R_lower (Kd.R_new' (Kd.R_new' ho29 (Kd.R_lt (zr HO_12.out))) (Kd.R_lt (zr HO_43.out))) (below_size zb)); have n5_ := Aside0.mk (below_step zb hb); clear HO_10; clear HO_12; clear HO_13; clear HO_43; clear HB; have HO_10 := n0_; have HO_12 := n1_; have HO_13 := n2_; have HO_43 := n3_; have HO532 := n4_; have HB := n5_; clear n0_ n1_ n2_ n3_ n4_ n5_; clear hb ho29; obtain ⟨Ao31, co31, eo31⟩ := Kd.R_slice HO532.out; subst eo31) | ((with_reducible refine gateB (b := .append) (xs := #[.tmp 59, .tmp 66]) rfl ?_); at_builtin; refine Kd.S_append (Kd.slice 3 (Kd.int .i64)) (w0 := w) w.heap.size rfl (.tmp 59) (.tmp 66) 115 113 (.slice none 0 0) 24 rfl Try.underlying115 info113 rfl (by decide) (by omega) u13 x13_2 y530 [.slice Ao31 y530.length co31] (fun k_ => some k_ ≠ (.slice (some ad528) t518.length co27 : Value).ownBlock ∧ some k_ ≠ (.slice (some ad527) t524.length co18 : Value).ownBlock) (fun k_ => some k_ = (.slice Ao31 y530.length co31 : Value).ownBlock) rfl rfl ?aP (fun k_ hk_ => ((Kd.R_mono (ok' := fun k_ => ((fun k_ => some k_ ≠ (.slice (some ad528) t518.length co27 : Value).ownBlock ∧ some k_ ≠ (.slice (some ad527) t524.length co18 : Value).ownBlock)) k_ ∧ some k_ ≠ (u13 : Value).ownBlock) (Kd.R_apart' (HO532.out) (Kd.S_typed HO_13.out) (by decide)) (fun k_ hk => ⟨⟨hk.1.1.2, hk.1.2⟩, hk.2⟩))).1 k_ hk_.symm) ?aF ?aO ?aB ?aS ?aL ?_; (case aP => exact Kd.M_row (Kd.R_mono (Kd.R_tight rfl (Kd.R_mono (ok' := fun k_ => ((fun k_ => some k_ ≠ (.slice (some ad528) t518.length co27 : Value).ownBlock ∧ some k_ ≠ (.slice (some ad527) t524.length co18 : Value).ownBlock)) k_ ∧ some k_ ≠ (u13 : Value).ownBlock) (Kd.R_apart' (HO532.out) (Kd.S_typed HO_13.out) (by decide)) (fun k_ hk => ⟨⟨hk.1.1.2, hk.1.2⟩, hk.2⟩))) (fun _ h_ => h_))); (case aB => exact zb); (case aF => exact (fun k_ hk => ⟨Kd.fresh' (Kd.R_lt (zr HO_12.out)) k_ hk, Kd.fresh' (Kd.R_lt (zr HO_43.out)) k_ hk⟩)); (case aO => exact (by (with_reducible repeat (first | apply Kd.S_alloc | apply Kd.S_drewN | apply Kd.S_drew)); exact Kd.S_mono HO_13.out (fun k_ hk => ⟨⟨hk.1.1, hk.1.2⟩, fun e_ => hk.2 e_⟩))); (case aS => exact (below_size zb)); (case aL => have := LMc26.out; omega); intro v534 w30 ho hb hg hat; rw [← Ny533.out] at ho; have n0_ := Aside0.mk (Kd.R_over' (zr HO_10.out) (Kd.S_typed (zs HO_13.out)) (by decide) hg); have n1_ := Aside0.mk (Kd.R_over' (zr HO_12.out) (Kd.S_typed (zs HO_13.out)) (by decide) hg); have n2_ := Aside0.mk (Kd.R_over' (zr HO_43.out) (Kd.S_typed (zs HO_13.out)) (by decide) hg); have n3_ := Aside0.mk (hb); have n4_ := Aside0.mk (ho); clear HO_10; clear HO_12; clear HO_43; clear HB; clear HO_13; clear HO532; have HO_10 := n0_; have HO_12 := n1_; have HO_43 := n2_; have HB := n3_; have HO535 := n4_; clear n0_ n1_ n2_ n3_ n4_; clear ho hb hg hat))
              go_roundg k2
              case measure => have := HJ5.out; have := HK2.out; omega
              case rel => exact ⟨(y533), (wrap64 (x45_2 + 1)), zf, H', ⟨by have := HJ5.out; have := HK2.out; omega⟩, ⟨by (with_reducible repeat (first | apply Kd.R_alloc | apply Kd.R_drewN | apply Kd.R_drew)); exact HO_10.out⟩, ⟨by (with_reducible repeat (first | apply Kd.R_alloc | apply Kd.R_drewN | apply Kd.R_drew)); exact Kd.R_mono HO_12.out (fun _ hk => hk.1)⟩, ⟨by (with_reducible repeat (first | apply Kd.S_alloc | apply Kd.S_drewN | apply Kd.S_drew)); exact HO535.out⟩, ⟨by (with_reducible repeat (first | apply Kd.R_alloc | apply Kd.R_drewN | apply Kd.R_drew)); exact Kd.R_mono HO_43.out (fun _ hk => hk.1)⟩, ⟨by repeat (first | (with_reducible first | exact HB.out | apply below_alloc | apply pw_below_drewN | apply below_drew1) | exact HB.out)⟩⟩
             ·rw [if_neg c26] at H
              exact absurd H (by simp)
            ·rw [if_neg c25] at H
             have c25b0 : decide (0 ≤ (rd t518 (rd t524 x45_2))) = false := decide_eq_false c25
             clear c25
             have H' := Aside0.mk H
             clear H
             have p527 : 0 ≤ (x45_2 : Int) := oa
             have q527 : x45_2 < (t524.length : Int) := oa
             obtain ⟨ad527, e527, hx527_0⟩ := Kd.at_int (Kd.R_reads' HO_43.out).2.2 x45_2 p527 q527
             cases e527
             replace p527 := eq_true p527
             replace q527 := eq_true q527
             obtain ⟨Ao32, co32, eo32⟩ := Kd.R_slice HO_12.out
             subst eo32
             have p528 : 0 ≤ ((rd t524 x45_2) : Int) := oa
             have q528 : (rd t524 x45_2) < (t518.length : Int) := oa
             obtain ⟨ad528, e528, hx528_0⟩ := Kd.at_int (Kd.R_reads' HO_12.out).2.2 (rd t524 x45_2) p528 q528
             cases e528
             replace p528 := eq_true p528
             replace q528 := eq_true q528
             go_wp2
             go_roundg k2
             case measure => have := HJ5.out; have := HK2.out; omega
             case rel => exact ⟨(x13_2), (wrap64 (x45_2 + 1)), zf, H', ⟨by have := HJ5.out; have := HK2.out; omega⟩, ⟨by (with_reducible repeat (first | apply Kd.R_alloc | apply Kd.R_drewN | apply Kd.R_drew)); exact HO_10.out⟩, ⟨by (with_reducible repeat (first | apply Kd.R_alloc | apply Kd.R_drewN | apply Kd.R_drew)); exact HO_12.out⟩, ⟨by (with_reducible repeat (first | apply Kd.S_alloc | apply Kd.S_drewN | apply Kd.S_drew)); exact HO_13.out⟩, ⟨by (with_reducible repeat (first | apply Kd.R_alloc | apply Kd.R_drewN | apply Kd.R_drew)); exact HO_43.out⟩, ⟨by repeat (first | (with_reducible first | exact HB.out | apply below_alloc | apply pw_below_drewN | apply below_drew1) | exact HB.out)⟩⟩
           ·rw [if_neg c24] at H
            exact absurd H (by simp)
          ·rw [if_neg c23] at H
           exact absurd H (by simp)
         ·rw [if_neg c22] at H
          have c22b0 : decide (0 ≤ (rd t524 x45_2)) = false := decide_eq_false c22
          clear c22
          have H' := Aside0.mk H
          clear H
          have p527 : 0 ≤ (x45_2 : Int) := oa
          have q527 : x45_2 < (t524.length : Int) := oa
          obtain ⟨ad527, e527, hx527_0⟩ := Kd.at_int (Kd.R_reads' HO_43.out).2.2 x45_2 p527 q527
          cases e527
          replace p527 := eq_true p527
          replace q527 := eq_true q527
          go_wp2
          go_roundg k2
          case measure => have := HJ5.out; have := HK2.out; omega
          case rel => exact ⟨(x13_2), (wrap64 (x45_2 + 1)), zf, H', ⟨by have := HJ5.out; have := HK2.out; omega⟩, ⟨by (with_reducible repeat (first | apply Kd.R_alloc | apply Kd.R_drewN | apply Kd.R_drew)); exact HO_10.out⟩, ⟨by (with_reducible repeat (first | apply Kd.R_alloc | apply Kd.R_drewN | apply Kd.R_drew)); exact HO_12.out⟩, ⟨by (with_reducible repeat (first | apply Kd.S_alloc | apply Kd.S_drewN | apply Kd.S_drew)); exact HO_13.out⟩, ⟨by (with_reducible repeat (first | apply Kd.R_alloc | apply Kd.R_drewN | apply Kd.R_drew)); exact HO_43.out⟩, ⟨by repeat (first | (with_reducible first | exact HB.out | apply below_alloc | apply pw_below_drewN | apply below_drew1) | exact HB.out)⟩⟩
        ·rw [if_neg c21] at H
         exact absurd H (by simp)
       ·rw [if_neg c20] at H
        exact absurd H (by simp)
      ·rw [if_neg c19] at H
       have c19b0 : decide (x45_2 < (t524.length : Int)) = false := decide_eq_false c19
       clear c19
       replace H := Option.bind_eq_some_iff.mp H
       obtain ⟨t536, A330, H⟩ := H
       replace H : ((impl_goodHunks.f k2 (l0.length : Int) t536).bind fun t539 => (if t539 = true then (some (t536, true)) else (some (([] : List (S111)), false)))) = some (r1, r2) := H
       have A33 := Aside0.mk A330
       clear A330
       replace H := Option.bind_eq_some_iff.mp H
       obtain ⟨t539, A340, H⟩ := H
       replace H : (if t539 = true then (some (t536, true)) else (some (([] : List (S111)), false))) = some (r1, r2) := H
       have A34 := Aside0.mk A340
       clear A340
       by_cases c35 : t539 = true
       ·subst c35
        have H1 : (some (t536, true)) = some (r1, r2) := by rw [if_pos rfl] at H; exact H
        clear H
        have H := H1
        clear H1
        simp only [Option.some.injEq, Prod.mk.injEq] at H
        obtain ⟨rfl, rfl⟩ := H
        obtain ⟨Ao36, co36, eo36⟩ := Kd.R_slice HO_10.out
        subst eo36
        obtain ⟨Aq, cq, eq_⟩ := Kd.S_slice HO_13.out
        subst eq_
        go_wp2_with (first | ((with_reducible refine gateC (f := 95) rfl ?_); refine goesL_ (some 72) rfl rfl Try.func95 (by kernel_rfl) rfl #[.slice A0 l0.length c0, .slice Ao36 t514.length co36, .slice Aq x13_2.length cq] rfl zm ?_; (with_reducible refine (impl_between.calls k2 _ _ l0 _ _ t514 _ _ x13_2 t536 w _ ?side1 ?side2 ?side3 A33.out).mono ?_); (case side1 => exact zr HO_10.out); (case side2 => exact zs (Kd.S_mono HO_13.out (fun _ _ => trivial))); (case side3 => exact zb); rintro e w37 ⟨v537, rfl, ho0, hb⟩; refine ⟨_, rfl, ?_⟩; have n4_ := Aside0.mk ho0; have n5_ := Aside0.mk hb; clear HO_10; clear HO_12; clear HO_13; clear HO_43; clear HB; have HO538 := n4_; have HB := n5_; clear n4_ n5_; (try clear hb); (try clear hb2); (try clear hk); (try clear hi); (try clear ho0); obtain ⟨Ao38, co38, eo38⟩ := Kd.S_slice HO538.out; subst eo38) | ((with_reducible refine gateC (f := 96) rfl ?_); refine goesL_ (some 76) rfl rfl Try.func96 (by kernel_rfl) rfl #[.int .i64 (l0.length : Int), .slice Ao38 t536.length co38] rfl zm ?_; (with_reducible refine (impl_goodHunks.calls k2 (l0.length : Int) _ _ t536 true _ ?side1 ?side2 A34.out).mono ?_); (case side1 => repeat (first | exact (Kd.S_reads' HO538.out).2.2 | (with_reducible refine Kd.C_alloc ?_ _) | (with_reducible refine Kd.C_drewN ?_ _) | (with_reducible refine Kd.C_drew ?_))); (case side2 => exact (Kd.S_reads' HO538.out).2.1); rintro e w39 ⟨rfl, hb⟩; refine ⟨_, rfl, ?_⟩; have n4_ := Aside0.mk (Kd.S_below (zs HO538.out) hb); have n5_ := Aside0.mk (below_step zb hb); clear HO538; clear HB; have HO538 := n4_; have HB := n5_; clear n4_ n5_; (try clear hb); (try clear hb2); (try clear hk); (try clear hi)))
        go_ret2
        exact ⟨_, by first | rfl | (simp [errW_none, errW_some] <;> rfl) | (simp [*, errW_none, errW_some] <;> rfl), by (with_reducible repeat (first | apply Kd.S_alloc | apply Kd.S_drewN | apply Kd.S_drew)); exact Kd.S_mono HO538.out (fun _ hk => trivial), by repeat (first | (with_reducible first | exact HB.out | apply below_alloc | apply pw_below_drewN | apply below_drew1) | exact HB.out)⟩
       ·replace c35 := Bool.eq_false_iff.mpr c35
        subst c35
        have H1 : (some (([] : List (S111)), false)) = some (r1, r2) := by rw [if_neg (show ¬ (false = true) by decide)] at H; exact H
        clear H
        have H := H1
        clear H1
        simp only [Option.some.injEq, Prod.mk.injEq] at H
        obtain ⟨rfl, rfl⟩ := H
        obtain ⟨Ao40, co40, eo40⟩ := Kd.R_slice HO_10.out
        subst eo40
        obtain ⟨Aq, cq, eq_⟩ := Kd.S_slice HO_13.out
        subst eq_
        go_wp2_with (first | ((with_reducible refine gateC (f := 95) rfl ?_); refine goesL_ (some 72) rfl rfl Try.func95 (by kernel_rfl) rfl #[.slice A0 l0.length c0, .slice Ao40 t514.length co40, .slice Aq x13_2.length cq] rfl zm ?_; (with_reducible refine (impl_between.calls k2 _ _ l0 _ _ t514 _ _ x13_2 t536 w _ ?side1 ?side2 ?side3 A33.out).mono ?_); (case side1 => exact zr HO_10.out); (case side2 => exact zs (Kd.S_mono HO_13.out (fun _ _ => trivial))); (case side3 => exact zb); rintro e w41 ⟨v537, rfl, ho0, hb⟩; refine ⟨_, rfl, ?_⟩; have n4_ := Aside0.mk ho0; have n5_ := Aside0.mk hb; clear HO_10; clear HO_12; clear HO_13; clear HO_43; clear HB; have HO538 := n4_; have HB := n5_; clear n4_ n5_; (try clear hb); (try clear hb2); (try clear hk); (try clear hi); (try clear ho0); obtain ⟨Ao42, co42, eo42⟩ := Kd.S_slice HO538.out; subst eo42) | ((with_reducible refine gateC (f := 96) rfl ?_); refine goesL_ (some 76) rfl rfl Try.func96 (by kernel_rfl) rfl #[.int .i64 (l0.length : Int), .slice Ao42 t536.length co42] rfl zm ?_; (with_reducible refine (impl_goodHunks.calls k2 (l0.length : Int) _ _ t536 false _ ?side1 ?side2 A34.out).mono ?_); (case side1 => repeat (first | exact (Kd.S_reads' HO538.out).2.2 | (with_reducible refine Kd.C_alloc ?_ _) | (with_reducible refine Kd.C_drewN ?_ _) | (with_reducible refine Kd.C_drew ?_))); (case side2 => exact (Kd.S_reads' HO538.out).2.1); rintro e w43 ⟨rfl, hb⟩; refine ⟨_, rfl, ?_⟩; have n4_ := Aside0.mk (Kd.S_below (zs HO538.out) hb); have n5_ := Aside0.mk (below_step zb hb); clear HO538; clear HB; have HO538 := n4_; have HB := n5_; clear n4_ n5_; (try clear hb); (try clear hb2); (try clear hk); (try clear hi)))
        go_ret2
        exact ⟨_, by first | rfl | (simp [errW_none, errW_some] <;> rfl) | (simp [*, errW_none, errW_some] <;> rfl), by first | exact Kd.S_nil _ _ _ _ _ | exact Kd.Q_nil _ _ _ _ _ | exact Kd.R_nil _ _ _ _ _, by repeat (first | (with_reducible first | exact HB.out | apply below_alloc | apply pw_below_drewN | apply below_drew1) | exact HB.out)⟩

theorem impl_JoinHunks.callsN (k : Nat) (A0 : Option Addr) (c0 : Nat) (l0 : List ByteArray) (A1 : Option Addr) (c1 : Nat) (l1 : List (S111)) (A2 : Option Addr) (c2 : Nat) (l2 : List (S111)) (r1 : List (S111)) (r2 : Bool) (w : World) (hr0 : Kd.C Kd.string w A0 l0.length l0) (hc0 : l0.length ≤ c0) (hr1 : Kd.C k111 w A1 l1.length l1) (hc1 : l1.length ≤ c1) (hr2 : Kd.C k111 w A2 l2.length l2) (hc2 : l2.length ≤ c2) (h : impl_JoinHunks.f k l0 l1 l2 = some (r1, r2)) :
  Calls Try.prog 27 #[.slice A0 l0.length c0, .slice A1 l1.length c1, .slice A2 l2.length c2] w fun e w' => ∃ v0_ : Value, e = .returned (.tuple #[v0_, .bool r2]) ∧ Kd.N k111 111 w' w.heap.size (fun k_ => w.heap.size ≤ k_) v0_ r1 ∧ Below w.heap.size w w' := by
 refine (impl_JoinHunks.calls k A0 c0 l0 A1 c1 l1 A2 c2 l2 r1 r2 w hr0 hc0 hr1 hc1 hr2 hc2 h).mono ?_
 rintro e w' ⟨v, rfl, ho, hb⟩
 exact ⟨v, rfl, Kd.N_mono (Kd.S_N (Kd.S_bound ho)) (fun k_ hk_ => hk_.2.1), hb⟩
end Go.Proofs.Ytcefenlblnediaa.My

/- Written by this session's program (wip/gen): a plain function with the same answers as the Go function, and the proof that the Go code comes to them. Asked: that the plain function has an answer. -/
namespace Go.Proofs.Ytcefenlblnediaa.My
open Go.RowKit Go.Proofs.YtcefenlblnediaaW.PrintWords Go.Proofs.YtcefenlblnediaaW.PrintLast Go.Proofs.YtcefenlblnediaaW.PrintMore
attribute [local go_sem] max2_int min2_int max_two min_two max_three min_three max_four min_four
set_option linter.unusedVariables false
set_option linter.unusedSimpArgs false

/-! ### impl_PlaceOf: function 37 -/
mutual
def impl_PlaceOf.j0 : Nat → List (S111) → Int → Bool → Option (Int × Bool)
 | 0, _, _, _ => none
 | k + 1, x0, x2, x20 => if x20 = true then (some (0, false)) else (impl_PlaceOf.l0 k x2 x2 x0 (x0.length : Int) 0)
def impl_PlaceOf.l0 : Nat → Int → Int → List (S111) → Int → Int → Option (Int × Bool)
 | 0, _, _, _, _, _ => none
 | k + 1, x2, x8, x22, x23, x24 => if x24 < x23 then (if 0 ≤ x24 then (if x24 < (x22.length : Int) then (if (wrap64 (((rd_T111 x22 x24).f0) + ((rd_T111 x22 x24).f1))) ≤ x2 then (impl_PlaceOf.l0 k x2 (wrap64 (x8 + (wrap64 ((((rd_T111 x22 x24).f2).length : Int) - ((rd_T111 x22 x24).f1))))) x22 x23 (wrap64 (x24 + 1))) else (if ((rd_T111 x22 x24).f0) ≤ x2 then (some (0, false)) else (impl_PlaceOf.l0 k x2 x8 x22 x23 (wrap64 (x24 + 1))))) else (none)) else (none)) else (some (x8, true))
end
def impl_PlaceOf.f (k : Nat) (l0 : List (S111)) (a1 : Int) (a2 : Int) : Option (Int × Bool) := (impl_goodHunks.f k a1 l0).bind fun t771 => (if t771 = true then ((impl_in.f a2 0 a1).bind fun t772 => (impl_PlaceOf.j0 k l0 a2 (!t772))) else (impl_PlaceOf.j0 k l0 a2 true))
set_option maxHeartbeats 8000000 in
set_option maxRecDepth 100000 in
theorem impl_PlaceOf.calls (k : Nat) (A0 : Option Addr) (c0 : Nat) (l0 : List (S111)) (a1 : Int) (a2 : Int) (r1 : Int) (r2 : Bool) (w : World) (hr0 : Kd.C k111 w A0 l0.length l0) (hc0 : l0.length ≤ c0) (h : impl_PlaceOf.f k l0 a1 a2 = some (r1, r2)) :
  Calls Try.prog 37 #[.slice A0 l0.length c0, .int .i64 a1, .int .i64 a2] w fun e w' => e = .returned (.tuple #[.int .i64 r1, .bool r2]) ∧ Below w.heap.size w w' := by
 have hu111 := Try.underlying111
 have HR0 := Aside0.mk hr0
 have HC0 := Aside0.mk hc0
 clear hr0 hc0
 have HB := Aside0.mk (Below.refl w.heap.size w)
 have H : ((impl_goodHunks.f k a1 l0).bind fun t771 => (if t771 = true then ((impl_in.f a2 0 a1).bind fun t772 => (impl_PlaceOf.j0 k l0 a2 (!t772))) else (impl_PlaceOf.j0 k l0 a2 true))) = some (r1, r2) := h
 clear h
 have HC4 := Aside0.mk H
 clear H
 go_enter Try.func37, Try.ntmps37
 go_upto_region 1 with (fail)
 go_cut [20] (fun v20 wc => ∃ (kq : Nat) (x20_3 : Bool), v20 = .bool x20_3 ∧ Aside0 (impl_PlaceOf.j0 kq l0 a2 x20_3 = some (r1, r2)) ∧ Aside0 (kq ≤ k) ∧ Aside0 (Below w.heap.size w wc))
 case first =>
  have H := HC4.out
  clear HC4
  replace H := Option.bind_eq_some_iff.mp H
  obtain ⟨t771, A50, H⟩ := H
  replace H : (if t771 = true then ((impl_in.f a2 0 a1).bind fun t772 => (impl_PlaceOf.j0 k l0 a2 (!t772))) else (impl_PlaceOf.j0 k l0 a2 true)) = some (r1, r2) := H
  have A5 := Aside0.mk A50
  clear A50
  by_cases c6 : t771 = true
  ·subst c6
   have H1 : ((impl_in.f a2 0 a1).bind fun t772 => (impl_PlaceOf.j0 k l0 a2 (!t772))) = some (r1, r2) := by rw [if_pos rfl] at H; exact H
   clear H
   have H := H1
   clear H1
   replace H := Option.bind_eq_some_iff.mp H
   obtain ⟨t772, A70, H⟩ := H
   replace H : (impl_PlaceOf.j0 k l0 a2 (!t772)) = some (r1, r2) := H
   have A7 := Aside0.mk A70
   clear A70
   have H' := Aside0.mk H
   clear H
   go_wp2_with (first | ((with_reducible refine gateC (f := 96) rfl ?_); refine goesL_ (some 13) rfl rfl Try.func96 (by kernel_rfl) rfl #[.int .i64 a1, .slice A0 l0.length c0] rfl zm ?_; (with_reducible refine (impl_goodHunks.calls k a1 _ _ l0 true _ ?side1 ?side2 A5.out).mono ?_); (case side1 => exact zq (Kd.C_below HR0.out HB.out)); (case side2 => exact HC0.out); rintro e w8 ⟨rfl, hb⟩; refine ⟨_, rfl, ?_⟩; have n0_ := Aside0.mk (below_step zb hb); clear HB; have HB := n0_; clear n0_; (try clear hb); (try clear hb2); (try clear hk); (try clear hi)) | (go_at_call 102; (with_reducible refine (impl_in.calls a2 0 a1 t772 _ A7.out).mono ?_); rintro e w' ⟨rfl, ⟨nd, rfl⟩⟩))
   go_meet
   case rel => exact ⟨_, (!t772), zf, H', ⟨by first | omega | exact Nat.le_refl _⟩, ⟨by repeat (first | (with_reducible first | exact HB.out | apply below_alloc | apply pw_below_drewN | apply below_drew1) | exact HB.out)⟩⟩
  ·replace c6 := Bool.eq_false_iff.mpr c6
   subst c6
   have H1 : (impl_PlaceOf.j0 k l0 a2 true) = some (r1, r2) := by rw [if_neg (show ¬ (false = true) by decide)] at H; exact H
   clear H
   have H := H1
   clear H1
   have H' := Aside0.mk H
   clear H
   go_wp2_with (first | ((with_reducible refine gateC (f := 96) rfl ?_); refine goesL_ (some 13) rfl rfl Try.func96 (by kernel_rfl) rfl #[.int .i64 a1, .slice A0 l0.length c0] rfl zm ?_; (with_reducible refine (impl_goodHunks.calls k a1 _ _ l0 false _ ?side1 ?side2 A5.out).mono ?_); (case side1 => exact zq (Kd.C_below HR0.out HB.out)); (case side2 => exact HC0.out); rintro e w9 ⟨rfl, hb⟩; refine ⟨_, rfl, ?_⟩; have n0_ := Aside0.mk (below_step zb hb); clear HB; have HB := n0_; clear n0_; (try clear hb); (try clear hb2); (try clear hk); (try clear hi)))
   go_meet
   case rel => exact ⟨_, (true), zf, H', ⟨by first | omega | exact Nat.le_refl _⟩, ⟨by repeat (first | (with_reducible first | exact HB.out | apply below_alloc | apply pw_below_drewN | apply below_drew1) | exact HB.out)⟩⟩
 case rest =>
  clear HC4
  try clear p2
  try clear c3
  try clear c6
  try clear c9
  obtain ⟨kq, x20_3, rfl, HA, HJ3, HB⟩ := hcut
  cases kq with
  | zero => exact absurd HA.out (by simp [impl_PlaceOf.j0])
  | succ kj3 =>
   have H := HA.out
   clear HA
   simp only [impl_PlaceOf.j0] at H
   by_cases c10 : x20_3 = true
   ·subst c10
    have H1 : (some (0, false)) = some (r1, r2) := by rw [if_pos rfl] at H; exact H
    clear H
    have H := H1
    clear H1
    simp only [Option.some.injEq, Prod.mk.injEq] at H
    obtain ⟨rfl, rfl⟩ := H
    go_wp2
    go_ret2
    exact ⟨by first | rfl | (simp [errW_none, errW_some] <;> rfl) | (simp [*, errW_none, errW_some] <;> rfl), by repeat (first | (with_reducible first | exact HB.out | apply below_alloc | apply pw_below_drewN | apply below_drew1) | exact HB.out)⟩
   ·replace c10 := Bool.eq_false_iff.mpr c10
    subst c10
    have H1 : (impl_PlaceOf.l0 kj3 a2 a2 l0 (l0.length : Int) 0) = some (r1, r2) := by rw [if_neg (show ¬ (false = true) by decide)] at H; exact H
    clear H
    have H := H1
    clear H1
    have H' := Aside0.mk H
    clear H
    go_wp2
    go_loopg [8, 24] kj3 (fun kq v8 v24 w' => ∃ (x8_2 : Int) (x24_2 : Int), v8 = .int .i64 x8_2 ∧ v24 = .int .i64 x24_2 ∧ Aside0 (impl_PlaceOf.l0 kq a2 x8_2 l0 (l0.length : Int) x24_2 = some (r1, r2)) ∧ Aside0 (kq ≤ kj3) ∧ Aside0 (Below w.heap.size w w'))
    case atStart => exact ⟨(a2), (0), zf, zf, H', ⟨Nat.le_refl _⟩, ⟨by repeat (first | (with_reducible first | exact HB.out | apply below_alloc | apply pw_below_drewN | apply below_drew1) | exact HB.out)⟩⟩
    case round =>
     clear H'
     try clear c1
     try clear p2
     try clear c3
     try clear c6
     try clear c9
     try clear c10
     try clear p2
     obtain ⟨x8_2, x24_2, rfl, rfl, HA, HK2, HB⟩ := hrel
     cases gk with
     | zero => exact absurd HA.out (by simp [impl_PlaceOf.l0])
     | succ k2 =>
      have H := HA.out
      clear HA
      simp only [impl_PlaceOf.l0] at H
      by_cases c11 : x24_2 < (l0.length : Int)
      ·rw [if_pos c11] at H
       have c11b0 : decide (x24_2 < (l0.length : Int)) = true := decide_eq_true c11
       clear c11
       by_cases c12 : 0 ≤ x24_2
       ·rw [if_pos c12] at H
        have c12b0 : decide (0 ≤ x24_2) = true := decide_eq_true c12
        clear c12
        by_cases c13 : x24_2 < (l0.length : Int)
        ·rw [if_pos c13] at H
         have c13b0 : decide (x24_2 < (l0.length : Int)) = true := decide_eq_true c13
         clear c13
         by_cases c14 : (wrap64 (((rd_T111 l0 x24_2).f0) + ((rd_T111 l0 x24_2).f1))) ≤ a2
         ·rw [if_pos c14] at H
          have c14b0 : decide ((wrap64 (((rd_T111 l0 x24_2).f0) + ((rd_T111 l0 x24_2).f1))) ≤ a2) = true := decide_eq_true c14
          clear c14
          have H' := Aside0.mk H
          clear H
          have p773 : 0 ≤ (x24_2 : Int) := oa
          have q773 : x24_2 < (l0.length : Int) := oa
          obtain ⟨ad773, A773_2, c773_2, e773, hx773_0, hx773_1, hx773_2, hl773_2, hi773_2⟩ := at_T111 HR0.out x24_2 p773 q773
          cases e773
          replace hx773_0 := (HB.out.cell (World.block_lt_of_cell? w _ hx773_0)).trans hx773_0
          replace hx773_1 := (HB.out.cell (World.block_lt_of_cell? w _ hx773_1)).trans hx773_1
          replace hx773_2 := (HB.out.cell (World.block_lt_of_cell? w _ hx773_2)).trans hx773_2
          have HR773_2 := Aside0.mk hi773_2
          have HC773_2 := Aside0.mk hl773_2
          clear hi773_2 hl773_2
          replace p773 := eq_true p773
          replace q773 := eq_true q773
          go_wp2_with (first | ((with_reducible refine gate_dst (N := 10) rfl ?_); refine box_event ?hg (N := 10) ?hd (cs := #[.int .i64 0, .int .i64 0, .slice none 0 0]) (t := 111) ?hr ?_; (case hd => rfl); (case hg => rfl); (case hr => first | (go_simp; done) | (go_simp; rfl)); intro gb774 hg w15 hbox hb; have n0_ := Aside0.mk (below_step zb hb); have n1_ := Aside0.mk (hbox); have n2_ := Aside0.mk ((by rw [hg]; exact (below_size zb) : w.heap.size ≤ gb774)); have n3_ := Aside0.mk ((by rw [hg]; exact (below_size zb) : w.heap.size ≤ gb774)); clear HB; have HB := n0_; have BK774 := n1_; have GW774 := n2_; have GE774 := n3_; clear n0_ n1_ n2_ n3_; clear hb hbox hg; have hcz16_0 : w15.cell? ⟨gb774, 0, none⟩ = some (.int .i64 0) := (blk_cell BK774.out 0).trans rfl; have hcz16_1 : w15.cell? ⟨gb774, 1, none⟩ = some (.int .i64 0) := (blk_cell BK774.out 1).trans rfl; have hcz16_2 : w15.cell? ⟨gb774, 2, none⟩ = some (.slice none 0 0) := (blk_cell BK774.out 2).trans rfl; have hfz16_0 := blk_frozen BK774.out 0; have hfz16_1 := blk_frozen BK774.out 1; have hfz16_2 := blk_frozen BK774.out 2))
          go_roundg k2
          case measure => have := HJ3.out; have := HK2.out; omega
          case rel => exact ⟨(wrap64 (x8_2 + (wrap64 ((((rd_T111 l0 x24_2).f2).length : Int) - ((rd_T111 l0 x24_2).f1))))), (wrap64 (x24_2 + 1)), zf, zf, H', ⟨by have := HJ3.out; have := HK2.out; omega⟩, ⟨by repeat (first | (with_reducible first | exact HB.out | apply below_alloc | apply pw_below_drewN | apply below_drew1 | refine below_set ?_ GE774.out) | exact HB.out)⟩⟩
         ·rw [if_neg c14] at H
          have c14b0 : decide ((wrap64 (((rd_T111 l0 x24_2).f0) + ((rd_T111 l0 x24_2).f1))) ≤ a2) = false := decide_eq_false c14
          clear c14
          by_cases c17 : ((rd_T111 l0 x24_2).f0) ≤ a2
          ·rw [if_pos c17] at H
           have c17b0 : decide (((rd_T111 l0 x24_2).f0) ≤ a2) = true := decide_eq_true c17
           clear c17
           simp only [Option.some.injEq, Prod.mk.injEq] at H
           obtain ⟨rfl, rfl⟩ := H
           have p773 : 0 ≤ (x24_2 : Int) := oa
           have q773 : x24_2 < (l0.length : Int) := oa
           obtain ⟨ad773, A773_2, c773_2, e773, hx773_0, hx773_1, hx773_2, hl773_2, hi773_2⟩ := at_T111 HR0.out x24_2 p773 q773
           cases e773
           replace hx773_0 := (HB.out.cell (World.block_lt_of_cell? w _ hx773_0)).trans hx773_0
           replace hx773_1 := (HB.out.cell (World.block_lt_of_cell? w _ hx773_1)).trans hx773_1
           replace hx773_2 := (HB.out.cell (World.block_lt_of_cell? w _ hx773_2)).trans hx773_2
           have HR773_2 := Aside0.mk hi773_2
           have HC773_2 := Aside0.mk hl773_2
           clear hi773_2 hl773_2
           replace p773 := eq_true p773
           replace q773 := eq_true q773
           go_wp2_with (first | ((with_reducible refine gate_dst (N := 10) rfl ?_); refine box_event ?hg (N := 10) ?hd (cs := #[.int .i64 0, .int .i64 0, .slice none 0 0]) (t := 111) ?hr ?_; (case hd => rfl); (case hg => rfl); (case hr => first | (go_simp; done) | (go_simp; rfl)); intro gb774 hg w18 hbox hb; have n0_ := Aside0.mk (below_step zb hb); have n1_ := Aside0.mk (hbox); have n2_ := Aside0.mk ((by rw [hg]; exact (below_size zb) : w.heap.size ≤ gb774)); have n3_ := Aside0.mk ((by rw [hg]; exact (below_size zb) : w.heap.size ≤ gb774)); clear HB; have HB := n0_; have BK774 := n1_; have GW774 := n2_; have GE774 := n3_; clear n0_ n1_ n2_ n3_; clear hb hbox hg; have hcz19_0 : w18.cell? ⟨gb774, 0, none⟩ = some (.int .i64 0) := (blk_cell BK774.out 0).trans rfl; have hcz19_1 : w18.cell? ⟨gb774, 1, none⟩ = some (.int .i64 0) := (blk_cell BK774.out 1).trans rfl; have hcz19_2 : w18.cell? ⟨gb774, 2, none⟩ = some (.slice none 0 0) := (blk_cell BK774.out 2).trans rfl; have hfz19_0 := blk_frozen BK774.out 0; have hfz19_1 := blk_frozen BK774.out 1; have hfz19_2 := blk_frozen BK774.out 2))
           go_ret2
           exact ⟨by first | rfl | (simp [errW_none, errW_some] <;> rfl) | (simp [*, errW_none, errW_some] <;> rfl), by repeat (first | (with_reducible first | exact HB.out | apply below_alloc | apply pw_below_drewN | apply below_drew1 | refine below_set ?_ GE774.out) | exact HB.out)⟩
          ·rw [if_neg c17] at H
           have c17b0 : decide (((rd_T111 l0 x24_2).f0) ≤ a2) = false := decide_eq_false c17
           clear c17
           have H' := Aside0.mk H
           clear H
           have p773 : 0 ≤ (x24_2 : Int) := oa
           have q773 : x24_2 < (l0.length : Int) := oa
           obtain ⟨ad773, A773_2, c773_2, e773, hx773_0, hx773_1, hx773_2, hl773_2, hi773_2⟩ := at_T111 HR0.out x24_2 p773 q773
           cases e773
           replace hx773_0 := (HB.out.cell (World.block_lt_of_cell? w _ hx773_0)).trans hx773_0
           replace hx773_1 := (HB.out.cell (World.block_lt_of_cell? w _ hx773_1)).trans hx773_1
           replace hx773_2 := (HB.out.cell (World.block_lt_of_cell? w _ hx773_2)).trans hx773_2
           have HR773_2 := Aside0.mk hi773_2
           have HC773_2 := Aside0.mk hl773_2
           clear hi773_2 hl773_2
           replace p773 := eq_true p773
           replace q773 := eq_true q773
           go_wp2_with (first | ((with_reducible refine gate_dst (N := 10) rfl ?_); refine box_event ?hg (N := 10) ?hd (cs := #[.int .i64 0, .int .i64 0, .slice none 0 0]) (t := 111) ?hr ?_; (case hd => rfl); (case hg => rfl); (case hr => first | (go_simp; done) | (go_simp; rfl)); intro gb774 hg w20 hbox hb; have n0_ := Aside0.mk (below_step zb hb); have n1_ := Aside0.mk (hbox); have n2_ := Aside0.mk ((by rw [hg]; exact (below_size zb) : w.heap.size ≤ gb774)); have n3_ := Aside0.mk ((by rw [hg]; exact (below_size zb) : w.heap.size ≤ gb774)); clear HB; have HB := n0_; have BK774 := n1_; have GW774 := n2_; have GE774 := n3_; clear n0_ n1_ n2_ n3_; clear hb hbox hg; have hcz21_0 : w20.cell? ⟨gb774, 0, none⟩ = some (.int .i64 0) := (blk_cell BK774.out 0).trans rfl; have hcz21_1 : w20.cell? ⟨gb774, 1, none⟩ = some (.int .i64 0) := (blk_cell BK774.out 1).trans rfl; have hcz21_2 : w20.cell? ⟨gb774, 2, none⟩ = some (.slice none 0 0) := (blk_cell BK774.out 2).trans rfl; have hfz21_0 := blk_frozen BK774.out 0; have hfz21_1 := blk_frozen BK774.out 1; have hfz21_2 := blk_frozen BK774.out 2))
           go_roundg k2
           case measure => have := HJ3.out; have := HK2.out; omega
           case rel => exact ⟨(x8_2), (wrap64 (x24_2 + 1)), zf, zf, H', ⟨by have := HJ3.out; have := HK2.out; omega⟩, ⟨by repeat (first | (with_reducible first | exact HB.out | apply below_alloc | apply pw_below_drewN | apply below_drew1 | refine below_set ?_ GE774.out) | exact HB.out)⟩⟩
        ·rw [if_neg c13] at H
         exact absurd H (by simp)
       ·rw [if_neg c12] at H
        exact absurd H (by simp)
      ·rw [if_neg c11] at H
       have c11b0 : decide (x24_2 < (l0.length : Int)) = false := decide_eq_false c11
       clear c11
       simp only [Option.some.injEq, Prod.mk.injEq] at H
       obtain ⟨rfl, rfl⟩ := H
       go_wp2
       go_ret2
       exact ⟨by first | rfl | (simp [errW_none, errW_some] <;> rfl) | (simp [*, errW_none, errW_some] <;> rfl), by repeat (first | (with_reducible first | exact HB.out | apply below_alloc | apply pw_below_drewN | apply below_drew1) | exact HB.out)⟩

end Go.Proofs.Ytcefenlblnediaa.My
