/- Part 3 of 7 of a proof of this sentence: The Go function loop.example/g00825/laws.FnTrimmed returns true for every input, and each argument reads afterwards as it read before. No condition. -/
import Derived.Test.YtmcldkobejhaeaaCFnTrimmed2
/- Written by this session's program (wip/gen): a plain function with the same answers as the Go function, and the proof that the Go code comes to them. Asked: that the plain function has an answer. -/
namespace Go.Proofs.Ytmcldkobejhaeaa.My
open Go.RowKit Go.Proofs.YtmcldkobejhaeaaW.PrintWords Go.Proofs.YtmcldkobejhaeaaW.PrintLast Go.Proofs.YtmcldkobejhaeaaW.PrintMore
attribute [local go_sem] max2_int min2_int max_two min_two max_three min_three max_four min_four
set_option linter.unusedVariables false
set_option linter.unusedSimpArgs false
def impl_TrimHunks.l0 : Nat → List ByteArray → List (S106) → List (S106) → Int → Int → Option ((List (S106)) × Bool)
 | 0, _, _, _, _, _ => none
 | k + 1, x0, x8, x24, x25, x26 => if x26 < x25 then (if 0 ≤ x26 then (if x26 < (x24.length : Int) then (if 0 ≤ ((rd_T106 x24 x26).f0) then (if ((rd_T106 x24 x26).f0) ≤ (wrap64 (((rd_T106 x24 x26).f0) + ((rd_T106 x24 x26).f1))) then (if (wrap64 (((rd_T106 x24 x26).f0) + ((rd_T106 x24 x26).f1))) ≤ (x0.length : Int) then ((impl_sameAhead.f k ((x0.take ((wrap64 (((rd_T106 x24 x26).f0) + ((rd_T106 x24 x26).f1))) : Int).toNat).drop (((rd_T106 x24 x26).f0) : Int).toNat) ((rd_T106 x24 x26).f2)).bind fun t690 => ((impl_sameBehind.f k ((x0.take ((wrap64 (((rd_T106 x24 x26).f0) + ((rd_T106 x24 x26).f1))) : Int).toNat).drop (((rd_T106 x24 x26).f0) : Int).toNat) ((rd_T106 x24 x26).f2)).bind fun t691 => (if 0 ≤ t690 then (if t690 ≤ (wrap64 ((((rd_T106 x24 x26).f2).length : Int) - t691)) then (if (wrap64 ((((rd_T106 x24 x26).f2).length : Int) - t691)) ≤ (((rd_T106 x24 x26).f2).length : Int) then ((slices_Clone_string_string.f ((((rd_T106 x24 x26).f2).take ((wrap64 ((((rd_T106 x24 x26).f2).length : Int) - t691)) : Int).toNat).drop (t690 : Int).toNat)).bind fun t693 => (if (wrap64 ((wrap64 (((rd_T106 x24 x26).f1) - t690)) - t691)) > 0 then (if x8.length < 3518437208883 then (impl_TrimHunks.l0 k x0 (x8 ++ [(⟨wrap64 (((rd_T106 x24 x26).f0) + t690), wrap64 ((wrap64 (((rd_T106 x24 x26).f1) - t690)) - t691), t693⟩ : S106)]) x24 x25 (wrap64 (x26 + 1))) else (none)) else (if (t693.length : Int) > 0 then (if x8.length < 3518437208883 then (impl_TrimHunks.l0 k x0 (x8 ++ [(⟨wrap64 (((rd_T106 x24 x26).f0) + t690), wrap64 ((wrap64 (((rd_T106 x24 x26).f1) - t690)) - t691), t693⟩ : S106)]) x24 x25 (wrap64 (x26 + 1))) else (none)) else (impl_TrimHunks.l0 k x0 x8 x24 x25 (wrap64 (x26 + 1)))))) else (none)) else (none)) else (none)))) else (none)) else (none)) else (none)) else (none)) else (none)) else (some (x8, true))
def impl_TrimHunks.f (k : Nat) (l0 : List ByteArray) (l1 : List (S106)) : Option ((List (S106)) × Bool) := (impl_Patch.f k l0 l1).bind fun bt680 => (if bt680.2 = true then (impl_TrimHunks.l0 k l0 (([] : List (S106))) l1 (l1.length : Int) 0) else (some (([] : List (S106)), false)))
def impl_TrimHunks.T9 : Bool × List (List Nat × List Nat) := (true, [([], []), ([], []), ([1], [1]), ([0, 2], [0, 2]), ([], []), ([], []), ([5], [5]), ([4, 6, 3], [4, 6]), ([3, 7, 0, 1, 2, 3], [3]), ([7, 8, 0, 1, 2, 3, 4, 5, 6, 7, 8], [7])])
def impl_TrimHunks.B9 : List Nat := [0, 0, 2, 7, 0, 0, 32, 127, 255, 511]
theorem impl_TrimHunks.tab9 : rtab .any (opsOf Try.f29 9) = impl_TrimHunks.T9 := by kernel_rfl
theorem impl_TrimHunks.bits9 : waitsOk impl_TrimHunks.T9.2 impl_TrimHunks.B9 = true := by kernel_rfl
def impl_TrimHunks.T10 : Bool × List (List Nat × List Nat) := (true, [([], []), ([0], [0]), ([], []), ([1, 2], [1, 2]), ([], []), ([4], [4]), ([], []), ([5, 6], [5, 6]), ([], []), ([7, 8], [7, 8]), ([], []), ([10], [10]), ([], []), ([], []), ([13], [13]), ([14], [14]), ([], []), ([15, 16], [15, 16]), ([11, 12, 17], [11, 12, 17]), ([18], [18]), ([3, 9, 19], [3, 9, 19]), ([], []), ([21, 20, 19, 0, 1, 2, 3, 4, 5, 6, 7, 8, 9, 10, 11, 12, 13, 14, 15, 16, 17, 18, 19, 20, 21], [20, 21])])
def impl_TrimHunks.B10 : List Nat := [0, 1, 0, 7, 0, 16, 0, 112, 0, 496, 0, 1024, 0, 0, 8192, 24576, 0, 122880, 261120, 523264, 1048575, 0, 4194303]
theorem impl_TrimHunks.tab10 : rtab .any (opsOf Try.f29 10) = impl_TrimHunks.T10 := by kernel_rfl
theorem impl_TrimHunks.bits10 : waitsOk impl_TrimHunks.T10.2 impl_TrimHunks.B10 = true := by kernel_rfl
set_option maxHeartbeats 8000000 in
set_option maxRecDepth 100000 in
theorem impl_TrimHunks.calls (k : Nat) (A0 : Option Addr) (c0 : Nat) (l0 : List ByteArray) (A1 : Option Addr) (c1 : Nat) (l1 : List (S106)) (r1 : List (S106)) (r2 : Bool) (w : World) (hr0 : Kd.C Kd.string w A0 l0.length l0) (hc0 : l0.length ≤ c0) (hr1 : Kd.C k106 w A1 l1.length l1) (hc1 : l1.length ≤ c1) (h : impl_TrimHunks.f k l0 l1 = some (r1, r2)) :
  Calls Try.prog 29 #[.slice A0 l0.length c0, .slice A1 l1.length c1] w fun e w' => ∃ v0_ : Value, e = .returned (.tuple #[v0_, .bool r2]) ∧ Kd.S k106 106 w' w.heap.size (fun _ => True) v0_ r1 ∧ Below w.heap.size w w' := by
 have hu106 := Try.underlying106
 have HR0 := am hr0
 have HC0 := am hc0
 clear hr0 hc0
 have HR1 := am hr1
 have HC1 := am hc1
 clear hr1 hc1
 have HB := am (Below.refl w.heap.size w)
 have H : ((impl_Patch.f k l0 l1).bind fun bt680 => (if bt680.2 = true then (impl_TrimHunks.l0 k l0 (([] : List (S106))) l1 (l1.length : Int) 0) else (some (([] : List (S106)), false)))) = some (r1, r2) := h
 clear h
 replace H := Option.bind_eq_some_iff.mp H
 obtain ⟨⟨t680, t681⟩, A30, H⟩ := H
 replace H : (if t681 = true then (impl_TrimHunks.l0 k l0 (([] : List (S106))) l1 (l1.length : Int) 0) else (some (([] : List (S106)), false))) = some (r1, r2) := H
 have A3 := am A30
 clear A30
 by_cases c4 : t681 = true
 ·subst c4
  have H1 : (impl_TrimHunks.l0 k l0 (([] : List (S106))) l1 (l1.length : Int) 0) = some (r1, r2) := by rw [if_pos rfl] at H; exact H
  clear H
  have H := H1
  clear H1
  obtain ⟨y684, hy684⟩ : ∃ y_ : List (S106), y_ = (([] : List (S106))) := ⟨_, rfl⟩
  replace H : (impl_TrimHunks.l0 k l0 y684 l1 (l1.length : Int) 0) = some (r1, r2) := by first | (rw [hy684]; with_reducible exact H) | (have H2_ := (Option.bind_some _ _).symm.trans H; rw [hy684]; with_reducible exact H2_) | (have H2_ := (Option.bind_some _ _).symm.trans H; with_reducible exact H2_) | with_reducible exact H | (rw [hy684]; exact H) | exact H
  have Ny684 := am hy684
  clear hy684
  have H' := am H
  clear H
  go_enter Try.func29, Try.ntmps29
  go_wp2_with (first | ((with_reducible refine gateC (f := 32) rfl ?_); refine goesL_ (some 18) rfl rfl Try.func32 (by kernel_rfl) rfl #[.slice A0 l0.length c0, .slice A1 l1.length c1] rfl zm ?_; (with_reducible refine (impl_Patch.calls k _ _ l0 _ _ l1 t680 true _ ?side1 ?side2 ?side3 ?side4 A3.out).mono ?_); (case side1 => exact zq HR0.out); (case side2 => exact HC0.out); (case side3 => exact zq HR1.out); (case side4 => exact HC1.out); rintro e w5 ⟨v682, rfl, ho0, hb⟩; refine ⟨_, rfl, ?_⟩; have n0_ := am (Kd.R_lower ho0 (below_size zb)); have n1_ := am (below_step zb hb); clear HB; have HO683 := n0_; have HB := n1_; clear n0_ n1_; (try clear hb); (try clear ho0)) | ((with_reducible refine gate_dst (N := 23) rfl ?_); (try (refine gate_guard (by rfl) ?_; dsimp only)); refine Kd.S_lit k106 _ 106 ?hg (N := 23) ?hd (xs := ([] : List (S106))) (inner := []) (ok := fun _ => True) (okp := fun _ => True) ?hr ?hp (fun _ hk => hk) trivial (Below.refl _ _) (Nat.le_refl _) (by simp) ?_; (case hd => rfl); (case hg => rfl); (case hr => first | (go_simp; done) | (go_simp; rfl)); (case hp => exact (Reps.none _ _)); intro v685 w6 ho7 hb hg_ hnew_; clear hg_ hnew_; (first | rw [← Ny684.out] at ho7 | (simp only [Int.reduceToNat] at ho7; rw [← Ny684.out] at ho7)); have n0_ := am (Kd.R_below (zr HO683.out) hb); have n1_ := am (Kd.S_lower (Kd.S_new' ho7 (Kd.R_lt (zr HO683.out))) (below_size zb)); have n2_ := am (below_step zb hb); clear HO683; clear HB; have HO683 := n0_; have HO686 := n1_; have HB := n2_; clear n0_ n1_ n2_; clear hb ho7))
  go_loopg [8, 26] k (fun kq v8 v26 w' => ∃ (x8_1 : List (S106)) (x26_1 : Int), v26 = .int .i64 x26_1 ∧ Aside0 (impl_TrimHunks.l0 kq l0 x8_1 l1 (l1.length : Int) x26_1 = some (r1, r2)) ∧ Aside0 (kq ≤ k) ∧ Aside0 (Kd.S k106 106 w' w.heap.size (fun _ => True) v8 x8_1) ∧ Aside0 (Below w.heap.size w w'))
  case atStart => exact ⟨(y684), (0), zf, H', ⟨Nat.le_refl _⟩, ⟨by (with_reducible repeat (first | apply Kd.S_alloc | apply Kd.S_drewN | apply Kd.S_drew)); exact Kd.S_mono HO686.out (fun _ hk => trivial)⟩, ⟨by repeat (first | (with_reducible first | exact HB.out | apply below_alloc | apply pw_below_drewN | apply below_drew1) | exact HB.out)⟩⟩
  case round =>
   clear H'
   try clear c1
   try clear c2
   try clear p2
   try clear c3
   try clear c4
   obtain ⟨x8_1, x26_1, rfl, HA, HK1, HO_8, HB⟩ := hrel
   cases gk with
   | zero => exact absurd HA.out (by simp [impl_TrimHunks.l0])
   | succ k1 =>
    have H := HA.out
    clear HA
    simp only [impl_TrimHunks.l0] at H
    by_cases c8 : x26_1 < (l1.length : Int)
    ·rw [if_pos c8] at H
     have c8b0 : decide (x26_1 < (l1.length : Int)) = true := decide_eq_true c8
     clear c8
     by_cases c9 : 0 ≤ x26_1
     ·rw [if_pos c9] at H
      have c9b0 : decide (0 ≤ x26_1) = true := decide_eq_true c9
      clear c9
      by_cases c10 : x26_1 < (l1.length : Int)
      ·rw [if_pos c10] at H
       have c10b0 : decide (x26_1 < (l1.length : Int)) = true := decide_eq_true c10
       clear c10
       by_cases c11 : 0 ≤ ((rd_T106 l1 x26_1).f0)
       ·rw [if_pos c11] at H
        have c11b0 := eq_true c11
        have c11b1 : decide (0 ≤ ((rd_T106 l1 x26_1).f0)) = true := decide_eq_true c11
        clear c11
        by_cases c12 : ((rd_T106 l1 x26_1).f0) ≤ (wrap64 (((rd_T106 l1 x26_1).f0) + ((rd_T106 l1 x26_1).f1)))
        ·rw [if_pos c12] at H
         have c12b0 := eq_true c12
         have c12b1 : decide (((rd_T106 l1 x26_1).f0) ≤ (wrap64 (((rd_T106 l1 x26_1).f0) + ((rd_T106 l1 x26_1).f1)))) = true := decide_eq_true c12
         by_cases c13 : (wrap64 (((rd_T106 l1 x26_1).f0) + ((rd_T106 l1 x26_1).f1))) ≤ (l0.length : Int)
         ·rw [if_pos c13] at H
          have c13b0 := eq_true c13
          have c13b1 : decide ((wrap64 (((rd_T106 l1 x26_1).f0) + ((rd_T106 l1 x26_1).f1))) ≤ (l0.length : Int)) = true := decide_eq_true c13
          replace H := Option.bind_eq_some_iff.mp H
          obtain ⟨t690, A140, H⟩ := H
          replace H : ((impl_sameBehind.f k1 ((l0.take ((wrap64 (((rd_T106 l1 x26_1).f0) + ((rd_T106 l1 x26_1).f1))) : Int).toNat).drop (((rd_T106 l1 x26_1).f0) : Int).toNat) ((rd_T106 l1 x26_1).f2)).bind fun t691 => (if 0 ≤ t690 then (if t690 ≤ (wrap64 ((((rd_T106 l1 x26_1).f2).length : Int) - t691)) then (if (wrap64 ((((rd_T106 l1 x26_1).f2).length : Int) - t691)) ≤ (((rd_T106 l1 x26_1).f2).length : Int) then ((slices_Clone_string_string.f ((((rd_T106 l1 x26_1).f2).take ((wrap64 ((((rd_T106 l1 x26_1).f2).length : Int) - t691)) : Int).toNat).drop (t690 : Int).toNat)).bind fun t693 => (if (wrap64 ((wrap64 (((rd_T106 l1 x26_1).f1) - t690)) - t691)) > 0 then (if x8_1.length < 3518437208883 then (impl_TrimHunks.l0 k1 l0 (x8_1 ++ [(⟨wrap64 (((rd_T106 l1 x26_1).f0) + t690), wrap64 ((wrap64 (((rd_T106 l1 x26_1).f1) - t690)) - t691), t693⟩ : S106)]) l1 (l1.length : Int) (wrap64 (x26_1 + 1))) else (none)) else (if (t693.length : Int) > 0 then (if x8_1.length < 3518437208883 then (impl_TrimHunks.l0 k1 l0 (x8_1 ++ [(⟨wrap64 (((rd_T106 l1 x26_1).f0) + t690), wrap64 ((wrap64 (((rd_T106 l1 x26_1).f1) - t690)) - t691), t693⟩ : S106)]) l1 (l1.length : Int) (wrap64 (x26_1 + 1))) else (none)) else (impl_TrimHunks.l0 k1 l0 x8_1 l1 (l1.length : Int) (wrap64 (x26_1 + 1)))))) else (none)) else (none)) else (none))) = some (r1, r2) := H
          have A14 := am A140
          clear A140
          replace H := Option.bind_eq_some_iff.mp H
          obtain ⟨t691, A150, H⟩ := H
          replace H : (if 0 ≤ t690 then (if t690 ≤ (wrap64 ((((rd_T106 l1 x26_1).f2).length : Int) - t691)) then (if (wrap64 ((((rd_T106 l1 x26_1).f2).length : Int) - t691)) ≤ (((rd_T106 l1 x26_1).f2).length : Int) then ((slices_Clone_string_string.f ((((rd_T106 l1 x26_1).f2).take ((wrap64 ((((rd_T106 l1 x26_1).f2).length : Int) - t691)) : Int).toNat).drop (t690 : Int).toNat)).bind fun t693 => (if (wrap64 ((wrap64 (((rd_T106 l1 x26_1).f1) - t690)) - t691)) > 0 then (if x8_1.length < 3518437208883 then (impl_TrimHunks.l0 k1 l0 (x8_1 ++ [(⟨wrap64 (((rd_T106 l1 x26_1).f0) + t690), wrap64 ((wrap64 (((rd_T106 l1 x26_1).f1) - t690)) - t691), t693⟩ : S106)]) l1 (l1.length : Int) (wrap64 (x26_1 + 1))) else (none)) else (if (t693.length : Int) > 0 then (if x8_1.length < 3518437208883 then (impl_TrimHunks.l0 k1 l0 (x8_1 ++ [(⟨wrap64 (((rd_T106 l1 x26_1).f0) + t690), wrap64 ((wrap64 (((rd_T106 l1 x26_1).f1) - t690)) - t691), t693⟩ : S106)]) l1 (l1.length : Int) (wrap64 (x26_1 + 1))) else (none)) else (impl_TrimHunks.l0 k1 l0 x8_1 l1 (l1.length : Int) (wrap64 (x26_1 + 1)))))) else (none)) else (none)) else (none)) = some (r1, r2) := H
          have A15 := am A150
          clear A150
          by_cases c16 : 0 ≤ t690
          ·rw [if_pos c16] at H
           have c16b0 := eq_true c16
           have c16b1 : decide (0 ≤ t690) = true := decide_eq_true c16
           clear c16
           by_cases c17 : t690 ≤ (wrap64 ((((rd_T106 l1 x26_1).f2).length : Int) - t691))
           ·rw [if_pos c17] at H
            have c17b0 := eq_true c17
            have c17b1 : decide (t690 ≤ (wrap64 ((((rd_T106 l1 x26_1).f2).length : Int) - t691))) = true := decide_eq_true c17
            clear c17
            by_cases c18 : (wrap64 ((((rd_T106 l1 x26_1).f2).length : Int) - t691)) ≤ (((rd_T106 l1 x26_1).f2).length : Int)
            ·rw [if_pos c18] at H
             have c18b0 := eq_true c18
             have c18b1 : decide ((wrap64 ((((rd_T106 l1 x26_1).f2).length : Int) - t691)) ≤ (((rd_T106 l1 x26_1).f2).length : Int)) = true := decide_eq_true c18
             clear c18
             replace H := Option.bind_eq_some_iff.mp H
             obtain ⟨t693, A190, H⟩ := H
             replace H : (if (wrap64 ((wrap64 (((rd_T106 l1 x26_1).f1) - t690)) - t691)) > 0 then (if x8_1.length < 3518437208883 then (impl_TrimHunks.l0 k1 l0 (x8_1 ++ [(⟨wrap64 (((rd_T106 l1 x26_1).f0) + t690), wrap64 ((wrap64 (((rd_T106 l1 x26_1).f1) - t690)) - t691), t693⟩ : S106)]) l1 (l1.length : Int) (wrap64 (x26_1 + 1))) else (none)) else (if (t693.length : Int) > 0 then (if x8_1.length < 3518437208883 then (impl_TrimHunks.l0 k1 l0 (x8_1 ++ [(⟨wrap64 (((rd_T106 l1 x26_1).f0) + t690), wrap64 ((wrap64 (((rd_T106 l1 x26_1).f1) - t690)) - t691), t693⟩ : S106)]) l1 (l1.length : Int) (wrap64 (x26_1 + 1))) else (none)) else (impl_TrimHunks.l0 k1 l0 x8_1 l1 (l1.length : Int) (wrap64 (x26_1 + 1))))) = some (r1, r2) := H
             have A19 := am A190
             clear A190
             by_cases c20 : (wrap64 ((wrap64 (((rd_T106 l1 x26_1).f1) - t690)) - t691)) > 0
             ·rw [if_pos c20] at H
              have c20b0 : decide (0 < (wrap64 ((wrap64 (((rd_T106 l1 x26_1).f1) - t690)) - t691))) = true := decide_eq_true c20
              clear c20
              by_cases c21 : x8_1.length < 3518437208883
              ·rw [if_pos c21] at H
               have LMc21 := am c21
               clear c21
               obtain ⟨y697, hy697⟩ : ∃ y_ : List (S106), y_ = (x8_1 ++ [(⟨wrap64 (((rd_T106 l1 x26_1).f0) + t690), wrap64 ((wrap64 (((rd_T106 l1 x26_1).f1) - t690)) - t691), t693⟩ : S106)]) := ⟨_, rfl⟩
               replace H : (impl_TrimHunks.l0 k1 l0 y697 l1 (l1.length : Int) (wrap64 (x26_1 + 1))) = some (r1, r2) := by first | (rw [hy697]; with_reducible exact H) | (have H2_ := (Option.bind_some _ _).symm.trans H; rw [hy697]; with_reducible exact H2_) | (have H2_ := (Option.bind_some _ _).symm.trans H; with_reducible exact H2_) | with_reducible exact H | (rw [hy697]; exact H) | exact H
               have Ny697 := am hy697
               clear hy697
               have H' := am H
               clear H
               have p687 : 0 ≤ (x26_1 : Int) := oa
               have q687 : x26_1 < (l1.length : Int) := oa
               obtain ⟨ad687, A687_2, c687_2, e687, hx687_0, hx687_1, hx687_2, hl687_2, hi687_2⟩ := at_T106 HR1.out x26_1 p687 q687
               cases e687
               replace hx687_0 := (HB.out.cell (World.block_lt_of_cell? w _ hx687_0)).trans hx687_0
               replace hx687_1 := (HB.out.cell (World.block_lt_of_cell? w _ hx687_1)).trans hx687_1
               replace hx687_2 := (HB.out.cell (World.block_lt_of_cell? w _ hx687_2)).trans hx687_2
               have HR687_2 := am hi687_2
               have HC687_2 := am hl687_2
               clear hi687_2 hl687_2
               replace p687 := eq_true p687
               replace q687 := eq_true q687
               try go_wp2_with (first | ((with_reducible refine gate_dst (N := 10) rfl ?_); (try (refine gate_guard (by rfl) ?_; dsimp only)); refine box_event ?hg (N := 10) ?hd (cs := #[.int .i64 0, .int .i64 0, .slice none 0 0]) (t := 106) ?hr ?_; (case hd => rfl); (case hg => rfl); (case hr => first | (go_simp; done) | (go_simp; rfl)); intro gb688 hg w22 hbox hb; have n0_ := am (Kd.S_below (Kd.S_elderB (zs HO_8.out) gb688 (Nat.le_of_eq hg.symm)) hb); have n1_ := am (below_step zb hb); have n2_ := am (hbox); have n3_ := am ((by rw [hg]; exact (below_size zb) : w.heap.size ≤ gb688)); have n4_ := am ((by rw [hg]; exact (below_size zb) : w.heap.size ≤ gb688)); clear HO_8; clear HB; have HO_8 := n0_; have HB := n1_; have BK688 := n2_; have GW688 := n3_; have GE688 := n4_; clear n0_ n1_ n2_ n3_ n4_; clear hb hbox hg; have hcz23_0 : w22.cell? ⟨gb688, 0, none⟩ = some (.int .i64 0) := (blk_cell BK688.out 0).trans rfl; have hcz23_1 : w22.cell? ⟨gb688, 1, none⟩ = some (.int .i64 0) := (blk_cell BK688.out 1).trans rfl; have hcz23_2 : w22.cell? ⟨gb688, 2, none⟩ = some (.slice none 0 0) := (blk_cell BK688.out 2).trans rfl; have hfz23_0 := blk_frozen BK688.out 0; have hfz23_1 := blk_frozen BK688.out 1; have hfz23_2 := blk_frozen BK688.out 2; obtain ⟨i024, hi024, _, hsz24, _⟩ := info_parts info9; obtain ⟨A24, hcut24, hA24, hC24⟩ := print_mid_of (P := Try.prog) Value.string (⟨#[]⟩ : ByteArray) 24 9 .i64 .i64 Try.underlying24 hi024 hsz24 A0 c0 l0 ((rd_T106 l1 x26_1).f0) (wrap64 (((rd_T106 l1 x26_1).f0) + ((rd_T106 l1 x26_1).f1))) oa (by first | omega | exact oa) oa HC0.out; have HR689 := am (Kd.C_of_reads (h1 := fun _ => rfl) (hA24 _ (Kd.reads_of_C HR0.out))); have HC689 := am hC24; clear hA24 hC24 hi024 hsz24))
               have n0_ : Aside0 (Kd.S k106 106 (((w22.setCell ⟨gb688, 0, none⟩ (.int .i64 ((rd_T106 l1 x26_1).f0))).setCell ⟨gb688, 1, none⟩ (.int .i64 ((rd_T106 l1 x26_1).f1))).setCell ⟨gb688, 2, none⟩ (.slice A687_2 ((rd_T106 l1 x26_1).f2).length c687_2)) w.heap.size (fun k_ => k_ ≠ gb688) u8 x8_1) := ⟨by (with_reducible repeat (first | apply Kd.S_alloc | apply Kd.S_drewN | apply Kd.S_drew)); exact Kd.S_mono (Kd.S_far (p := ⟨gb688, 2, none⟩) (Kd.S_far (p := ⟨gb688, 1, none⟩) (Kd.S_far (p := ⟨gb688, 0, none⟩) (Kd.S_mono HO_8.out (fun k_ hk => (⟨hk, hk.2⟩ : _ ∧ k_ ≠ gb688))) (fun _ hk => hk.2) (.int .i64 ((rd_T106 l1 x26_1).f0))) (fun _ hk => hk.2) (.int .i64 ((rd_T106 l1 x26_1).f1))) (fun _ hk => hk.2) (.slice A687_2 ((rd_T106 l1 x26_1).f2).length c687_2)) (fun _ hk => hk.1.2)⟩
               have n1_ : Aside0 ((((w22.setCell ⟨gb688, 0, none⟩ (.int .i64 ((rd_T106 l1 x26_1).f0))).setCell ⟨gb688, 1, none⟩ (.int .i64 ((rd_T106 l1 x26_1).f1))).setCell ⟨gb688, 2, none⟩ (.slice A687_2 ((rd_T106 l1 x26_1).f2).length c687_2)).heap[gb688]? = some (.cells #[.int .i64 ((rd_T106 l1 x26_1).f0), .int .i64 ((rd_T106 l1 x26_1).f1), .slice A687_2 ((rd_T106 l1 x26_1).f2).length c687_2] 106 (0, 0))) := ⟨by (with_reducible repeat (first | refine blk_drewN ?_ _ | refine blk_drew ?_ | refine blk_alloc ?_ _)); refine blk_put (cs := #[.int .i64 ((rd_T106 l1 x26_1).f0), .int .i64 ((rd_T106 l1 x26_1).f1), .slice none 0 0]) ?_ 2 _ rfl; (with_reducible repeat (first | refine blk_drewN ?_ _ | refine blk_drew ?_ | refine blk_alloc ?_ _)); refine blk_put (cs := #[.int .i64 ((rd_T106 l1 x26_1).f0), .int .i64 0, .slice none 0 0]) ?_ 1 _ rfl; (with_reducible repeat (first | refine blk_drewN ?_ _ | refine blk_drew ?_ | refine blk_alloc ?_ _)); refine blk_put (cs := #[.int .i64 0, .int .i64 0, .slice none 0 0]) ?_ 0 _ rfl; (with_reducible repeat (first | refine blk_drewN ?_ _ | refine blk_drew ?_ | refine blk_alloc ?_ _)); exact BK688.out⟩
               have n2_ : Aside0 (Below w.heap.size w (((w22.setCell ⟨gb688, 0, none⟩ (.int .i64 ((rd_T106 l1 x26_1).f0))).setCell ⟨gb688, 1, none⟩ (.int .i64 ((rd_T106 l1 x26_1).f1))).setCell ⟨gb688, 2, none⟩ (.slice A687_2 ((rd_T106 l1 x26_1).f2).length c687_2))) := ⟨by repeat (first | (with_reducible first | exact HB.out | apply below_alloc | apply pw_below_drewN | apply below_drew1 | refine below_set ?_ GE688.out) | exact HB.out)⟩
               (try clear HO_8)
               (try clear BK688)
               (try clear HB)
               (try simp only [show ∀ (w_ : World) (n_ : Nat) (p_ : Addr) (v_ : Value), (w_.drewN n_).setCell p_ v_ = (w_.setCell p_ v_).drewN n_ from fun _ _ _ _ => rfl])
               generalize (((w22.setCell ⟨gb688, 0, none⟩ (.int .i64 ((rd_T106 l1 x26_1).f0))).setCell ⟨gb688, 1, none⟩ (.int .i64 ((rd_T106 l1 x26_1).f1))).setCell ⟨gb688, 2, none⟩ (.slice A687_2 ((rd_T106 l1 x26_1).f2).length c687_2)) = w25 at n0_ n1_ n2_ ⊢
               have HO_8 := n0_
               have BK688 := n1_
               have HB := n2_
               clear n0_ n1_ n2_
               have n0_ := am (Kd.S_drew HO_8.out)
               have n1_ := am (blk_drew BK688.out)
               have n2_ := am (below_drew1 HB.out)
               clear HO_8
               clear BK688
               clear HB
               have HO_8 := n0_
               have BK688 := n1_
               have HB := n2_
               clear n0_ n1_ n2_
               refine start_ (n := 10) (S := fun w' => w'.cell? ⟨gb688, 0, none⟩ = some (.int .i64 ((rd_T106 l1 x26_1).f0)) ∧ w'.cell? ⟨gb688, 1, none⟩ = some (.int .i64 ((rd_T106 l1 x26_1).f1)) ∧ w'.cell? ⟨gb688, 2, none⟩ = some (.slice A687_2 ((rd_T106 l1 x26_1).f2).length c687_2)) (ds := []) #[O,O,O,O,O,O,O,O,O,O] (by kernel_rfl) rfl rfl ⟨(blk_cell BK688.out 0).trans rfl, (blk_cell BK688.out 1).trans rfl, (blk_cell BK688.out 2).trans rfl⟩ (fun hHeld => ?_); refine with_tabW impl_TrimHunks.tab9 impl_TrimHunks.bits9 (fun HT_ HW_ => ?_)
               generalize w25.drew = w26 at HO_8 BK688 HB hHeld ⊢
               refine pure_ (i := 0) (N := some 39) (v := ?_) (a' := ?_) #[Y,O,O,O,O,O,O,O,O,O] rfl rfl zx (fun _ _ _ h => h) (Or.inl ⟨by rfl, ?_⟩) ?_ ?_
               rotate_left; (intro w'; go_simp; with_reducible rfl); rotate_left; (simp only [Act.put,qa,qb,qc,i64_w,i32_w]; rfl)
               refine pure_ (i := 1) (N := some 40) (v := ?_) (a' := ?_) #[Y,Y,O,O,O,O,O,O,O,O] rfl rfl zx (fun _ _ _ h => h) (Or.inl ⟨by rfl, ?_⟩) ?_ ?_
               rotate_left; (intro w'; go_simp; with_reducible rfl); rotate_left; (simp only [Act.put,qa,qb,qc,i64_w,i32_w]; rfl)
               refine pure_ (i := 4) (N := some 43) (v := ?_) (a' := ?_) #[Y,Y,O,O,Y,O,O,O,O,O] rfl rfl zx (fun _ _ _ h => h) (Or.inl ⟨by rfl, ?_⟩) ?_ ?_
               rotate_left; (intro w'; go_simp; with_reducible rfl); rotate_left; (simp only [Act.put,qa,qb,qc,i64_w,i32_w]; rfl)
               refine pure_ (i := 5) (N := some 44) (v := ?_) (a' := ?_) #[Y,Y,O,O,Y,Y,O,O,O,O] rfl rfl zx (fun _ _ _ h => h) (Or.inl ⟨by rfl, ?_⟩) ?_ ?_
               rotate_left; (intro w'; go_simp; with_reducible rfl); rotate_left; (simp only [Act.put,qa,qb,qc,i64_w,i32_w]; rfl)
               refine take_ (i := 2) (N := some 41) (v := ?_) (a' := ?_) #[Y,Y,Y,O,Y,Y,O,O,O,O] rfl rfl (take_ofW HT_.out HW_.out (by kernel_rfl)) (fun _ _ _ h => h) (Or.inl ⟨by rfl, ?_⟩) hHeld ?_ ?_
               rotate_left; (rintro w' ⟨s0, s1, s2⟩; go_simp; with_reducible rfl); rotate_left; (simp only [Act.put,qa,qb,qc,i64_w,i32_w]; rfl)
               refine take_ (i := 6) (N := some 45) (v := ?_) (a' := ?_) #[Y,Y,Y,O,Y,Y,Y,O,O,O] rfl rfl (take_ofW HT_.out HW_.out (by kernel_rfl)) (fun _ _ _ h => h) (Or.inl ⟨by rfl, ?_⟩) hHeld ?_ ?_
               rotate_left; (rintro w' ⟨s0, s1, s2⟩; go_simp; with_reducible rfl); rotate_left; (simp only [Act.put,qa,qb,qc,i64_w,i32_w]; rfl)
               refine one_ (i := 3) (N := some 42) #[Y,Y,Y,Y,Y,Y,Y,O,O,O] rfl rfl (one_of HT_.out (by kernel_rfl)) (by decide) (fun K hK => ?_)
               refine goes_ Try.func86 (by kernel_rfl) rfl #[.slice A24 ((l0.take ((wrap64 (((rd_T106 l1 x26_1).f0) + ((rd_T106 l1 x26_1).f1))) : Int).toNat).drop (((rd_T106 l1 x26_1).f0) : Int).toNat).length (c0 - ((rd_T106 l1 x26_1).f0).toNat), .slice A687_2 ((rd_T106 l1 x26_1).f2).length c687_2] (by rfl) rfl rfl (by (try simp only [List.map_toArray, List.map_cons, List.map_nil]); first | done | (rw [show ((l0.take ((wrap64 (((rd_T106 l1 x26_1).f0) + ((rd_T106 l1 x26_1).f1))) : Int).toNat).drop (((rd_T106 l1 x26_1).f0) : Int).toNat).length = ((wrap64 (((rd_T106 l1 x26_1).f0) + ((rd_T106 l1 x26_1).f1))).toNat - ((rd_T106 l1 x26_1).f0).toNat) from (by rw [List.length_drop, List.length_take]; have h_ : ((wrap64 (((rd_T106 l1 x26_1).f0) + ((rd_T106 l1 x26_1).f1))) : Int) ≤ (l0.length : Int) := oa; omega)] <;> rfl) | rfl | (simp only [List.length_drop, List.length_take]; rfl)) ?_
               with_reducible refine (impl_sameAhead.calls k1 _ _ ((l0.take ((wrap64 (((rd_T106 l1 x26_1).f0) + ((rd_T106 l1 x26_1).f1))) : Int).toNat).drop (((rd_T106 l1 x26_1).f0) : Int).toNat) _ _ ((rd_T106 l1 x26_1).f2) t690 _ ?side1 ?side2 ?side3 ?side4 A14.out).mono ?_
               (case side1 => exact zq (Kd.C_below HR689.out HB.out))
               (case side2 => exact HC689.out)
               (case side3 => exact zq (Kd.C_below HR687_2.out HB.out))
               (case side4 => exact HC687_2.out)
               rintro e w27 ⟨rfl, hb⟩
               refine ⟨_, rfl, ?_⟩
               have n0_ := am (Kd.S_below (zs HO_8.out) hb)
               have n1_ := am (blk_below (g := gb688) (o := .cells #[.int .i64 ((rd_T106 l1 x26_1).f0), .int .i64 ((rd_T106 l1 x26_1).f1), .slice A687_2 ((rd_T106 l1 x26_1).f2).length c687_2] 106 (0, 0)) (zk BK688.out) hb)
               have n2_ := am (below_step (by repeat (first | (with_reducible first | exact HB.out | apply below_alloc | apply pw_below_drewN | apply below_drew1 | refine below_set ?_ GE688.out) | exact HB.out)) hb)
               clear HO_8
               clear BK688
               clear HB
               have HO_8 := n0_
               have BK688 := n1_
               have HB := n2_
               clear n0_ n1_ n2_
               (try clear hb)
               (try clear hb2)
               (try clear hk)
               (try clear hi)
               refine hK.out _ _ ⟨(blk_cell BK688.out 0).trans rfl, (blk_cell BK688.out 1).trans rfl, (blk_cell BK688.out 2).trans rfl⟩ (fun hHeld => ?_)
               clear hK K
               refine norm_ (a' := ?_) ?_ ?_
               rotate_left
               ·show Act.put _ (some 42) _ = _
                simp only [Act.put,qa,qb,qc,i64_w,i32_w]
                rfl
               refine one_ (i := 7) (N := some 46) #[Y,Y,Y,Y,Y,Y,Y,Y,O,O] rfl rfl (one_of HT_.out (by kernel_rfl)) (by decide) (fun K hK => ?_)
               refine goes_ Try.func87 (by kernel_rfl) rfl #[.slice A24 ((l0.take ((wrap64 (((rd_T106 l1 x26_1).f0) + ((rd_T106 l1 x26_1).f1))) : Int).toNat).drop (((rd_T106 l1 x26_1).f0) : Int).toNat).length (c0 - ((rd_T106 l1 x26_1).f0).toNat), .slice A687_2 ((rd_T106 l1 x26_1).f2).length c687_2] (by rfl) rfl rfl (by (try simp only [List.map_toArray, List.map_cons, List.map_nil]); first | done | (rw [show ((l0.take ((wrap64 (((rd_T106 l1 x26_1).f0) + ((rd_T106 l1 x26_1).f1))) : Int).toNat).drop (((rd_T106 l1 x26_1).f0) : Int).toNat).length = ((wrap64 (((rd_T106 l1 x26_1).f0) + ((rd_T106 l1 x26_1).f1))).toNat - ((rd_T106 l1 x26_1).f0).toNat) from (by rw [List.length_drop, List.length_take]; have h_ : ((wrap64 (((rd_T106 l1 x26_1).f0) + ((rd_T106 l1 x26_1).f1))) : Int) ≤ (l0.length : Int) := oa; omega)] <;> rfl) | rfl | (simp only [List.length_drop, List.length_take]; rfl)) ?_
               with_reducible refine (impl_sameBehind.calls k1 _ _ ((l0.take ((wrap64 (((rd_T106 l1 x26_1).f0) + ((rd_T106 l1 x26_1).f1))) : Int).toNat).drop (((rd_T106 l1 x26_1).f0) : Int).toNat) _ _ ((rd_T106 l1 x26_1).f2) t691 _ ?side1 ?side2 ?side3 ?side4 A15.out).mono ?_
               (case side1 => exact zq (Kd.C_below HR689.out HB.out))
               (case side2 => exact HC689.out)
               (case side3 => exact zq (Kd.C_below HR687_2.out HB.out))
               (case side4 => exact HC687_2.out)
               rintro e w28 ⟨rfl, hb⟩
               refine ⟨_, rfl, ?_⟩
               have n0_ := am (Kd.S_below (zs HO_8.out) hb)
               have n1_ := am (blk_below (g := gb688) (o := .cells #[.int .i64 ((rd_T106 l1 x26_1).f0), .int .i64 ((rd_T106 l1 x26_1).f1), .slice A687_2 ((rd_T106 l1 x26_1).f2).length c687_2] 106 (0, 0)) (zk BK688.out) hb)
               have n2_ := am (below_step (by repeat (first | (with_reducible first | exact HB.out | apply below_alloc | apply pw_below_drewN | apply below_drew1 | refine below_set ?_ GE688.out) | exact HB.out)) hb)
               clear HO_8
               clear BK688
               clear HB
               have HO_8 := n0_
               have BK688 := n1_
               have HB := n2_
               clear n0_ n1_ n2_
               (try clear hb)
               (try clear hb2)
               (try clear hk)
               (try clear hi)
               refine hK.out _ _ ⟨(blk_cell BK688.out 0).trans rfl, (blk_cell BK688.out 1).trans rfl, (blk_cell BK688.out 2).trans rfl⟩ (fun hHeld => ?_)
               clear hK K
               refine norm_ (a' := ?_) ?_ ?_
               rotate_left
               ·show Act.put _ (some 46) _ = _
                simp only [Act.put,qa,qb,qc,i64_w,i32_w]
                rfl
               refine pure_ (i := 8) (N := some 12) (v := ?_) (a' := ?_) #[Y,Y,Y,Y,Y,Y,Y,Y,Y,O] rfl rfl zx (fun _ _ _ h => h) (Or.inl ⟨by rfl, ?_⟩) ?_ ?_
               rotate_left; (intro w'; go_simp; with_reducible rfl); rotate_left; (simp only [Act.put,qa,qb,qc,i64_w,i32_w]; rfl)
               refine pure_ (i := 9) (N := some 13) (v := ?_) (a' := ?_) #[Y,Y,Y,Y,Y,Y,Y,Y,Y,Y] rfl rfl zx (fun _ _ _ h => h) (Or.inl ⟨by rfl, ?_⟩) ?_ ?_
               rotate_left; (intro w'; go_simp; with_reducible rfl); rotate_left; (simp only [Act.put,qa,qb,qc,i64_w,i32_w]; rfl)
               refine done_ (done_of HT_.out (by kernel_rfl)) ?_
               try go_wp2
               have n0_ := am (Kd.S_drew HO_8.out)
               have n1_ := am (blk_drew BK688.out)
               have n2_ := am (below_drew1 HB.out)
               clear HO_8
               clear BK688
               clear HB
               have HO_8 := n0_
               have BK688 := n1_
               have HB := n2_
               clear n0_ n1_ n2_
               obtain ⟨i030, hi030, _, hsz30, _⟩ := info_parts info9
               obtain ⟨A30, hcut30, hA30, hC30⟩ := print_mid_of (P := Try.prog) Value.string (⟨#[]⟩ : ByteArray) 24 9 .i64 .i64 Try.underlying24 hi030 hsz30 A687_2 c687_2 ((rd_T106 l1 x26_1).f2) t690 (wrap64 ((((rd_T106 l1 x26_1).f2).length : Int) - t691)) oa (by first | omega | exact oa) oa HC687_2.out
               have HR692 := am (Kd.C_of_reads (h1 := fun _ => rfl) (hA30 _ (Kd.reads_of_C HR687_2.out)))
               have HC692 := am hC30
               clear hA30 hC30 hi030 hsz30
               refine start_ (n := 23) (S := fun w' => w'.cell? ⟨gb688, 0, none⟩ = some (.int .i64 ((rd_T106 l1 x26_1).f0)) ∧ w'.cell? ⟨gb688, 1, none⟩ = some (.int .i64 ((rd_T106 l1 x26_1).f1)) ∧ w'.cell? ⟨gb688, 2, none⟩ = some (.slice A687_2 ((rd_T106 l1 x26_1).f2).length c687_2)) (ds := []) #[O,O,O,O,O,O,O,O,O,O,O,O,O,O,O,O,O,O,O,O,O,O,O] (by kernel_rfl) rfl rfl ⟨(blk_cell BK688.out 0).trans rfl, (blk_cell BK688.out 1).trans rfl, (blk_cell BK688.out 2).trans rfl⟩ (fun hHeld => ?_); refine with_tabW impl_TrimHunks.tab10 impl_TrimHunks.bits10 (fun HT_ HW_ => ?_)
               generalize w28.drew = w29 at HO_8 BK688 HB HR692 hHeld ⊢
               refine pure_ (i := 0) (N := some 47) (v := ?_) (a' := ?_) #[Y,O,O,O,O,O,O,O,O,O,O,O,O,O,O,O,O,O,O,O,O,O,O] rfl rfl zx (fun _ _ _ h => h) (Or.inl ⟨by rfl, ?_⟩) ?_ ?_
               rotate_left; (intro w'; go_simp; with_reducible rfl); rotate_left; (simp only [Act.put,qa,qb,qc,i64_w,i32_w]; rfl)
               refine pure_ (i := 2) (N := some 49) (v := ?_) (a' := ?_) #[Y,O,Y,O,O,O,O,O,O,O,O,O,O,O,O,O,O,O,O,O,O,O,O] rfl rfl zx (fun _ _ _ h => h) (Or.inl ⟨by rfl, ?_⟩) ?_ ?_
               rotate_left; (intro w'; go_simp; with_reducible rfl); rotate_left; (simp only [Act.put,qa,qb,qc,i64_w,i32_w]; rfl)
               refine pure_ (i := 4) (N := some 51) (v := ?_) (a' := ?_) #[Y,O,Y,O,Y,O,O,O,O,O,O,O,O,O,O,O,O,O,O,O,O,O,O] rfl rfl zx (fun _ _ _ h => h) (Or.inl ⟨by rfl, ?_⟩) ?_ ?_
               rotate_left; (intro w'; go_simp; with_reducible rfl); rotate_left; (simp only [Act.put,qa,qb,qc,i64_w,i32_w]; rfl)
               refine pure_ (i := 6) (N := some 53) (v := ?_) (a' := ?_) #[Y,O,Y,O,Y,O,Y,O,O,O,O,O,O,O,O,O,O,O,O,O,O,O,O] rfl rfl zx (fun _ _ _ h => h) (Or.inl ⟨by rfl, ?_⟩) ?_ ?_
               rotate_left; (intro w'; go_simp; with_reducible rfl); rotate_left; (simp only [Act.put,qa,qb,qc,i64_w,i32_w]; rfl)
               refine pure_ (i := 8) (N := some 55) (v := ?_) (a' := ?_) #[Y,O,Y,O,Y,O,Y,O,Y,O,O,O,O,O,O,O,O,O,O,O,O,O,O] rfl rfl zx (fun _ _ _ h => h) (Or.inl ⟨by rfl, ?_⟩) ?_ ?_
               rotate_left; (intro w'; go_simp; with_reducible rfl); rotate_left; (simp only [Act.put,qa,qb,qc,i64_w,i32_w]; rfl)
               refine pure_ (i := 10) (N := some 57) (v := ?_) (a' := ?_) #[Y,O,Y,O,Y,O,Y,O,Y,O,Y,O,O,O,O,O,O,O,O,O,O,O,O] rfl rfl zx (fun _ _ _ h => h) (Or.inl ⟨by rfl, ?_⟩) ?_ ?_
               rotate_left; (intro w'; go_simp; with_reducible rfl); rotate_left; (simp only [Act.put,qa,qb,qc,i64_w,i32_w]; rfl)
               refine pure_ (i := 12) (N := some 59) (v := ?_) (a' := ?_) #[Y,O,Y,O,Y,O,Y,O,Y,O,Y,O,Y,O,O,O,O,O,O,O,O,O,O] rfl rfl zx (fun _ _ _ h => h) (Or.inl ⟨by rfl, ?_⟩) ?_ ?_
               rotate_left; (intro w'; go_simp; with_reducible rfl); rotate_left; (simp only [Act.put,qa,qb,qc,i64_w,i32_w]; rfl)
               refine pure_ (i := 13) (N := some 60) (v := ?_) (a' := ?_) #[Y,O,Y,O,Y,O,Y,O,Y,O,Y,O,Y,Y,O,O,O,O,O,O,O,O,O] rfl rfl zx (fun _ _ _ h => h) (Or.inl ⟨by rfl, ?_⟩) ?_ ?_
               rotate_left; (intro w'; go_simp; with_reducible rfl); rotate_left; (simp only [Act.put,qa,qb,qc,i64_w,i32_w]; rfl)
               refine pure_ (i := 16) (N := some 63) (v := ?_) (a' := ?_) #[Y,O,Y,O,Y,O,Y,O,Y,O,Y,O,Y,Y,O,O,Y,O,O,O,O,O,O] rfl rfl zx (fun _ _ _ h => h) (Or.inl ⟨by rfl, ?_⟩) ?_ ?_
               rotate_left; (intro w'; go_simp; with_reducible rfl); rotate_left; (simp only [Act.put,qa,qb,qc,i64_w,i32_w]; rfl)
               refine take_ (i := 1) (N := some 48) (v := ?_) (a' := ?_) #[Y,Y,Y,O,Y,O,Y,O,Y,O,Y,O,Y,Y,O,O,Y,O,O,O,O,O,O] rfl rfl (take_ofW HT_.out HW_.out (by kernel_rfl)) (fun _ _ _ h => h) (Or.inl ⟨by rfl, ?_⟩) hHeld ?_ ?_
               rotate_left; (rintro w' ⟨s0, s1, s2⟩; go_simp; with_reducible rfl); rotate_left; (simp only [Act.put,qa,qb,qc,i64_w,i32_w]; rfl)
               refine pure_ (i := 3) (N := some 50) (v := ?_) (a' := ?_) #[Y,Y,Y,Y,Y,O,Y,O,Y,O,Y,O,Y,Y,O,O,Y,O,O,O,O,O,O] rfl rfl zx (fun _ _ _ h => h) (Or.inl ⟨by rfl, ?_⟩) ?_ ?_
               rotate_left; (intro w'; go_simp; with_reducible rfl); rotate_left; (simp only [Act.put,qa,qb,qc,i64_w,i32_w]; rfl)
               refine take_ (i := 5) (N := some 52) (v := ?_) (a' := ?_) #[Y,Y,Y,Y,Y,Y,Y,O,Y,O,Y,O,Y,Y,O,O,Y,O,O,O,O,O,O] rfl rfl (take_ofW HT_.out HW_.out (by kernel_rfl)) (fun _ _ _ h => h) (Or.inl ⟨by rfl, ?_⟩) hHeld ?_ ?_
               rotate_left; (rintro w' ⟨s0, s1, s2⟩; go_simp; with_reducible rfl); rotate_left; (simp only [Act.put,qa,qb,qc,i64_w,i32_w]; rfl)
               refine pure_ (i := 7) (N := some 54) (v := ?_) (a' := ?_) #[Y,Y,Y,Y,Y,Y,Y,Y,Y,O,Y,O,Y,Y,O,O,Y,O,O,O,O,O,O] rfl rfl zx (fun _ _ _ h => h) (Or.inl ⟨by rfl, ?_⟩) ?_ ?_
               rotate_left; (intro w'; go_simp; with_reducible rfl); rotate_left; (simp only [Act.put,qa,qb,qc,i64_w,i32_w]; rfl)
               refine pure_ (i := 9) (N := some 56) (v := ?_) (a' := ?_) #[Y,Y,Y,Y,Y,Y,Y,Y,Y,Y,Y,O,Y,Y,O,O,Y,O,O,O,O,O,O] rfl rfl zx (fun _ _ _ h => h) (Or.inl ⟨by rfl, ?_⟩) ?_ ?_
               rotate_left; (intro w'; go_simp; with_reducible rfl); rotate_left; (simp only [Act.put,qa,qb,qc,i64_w,i32_w]; rfl)
               refine take_ (i := 11) (N := some 58) (v := ?_) (a' := ?_) #[Y,Y,Y,Y,Y,Y,Y,Y,Y,Y,Y,Y,Y,Y,O,O,Y,O,O,O,O,O,O] rfl rfl (take_ofW HT_.out HW_.out (by kernel_rfl)) (fun _ _ _ h => h) (Or.inl ⟨by rfl, ?_⟩) hHeld ?_ ?_
               rotate_left; (rintro w' ⟨s0, s1, s2⟩; go_simp; with_reducible rfl); rotate_left; (simp only [Act.put,qa,qb,qc,i64_w,i32_w]; rfl)
               refine take_ (i := 14) (N := some 61) (v := ?_) (a' := ?_) #[Y,Y,Y,Y,Y,Y,Y,Y,Y,Y,Y,Y,Y,Y,Y,O,Y,O,O,O,O,O,O] rfl rfl (take_ofW HT_.out HW_.out (by kernel_rfl)) (fun _ _ _ h => h) (Or.inl ⟨by rfl, ?_⟩) hHeld ?_ ?_
               rotate_left; (rintro w' ⟨s0, s1, s2⟩; go_simp; with_reducible rfl); rotate_left; (simp only [Act.put,qa,qb,qc,i64_w,i32_w]; rfl)
               refine pure_ (i := 15) (N := some 62) (v := ?_) (a' := ?_) #[Y,Y,Y,Y,Y,Y,Y,Y,Y,Y,Y,Y,Y,Y,Y,Y,Y,O,O,O,O,O,O] rfl rfl zx (fun _ _ _ h => h) (Or.inl ⟨by rfl, ?_⟩) ?_ ?_
               rotate_left; (intro w'; go_simp; with_reducible rfl); rotate_left; (simp only [Act.put,qa,qb,qc,i64_w,i32_w]; rfl)
               refine pure_ (i := 17) (N := some 64) (v := ?_) (a' := ?_) #[Y,Y,Y,Y,Y,Y,Y,Y,Y,Y,Y,Y,Y,Y,Y,Y,Y,Y,O,O,O,O,O] rfl rfl zx (fun _ _ _ h => h) (Or.inl ⟨by rfl, ?_⟩) ?_ ?_
               rotate_left; (intro w'; go_simp; with_reducible rfl); rotate_left; (simp only [Act.put,qa,qb,qc,i64_w,i32_w]; rfl)
               refine pure_ (i := 18) (N := some 65) (v := ?_) (a' := ?_) #[Y,Y,Y,Y,Y,Y,Y,Y,Y,Y,Y,Y,Y,Y,Y,Y,Y,Y,Y,O,O,O,O] rfl rfl zx (fun _ _ _ h => h) (Or.inl ⟨by rfl, ?_⟩) ?_ ?_
               rotate_left; (intro w'; go_simp; with_reducible rfl); rotate_left; (simp only [Act.put,qa,qb,qc,i64_w,i32_w]; rfl)
               refine join_ (σ := Value × Nat) 1 #[Y,Y,Y,Y,Y,Y,Y,Y,Y,Y,Y,Y,Y,Y,Y,Y,Y,Y,Y,Y,Y,Y,O] (fun s_ => [(66, s_.1), (14, .pointer (some ⟨s_.2, 0, none⟩)), (67, .agg #[.int .i64 (wrap64 (((rd_T106 l1 x26_1).f0) + t690)), .int .i64 (wrap64 ((wrap64 (((rd_T106 l1 x26_1).f1) - t690)) - t691)), s_.1])]) (fun s_ w' => (w'.cell? ⟨gb688, 0, none⟩ = some (.int .i64 ((rd_T106 l1 x26_1).f0)) ∧ w'.cell? ⟨gb688, 1, none⟩ = some (.int .i64 ((rd_T106 l1 x26_1).f1)) ∧ w'.cell? ⟨gb688, 2, none⟩ = some (.slice A687_2 ((rd_T106 l1 x26_1).f2).length c687_2)) ∧ (Kd.R Kd.string 9 w' w.heap.size (fun _ => True) s_.1 t693) ∧ (Kd.S k106 106 w' w.heap.size (fun k_ => some k_ ≠ (s_.1 : Value).ownBlock ∧ k_ ≠ gb688 ∧ k_ ≠ s_.2) u8 x8_1) ∧ (w'.heap[gb688]? = some (.cells #[.int .i64 ((rd_T106 l1 x26_1).f0), .int .i64 ((rd_T106 l1 x26_1).f1), .slice A687_2 ((rd_T106 l1 x26_1).f2).length c687_2] 106 (0, 0))) ∧ (w'.heap[s_.2]? = some (.cells #[.int .i64 0, .int .i64 0, .slice none 0 0] 106 (0, 0))) ∧ (w.heap.size ≤ s_.2) ∧ (w.heap.size ≤ s_.2) ∧ (gb688 ≠ s_.2) ∧ (s_.2 ≠ gb688) ∧ (Below w.heap.size w w')) ?_ ?_
               rotate_left
               ·intro hCont
                refine two_ (i := 19) (j := 21) (Ni := some 66) (Nj := some 14) #[Y,Y,Y,Y,Y,Y,Y,Y,Y,Y,Y,Y,Y,Y,Y,Y,Y,Y,Y,Y,O,O,O] #[Y,Y,Y,Y,Y,Y,Y,Y,Y,Y,Y,Y,Y,Y,Y,Y,Y,Y,Y,O,O,Y,O] rfl rfl rfl rfl (two_of HT_.out (by kernel_rfl)) (by decide) (by decide) (fun K hK => ?_) (fun K hK => ?_)
                ·skip
                 refine goes_ Try.func65 (by kernel_rfl) rfl #[.slice A30 ((((rd_T106 l1 x26_1).f2).take ((wrap64 ((((rd_T106 l1 x26_1).f2).length : Int) - t691)) : Int).toNat).drop (t690 : Int).toNat).length (c687_2 - t690.toNat)] (by rfl) rfl rfl (by (try simp only [List.map_toArray, List.map_cons, List.map_nil]); first | done | (rw [show ((((rd_T106 l1 x26_1).f2).take ((wrap64 ((((rd_T106 l1 x26_1).f2).length : Int) - t691)) : Int).toNat).drop (t690 : Int).toNat).length = ((wrap64 ((((rd_T106 l1 x26_1).f2).length : Int) - t691)).toNat - t690.toNat) from (by rw [List.length_drop, List.length_take]; have h_ : ((wrap64 ((((rd_T106 l1 x26_1).f2).length : Int) - t691)) : Int) ≤ (((rd_T106 l1 x26_1).f2).length : Int) := oa; omega)] <;> rfl) | rfl | (simp only [List.length_drop, List.length_take]; rfl)) ?_
                 with_reducible refine (slices_Clone_string_string.calls _ _ ((((rd_T106 l1 x26_1).f2).take ((wrap64 ((((rd_T106 l1 x26_1).f2).length : Int) - t691)) : Int).toNat).drop (t690 : Int).toNat) t693 _ ?side1 ?side2 A19.out).mono ?_
                 (case side1 => exact zq (Kd.C_below HR692.out HB.out))
                 (case side2 => exact HC692.out)
                 rintro e w31 ⟨v694, rfl, ho0, hb⟩
                 refine ⟨_, rfl, ?_⟩
                 have n0_ := am (Kd.S_elder' (zs HO_8.out) (Kd.R_base ho0) hb)
                 have n1_ := am (Kd.R_lower ho0 (below_size (by repeat (first | (with_reducible first | exact HB.out | apply below_alloc | apply pw_below_drewN | apply below_drew1 | refine below_set ?_ GE688.out) | exact HB.out))))
                 have n2_ := am (blk_below (g := gb688) (o := .cells #[.int .i64 ((rd_T106 l1 x26_1).f0), .int .i64 ((rd_T106 l1 x26_1).f1), .slice A687_2 ((rd_T106 l1 x26_1).f2).length c687_2] 106 (0, 0)) (zk BK688.out) hb)
                 have n3_ := am (below_step (by repeat (first | (with_reducible first | exact HB.out | apply below_alloc | apply pw_below_drewN | apply below_drew1 | refine below_set ?_ GE688.out) | exact HB.out)) hb)
                 clear HO_8
                 clear BK688
                 clear HB
                 have HO_8 := n0_
                 have HO695 := n1_
                 have BK688 := n2_
                 have HB := n3_
                 clear n0_ n1_ n2_ n3_
                 (try clear hb)
                 (try clear hb2)
                 (try clear hk)
                 (try clear hi)
                 (try clear ho0)
                 obtain ⟨Ao32, co32, eo32⟩ := Kd.R_slice HO695.out
                 (first | subst eo32 | (injection eo32 with f1_ f2_ f3_; have f4_ := f1_.symm; have f5_ := f3_.symm; clear f1_ f2_ f3_; subst f4_; subst f5_))
                 refine hK.out _ _ ⟨(blk_cell BK688.out 0).trans rfl, (blk_cell BK688.out 1).trans rfl, (blk_cell BK688.out 2).trans rfl⟩ (fun hHeld => ?_)
                 clear hK K
                 refine norm_ (a' := ?_) ?_ ?_
                 rotate_left
                 ·show Act.put _ (some 66) _ = _
                  simp only [Act.put,qa,qb,qc,i64_w,i32_w]
                  rfl
                 refine pure_ (i := 20) (N := some 67) (v := ?_) (a' := ?_) #[Y,Y,Y,Y,Y,Y,Y,Y,Y,Y,Y,Y,Y,Y,Y,Y,Y,Y,Y,Y,Y,O,O] rfl rfl zx (fun _ _ _ h => h) (Or.inl ⟨by rfl, ?_⟩) ?_ ?_
                 rotate_left; (intro w'; go_simp; with_reducible rfl); rotate_left; (simp only [Act.put,qa,qb,qc,i64_w,i32_w]; rfl)
                 refine one_ (i := 21) (N := some 14) #[Y,Y,Y,Y,Y,Y,Y,Y,Y,Y,Y,Y,Y,Y,Y,Y,Y,Y,Y,Y,Y,Y,O] rfl rfl (one_of HT_.out (by kernel_rfl)) (by decide) (fun K hK => ?_)
                 refine box_step ?hg (N := 14) ?hd (cs := #[.int .i64 0, .int .i64 0, .slice none 0 0]) (t := 106) ?hr ?_; (case hd => rfl); (case hg => rfl); (case hr => first | (go_simp; done) | (go_simp; rfl))
                 intro gb696 hg w33 hbox hb
                 have n0_ := am (Kd.S_below (Kd.S_elderB (zs HO_8.out) gb696 (Nat.le_of_eq hg.symm)) hb)
                 have n1_ := am (Kd.R_below (zr HO695.out) hb)
                 have n2_ := am (blk_below (g := gb688) (o := .cells #[.int .i64 ((rd_T106 l1 x26_1).f0), .int .i64 ((rd_T106 l1 x26_1).f1), .slice A687_2 ((rd_T106 l1 x26_1).f2).length c687_2] 106 (0, 0)) (zk BK688.out) hb)
                 have n3_ := am (below_step (by repeat (first | (with_reducible first | exact HB.out | apply below_alloc | apply pw_below_drewN | apply below_drew1 | refine below_set ?_ GE688.out) | exact HB.out)) hb)
                 have n4_ := am (hbox)
                 have n5_ := am ((by rw [hg]; exact (below_size (by repeat (first | (with_reducible first | exact HB.out | apply below_alloc | apply pw_below_drewN | apply below_drew1 | refine below_set ?_ GE688.out) | exact HB.out))) : w.heap.size ≤ gb696))
                 have n6_ := am ((by rw [hg]; exact (below_size (by repeat (first | (with_reducible first | exact HB.out | apply below_alloc | apply pw_below_drewN | apply below_drew1 | refine below_set ?_ GE688.out) | exact HB.out))) : w.heap.size ≤ gb696))
                 have n7_ := am ((by rw [hg]; exact Nat.ne_of_lt (blk_lt (g := gb688) (o := .cells #[.int .i64 ((rd_T106 l1 x26_1).f0), .int .i64 ((rd_T106 l1 x26_1).f1), .slice A687_2 ((rd_T106 l1 x26_1).f2).length c687_2] 106 (0, 0)) (zk BK688.out)) : gb688 ≠ gb696))
                 have n8_ := am ((by rw [hg]; exact Nat.ne_of_gt (blk_lt (g := gb688) (o := .cells #[.int .i64 ((rd_T106 l1 x26_1).f0), .int .i64 ((rd_T106 l1 x26_1).f1), .slice A687_2 ((rd_T106 l1 x26_1).f2).length c687_2] 106 (0, 0)) (zk BK688.out)) : gb696 ≠ gb688))
                 clear HO_8
                 clear HO695
                 clear BK688
                 clear HB
                 have HO_8 := n0_
                 have HO695 := n1_
                 have BK688 := n2_
                 have HB := n3_
                 have BK696 := n4_
                 have GW696 := n5_
                 have GE696 := n6_
                 have NB688_696 := n7_
                 have NB696_688 := n8_
                 clear n0_ n1_ n2_ n3_ n4_ n5_ n6_ n7_ n8_
                 clear hb hbox hg
                 refine hK.out _ _ ⟨(blk_cell BK688.out 0).trans rfl, (blk_cell BK688.out 1).trans rfl, (blk_cell BK688.out 2).trans rfl⟩ (fun hHeld => ?_)
                 clear hK K
                 refine norm_ (a' := ?_) ?_ ?_
                 rotate_left
                 ·show Act.put _ (some 14) _ = _
                  simp only [Act.put,qa,qb,qc,i64_w,i32_w]
                  rfl
                 exact norm_ (by simp only [putAll, Act.put, List.setIfInBounds_toArray, List.set_cons_zero, List.set_cons_succ]) (hCont (.slice Ao32 t693.length co32, gb696) _ ⟨hHeld, (zr HO695.out), (by (with_reducible repeat (first | apply Kd.S_alloc | apply Kd.S_drewN | apply Kd.S_drew)); exact Kd.S_mono HO_8.out (fun _ hk => ⟨hk.1.2, ⟨hk.1.1, hk.2⟩⟩)), (zk BK688.out), (zk BK696.out), GW696.out, GE696.out, NB688_696.out, NB696_688.out, (by repeat (first | (with_reducible first | exact HB.out | apply below_alloc | apply pw_below_drewN | apply below_drew1 | refine below_set ?_ GE688.out | refine below_set ?_ GE696.out) | exact HB.out))⟩)
                ·skip
                 refine box_step ?hg (N := 14) ?hd (cs := #[.int .i64 0, .int .i64 0, .slice none 0 0]) (t := 106) ?hr ?_; (case hd => rfl); (case hg => rfl); (case hr => first | (go_simp; done) | (go_simp; rfl))
                 intro gb696 hg w31 hbox hb
                 have n0_ := am (Kd.S_below (Kd.S_elderB (zs HO_8.out) gb696 (Nat.le_of_eq hg.symm)) hb)
                 have n1_ := am (blk_below (g := gb688) (o := .cells #[.int .i64 ((rd_T106 l1 x26_1).f0), .int .i64 ((rd_T106 l1 x26_1).f1), .slice A687_2 ((rd_T106 l1 x26_1).f2).length c687_2] 106 (0, 0)) (zk BK688.out) hb)
                 have n2_ := am (below_step (by repeat (first | (with_reducible first | exact HB.out | apply below_alloc | apply pw_below_drewN | apply below_drew1 | refine below_set ?_ GE688.out) | exact HB.out)) hb)
                 have n3_ := am (hbox)
                 have n4_ := am ((by rw [hg]; exact (below_size (by repeat (first | (with_reducible first | exact HB.out | apply below_alloc | apply pw_below_drewN | apply below_drew1 | refine below_set ?_ GE688.out) | exact HB.out))) : w.heap.size ≤ gb696))
                 have n5_ := am ((by rw [hg]; exact (below_size (by repeat (first | (with_reducible first | exact HB.out | apply below_alloc | apply pw_below_drewN | apply below_drew1 | refine below_set ?_ GE688.out) | exact HB.out))) : w.heap.size ≤ gb696))
                 have n6_ := am ((by rw [hg]; exact Nat.ne_of_lt (blk_lt (g := gb688) (o := .cells #[.int .i64 ((rd_T106 l1 x26_1).f0), .int .i64 ((rd_T106 l1 x26_1).f1), .slice A687_2 ((rd_T106 l1 x26_1).f2).length c687_2] 106 (0, 0)) (zk BK688.out)) : gb688 ≠ gb696))
                 have n7_ := am ((by rw [hg]; exact Nat.ne_of_gt (blk_lt (g := gb688) (o := .cells #[.int .i64 ((rd_T106 l1 x26_1).f0), .int .i64 ((rd_T106 l1 x26_1).f1), .slice A687_2 ((rd_T106 l1 x26_1).f2).length c687_2] 106 (0, 0)) (zk BK688.out)) : gb696 ≠ gb688))
                 clear HO_8
                 clear BK688
                 clear HB
                 have HO_8 := n0_
                 have BK688 := n1_
                 have HB := n2_
                 have BK696 := n3_
                 have GW696 := n4_
                 have GE696 := n5_
                 have NB688_696 := n6_
                 have NB696_688 := n7_
                 clear n0_ n1_ n2_ n3_ n4_ n5_ n6_ n7_
                 clear hb hbox hg
                 refine hK.out _ _ ⟨(blk_cell BK688.out 0).trans rfl, (blk_cell BK688.out 1).trans rfl, (blk_cell BK688.out 2).trans rfl⟩ (fun hHeld => ?_)
                 clear hK K
                 refine norm_ (a' := ?_) ?_ ?_
                 rotate_left
                 ·show Act.put _ (some 14) _ = _
                  simp only [Act.put,qa,qb,qc,i64_w,i32_w]
                  rfl
                 refine one_ (i := 19) (N := some 66) #[Y,Y,Y,Y,Y,Y,Y,Y,Y,Y,Y,Y,Y,Y,Y,Y,Y,Y,Y,Y,O,Y,O] rfl rfl (one_of HT_.out (by kernel_rfl)) (by decide) (fun K hK => ?_)
                 refine goes_ Try.func65 (by kernel_rfl) rfl #[.slice A30 ((((rd_T106 l1 x26_1).f2).take ((wrap64 ((((rd_T106 l1 x26_1).f2).length : Int) - t691)) : Int).toNat).drop (t690 : Int).toNat).length (c687_2 - t690.toNat)] (by rfl) rfl rfl (by (try simp only [List.map_toArray, List.map_cons, List.map_nil]); first | done | (rw [show ((((rd_T106 l1 x26_1).f2).take ((wrap64 ((((rd_T106 l1 x26_1).f2).length : Int) - t691)) : Int).toNat).drop (t690 : Int).toNat).length = ((wrap64 ((((rd_T106 l1 x26_1).f2).length : Int) - t691)).toNat - t690.toNat) from (by rw [List.length_drop, List.length_take]; have h_ : ((wrap64 ((((rd_T106 l1 x26_1).f2).length : Int) - t691)) : Int) ≤ (((rd_T106 l1 x26_1).f2).length : Int) := oa; omega)] <;> rfl) | rfl | (simp only [List.length_drop, List.length_take]; rfl)) ?_
                 with_reducible refine (slices_Clone_string_string.calls _ _ ((((rd_T106 l1 x26_1).f2).take ((wrap64 ((((rd_T106 l1 x26_1).f2).length : Int) - t691)) : Int).toNat).drop (t690 : Int).toNat) t693 _ ?side1 ?side2 A19.out).mono ?_
                 (case side1 => exact zq (Kd.C_below HR692.out HB.out))
                 (case side2 => exact HC692.out)
                 rintro e w32 ⟨v694, rfl, ho0, hb⟩
                 refine ⟨_, rfl, ?_⟩
                 have n0_ := am (Kd.S_elder' (zs HO_8.out) (Kd.R_base ho0) hb)
                 have n1_ := am (Kd.R_lower ho0 (below_size (by repeat (first | (with_reducible first | exact HB.out | apply below_alloc | apply pw_below_drewN | apply below_drew1 | refine below_set ?_ GE688.out | refine below_set ?_ GE696.out) | exact HB.out))))
                 have n2_ := am (blk_below (g := gb688) (o := .cells #[.int .i64 ((rd_T106 l1 x26_1).f0), .int .i64 ((rd_T106 l1 x26_1).f1), .slice A687_2 ((rd_T106 l1 x26_1).f2).length c687_2] 106 (0, 0)) (zk BK688.out) hb)
                 have n3_ := am (blk_below (g := gb696) (o := .cells #[.int .i64 0, .int .i64 0, .slice none 0 0] 106 (0, 0)) (zk BK696.out) hb)
                 have n4_ := am (below_step (by repeat (first | (with_reducible first | exact HB.out | apply below_alloc | apply pw_below_drewN | apply below_drew1 | refine below_set ?_ GE688.out | refine below_set ?_ GE696.out) | exact HB.out)) hb)
                 clear HO_8
                 clear BK688
                 clear BK696
                 clear HB
                 have HO_8 := n0_
                 have HO695 := n1_
                 have BK688 := n2_
                 have BK696 := n3_
                 have HB := n4_
                 clear n0_ n1_ n2_ n3_ n4_
                 (try clear hb)
                 (try clear hb2)
                 (try clear hk)
                 (try clear hi)
                 (try clear ho0)
                 obtain ⟨Ao33, co33, eo33⟩ := Kd.R_slice HO695.out
                 (first | subst eo33 | (injection eo33 with f1_ f2_ f3_; have f4_ := f1_.symm; have f5_ := f3_.symm; clear f1_ f2_ f3_; subst f4_; subst f5_))
                 refine hK.out _ _ ⟨(blk_cell BK688.out 0).trans rfl, (blk_cell BK688.out 1).trans rfl, (blk_cell BK688.out 2).trans rfl⟩ (fun hHeld => ?_)
                 clear hK K
                 refine norm_ (a' := ?_) ?_ ?_
                 rotate_left
                 ·show Act.put _ (some 66) _ = _
                  simp only [Act.put,qa,qb,qc,i64_w,i32_w]
                  rfl
                 refine pure_ (i := 20) (N := some 67) (v := ?_) (a' := ?_) #[Y,Y,Y,Y,Y,Y,Y,Y,Y,Y,Y,Y,Y,Y,Y,Y,Y,Y,Y,Y,Y,Y,O] rfl rfl zx (fun _ _ _ h => h) (Or.inl ⟨by rfl, ?_⟩) ?_ ?_
                 rotate_left; (intro w'; go_simp; with_reducible rfl); rotate_left; (simp only [Act.put,qa,qb,qc,i64_w,i32_w]; rfl)
                 exact norm_ (by simp only [putAll, Act.put, List.setIfInBounds_toArray, List.set_cons_zero, List.set_cons_succ]) (hCont (.slice Ao33 t693.length co33, gb696) _ ⟨hHeld, (zr HO695.out), (by (with_reducible repeat (first | apply Kd.S_alloc | apply Kd.S_drewN | apply Kd.S_drew)); exact Kd.S_mono HO_8.out (fun _ hk => ⟨hk.2, ⟨hk.1.1, hk.1.2⟩⟩)), (zk BK688.out), (zk BK696.out), GW696.out, GE696.out, NB688_696.out, NB696_688.out, (by repeat (first | (with_reducible first | exact HB.out | apply below_alloc | apply pw_below_drewN | apply below_drew1 | refine below_set ?_ GE688.out | refine below_set ?_ GE696.out) | exact HB.out))⟩)
               rintro ⟨v694, gb696⟩ w34 ⟨hS_, h0_, h1_, h2_, h3_, h4_, h5_, h6_, h7_, h8_⟩
               have n0_ : Aside0 (Kd.R Kd.string 9 w34 w.heap.size (fun _ => True) v694 t693) := ⟨h0_⟩
               have n1_ : Aside0 (Kd.S k106 106 w34 w.heap.size (fun k_ => some k_ ≠ (v694 : Value).ownBlock ∧ k_ ≠ gb688 ∧ k_ ≠ gb696) u8 x8_1) := ⟨h1_⟩
               have n2_ : Aside0 (w34.heap[gb688]? = some (.cells #[.int .i64 ((rd_T106 l1 x26_1).f0), .int .i64 ((rd_T106 l1 x26_1).f1), .slice A687_2 ((rd_T106 l1 x26_1).f2).length c687_2] 106 (0, 0))) := ⟨h2_⟩
               have n3_ : Aside0 (w34.heap[gb696]? = some (.cells #[.int .i64 0, .int .i64 0, .slice none 0 0] 106 (0, 0))) := ⟨h3_⟩
               have n4_ : Aside0 (w.heap.size ≤ gb696) := ⟨h4_⟩
               have n5_ : Aside0 (w.heap.size ≤ gb696) := ⟨h5_⟩
               have n6_ : Aside0 (gb688 ≠ gb696) := ⟨h6_⟩
               have n7_ : Aside0 (gb696 ≠ gb688) := ⟨h7_⟩
               have n8_ : Aside0 (Below w.heap.size w w34) := ⟨h8_⟩
               clear HO_8
               clear BK688
               clear HB
               clear h0_ h1_ h2_ h3_ h4_ h5_ h6_ h7_ h8_
               have HO695 := n0_
               have HO_8 := n1_
               have BK688 := n2_
               have BK696 := n3_
               have GW696 := n4_
               have GE696 := n5_
               have NB688_696 := n6_
               have NB696_688 := n7_
               have HB := n8_
               clear n0_ n1_ n2_ n3_ n4_ n5_ n6_ n7_ n8_
               have hHeld : w34.cell? ⟨gb688, 0, none⟩ = some (.int .i64 ((rd_T106 l1 x26_1).f0)) ∧ w34.cell? ⟨gb688, 1, none⟩ = some (.int .i64 ((rd_T106 l1 x26_1).f1)) ∧ w34.cell? ⟨gb688, 2, none⟩ = some (.slice A687_2 ((rd_T106 l1 x26_1).f2).length c687_2) := hS_
               obtain ⟨Ao35, co35, eo35⟩ := Kd.R_slice HO695.out
               (first | subst eo35 | (injection eo35 with f1_ f2_ f3_; have f4_ := f1_.symm; have f5_ := f3_.symm; clear f1_ f2_ f3_; subst f4_; subst f5_))
               refine norm_ (a' := ?_) ?_ ?_
               rotate_left
               ·simp only [putAll, Act.put, List.setIfInBounds_toArray, List.set_cons_zero, List.set_cons_succ]
                rfl
               refine one_ (i := 22) (N := none) #[Y,Y,Y,Y,Y,Y,Y,Y,Y,Y,Y,Y,Y,Y,Y,Y,Y,Y,Y,Y,Y,Y,Y] rfl rfl (one_of HT_.out (by kernel_rfl)) (by decide) (fun K hK => ?_)
               have hs36 : w34.cell? ⟨gb696, 0, none⟩ = some (.int .i64 0) := (blk_cell BK696.out 0).trans rfl
               have hfs36 := blk_frozen BK696.out 0
               have hns36_0 := NB688_696.out
               have hms36_0 := NB696_688.out
               have hs37 : w34.cell? ⟨gb696, 1, none⟩ = some (.int .i64 0) := (blk_cell BK696.out 1).trans rfl
               have hfs37 := blk_frozen BK696.out 1
               have hns37_0 := NB688_696.out
               have hms37_0 := NB696_688.out
               have hs38 : w34.cell? ⟨gb696, 2, none⟩ = some (.slice none 0 0) := (blk_cell BK696.out 2).trans rfl
               have hfs38 := blk_frozen BK696.out 2
               have hns38_0 := NB688_696.out
               have hms38_0 := NB696_688.out
               refine skip_ (w1 := ?_) (by rfl) rfl ?_ ?_
               rotate_left
               ·go_simp
                rfl
               refine hK.out _ _ ⟨((cell_far (p := ⟨gb696, _, none⟩) NB688_696.out _).trans (((cell_far (p := ⟨gb696, _, none⟩) NB688_696.out _).trans (((cell_far (p := ⟨gb696, _, none⟩) NB688_696.out _).trans (hHeld.1)))))), ((cell_far (p := ⟨gb696, _, none⟩) NB688_696.out _).trans (((cell_far (p := ⟨gb696, _, none⟩) NB688_696.out _).trans (((cell_far (p := ⟨gb696, _, none⟩) NB688_696.out _).trans (hHeld.2.1)))))), ((cell_far (p := ⟨gb696, _, none⟩) NB688_696.out _).trans (((cell_far (p := ⟨gb696, _, none⟩) NB688_696.out _).trans (((cell_far (p := ⟨gb696, _, none⟩) NB688_696.out _).trans (hHeld.2.2))))))⟩ (fun hHeld => ?_)
               clear hK K
               refine done_ (done_of HT_.out (by kernel_rfl)) ?_
               have n0_ : Aside0 (Kd.S k106 106 (((w34.setCell ⟨gb696, 0, none⟩ (.int .i64 (wrap64 (((rd_T106 l1 x26_1).f0) + t690)))).setCell ⟨gb696, 1, none⟩ (.int .i64 (wrap64 ((wrap64 (((rd_T106 l1 x26_1).f1) - t690)) - t691)))).setCell ⟨gb696, 2, none⟩ (.slice Ao35 t693.length co35)) w.heap.size (fun k_ => some k_ ≠ (.slice Ao35 t693.length co35 : Value).ownBlock ∧ k_ ≠ gb688 ∧ k_ ≠ gb696) u8 x8_1) := ⟨by (with_reducible repeat (first | apply Kd.S_alloc | apply Kd.S_drewN | apply Kd.S_drew)); exact Kd.S_mono (Kd.S_far (p := ⟨gb696, 2, none⟩) (Kd.S_far (p := ⟨gb696, 1, none⟩) (Kd.S_far (p := ⟨gb696, 0, none⟩) (Kd.S_mono HO_8.out (fun k_ hk => (⟨hk, hk.2.2⟩ : _ ∧ k_ ≠ gb696))) (fun _ hk => hk.2) (.int .i64 (wrap64 (((rd_T106 l1 x26_1).f0) + t690)))) (fun _ hk => hk.2) (.int .i64 (wrap64 ((wrap64 (((rd_T106 l1 x26_1).f1) - t690)) - t691)))) (fun _ hk => hk.2) (.slice Ao35 t693.length co35)) (fun _ hk => ⟨hk.1.1, ⟨hk.1.2.1, hk.1.2.2⟩⟩)⟩
               have n1_ : Aside0 (Kd.R Kd.string 9 (((w34.setCell ⟨gb696, 0, none⟩ (.int .i64 (wrap64 (((rd_T106 l1 x26_1).f0) + t690)))).setCell ⟨gb696, 1, none⟩ (.int .i64 (wrap64 ((wrap64 (((rd_T106 l1 x26_1).f1) - t690)) - t691)))).setCell ⟨gb696, 2, none⟩ (.slice Ao35 t693.length co35)) w.heap.size (fun _ => True) (.slice Ao35 t693.length co35) t693) := ⟨by (with_reducible repeat (first | apply Kd.R_alloc | apply Kd.R_drewN | apply Kd.R_drew)); exact Kd.R_mono (Kd.R_far (p := ⟨gb696, 2, none⟩) (Kd.R_far (p := ⟨gb696, 1, none⟩) (Kd.R_far (p := ⟨gb696, 0, none⟩) (Kd.R_types HO695.out BK696.out (by decide)) (fun _ hk => hk.2) (.int .i64 (wrap64 (((rd_T106 l1 x26_1).f0) + t690)))) (fun _ hk => hk.2) (.int .i64 (wrap64 ((wrap64 (((rd_T106 l1 x26_1).f1) - t690)) - t691)))) (fun _ hk => hk.2) (.slice Ao35 t693.length co35)) (fun _ hk => trivial)⟩
               have n2_ : Aside0 ((((w34.setCell ⟨gb696, 0, none⟩ (.int .i64 (wrap64 (((rd_T106 l1 x26_1).f0) + t690)))).setCell ⟨gb696, 1, none⟩ (.int .i64 (wrap64 ((wrap64 (((rd_T106 l1 x26_1).f1) - t690)) - t691)))).setCell ⟨gb696, 2, none⟩ (.slice Ao35 t693.length co35)).heap[gb688]? = some (.cells #[.int .i64 ((rd_T106 l1 x26_1).f0), .int .i64 ((rd_T106 l1 x26_1).f1), .slice A687_2 ((rd_T106 l1 x26_1).f2).length c687_2] 106 (0, 0))) := ⟨by (with_reducible repeat (first | refine blk_drewN ?_ _ | refine blk_drew ?_ | refine blk_alloc ?_ _)); refine blk_far ?_ NB688_696.out _; (with_reducible repeat (first | refine blk_drewN ?_ _ | refine blk_drew ?_ | refine blk_alloc ?_ _)); refine blk_far ?_ NB688_696.out _; (with_reducible repeat (first | refine blk_drewN ?_ _ | refine blk_drew ?_ | refine blk_alloc ?_ _)); refine blk_far ?_ NB688_696.out _; (with_reducible repeat (first | refine blk_drewN ?_ _ | refine blk_drew ?_ | refine blk_alloc ?_ _)); exact BK688.out⟩
               have n3_ : Aside0 ((((w34.setCell ⟨gb696, 0, none⟩ (.int .i64 (wrap64 (((rd_T106 l1 x26_1).f0) + t690)))).setCell ⟨gb696, 1, none⟩ (.int .i64 (wrap64 ((wrap64 (((rd_T106 l1 x26_1).f1) - t690)) - t691)))).setCell ⟨gb696, 2, none⟩ (.slice Ao35 t693.length co35)).heap[gb696]? = some (.cells #[.int .i64 (wrap64 (((rd_T106 l1 x26_1).f0) + t690)), .int .i64 (wrap64 ((wrap64 (((rd_T106 l1 x26_1).f1) - t690)) - t691)), .slice Ao35 t693.length co35] 106 (0, 0))) := ⟨by (with_reducible repeat (first | refine blk_drewN ?_ _ | refine blk_drew ?_ | refine blk_alloc ?_ _)); refine blk_put (cs := #[.int .i64 (wrap64 (((rd_T106 l1 x26_1).f0) + t690)), .int .i64 (wrap64 ((wrap64 (((rd_T106 l1 x26_1).f1) - t690)) - t691)), .slice none 0 0]) ?_ 2 _ rfl; (with_reducible repeat (first | refine blk_drewN ?_ _ | refine blk_drew ?_ | refine blk_alloc ?_ _)); refine blk_put (cs := #[.int .i64 (wrap64 (((rd_T106 l1 x26_1).f0) + t690)), .int .i64 0, .slice none 0 0]) ?_ 1 _ rfl; (with_reducible repeat (first | refine blk_drewN ?_ _ | refine blk_drew ?_ | refine blk_alloc ?_ _)); refine blk_put (cs := #[.int .i64 0, .int .i64 0, .slice none 0 0]) ?_ 0 _ rfl; (with_reducible repeat (first | refine blk_drewN ?_ _ | refine blk_drew ?_ | refine blk_alloc ?_ _)); exact BK696.out⟩
               have n4_ : Aside0 (Below w.heap.size w (((w34.setCell ⟨gb696, 0, none⟩ (.int .i64 (wrap64 (((rd_T106 l1 x26_1).f0) + t690)))).setCell ⟨gb696, 1, none⟩ (.int .i64 (wrap64 ((wrap64 (((rd_T106 l1 x26_1).f1) - t690)) - t691)))).setCell ⟨gb696, 2, none⟩ (.slice Ao35 t693.length co35))) := ⟨by repeat (first | (with_reducible first | exact HB.out | apply below_alloc | apply pw_below_drewN | apply below_drew1 | refine below_set ?_ GE688.out | refine below_set ?_ GE696.out) | exact HB.out)⟩
               (try clear HO_8)
               (try clear HO695)
               (try clear BK688)
               (try clear BK696)
               (try clear HB)
               (try simp only [show ∀ (w_ : World) (n_ : Nat) (p_ : Addr) (v_ : Value), (w_.drewN n_).setCell p_ v_ = (w_.setCell p_ v_).drewN n_ from fun _ _ _ _ => rfl])
               generalize (((w34.setCell ⟨gb696, 0, none⟩ (.int .i64 (wrap64 (((rd_T106 l1 x26_1).f0) + t690)))).setCell ⟨gb696, 1, none⟩ (.int .i64 (wrap64 ((wrap64 (((rd_T106 l1 x26_1).f1) - t690)) - t691)))).setCell ⟨gb696, 2, none⟩ (.slice Ao35 t693.length co35)) = w39 at n0_ n1_ n2_ n3_ n4_ ⊢
               have HO_8 := n0_
               have HO695 := n1_
               have BK688 := n2_
               have BK696 := n3_
               have HB := n4_
               clear n0_ n1_ n2_ n3_ n4_
               have hnb40 := NB696_688.out
               have hnc40 := NB688_696.out
               have hcz41_0 : w39.cell? ⟨gb696, 0, none⟩ = some (.int .i64 (wrap64 (((rd_T106 l1 x26_1).f0) + t690))) := (blk_cell BK696.out 0).trans rfl
               have hcz41_1 : w39.cell? ⟨gb696, 1, none⟩ = some (.int .i64 (wrap64 ((wrap64 (((rd_T106 l1 x26_1).f1) - t690)) - t691))) := (blk_cell BK696.out 1).trans rfl
               have hcz41_2 : w39.cell? ⟨gb696, 2, none⟩ = some (.slice Ao35 t693.length co35) := (blk_cell BK696.out 2).trans rfl
               have hfz41_0 := blk_frozen BK696.out 0
               have hfz41_1 := blk_frozen BK696.out 1
               have hfz41_2 := blk_frozen BK696.out 2
               try go_wp2_with (first | ((with_reducible refine gateB (b := .append) (xs := #[.tmp 77, .tmp 79]) rfl ?_); (try (refine gate_guard (by rfl) ?_; dsimp only)); at_builtin; refine Kd.S_append k106 (w0 := w) w.heap.size rfl (.tmp 77) (.tmp 79) 42 106 (.agg #[(.int .i64 0), (.int .i64 0), (.slice none 0 0)]) 40 rfl Try.underlying42 info106 rfl (by decide) (by omega) u8 x8_1 (⟨wrap64 (((rd_T106 l1 x26_1).f0) + t690), wrap64 ((wrap64 (((rd_T106 l1 x26_1).f1) - t690)) - t691), t693⟩ : S106) [.int .i64 (wrap64 (((rd_T106 l1 x26_1).f0) + t690)), .int .i64 (wrap64 ((wrap64 (((rd_T106 l1 x26_1).f1) - t690)) - t691)), .slice Ao35 t693.length co35] (fun k_ => k_ ≠ gb688 ∧ k_ ≠ gb696) (fun k_ => some k_ = (.slice Ao35 t693.length co35 : Value).ownBlock) rfl rfl ?aP (fun k_ hk_ => ((Kd.R_mono (ok' := fun k_ => ((fun k_ => k_ ≠ gb688 ∧ k_ ≠ gb696)) k_ ∧ some k_ ≠ (u8 : Value).ownBlock) (Kd.R_types (Kd.R_types (Kd.R_apart' (HO695.out) (Kd.S_typed HO_8.out) (by decide)) BK688.out (by decide)) BK696.out (by decide)) (fun k_ hk => ⟨⟨hk.1.2, hk.2⟩, hk.1.1.2⟩))).1 k_ hk_.symm) ?aF ?aO ?aB ?aS ?aL ?_; (case aP => exact k106_mkM _ _ _ (⟨wrap64 (((rd_T106 l1 x26_1).f0) + t690), wrap64 ((wrap64 (((rd_T106 l1 x26_1).f1) - t690)) - t691), t693⟩ : S106) (Kd.R_mono (Kd.R_tight rfl (Kd.R_mono (ok' := fun k_ => ((fun k_ => k_ ≠ gb688 ∧ k_ ≠ gb696)) k_ ∧ some k_ ≠ (u8 : Value).ownBlock) (Kd.R_types (Kd.R_types (Kd.R_apart' (HO695.out) (Kd.S_typed HO_8.out) (by decide)) BK688.out (by decide)) BK696.out (by decide)) (fun k_ hk => ⟨⟨hk.1.2, hk.2⟩, hk.1.1.2⟩))) (fun _ h_ => h_))); (case aB => exact (by repeat (first | (with_reducible first | exact HB.out | apply below_alloc | apply pw_below_drewN | apply below_drew1 | refine below_set ?_ GE688.out | refine below_set ?_ GE696.out) | exact HB.out))); (case aF => exact (fun k_ hk => ⟨Kd.freshB (g := gb688) (o := .cells #[.int .i64 ((rd_T106 l1 x26_1).f0), .int .i64 ((rd_T106 l1 x26_1).f1), .slice A687_2 ((rd_T106 l1 x26_1).f2).length c687_2] 106 (0, 0)) (zk BK688.out) k_ hk, Kd.freshB (g := gb696) (o := .cells #[.int .i64 (wrap64 (((rd_T106 l1 x26_1).f0) + t690)), .int .i64 (wrap64 ((wrap64 (((rd_T106 l1 x26_1).f1) - t690)) - t691)), .slice Ao35 t693.length co35] 106 (0, 0)) (zk BK696.out) k_ hk⟩)); (case aO => exact (by (with_reducible repeat (first | apply Kd.S_alloc | apply Kd.S_drewN | apply Kd.S_drew)); exact Kd.S_mono HO_8.out (fun k_ hk => ⟨⟨hk.2.1, hk.2.2⟩, fun e_ => hk.1 e_⟩))); (case aS => exact (below_size (by repeat (first | (with_reducible first | exact HB.out | apply below_alloc | apply pw_below_drewN | apply below_drew1 | refine below_set ?_ GE688.out | refine below_set ?_ GE696.out) | exact HB.out)))); (case aL => have := LMc21.out; omega); intro v698 w42 ho hb hg hat; rw [← Ny697.out] at ho; have n0_ := am (blk_grown (g := gb688) (o := .cells #[.int .i64 ((rd_T106 l1 x26_1).f0), .int .i64 ((rd_T106 l1 x26_1).f1), .slice A687_2 ((rd_T106 l1 x26_1).f2).length c687_2] 106 (0, 0)) (zk BK688.out) hg (Kd.S_away HO_8.out (fun _ hk => hk.2.1))); have n1_ := am (blk_grown (g := gb696) (o := .cells #[.int .i64 (wrap64 (((rd_T106 l1 x26_1).f0) + t690)), .int .i64 (wrap64 ((wrap64 (((rd_T106 l1 x26_1).f1) - t690)) - t691)), .slice Ao35 t693.length co35] 106 (0, 0)) (zk BK696.out) hg (Kd.S_away HO_8.out (fun _ hk => hk.2.2))); have n2_ := am (hb); have n3_ := am (ho); clear BK688; clear BK696; clear HB; clear HO_8; clear HO695; have BK688 := n0_; have BK696 := n1_; have HB := n2_; have HO699 := n3_; clear n0_ n1_ n2_ n3_; clear ho hb hg hat))
               go_roundg k1
               case measure => have := HK1.out; omega
               case rel => exact ⟨(y697), (wrap64 (x26_1 + 1)), zf, H', ⟨by have := HK1.out; omega⟩, ⟨by (with_reducible repeat (first | apply Kd.S_alloc | apply Kd.S_drewN | apply Kd.S_drew)); exact Kd.S_mono HO699.out (fun _ hk => trivial)⟩, ⟨by repeat (first | (with_reducible first | exact HB.out | apply below_alloc | apply pw_below_drewN | apply below_drew1 | refine below_set ?_ GE688.out | refine below_set ?_ GE696.out) | exact HB.out)⟩⟩
              ·rw [if_neg c21] at H
               exact absurd H (by simp)
             ·rw [if_neg c20] at H
              have c20b0 : decide (0 < (wrap64 ((wrap64 (((rd_T106 l1 x26_1).f1) - t690)) - t691))) = false := decide_eq_false c20
              clear c20
              by_cases c43 : (t693.length : Int) > 0
              ·rw [if_pos c43] at H
               have c43b0 : decide (0 < (t693.length : Int)) = true := decide_eq_true c43
               have c43b1 : decide (0 < t693.length) = true := decide_eq_true (by omega)
               clear c43
               by_cases c44 : x8_1.length < 3518437208883
               ·rw [if_pos c44] at H
                have LMc44 := am c44
                clear c44
                obtain ⟨y700, hy700⟩ : ∃ y_ : List (S106), y_ = (x8_1 ++ [(⟨wrap64 (((rd_T106 l1 x26_1).f0) + t690), wrap64 ((wrap64 (((rd_T106 l1 x26_1).f1) - t690)) - t691), t693⟩ : S106)]) := ⟨_, rfl⟩
                replace H : (impl_TrimHunks.l0 k1 l0 y700 l1 (l1.length : Int) (wrap64 (x26_1 + 1))) = some (r1, r2) := by first | (rw [hy700]; with_reducible exact H) | (have H2_ := (Option.bind_some _ _).symm.trans H; rw [hy700]; with_reducible exact H2_) | (have H2_ := (Option.bind_some _ _).symm.trans H; with_reducible exact H2_) | with_reducible exact H | (rw [hy700]; exact H) | exact H
                have Ny700 := am hy700
                clear hy700
                have H' := am H
                clear H
                have p687 : 0 ≤ (x26_1 : Int) := oa
                have q687 : x26_1 < (l1.length : Int) := oa
                obtain ⟨ad687, A687_2, c687_2, e687, hx687_0, hx687_1, hx687_2, hl687_2, hi687_2⟩ := at_T106 HR1.out x26_1 p687 q687
                cases e687
                replace hx687_0 := (HB.out.cell (World.block_lt_of_cell? w _ hx687_0)).trans hx687_0
                replace hx687_1 := (HB.out.cell (World.block_lt_of_cell? w _ hx687_1)).trans hx687_1
                replace hx687_2 := (HB.out.cell (World.block_lt_of_cell? w _ hx687_2)).trans hx687_2
                have HR687_2 := am hi687_2
                have HC687_2 := am hl687_2
                clear hi687_2 hl687_2
                replace p687 := eq_true p687
                replace q687 := eq_true q687
                try go_wp2_with (first | ((with_reducible refine gate_dst (N := 10) rfl ?_); (try (refine gate_guard (by rfl) ?_; dsimp only)); refine box_event ?hg (N := 10) ?hd (cs := #[.int .i64 0, .int .i64 0, .slice none 0 0]) (t := 106) ?hr ?_; (case hd => rfl); (case hg => rfl); (case hr => first | (go_simp; done) | (go_simp; rfl)); intro gb688 hg w45 hbox hb; have n0_ := am (Kd.S_below (Kd.S_elderB (zs HO_8.out) gb688 (Nat.le_of_eq hg.symm)) hb); have n1_ := am (below_step zb hb); have n2_ := am (hbox); have n3_ := am ((by rw [hg]; exact (below_size zb) : w.heap.size ≤ gb688)); have n4_ := am ((by rw [hg]; exact (below_size zb) : w.heap.size ≤ gb688)); clear HO_8; clear HB; have HO_8 := n0_; have HB := n1_; have BK688 := n2_; have GW688 := n3_; have GE688 := n4_; clear n0_ n1_ n2_ n3_ n4_; clear hb hbox hg; have hcz46_0 : w45.cell? ⟨gb688, 0, none⟩ = some (.int .i64 0) := (blk_cell BK688.out 0).trans rfl; have hcz46_1 : w45.cell? ⟨gb688, 1, none⟩ = some (.int .i64 0) := (blk_cell BK688.out 1).trans rfl; have hcz46_2 : w45.cell? ⟨gb688, 2, none⟩ = some (.slice none 0 0) := (blk_cell BK688.out 2).trans rfl; have hfz46_0 := blk_frozen BK688.out 0; have hfz46_1 := blk_frozen BK688.out 1; have hfz46_2 := blk_frozen BK688.out 2; obtain ⟨i047, hi047, _, hsz47, _⟩ := info_parts info9; obtain ⟨A47, hcut47, hA47, hC47⟩ := print_mid_of (P := Try.prog) Value.string (⟨#[]⟩ : ByteArray) 24 9 .i64 .i64 Try.underlying24 hi047 hsz47 A0 c0 l0 ((rd_T106 l1 x26_1).f0) (wrap64 (((rd_T106 l1 x26_1).f0) + ((rd_T106 l1 x26_1).f1))) oa (by first | omega | exact oa) oa HC0.out; have HR689 := am (Kd.C_of_reads (h1 := fun _ => rfl) (hA47 _ (Kd.reads_of_C HR0.out))); have HC689 := am hC47; clear hA47 hC47 hi047 hsz47))
                have n0_ : Aside0 (Kd.S k106 106 (((w45.setCell ⟨gb688, 0, none⟩ (.int .i64 ((rd_T106 l1 x26_1).f0))).setCell ⟨gb688, 1, none⟩ (.int .i64 ((rd_T106 l1 x26_1).f1))).setCell ⟨gb688, 2, none⟩ (.slice A687_2 ((rd_T106 l1 x26_1).f2).length c687_2)) w.heap.size (fun k_ => k_ ≠ gb688) u8 x8_1) := ⟨by (with_reducible repeat (first | apply Kd.S_alloc | apply Kd.S_drewN | apply Kd.S_drew)); exact Kd.S_mono (Kd.S_far (p := ⟨gb688, 2, none⟩) (Kd.S_far (p := ⟨gb688, 1, none⟩) (Kd.S_far (p := ⟨gb688, 0, none⟩) (Kd.S_mono HO_8.out (fun k_ hk => (⟨hk, hk.2⟩ : _ ∧ k_ ≠ gb688))) (fun _ hk => hk.2) (.int .i64 ((rd_T106 l1 x26_1).f0))) (fun _ hk => hk.2) (.int .i64 ((rd_T106 l1 x26_1).f1))) (fun _ hk => hk.2) (.slice A687_2 ((rd_T106 l1 x26_1).f2).length c687_2)) (fun _ hk => hk.1.2)⟩
                have n1_ : Aside0 ((((w45.setCell ⟨gb688, 0, none⟩ (.int .i64 ((rd_T106 l1 x26_1).f0))).setCell ⟨gb688, 1, none⟩ (.int .i64 ((rd_T106 l1 x26_1).f1))).setCell ⟨gb688, 2, none⟩ (.slice A687_2 ((rd_T106 l1 x26_1).f2).length c687_2)).heap[gb688]? = some (.cells #[.int .i64 ((rd_T106 l1 x26_1).f0), .int .i64 ((rd_T106 l1 x26_1).f1), .slice A687_2 ((rd_T106 l1 x26_1).f2).length c687_2] 106 (0, 0))) := ⟨by (with_reducible repeat (first | refine blk_drewN ?_ _ | refine blk_drew ?_ | refine blk_alloc ?_ _)); refine blk_put (cs := #[.int .i64 ((rd_T106 l1 x26_1).f0), .int .i64 ((rd_T106 l1 x26_1).f1), .slice none 0 0]) ?_ 2 _ rfl; (with_reducible repeat (first | refine blk_drewN ?_ _ | refine blk_drew ?_ | refine blk_alloc ?_ _)); refine blk_put (cs := #[.int .i64 ((rd_T106 l1 x26_1).f0), .int .i64 0, .slice none 0 0]) ?_ 1 _ rfl; (with_reducible repeat (first | refine blk_drewN ?_ _ | refine blk_drew ?_ | refine blk_alloc ?_ _)); refine blk_put (cs := #[.int .i64 0, .int .i64 0, .slice none 0 0]) ?_ 0 _ rfl; (with_reducible repeat (first | refine blk_drewN ?_ _ | refine blk_drew ?_ | refine blk_alloc ?_ _)); exact BK688.out⟩
                have n2_ : Aside0 (Below w.heap.size w (((w45.setCell ⟨gb688, 0, none⟩ (.int .i64 ((rd_T106 l1 x26_1).f0))).setCell ⟨gb688, 1, none⟩ (.int .i64 ((rd_T106 l1 x26_1).f1))).setCell ⟨gb688, 2, none⟩ (.slice A687_2 ((rd_T106 l1 x26_1).f2).length c687_2))) := ⟨by repeat (first | (with_reducible first | exact HB.out | apply below_alloc | apply pw_below_drewN | apply below_drew1 | refine below_set ?_ GE688.out) | exact HB.out)⟩
                (try clear HO_8)
                (try clear BK688)
                (try clear HB)
                (try simp only [show ∀ (w_ : World) (n_ : Nat) (p_ : Addr) (v_ : Value), (w_.drewN n_).setCell p_ v_ = (w_.setCell p_ v_).drewN n_ from fun _ _ _ _ => rfl])
                generalize (((w45.setCell ⟨gb688, 0, none⟩ (.int .i64 ((rd_T106 l1 x26_1).f0))).setCell ⟨gb688, 1, none⟩ (.int .i64 ((rd_T106 l1 x26_1).f1))).setCell ⟨gb688, 2, none⟩ (.slice A687_2 ((rd_T106 l1 x26_1).f2).length c687_2)) = w48 at n0_ n1_ n2_ ⊢
                have HO_8 := n0_
                have BK688 := n1_
                have HB := n2_
                clear n0_ n1_ n2_
                have n0_ := am (Kd.S_drew HO_8.out)
                have n1_ := am (blk_drew BK688.out)
                have n2_ := am (below_drew1 HB.out)
                clear HO_8
                clear BK688
                clear HB
                have HO_8 := n0_
                have BK688 := n1_
                have HB := n2_
                clear n0_ n1_ n2_
                refine start_ (n := 10) (S := fun w' => w'.cell? ⟨gb688, 0, none⟩ = some (.int .i64 ((rd_T106 l1 x26_1).f0)) ∧ w'.cell? ⟨gb688, 1, none⟩ = some (.int .i64 ((rd_T106 l1 x26_1).f1)) ∧ w'.cell? ⟨gb688, 2, none⟩ = some (.slice A687_2 ((rd_T106 l1 x26_1).f2).length c687_2)) (ds := []) #[O,O,O,O,O,O,O,O,O,O] (by kernel_rfl) rfl rfl ⟨(blk_cell BK688.out 0).trans rfl, (blk_cell BK688.out 1).trans rfl, (blk_cell BK688.out 2).trans rfl⟩ (fun hHeld => ?_); refine with_tabW impl_TrimHunks.tab9 impl_TrimHunks.bits9 (fun HT_ HW_ => ?_)
                generalize w48.drew = w49 at HO_8 BK688 HB hHeld ⊢
                refine pure_ (i := 0) (N := some 39) (v := ?_) (a' := ?_) #[Y,O,O,O,O,O,O,O,O,O] rfl rfl zx (fun _ _ _ h => h) (Or.inl ⟨by rfl, ?_⟩) ?_ ?_
                rotate_left; (intro w'; go_simp; with_reducible rfl); rotate_left; (simp only [Act.put,qa,qb,qc,i64_w,i32_w]; rfl)
                refine pure_ (i := 1) (N := some 40) (v := ?_) (a' := ?_) #[Y,Y,O,O,O,O,O,O,O,O] rfl rfl zx (fun _ _ _ h => h) (Or.inl ⟨by rfl, ?_⟩) ?_ ?_
                rotate_left; (intro w'; go_simp; with_reducible rfl); rotate_left; (simp only [Act.put,qa,qb,qc,i64_w,i32_w]; rfl)
                refine pure_ (i := 4) (N := some 43) (v := ?_) (a' := ?_) #[Y,Y,O,O,Y,O,O,O,O,O] rfl rfl zx (fun _ _ _ h => h) (Or.inl ⟨by rfl, ?_⟩) ?_ ?_
                rotate_left; (intro w'; go_simp; with_reducible rfl); rotate_left; (simp only [Act.put,qa,qb,qc,i64_w,i32_w]; rfl)
                refine pure_ (i := 5) (N := some 44) (v := ?_) (a' := ?_) #[Y,Y,O,O,Y,Y,O,O,O,O] rfl rfl zx (fun _ _ _ h => h) (Or.inl ⟨by rfl, ?_⟩) ?_ ?_
                rotate_left; (intro w'; go_simp; with_reducible rfl); rotate_left; (simp only [Act.put,qa,qb,qc,i64_w,i32_w]; rfl)
                refine take_ (i := 2) (N := some 41) (v := ?_) (a' := ?_) #[Y,Y,Y,O,Y,Y,O,O,O,O] rfl rfl (take_ofW HT_.out HW_.out (by kernel_rfl)) (fun _ _ _ h => h) (Or.inl ⟨by rfl, ?_⟩) hHeld ?_ ?_
                rotate_left; (rintro w' ⟨s0, s1, s2⟩; go_simp; with_reducible rfl); rotate_left; (simp only [Act.put,qa,qb,qc,i64_w,i32_w]; rfl)
                refine take_ (i := 6) (N := some 45) (v := ?_) (a' := ?_) #[Y,Y,Y,O,Y,Y,Y,O,O,O] rfl rfl (take_ofW HT_.out HW_.out (by kernel_rfl)) (fun _ _ _ h => h) (Or.inl ⟨by rfl, ?_⟩) hHeld ?_ ?_
                rotate_left; (rintro w' ⟨s0, s1, s2⟩; go_simp; with_reducible rfl); rotate_left; (simp only [Act.put,qa,qb,qc,i64_w,i32_w]; rfl)
                refine one_ (i := 3) (N := some 42) #[Y,Y,Y,Y,Y,Y,Y,O,O,O] rfl rfl (one_of HT_.out (by kernel_rfl)) (by decide) (fun K hK => ?_)
                refine goes_ Try.func86 (by kernel_rfl) rfl #[.slice A47 ((l0.take ((wrap64 (((rd_T106 l1 x26_1).f0) + ((rd_T106 l1 x26_1).f1))) : Int).toNat).drop (((rd_T106 l1 x26_1).f0) : Int).toNat).length (c0 - ((rd_T106 l1 x26_1).f0).toNat), .slice A687_2 ((rd_T106 l1 x26_1).f2).length c687_2] (by rfl) rfl rfl (by (try simp only [List.map_toArray, List.map_cons, List.map_nil]); first | done | (rw [show ((l0.take ((wrap64 (((rd_T106 l1 x26_1).f0) + ((rd_T106 l1 x26_1).f1))) : Int).toNat).drop (((rd_T106 l1 x26_1).f0) : Int).toNat).length = ((wrap64 (((rd_T106 l1 x26_1).f0) + ((rd_T106 l1 x26_1).f1))).toNat - ((rd_T106 l1 x26_1).f0).toNat) from (by rw [List.length_drop, List.length_take]; have h_ : ((wrap64 (((rd_T106 l1 x26_1).f0) + ((rd_T106 l1 x26_1).f1))) : Int) ≤ (l0.length : Int) := oa; omega)] <;> rfl) | rfl | (simp only [List.length_drop, List.length_take]; rfl)) ?_
                with_reducible refine (impl_sameAhead.calls k1 _ _ ((l0.take ((wrap64 (((rd_T106 l1 x26_1).f0) + ((rd_T106 l1 x26_1).f1))) : Int).toNat).drop (((rd_T106 l1 x26_1).f0) : Int).toNat) _ _ ((rd_T106 l1 x26_1).f2) t690 _ ?side1 ?side2 ?side3 ?side4 A14.out).mono ?_
                (case side1 => exact zq (Kd.C_below HR689.out HB.out))
                (case side2 => exact HC689.out)
                (case side3 => exact zq (Kd.C_below HR687_2.out HB.out))
                (case side4 => exact HC687_2.out)
                rintro e w50 ⟨rfl, hb⟩
                refine ⟨_, rfl, ?_⟩
                have n0_ := am (Kd.S_below (zs HO_8.out) hb)
                have n1_ := am (blk_below (g := gb688) (o := .cells #[.int .i64 ((rd_T106 l1 x26_1).f0), .int .i64 ((rd_T106 l1 x26_1).f1), .slice A687_2 ((rd_T106 l1 x26_1).f2).length c687_2] 106 (0, 0)) (zk BK688.out) hb)
                have n2_ := am (below_step (by repeat (first | (with_reducible first | exact HB.out | apply below_alloc | apply pw_below_drewN | apply below_drew1 | refine below_set ?_ GE688.out) | exact HB.out)) hb)
                clear HO_8
                clear BK688
                clear HB
                have HO_8 := n0_
                have BK688 := n1_
                have HB := n2_
                clear n0_ n1_ n2_
                (try clear hb)
                (try clear hb2)
                (try clear hk)
                (try clear hi)
                refine hK.out _ _ ⟨(blk_cell BK688.out 0).trans rfl, (blk_cell BK688.out 1).trans rfl, (blk_cell BK688.out 2).trans rfl⟩ (fun hHeld => ?_)
                clear hK K
                refine norm_ (a' := ?_) ?_ ?_
                rotate_left
                ·show Act.put _ (some 42) _ = _
                 simp only [Act.put,qa,qb,qc,i64_w,i32_w]
                 rfl
                refine one_ (i := 7) (N := some 46) #[Y,Y,Y,Y,Y,Y,Y,Y,O,O] rfl rfl (one_of HT_.out (by kernel_rfl)) (by decide) (fun K hK => ?_)
                refine goes_ Try.func87 (by kernel_rfl) rfl #[.slice A47 ((l0.take ((wrap64 (((rd_T106 l1 x26_1).f0) + ((rd_T106 l1 x26_1).f1))) : Int).toNat).drop (((rd_T106 l1 x26_1).f0) : Int).toNat).length (c0 - ((rd_T106 l1 x26_1).f0).toNat), .slice A687_2 ((rd_T106 l1 x26_1).f2).length c687_2] (by rfl) rfl rfl (by (try simp only [List.map_toArray, List.map_cons, List.map_nil]); first | done | (rw [show ((l0.take ((wrap64 (((rd_T106 l1 x26_1).f0) + ((rd_T106 l1 x26_1).f1))) : Int).toNat).drop (((rd_T106 l1 x26_1).f0) : Int).toNat).length = ((wrap64 (((rd_T106 l1 x26_1).f0) + ((rd_T106 l1 x26_1).f1))).toNat - ((rd_T106 l1 x26_1).f0).toNat) from (by rw [List.length_drop, List.length_take]; have h_ : ((wrap64 (((rd_T106 l1 x26_1).f0) + ((rd_T106 l1 x26_1).f1))) : Int) ≤ (l0.length : Int) := oa; omega)] <;> rfl) | rfl | (simp only [List.length_drop, List.length_take]; rfl)) ?_
                with_reducible refine (impl_sameBehind.calls k1 _ _ ((l0.take ((wrap64 (((rd_T106 l1 x26_1).f0) + ((rd_T106 l1 x26_1).f1))) : Int).toNat).drop (((rd_T106 l1 x26_1).f0) : Int).toNat) _ _ ((rd_T106 l1 x26_1).f2) t691 _ ?side1 ?side2 ?side3 ?side4 A15.out).mono ?_
                (case side1 => exact zq (Kd.C_below HR689.out HB.out))
                (case side2 => exact HC689.out)
                (case side3 => exact zq (Kd.C_below HR687_2.out HB.out))
                (case side4 => exact HC687_2.out)
                rintro e w51 ⟨rfl, hb⟩
                refine ⟨_, rfl, ?_⟩
                have n0_ := am (Kd.S_below (zs HO_8.out) hb)
                have n1_ := am (blk_below (g := gb688) (o := .cells #[.int .i64 ((rd_T106 l1 x26_1).f0), .int .i64 ((rd_T106 l1 x26_1).f1), .slice A687_2 ((rd_T106 l1 x26_1).f2).length c687_2] 106 (0, 0)) (zk BK688.out) hb)
                have n2_ := am (below_step (by repeat (first | (with_reducible first | exact HB.out | apply below_alloc | apply pw_below_drewN | apply below_drew1 | refine below_set ?_ GE688.out) | exact HB.out)) hb)
                clear HO_8
                clear BK688
                clear HB
                have HO_8 := n0_
                have BK688 := n1_
                have HB := n2_
                clear n0_ n1_ n2_
                (try clear hb)
                (try clear hb2)
                (try clear hk)
                (try clear hi)
                refine hK.out _ _ ⟨(blk_cell BK688.out 0).trans rfl, (blk_cell BK688.out 1).trans rfl, (blk_cell BK688.out 2).trans rfl⟩ (fun hHeld => ?_)
                clear hK K
                refine norm_ (a' := ?_) ?_ ?_
                rotate_left
                ·show Act.put _ (some 46) _ = _
                 simp only [Act.put,qa,qb,qc,i64_w,i32_w]
                 rfl
                refine pure_ (i := 8) (N := some 12) (v := ?_) (a' := ?_) #[Y,Y,Y,Y,Y,Y,Y,Y,Y,O] rfl rfl zx (fun _ _ _ h => h) (Or.inl ⟨by rfl, ?_⟩) ?_ ?_
                rotate_left; (intro w'; go_simp; with_reducible rfl); rotate_left; (simp only [Act.put,qa,qb,qc,i64_w,i32_w]; rfl)
                refine pure_ (i := 9) (N := some 13) (v := ?_) (a' := ?_) #[Y,Y,Y,Y,Y,Y,Y,Y,Y,Y] rfl rfl zx (fun _ _ _ h => h) (Or.inl ⟨by rfl, ?_⟩) ?_ ?_
                rotate_left; (intro w'; go_simp; with_reducible rfl); rotate_left; (simp only [Act.put,qa,qb,qc,i64_w,i32_w]; rfl)
                refine done_ (done_of HT_.out (by kernel_rfl)) ?_
                try go_wp2
                have n0_ := am (Kd.S_drew HO_8.out)
                have n1_ := am (blk_drew BK688.out)
                have n2_ := am (below_drew1 HB.out)
                clear HO_8
                clear BK688
                clear HB
                have HO_8 := n0_
                have BK688 := n1_
                have HB := n2_
                clear n0_ n1_ n2_
                obtain ⟨i053, hi053, _, hsz53, _⟩ := info_parts info9
                obtain ⟨A53, hcut53, hA53, hC53⟩ := print_mid_of (P := Try.prog) Value.string (⟨#[]⟩ : ByteArray) 24 9 .i64 .i64 Try.underlying24 hi053 hsz53 A687_2 c687_2 ((rd_T106 l1 x26_1).f2) t690 (wrap64 ((((rd_T106 l1 x26_1).f2).length : Int) - t691)) oa (by first | omega | exact oa) oa HC687_2.out
                have HR692 := am (Kd.C_of_reads (h1 := fun _ => rfl) (hA53 _ (Kd.reads_of_C HR687_2.out)))
                have HC692 := am hC53
                clear hA53 hC53 hi053 hsz53
                refine start_ (n := 23) (S := fun w' => w'.cell? ⟨gb688, 0, none⟩ = some (.int .i64 ((rd_T106 l1 x26_1).f0)) ∧ w'.cell? ⟨gb688, 1, none⟩ = some (.int .i64 ((rd_T106 l1 x26_1).f1)) ∧ w'.cell? ⟨gb688, 2, none⟩ = some (.slice A687_2 ((rd_T106 l1 x26_1).f2).length c687_2)) (ds := []) #[O,O,O,O,O,O,O,O,O,O,O,O,O,O,O,O,O,O,O,O,O,O,O] (by kernel_rfl) rfl rfl ⟨(blk_cell BK688.out 0).trans rfl, (blk_cell BK688.out 1).trans rfl, (blk_cell BK688.out 2).trans rfl⟩ (fun hHeld => ?_); refine with_tabW impl_TrimHunks.tab10 impl_TrimHunks.bits10 (fun HT_ HW_ => ?_)
                generalize w51.drew = w52 at HO_8 BK688 HB HR692 hHeld ⊢
                refine pure_ (i := 0) (N := some 47) (v := ?_) (a' := ?_) #[Y,O,O,O,O,O,O,O,O,O,O,O,O,O,O,O,O,O,O,O,O,O,O] rfl rfl zx (fun _ _ _ h => h) (Or.inl ⟨by rfl, ?_⟩) ?_ ?_
                rotate_left; (intro w'; go_simp; with_reducible rfl); rotate_left; (simp only [Act.put,qa,qb,qc,i64_w,i32_w]; rfl)
                refine pure_ (i := 2) (N := some 49) (v := ?_) (a' := ?_) #[Y,O,Y,O,O,O,O,O,O,O,O,O,O,O,O,O,O,O,O,O,O,O,O] rfl rfl zx (fun _ _ _ h => h) (Or.inl ⟨by rfl, ?_⟩) ?_ ?_
                rotate_left; (intro w'; go_simp; with_reducible rfl); rotate_left; (simp only [Act.put,qa,qb,qc,i64_w,i32_w]; rfl)
                refine pure_ (i := 4) (N := some 51) (v := ?_) (a' := ?_) #[Y,O,Y,O,Y,O,O,O,O,O,O,O,O,O,O,O,O,O,O,O,O,O,O] rfl rfl zx (fun _ _ _ h => h) (Or.inl ⟨by rfl, ?_⟩) ?_ ?_
                rotate_left; (intro w'; go_simp; with_reducible rfl); rotate_left; (simp only [Act.put,qa,qb,qc,i64_w,i32_w]; rfl)
                refine pure_ (i := 6) (N := some 53) (v := ?_) (a' := ?_) #[Y,O,Y,O,Y,O,Y,O,O,O,O,O,O,O,O,O,O,O,O,O,O,O,O] rfl rfl zx (fun _ _ _ h => h) (Or.inl ⟨by rfl, ?_⟩) ?_ ?_
                rotate_left; (intro w'; go_simp; with_reducible rfl); rotate_left; (simp only [Act.put,qa,qb,qc,i64_w,i32_w]; rfl)
                refine pure_ (i := 8) (N := some 55) (v := ?_) (a' := ?_) #[Y,O,Y,O,Y,O,Y,O,Y,O,O,O,O,O,O,O,O,O,O,O,O,O,O] rfl rfl zx (fun _ _ _ h => h) (Or.inl ⟨by rfl, ?_⟩) ?_ ?_
                rotate_left; (intro w'; go_simp; with_reducible rfl); rotate_left; (simp only [Act.put,qa,qb,qc,i64_w,i32_w]; rfl)
                refine pure_ (i := 10) (N := some 57) (v := ?_) (a' := ?_) #[Y,O,Y,O,Y,O,Y,O,Y,O,Y,O,O,O,O,O,O,O,O,O,O,O,O] rfl rfl zx (fun _ _ _ h => h) (Or.inl ⟨by rfl, ?_⟩) ?_ ?_
                rotate_left; (intro w'; go_simp; with_reducible rfl); rotate_left; (simp only [Act.put,qa,qb,qc,i64_w,i32_w]; rfl)
                refine pure_ (i := 12) (N := some 59) (v := ?_) (a' := ?_) #[Y,O,Y,O,Y,O,Y,O,Y,O,Y,O,Y,O,O,O,O,O,O,O,O,O,O] rfl rfl zx (fun _ _ _ h => h) (Or.inl ⟨by rfl, ?_⟩) ?_ ?_
                rotate_left; (intro w'; go_simp; with_reducible rfl); rotate_left; (simp only [Act.put,qa,qb,qc,i64_w,i32_w]; rfl)
                refine pure_ (i := 13) (N := some 60) (v := ?_) (a' := ?_) #[Y,O,Y,O,Y,O,Y,O,Y,O,Y,O,Y,Y,O,O,O,O,O,O,O,O,O] rfl rfl zx (fun _ _ _ h => h) (Or.inl ⟨by rfl, ?_⟩) ?_ ?_
                rotate_left; (intro w'; go_simp; with_reducible rfl); rotate_left; (simp only [Act.put,qa,qb,qc,i64_w,i32_w]; rfl)
                refine pure_ (i := 16) (N := some 63) (v := ?_) (a' := ?_) #[Y,O,Y,O,Y,O,Y,O,Y,O,Y,O,Y,Y,O,O,Y,O,O,O,O,O,O] rfl rfl zx (fun _ _ _ h => h) (Or.inl ⟨by rfl, ?_⟩) ?_ ?_
                rotate_left; (intro w'; go_simp; with_reducible rfl); rotate_left; (simp only [Act.put,qa,qb,qc,i64_w,i32_w]; rfl)
                refine take_ (i := 1) (N := some 48) (v := ?_) (a' := ?_) #[Y,Y,Y,O,Y,O,Y,O,Y,O,Y,O,Y,Y,O,O,Y,O,O,O,O,O,O] rfl rfl (take_ofW HT_.out HW_.out (by kernel_rfl)) (fun _ _ _ h => h) (Or.inl ⟨by rfl, ?_⟩) hHeld ?_ ?_
                rotate_left; (rintro w' ⟨s0, s1, s2⟩; go_simp; with_reducible rfl); rotate_left; (simp only [Act.put,qa,qb,qc,i64_w,i32_w]; rfl)
                refine pure_ (i := 3) (N := some 50) (v := ?_) (a' := ?_) #[Y,Y,Y,Y,Y,O,Y,O,Y,O,Y,O,Y,Y,O,O,Y,O,O,O,O,O,O] rfl rfl zx (fun _ _ _ h => h) (Or.inl ⟨by rfl, ?_⟩) ?_ ?_
                rotate_left; (intro w'; go_simp; with_reducible rfl); rotate_left; (simp only [Act.put,qa,qb,qc,i64_w,i32_w]; rfl)
                refine take_ (i := 5) (N := some 52) (v := ?_) (a' := ?_) #[Y,Y,Y,Y,Y,Y,Y,O,Y,O,Y,O,Y,Y,O,O,Y,O,O,O,O,O,O] rfl rfl (take_ofW HT_.out HW_.out (by kernel_rfl)) (fun _ _ _ h => h) (Or.inl ⟨by rfl, ?_⟩) hHeld ?_ ?_
                rotate_left; (rintro w' ⟨s0, s1, s2⟩; go_simp; with_reducible rfl); rotate_left; (simp only [Act.put,qa,qb,qc,i64_w,i32_w]; rfl)
                refine pure_ (i := 7) (N := some 54) (v := ?_) (a' := ?_) #[Y,Y,Y,Y,Y,Y,Y,Y,Y,O,Y,O,Y,Y,O,O,Y,O,O,O,O,O,O] rfl rfl zx (fun _ _ _ h => h) (Or.inl ⟨by rfl, ?_⟩) ?_ ?_
                rotate_left; (intro w'; go_simp; with_reducible rfl); rotate_left; (simp only [Act.put,qa,qb,qc,i64_w,i32_w]; rfl)
                refine pure_ (i := 9) (N := some 56) (v := ?_) (a' := ?_) #[Y,Y,Y,Y,Y,Y,Y,Y,Y,Y,Y,O,Y,Y,O,O,Y,O,O,O,O,O,O] rfl rfl zx (fun _ _ _ h => h) (Or.inl ⟨by rfl, ?_⟩) ?_ ?_
                rotate_left; (intro w'; go_simp; with_reducible rfl); rotate_left; (simp only [Act.put,qa,qb,qc,i64_w,i32_w]; rfl)
                refine take_ (i := 11) (N := some 58) (v := ?_) (a' := ?_) #[Y,Y,Y,Y,Y,Y,Y,Y,Y,Y,Y,Y,Y,Y,O,O,Y,O,O,O,O,O,O] rfl rfl (take_ofW HT_.out HW_.out (by kernel_rfl)) (fun _ _ _ h => h) (Or.inl ⟨by rfl, ?_⟩) hHeld ?_ ?_
                rotate_left; (rintro w' ⟨s0, s1, s2⟩; go_simp; with_reducible rfl); rotate_left; (simp only [Act.put,qa,qb,qc,i64_w,i32_w]; rfl)
                refine take_ (i := 14) (N := some 61) (v := ?_) (a' := ?_) #[Y,Y,Y,Y,Y,Y,Y,Y,Y,Y,Y,Y,Y,Y,Y,O,Y,O,O,O,O,O,O] rfl rfl (take_ofW HT_.out HW_.out (by kernel_rfl)) (fun _ _ _ h => h) (Or.inl ⟨by rfl, ?_⟩) hHeld ?_ ?_
                rotate_left; (rintro w' ⟨s0, s1, s2⟩; go_simp; with_reducible rfl); rotate_left; (simp only [Act.put,qa,qb,qc,i64_w,i32_w]; rfl)
                refine pure_ (i := 15) (N := some 62) (v := ?_) (a' := ?_) #[Y,Y,Y,Y,Y,Y,Y,Y,Y,Y,Y,Y,Y,Y,Y,Y,Y,O,O,O,O,O,O] rfl rfl zx (fun _ _ _ h => h) (Or.inl ⟨by rfl, ?_⟩) ?_ ?_
                rotate_left; (intro w'; go_simp; with_reducible rfl); rotate_left; (simp only [Act.put,qa,qb,qc,i64_w,i32_w]; rfl)
                refine pure_ (i := 17) (N := some 64) (v := ?_) (a' := ?_) #[Y,Y,Y,Y,Y,Y,Y,Y,Y,Y,Y,Y,Y,Y,Y,Y,Y,Y,O,O,O,O,O] rfl rfl zx (fun _ _ _ h => h) (Or.inl ⟨by rfl, ?_⟩) ?_ ?_
                rotate_left; (intro w'; go_simp; with_reducible rfl); rotate_left; (simp only [Act.put,qa,qb,qc,i64_w,i32_w]; rfl)
                refine pure_ (i := 18) (N := some 65) (v := ?_) (a' := ?_) #[Y,Y,Y,Y,Y,Y,Y,Y,Y,Y,Y,Y,Y,Y,Y,Y,Y,Y,Y,O,O,O,O] rfl rfl zx (fun _ _ _ h => h) (Or.inl ⟨by rfl, ?_⟩) ?_ ?_
                rotate_left; (intro w'; go_simp; with_reducible rfl); rotate_left; (simp only [Act.put,qa,qb,qc,i64_w,i32_w]; rfl)
                refine join_ (σ := Value × Nat) 1 #[Y,Y,Y,Y,Y,Y,Y,Y,Y,Y,Y,Y,Y,Y,Y,Y,Y,Y,Y,Y,Y,Y,O] (fun s_ => [(66, s_.1), (14, .pointer (some ⟨s_.2, 0, none⟩)), (67, .agg #[.int .i64 (wrap64 (((rd_T106 l1 x26_1).f0) + t690)), .int .i64 (wrap64 ((wrap64 (((rd_T106 l1 x26_1).f1) - t690)) - t691)), s_.1])]) (fun s_ w' => (w'.cell? ⟨gb688, 0, none⟩ = some (.int .i64 ((rd_T106 l1 x26_1).f0)) ∧ w'.cell? ⟨gb688, 1, none⟩ = some (.int .i64 ((rd_T106 l1 x26_1).f1)) ∧ w'.cell? ⟨gb688, 2, none⟩ = some (.slice A687_2 ((rd_T106 l1 x26_1).f2).length c687_2)) ∧ (Kd.R Kd.string 9 w' w.heap.size (fun _ => True) s_.1 t693) ∧ (Kd.S k106 106 w' w.heap.size (fun k_ => some k_ ≠ (s_.1 : Value).ownBlock ∧ k_ ≠ gb688 ∧ k_ ≠ s_.2) u8 x8_1) ∧ (w'.heap[gb688]? = some (.cells #[.int .i64 ((rd_T106 l1 x26_1).f0), .int .i64 ((rd_T106 l1 x26_1).f1), .slice A687_2 ((rd_T106 l1 x26_1).f2).length c687_2] 106 (0, 0))) ∧ (w'.heap[s_.2]? = some (.cells #[.int .i64 0, .int .i64 0, .slice none 0 0] 106 (0, 0))) ∧ (w.heap.size ≤ s_.2) ∧ (w.heap.size ≤ s_.2) ∧ (gb688 ≠ s_.2) ∧ (s_.2 ≠ gb688) ∧ (Below w.heap.size w w')) ?_ ?_
                rotate_left
                ·intro hCont
                 refine two_ (i := 19) (j := 21) (Ni := some 66) (Nj := some 14) #[Y,Y,Y,Y,Y,Y,Y,Y,Y,Y,Y,Y,Y,Y,Y,Y,Y,Y,Y,Y,O,O,O] #[Y,Y,Y,Y,Y,Y,Y,Y,Y,Y,Y,Y,Y,Y,Y,Y,Y,Y,Y,O,O,Y,O] rfl rfl rfl rfl (two_of HT_.out (by kernel_rfl)) (by decide) (by decide) (fun K hK => ?_) (fun K hK => ?_)
                 ·skip
                  refine goes_ Try.func65 (by kernel_rfl) rfl #[.slice A53 ((((rd_T106 l1 x26_1).f2).take ((wrap64 ((((rd_T106 l1 x26_1).f2).length : Int) - t691)) : Int).toNat).drop (t690 : Int).toNat).length (c687_2 - t690.toNat)] (by rfl) rfl rfl (by (try simp only [List.map_toArray, List.map_cons, List.map_nil]); first | done | (rw [show ((((rd_T106 l1 x26_1).f2).take ((wrap64 ((((rd_T106 l1 x26_1).f2).length : Int) - t691)) : Int).toNat).drop (t690 : Int).toNat).length = ((wrap64 ((((rd_T106 l1 x26_1).f2).length : Int) - t691)).toNat - t690.toNat) from (by rw [List.length_drop, List.length_take]; have h_ : ((wrap64 ((((rd_T106 l1 x26_1).f2).length : Int) - t691)) : Int) ≤ (((rd_T106 l1 x26_1).f2).length : Int) := oa; omega)] <;> rfl) | rfl | (simp only [List.length_drop, List.length_take]; rfl)) ?_
                  with_reducible refine (slices_Clone_string_string.calls _ _ ((((rd_T106 l1 x26_1).f2).take ((wrap64 ((((rd_T106 l1 x26_1).f2).length : Int) - t691)) : Int).toNat).drop (t690 : Int).toNat) t693 _ ?side1 ?side2 A19.out).mono ?_
                  (case side1 => exact zq (Kd.C_below HR692.out HB.out))
                  (case side2 => exact HC692.out)
                  rintro e w54 ⟨v694, rfl, ho0, hb⟩
                  refine ⟨_, rfl, ?_⟩
                  have n0_ := am (Kd.S_elder' (zs HO_8.out) (Kd.R_base ho0) hb)
                  have n1_ := am (Kd.R_lower ho0 (below_size (by repeat (first | (with_reducible first | exact HB.out | apply below_alloc | apply pw_below_drewN | apply below_drew1 | refine below_set ?_ GE688.out) | exact HB.out))))
                  have n2_ := am (blk_below (g := gb688) (o := .cells #[.int .i64 ((rd_T106 l1 x26_1).f0), .int .i64 ((rd_T106 l1 x26_1).f1), .slice A687_2 ((rd_T106 l1 x26_1).f2).length c687_2] 106 (0, 0)) (zk BK688.out) hb)
                  have n3_ := am (below_step (by repeat (first | (with_reducible first | exact HB.out | apply below_alloc | apply pw_below_drewN | apply below_drew1 | refine below_set ?_ GE688.out) | exact HB.out)) hb)
                  clear HO_8
                  clear BK688
                  clear HB
                  have HO_8 := n0_
                  have HO695 := n1_
                  have BK688 := n2_
                  have HB := n3_
                  clear n0_ n1_ n2_ n3_
                  (try clear hb)
                  (try clear hb2)
                  (try clear hk)
                  (try clear hi)
                  (try clear ho0)
                  obtain ⟨Ao55, co55, eo55⟩ := Kd.R_slice HO695.out
                  (first | subst eo55 | (injection eo55 with f1_ f2_ f3_; have f4_ := f1_.symm; have f5_ := f3_.symm; clear f1_ f2_ f3_; subst f4_; subst f5_))
                  refine hK.out _ _ ⟨(blk_cell BK688.out 0).trans rfl, (blk_cell BK688.out 1).trans rfl, (blk_cell BK688.out 2).trans rfl⟩ (fun hHeld => ?_)
                  clear hK K
                  refine norm_ (a' := ?_) ?_ ?_
                  rotate_left
                  ·show Act.put _ (some 66) _ = _
                   simp only [Act.put,qa,qb,qc,i64_w,i32_w]
                   rfl
                  refine pure_ (i := 20) (N := some 67) (v := ?_) (a' := ?_) #[Y,Y,Y,Y,Y,Y,Y,Y,Y,Y,Y,Y,Y,Y,Y,Y,Y,Y,Y,Y,Y,O,O] rfl rfl zx (fun _ _ _ h => h) (Or.inl ⟨by rfl, ?_⟩) ?_ ?_
                  rotate_left; (intro w'; go_simp; with_reducible rfl); rotate_left; (simp only [Act.put,qa,qb,qc,i64_w,i32_w]; rfl)
                  refine one_ (i := 21) (N := some 14) #[Y,Y,Y,Y,Y,Y,Y,Y,Y,Y,Y,Y,Y,Y,Y,Y,Y,Y,Y,Y,Y,Y,O] rfl rfl (one_of HT_.out (by kernel_rfl)) (by decide) (fun K hK => ?_)
                  refine box_step ?hg (N := 14) ?hd (cs := #[.int .i64 0, .int .i64 0, .slice none 0 0]) (t := 106) ?hr ?_; (case hd => rfl); (case hg => rfl); (case hr => first | (go_simp; done) | (go_simp; rfl))
                  intro gb696 hg w56 hbox hb
                  have n0_ := am (Kd.S_below (Kd.S_elderB (zs HO_8.out) gb696 (Nat.le_of_eq hg.symm)) hb)
                  have n1_ := am (Kd.R_below (zr HO695.out) hb)
                  have n2_ := am (blk_below (g := gb688) (o := .cells #[.int .i64 ((rd_T106 l1 x26_1).f0), .int .i64 ((rd_T106 l1 x26_1).f1), .slice A687_2 ((rd_T106 l1 x26_1).f2).length c687_2] 106 (0, 0)) (zk BK688.out) hb)
                  have n3_ := am (below_step (by repeat (first | (with_reducible first | exact HB.out | apply below_alloc | apply pw_below_drewN | apply below_drew1 | refine below_set ?_ GE688.out) | exact HB.out)) hb)
                  have n4_ := am (hbox)
                  have n5_ := am ((by rw [hg]; exact (below_size (by repeat (first | (with_reducible first | exact HB.out | apply below_alloc | apply pw_below_drewN | apply below_drew1 | refine below_set ?_ GE688.out) | exact HB.out))) : w.heap.size ≤ gb696))
                  have n6_ := am ((by rw [hg]; exact (below_size (by repeat (first | (with_reducible first | exact HB.out | apply below_alloc | apply pw_below_drewN | apply below_drew1 | refine below_set ?_ GE688.out) | exact HB.out))) : w.heap.size ≤ gb696))
                  have n7_ := am ((by rw [hg]; exact Nat.ne_of_lt (blk_lt (g := gb688) (o := .cells #[.int .i64 ((rd_T106 l1 x26_1).f0), .int .i64 ((rd_T106 l1 x26_1).f1), .slice A687_2 ((rd_T106 l1 x26_1).f2).length c687_2] 106 (0, 0)) (zk BK688.out)) : gb688 ≠ gb696))
                  have n8_ := am ((by rw [hg]; exact Nat.ne_of_gt (blk_lt (g := gb688) (o := .cells #[.int .i64 ((rd_T106 l1 x26_1).f0), .int .i64 ((rd_T106 l1 x26_1).f1), .slice A687_2 ((rd_T106 l1 x26_1).f2).length c687_2] 106 (0, 0)) (zk BK688.out)) : gb696 ≠ gb688))
                  clear HO_8
                  clear HO695
                  clear BK688
                  clear HB
                  have HO_8 := n0_
                  have HO695 := n1_
                  have BK688 := n2_
                  have HB := n3_
                  have BK696 := n4_
                  have GW696 := n5_
                  have GE696 := n6_
                  have NB688_696 := n7_
                  have NB696_688 := n8_
                  clear n0_ n1_ n2_ n3_ n4_ n5_ n6_ n7_ n8_
                  clear hb hbox hg
                  refine hK.out _ _ ⟨(blk_cell BK688.out 0).trans rfl, (blk_cell BK688.out 1).trans rfl, (blk_cell BK688.out 2).trans rfl⟩ (fun hHeld => ?_)
                  clear hK K
                  refine norm_ (a' := ?_) ?_ ?_
                  rotate_left
                  ·show Act.put _ (some 14) _ = _
                   simp only [Act.put,qa,qb,qc,i64_w,i32_w]
                   rfl
                  exact norm_ (by simp only [putAll, Act.put, List.setIfInBounds_toArray, List.set_cons_zero, List.set_cons_succ]) (hCont (.slice Ao55 t693.length co55, gb696) _ ⟨hHeld, (zr HO695.out), (by (with_reducible repeat (first | apply Kd.S_alloc | apply Kd.S_drewN | apply Kd.S_drew)); exact Kd.S_mono HO_8.out (fun _ hk => ⟨hk.1.2, ⟨hk.1.1, hk.2⟩⟩)), (zk BK688.out), (zk BK696.out), GW696.out, GE696.out, NB688_696.out, NB696_688.out, (by repeat (first | (with_reducible first | exact HB.out | apply below_alloc | apply pw_below_drewN | apply below_drew1 | refine below_set ?_ GE688.out | refine below_set ?_ GE696.out) | exact HB.out))⟩)
                 ·skip
                  refine box_step ?hg (N := 14) ?hd (cs := #[.int .i64 0, .int .i64 0, .slice none 0 0]) (t := 106) ?hr ?_; (case hd => rfl); (case hg => rfl); (case hr => first | (go_simp; done) | (go_simp; rfl))
                  intro gb696 hg w54 hbox hb
                  have n0_ := am (Kd.S_below (Kd.S_elderB (zs HO_8.out) gb696 (Nat.le_of_eq hg.symm)) hb)
                  have n1_ := am (blk_below (g := gb688) (o := .cells #[.int .i64 ((rd_T106 l1 x26_1).f0), .int .i64 ((rd_T106 l1 x26_1).f1), .slice A687_2 ((rd_T106 l1 x26_1).f2).length c687_2] 106 (0, 0)) (zk BK688.out) hb)
                  have n2_ := am (below_step (by repeat (first | (with_reducible first | exact HB.out | apply below_alloc | apply pw_below_drewN | apply below_drew1 | refine below_set ?_ GE688.out) | exact HB.out)) hb)
                  have n3_ := am (hbox)
                  have n4_ := am ((by rw [hg]; exact (below_size (by repeat (first | (with_reducible first | exact HB.out | apply below_alloc | apply pw_below_drewN | apply below_drew1 | refine below_set ?_ GE688.out) | exact HB.out))) : w.heap.size ≤ gb696))
                  have n5_ := am ((by rw [hg]; exact (below_size (by repeat (first | (with_reducible first | exact HB.out | apply below_alloc | apply pw_below_drewN | apply below_drew1 | refine below_set ?_ GE688.out) | exact HB.out))) : w.heap.size ≤ gb696))
                  have n6_ := am ((by rw [hg]; exact Nat.ne_of_lt (blk_lt (g := gb688) (o := .cells #[.int .i64 ((rd_T106 l1 x26_1).f0), .int .i64 ((rd_T106 l1 x26_1).f1), .slice A687_2 ((rd_T106 l1 x26_1).f2).length c687_2] 106 (0, 0)) (zk BK688.out)) : gb688 ≠ gb696))
                  have n7_ := am ((by rw [hg]; exact Nat.ne_of_gt (blk_lt (g := gb688) (o := .cells #[.int .i64 ((rd_T106 l1 x26_1).f0), .int .i64 ((rd_T106 l1 x26_1).f1), .slice A687_2 ((rd_T106 l1 x26_1).f2).length c687_2] 106 (0, 0)) (zk BK688.out)) : gb696 ≠ gb688))
                  clear HO_8
                  clear BK688
                  clear HB
                  have HO_8 := n0_
                  have BK688 := n1_
                  have HB := n2_
                  have BK696 := n3_
                  have GW696 := n4_
                  have GE696 := n5_
                  have NB688_696 := n6_
                  have NB696_688 := n7_
                  clear n0_ n1_ n2_ n3_ n4_ n5_ n6_ n7_
                  clear hb hbox hg
                  refine hK.out _ _ ⟨(blk_cell BK688.out 0).trans rfl, (blk_cell BK688.out 1).trans rfl, (blk_cell BK688.out 2).trans rfl⟩ (fun hHeld => ?_)
                  clear hK K
                  refine norm_ (a' := ?_) ?_ ?_
                  rotate_left
                  ·show Act.put _ (some 14) _ = _
                   simp only [Act.put,qa,qb,qc,i64_w,i32_w]
                   rfl
                  refine one_ (i := 19) (N := some 66) #[Y,Y,Y,Y,Y,Y,Y,Y,Y,Y,Y,Y,Y,Y,Y,Y,Y,Y,Y,Y,O,Y,O] rfl rfl (one_of HT_.out (by kernel_rfl)) (by decide) (fun K hK => ?_)
                  refine goes_ Try.func65 (by kernel_rfl) rfl #[.slice A53 ((((rd_T106 l1 x26_1).f2).take ((wrap64 ((((rd_T106 l1 x26_1).f2).length : Int) - t691)) : Int).toNat).drop (t690 : Int).toNat).length (c687_2 - t690.toNat)] (by rfl) rfl rfl (by (try simp only [List.map_toArray, List.map_cons, List.map_nil]); first | done | (rw [show ((((rd_T106 l1 x26_1).f2).take ((wrap64 ((((rd_T106 l1 x26_1).f2).length : Int) - t691)) : Int).toNat).drop (t690 : Int).toNat).length = ((wrap64 ((((rd_T106 l1 x26_1).f2).length : Int) - t691)).toNat - t690.toNat) from (by rw [List.length_drop, List.length_take]; have h_ : ((wrap64 ((((rd_T106 l1 x26_1).f2).length : Int) - t691)) : Int) ≤ (((rd_T106 l1 x26_1).f2).length : Int) := oa; omega)] <;> rfl) | rfl | (simp only [List.length_drop, List.length_take]; rfl)) ?_
                  with_reducible refine (slices_Clone_string_string.calls _ _ ((((rd_T106 l1 x26_1).f2).take ((wrap64 ((((rd_T106 l1 x26_1).f2).length : Int) - t691)) : Int).toNat).drop (t690 : Int).toNat) t693 _ ?side1 ?side2 A19.out).mono ?_
                  (case side1 => exact zq (Kd.C_below HR692.out HB.out))
                  (case side2 => exact HC692.out)
                  rintro e w55 ⟨v694, rfl, ho0, hb⟩
                  refine ⟨_, rfl, ?_⟩
                  have n0_ := am (Kd.S_elder' (zs HO_8.out) (Kd.R_base ho0) hb)
                  have n1_ := am (Kd.R_lower ho0 (below_size (by repeat (first | (with_reducible first | exact HB.out | apply below_alloc | apply pw_below_drewN | apply below_drew1 | refine below_set ?_ GE688.out | refine below_set ?_ GE696.out) | exact HB.out))))
                  have n2_ := am (blk_below (g := gb688) (o := .cells #[.int .i64 ((rd_T106 l1 x26_1).f0), .int .i64 ((rd_T106 l1 x26_1).f1), .slice A687_2 ((rd_T106 l1 x26_1).f2).length c687_2] 106 (0, 0)) (zk BK688.out) hb)
                  have n3_ := am (blk_below (g := gb696) (o := .cells #[.int .i64 0, .int .i64 0, .slice none 0 0] 106 (0, 0)) (zk BK696.out) hb)
                  have n4_ := am (below_step (by repeat (first | (with_reducible first | exact HB.out | apply below_alloc | apply pw_below_drewN | apply below_drew1 | refine below_set ?_ GE688.out | refine below_set ?_ GE696.out) | exact HB.out)) hb)
                  clear HO_8
                  clear BK688
                  clear BK696
                  clear HB
                  have HO_8 := n0_
                  have HO695 := n1_
                  have BK688 := n2_
                  have BK696 := n3_
                  have HB := n4_
                  clear n0_ n1_ n2_ n3_ n4_
                  (try clear hb)
                  (try clear hb2)
                  (try clear hk)
                  (try clear hi)
                  (try clear ho0)
                  obtain ⟨Ao56, co56, eo56⟩ := Kd.R_slice HO695.out
                  (first | subst eo56 | (injection eo56 with f1_ f2_ f3_; have f4_ := f1_.symm; have f5_ := f3_.symm; clear f1_ f2_ f3_; subst f4_; subst f5_))
                  refine hK.out _ _ ⟨(blk_cell BK688.out 0).trans rfl, (blk_cell BK688.out 1).trans rfl, (blk_cell BK688.out 2).trans rfl⟩ (fun hHeld => ?_)
                  clear hK K
                  refine norm_ (a' := ?_) ?_ ?_
                  rotate_left
                  ·show Act.put _ (some 66) _ = _
                   simp only [Act.put,qa,qb,qc,i64_w,i32_w]
                   rfl
                  refine pure_ (i := 20) (N := some 67) (v := ?_) (a' := ?_) #[Y,Y,Y,Y,Y,Y,Y,Y,Y,Y,Y,Y,Y,Y,Y,Y,Y,Y,Y,Y,Y,Y,O] rfl rfl zx (fun _ _ _ h => h) (Or.inl ⟨by rfl, ?_⟩) ?_ ?_
                  rotate_left; (intro w'; go_simp; with_reducible rfl); rotate_left; (simp only [Act.put,qa,qb,qc,i64_w,i32_w]; rfl)
                  exact norm_ (by simp only [putAll, Act.put, List.setIfInBounds_toArray, List.set_cons_zero, List.set_cons_succ]) (hCont (.slice Ao56 t693.length co56, gb696) _ ⟨hHeld, (zr HO695.out), (by (with_reducible repeat (first | apply Kd.S_alloc | apply Kd.S_drewN | apply Kd.S_drew)); exact Kd.S_mono HO_8.out (fun _ hk => ⟨hk.2, ⟨hk.1.1, hk.1.2⟩⟩)), (zk BK688.out), (zk BK696.out), GW696.out, GE696.out, NB688_696.out, NB696_688.out, (by repeat (first | (with_reducible first | exact HB.out | apply below_alloc | apply pw_below_drewN | apply below_drew1 | refine below_set ?_ GE688.out | refine below_set ?_ GE696.out) | exact HB.out))⟩)
                rintro ⟨v694, gb696⟩ w57 ⟨hS_, h0_, h1_, h2_, h3_, h4_, h5_, h6_, h7_, h8_⟩
                have n0_ : Aside0 (Kd.R Kd.string 9 w57 w.heap.size (fun _ => True) v694 t693) := ⟨h0_⟩
                have n1_ : Aside0 (Kd.S k106 106 w57 w.heap.size (fun k_ => some k_ ≠ (v694 : Value).ownBlock ∧ k_ ≠ gb688 ∧ k_ ≠ gb696) u8 x8_1) := ⟨h1_⟩
                have n2_ : Aside0 (w57.heap[gb688]? = some (.cells #[.int .i64 ((rd_T106 l1 x26_1).f0), .int .i64 ((rd_T106 l1 x26_1).f1), .slice A687_2 ((rd_T106 l1 x26_1).f2).length c687_2] 106 (0, 0))) := ⟨h2_⟩
                have n3_ : Aside0 (w57.heap[gb696]? = some (.cells #[.int .i64 0, .int .i64 0, .slice none 0 0] 106 (0, 0))) := ⟨h3_⟩
                have n4_ : Aside0 (w.heap.size ≤ gb696) := ⟨h4_⟩
                have n5_ : Aside0 (w.heap.size ≤ gb696) := ⟨h5_⟩
                have n6_ : Aside0 (gb688 ≠ gb696) := ⟨h6_⟩
                have n7_ : Aside0 (gb696 ≠ gb688) := ⟨h7_⟩
                have n8_ : Aside0 (Below w.heap.size w w57) := ⟨h8_⟩
                clear HO_8
                clear BK688
                clear HB
                clear h0_ h1_ h2_ h3_ h4_ h5_ h6_ h7_ h8_
                have HO695 := n0_
                have HO_8 := n1_
                have BK688 := n2_
                have BK696 := n3_
                have GW696 := n4_
                have GE696 := n5_
                have NB688_696 := n6_
                have NB696_688 := n7_
                have HB := n8_
                clear n0_ n1_ n2_ n3_ n4_ n5_ n6_ n7_ n8_
                have hHeld : w57.cell? ⟨gb688, 0, none⟩ = some (.int .i64 ((rd_T106 l1 x26_1).f0)) ∧ w57.cell? ⟨gb688, 1, none⟩ = some (.int .i64 ((rd_T106 l1 x26_1).f1)) ∧ w57.cell? ⟨gb688, 2, none⟩ = some (.slice A687_2 ((rd_T106 l1 x26_1).f2).length c687_2) := hS_
                obtain ⟨Ao58, co58, eo58⟩ := Kd.R_slice HO695.out
                (first | subst eo58 | (injection eo58 with f1_ f2_ f3_; have f4_ := f1_.symm; have f5_ := f3_.symm; clear f1_ f2_ f3_; subst f4_; subst f5_))
                refine norm_ (a' := ?_) ?_ ?_
                rotate_left
                ·simp only [putAll, Act.put, List.setIfInBounds_toArray, List.set_cons_zero, List.set_cons_succ]
                 rfl
                refine one_ (i := 22) (N := none) #[Y,Y,Y,Y,Y,Y,Y,Y,Y,Y,Y,Y,Y,Y,Y,Y,Y,Y,Y,Y,Y,Y,Y] rfl rfl (one_of HT_.out (by kernel_rfl)) (by decide) (fun K hK => ?_)
                have hs59 : w57.cell? ⟨gb696, 0, none⟩ = some (.int .i64 0) := (blk_cell BK696.out 0).trans rfl
                have hfs59 := blk_frozen BK696.out 0
                have hns59_0 := NB688_696.out
                have hms59_0 := NB696_688.out
                have hs60 : w57.cell? ⟨gb696, 1, none⟩ = some (.int .i64 0) := (blk_cell BK696.out 1).trans rfl
                have hfs60 := blk_frozen BK696.out 1
                have hns60_0 := NB688_696.out
                have hms60_0 := NB696_688.out
                have hs61 : w57.cell? ⟨gb696, 2, none⟩ = some (.slice none 0 0) := (blk_cell BK696.out 2).trans rfl
                have hfs61 := blk_frozen BK696.out 2
                have hns61_0 := NB688_696.out
                have hms61_0 := NB696_688.out
                refine skip_ (w1 := ?_) (by rfl) rfl ?_ ?_
                rotate_left
                ·go_simp
                 rfl
                refine hK.out _ _ ⟨((cell_far (p := ⟨gb696, _, none⟩) NB688_696.out _).trans (((cell_far (p := ⟨gb696, _, none⟩) NB688_696.out _).trans (((cell_far (p := ⟨gb696, _, none⟩) NB688_696.out _).trans (hHeld.1)))))), ((cell_far (p := ⟨gb696, _, none⟩) NB688_696.out _).trans (((cell_far (p := ⟨gb696, _, none⟩) NB688_696.out _).trans (((cell_far (p := ⟨gb696, _, none⟩) NB688_696.out _).trans (hHeld.2.1)))))), ((cell_far (p := ⟨gb696, _, none⟩) NB688_696.out _).trans (((cell_far (p := ⟨gb696, _, none⟩) NB688_696.out _).trans (((cell_far (p := ⟨gb696, _, none⟩) NB688_696.out _).trans (hHeld.2.2))))))⟩ (fun hHeld => ?_)
                clear hK K
                refine done_ (done_of HT_.out (by kernel_rfl)) ?_
                have n0_ : Aside0 (Kd.S k106 106 (((w57.setCell ⟨gb696, 0, none⟩ (.int .i64 (wrap64 (((rd_T106 l1 x26_1).f0) + t690)))).setCell ⟨gb696, 1, none⟩ (.int .i64 (wrap64 ((wrap64 (((rd_T106 l1 x26_1).f1) - t690)) - t691)))).setCell ⟨gb696, 2, none⟩ (.slice Ao58 t693.length co58)) w.heap.size (fun k_ => some k_ ≠ (.slice Ao58 t693.length co58 : Value).ownBlock ∧ k_ ≠ gb688 ∧ k_ ≠ gb696) u8 x8_1) := ⟨by (with_reducible repeat (first | apply Kd.S_alloc | apply Kd.S_drewN | apply Kd.S_drew)); exact Kd.S_mono (Kd.S_far (p := ⟨gb696, 2, none⟩) (Kd.S_far (p := ⟨gb696, 1, none⟩) (Kd.S_far (p := ⟨gb696, 0, none⟩) (Kd.S_mono HO_8.out (fun k_ hk => (⟨hk, hk.2.2⟩ : _ ∧ k_ ≠ gb696))) (fun _ hk => hk.2) (.int .i64 (wrap64 (((rd_T106 l1 x26_1).f0) + t690)))) (fun _ hk => hk.2) (.int .i64 (wrap64 ((wrap64 (((rd_T106 l1 x26_1).f1) - t690)) - t691)))) (fun _ hk => hk.2) (.slice Ao58 t693.length co58)) (fun _ hk => ⟨hk.1.1, ⟨hk.1.2.1, hk.1.2.2⟩⟩)⟩
                have n1_ : Aside0 (Kd.R Kd.string 9 (((w57.setCell ⟨gb696, 0, none⟩ (.int .i64 (wrap64 (((rd_T106 l1 x26_1).f0) + t690)))).setCell ⟨gb696, 1, none⟩ (.int .i64 (wrap64 ((wrap64 (((rd_T106 l1 x26_1).f1) - t690)) - t691)))).setCell ⟨gb696, 2, none⟩ (.slice Ao58 t693.length co58)) w.heap.size (fun _ => True) (.slice Ao58 t693.length co58) t693) := ⟨by (with_reducible repeat (first | apply Kd.R_alloc | apply Kd.R_drewN | apply Kd.R_drew)); exact Kd.R_mono (Kd.R_far (p := ⟨gb696, 2, none⟩) (Kd.R_far (p := ⟨gb696, 1, none⟩) (Kd.R_far (p := ⟨gb696, 0, none⟩) (Kd.R_types HO695.out BK696.out (by decide)) (fun _ hk => hk.2) (.int .i64 (wrap64 (((rd_T106 l1 x26_1).f0) + t690)))) (fun _ hk => hk.2) (.int .i64 (wrap64 ((wrap64 (((rd_T106 l1 x26_1).f1) - t690)) - t691)))) (fun _ hk => hk.2) (.slice Ao58 t693.length co58)) (fun _ hk => trivial)⟩
                have n2_ : Aside0 ((((w57.setCell ⟨gb696, 0, none⟩ (.int .i64 (wrap64 (((rd_T106 l1 x26_1).f0) + t690)))).setCell ⟨gb696, 1, none⟩ (.int .i64 (wrap64 ((wrap64 (((rd_T106 l1 x26_1).f1) - t690)) - t691)))).setCell ⟨gb696, 2, none⟩ (.slice Ao58 t693.length co58)).heap[gb688]? = some (.cells #[.int .i64 ((rd_T106 l1 x26_1).f0), .int .i64 ((rd_T106 l1 x26_1).f1), .slice A687_2 ((rd_T106 l1 x26_1).f2).length c687_2] 106 (0, 0))) := ⟨by (with_reducible repeat (first | refine blk_drewN ?_ _ | refine blk_drew ?_ | refine blk_alloc ?_ _)); refine blk_far ?_ NB688_696.out _; (with_reducible repeat (first | refine blk_drewN ?_ _ | refine blk_drew ?_ | refine blk_alloc ?_ _)); refine blk_far ?_ NB688_696.out _; (with_reducible repeat (first | refine blk_drewN ?_ _ | refine blk_drew ?_ | refine blk_alloc ?_ _)); refine blk_far ?_ NB688_696.out _; (with_reducible repeat (first | refine blk_drewN ?_ _ | refine blk_drew ?_ | refine blk_alloc ?_ _)); exact BK688.out⟩
                have n3_ : Aside0 ((((w57.setCell ⟨gb696, 0, none⟩ (.int .i64 (wrap64 (((rd_T106 l1 x26_1).f0) + t690)))).setCell ⟨gb696, 1, none⟩ (.int .i64 (wrap64 ((wrap64 (((rd_T106 l1 x26_1).f1) - t690)) - t691)))).setCell ⟨gb696, 2, none⟩ (.slice Ao58 t693.length co58)).heap[gb696]? = some (.cells #[.int .i64 (wrap64 (((rd_T106 l1 x26_1).f0) + t690)), .int .i64 (wrap64 ((wrap64 (((rd_T106 l1 x26_1).f1) - t690)) - t691)), .slice Ao58 t693.length co58] 106 (0, 0))) := ⟨by (with_reducible repeat (first | refine blk_drewN ?_ _ | refine blk_drew ?_ | refine blk_alloc ?_ _)); refine blk_put (cs := #[.int .i64 (wrap64 (((rd_T106 l1 x26_1).f0) + t690)), .int .i64 (wrap64 ((wrap64 (((rd_T106 l1 x26_1).f1) - t690)) - t691)), .slice none 0 0]) ?_ 2 _ rfl; (with_reducible repeat (first | refine blk_drewN ?_ _ | refine blk_drew ?_ | refine blk_alloc ?_ _)); refine blk_put (cs := #[.int .i64 (wrap64 (((rd_T106 l1 x26_1).f0) + t690)), .int .i64 0, .slice none 0 0]) ?_ 1 _ rfl; (with_reducible repeat (first | refine blk_drewN ?_ _ | refine blk_drew ?_ | refine blk_alloc ?_ _)); refine blk_put (cs := #[.int .i64 0, .int .i64 0, .slice none 0 0]) ?_ 0 _ rfl; (with_reducible repeat (first | refine blk_drewN ?_ _ | refine blk_drew ?_ | refine blk_alloc ?_ _)); exact BK696.out⟩
                have n4_ : Aside0 (Below w.heap.size w (((w57.setCell ⟨gb696, 0, none⟩ (.int .i64 (wrap64 (((rd_T106 l1 x26_1).f0) + t690)))).setCell ⟨gb696, 1, none⟩ (.int .i64 (wrap64 ((wrap64 (((rd_T106 l1 x26_1).f1) - t690)) - t691)))).setCell ⟨gb696, 2, none⟩ (.slice Ao58 t693.length co58))) := ⟨by repeat (first | (with_reducible first | exact HB.out | apply below_alloc | apply pw_below_drewN | apply below_drew1 | refine below_set ?_ GE688.out | refine below_set ?_ GE696.out) | exact HB.out)⟩
                (try clear HO_8)
                (try clear HO695)
                (try clear BK688)
                (try clear BK696)
                (try clear HB)
                (try simp only [show ∀ (w_ : World) (n_ : Nat) (p_ : Addr) (v_ : Value), (w_.drewN n_).setCell p_ v_ = (w_.setCell p_ v_).drewN n_ from fun _ _ _ _ => rfl])
                generalize (((w57.setCell ⟨gb696, 0, none⟩ (.int .i64 (wrap64 (((rd_T106 l1 x26_1).f0) + t690)))).setCell ⟨gb696, 1, none⟩ (.int .i64 (wrap64 ((wrap64 (((rd_T106 l1 x26_1).f1) - t690)) - t691)))).setCell ⟨gb696, 2, none⟩ (.slice Ao58 t693.length co58)) = w62 at n0_ n1_ n2_ n3_ n4_ ⊢
                have HO_8 := n0_
                have HO695 := n1_
                have BK688 := n2_
                have BK696 := n3_
                have HB := n4_
                clear n0_ n1_ n2_ n3_ n4_
                have hnb63 := NB696_688.out
                have hnc63 := NB688_696.out
                have hcz64_0 : w62.cell? ⟨gb696, 0, none⟩ = some (.int .i64 (wrap64 (((rd_T106 l1 x26_1).f0) + t690))) := (blk_cell BK696.out 0).trans rfl
                have hcz64_1 : w62.cell? ⟨gb696, 1, none⟩ = some (.int .i64 (wrap64 ((wrap64 (((rd_T106 l1 x26_1).f1) - t690)) - t691))) := (blk_cell BK696.out 1).trans rfl
                have hcz64_2 : w62.cell? ⟨gb696, 2, none⟩ = some (.slice Ao58 t693.length co58) := (blk_cell BK696.out 2).trans rfl
                have hfz64_0 := blk_frozen BK696.out 0
                have hfz64_1 := blk_frozen BK696.out 1
                have hfz64_2 := blk_frozen BK696.out 2
                try go_wp2_with (first | ((with_reducible refine gateB (b := .append) (xs := #[.tmp 77, .tmp 79]) rfl ?_); (try (refine gate_guard (by rfl) ?_; dsimp only)); at_builtin; refine Kd.S_append k106 (w0 := w) w.heap.size rfl (.tmp 77) (.tmp 79) 42 106 (.agg #[(.int .i64 0), (.int .i64 0), (.slice none 0 0)]) 40 rfl Try.underlying42 info106 rfl (by decide) (by omega) u8 x8_1 (⟨wrap64 (((rd_T106 l1 x26_1).f0) + t690), wrap64 ((wrap64 (((rd_T106 l1 x26_1).f1) - t690)) - t691), t693⟩ : S106) [.int .i64 (wrap64 (((rd_T106 l1 x26_1).f0) + t690)), .int .i64 (wrap64 ((wrap64 (((rd_T106 l1 x26_1).f1) - t690)) - t691)), .slice Ao58 t693.length co58] (fun k_ => k_ ≠ gb688 ∧ k_ ≠ gb696) (fun k_ => some k_ = (.slice Ao58 t693.length co58 : Value).ownBlock) rfl rfl ?aP (fun k_ hk_ => ((Kd.R_mono (ok' := fun k_ => ((fun k_ => k_ ≠ gb688 ∧ k_ ≠ gb696)) k_ ∧ some k_ ≠ (u8 : Value).ownBlock) (Kd.R_types (Kd.R_types (Kd.R_apart' (HO695.out) (Kd.S_typed HO_8.out) (by decide)) BK688.out (by decide)) BK696.out (by decide)) (fun k_ hk => ⟨⟨hk.1.2, hk.2⟩, hk.1.1.2⟩))).1 k_ hk_.symm) ?aF ?aO ?aB ?aS ?aL ?_; (case aP => exact k106_mkM _ _ _ (⟨wrap64 (((rd_T106 l1 x26_1).f0) + t690), wrap64 ((wrap64 (((rd_T106 l1 x26_1).f1) - t690)) - t691), t693⟩ : S106) (Kd.R_mono (Kd.R_tight rfl (Kd.R_mono (ok' := fun k_ => ((fun k_ => k_ ≠ gb688 ∧ k_ ≠ gb696)) k_ ∧ some k_ ≠ (u8 : Value).ownBlock) (Kd.R_types (Kd.R_types (Kd.R_apart' (HO695.out) (Kd.S_typed HO_8.out) (by decide)) BK688.out (by decide)) BK696.out (by decide)) (fun k_ hk => ⟨⟨hk.1.2, hk.2⟩, hk.1.1.2⟩))) (fun _ h_ => h_))); (case aB => exact (by repeat (first | (with_reducible first | exact HB.out | apply below_alloc | apply pw_below_drewN | apply below_drew1 | refine below_set ?_ GE688.out | refine below_set ?_ GE696.out) | exact HB.out))); (case aF => exact (fun k_ hk => ⟨Kd.freshB (g := gb688) (o := .cells #[.int .i64 ((rd_T106 l1 x26_1).f0), .int .i64 ((rd_T106 l1 x26_1).f1), .slice A687_2 ((rd_T106 l1 x26_1).f2).length c687_2] 106 (0, 0)) (zk BK688.out) k_ hk, Kd.freshB (g := gb696) (o := .cells #[.int .i64 (wrap64 (((rd_T106 l1 x26_1).f0) + t690)), .int .i64 (wrap64 ((wrap64 (((rd_T106 l1 x26_1).f1) - t690)) - t691)), .slice Ao58 t693.length co58] 106 (0, 0)) (zk BK696.out) k_ hk⟩)); (case aO => exact (by (with_reducible repeat (first | apply Kd.S_alloc | apply Kd.S_drewN | apply Kd.S_drew)); exact Kd.S_mono HO_8.out (fun k_ hk => ⟨⟨hk.2.1, hk.2.2⟩, fun e_ => hk.1 e_⟩))); (case aS => exact (below_size (by repeat (first | (with_reducible first | exact HB.out | apply below_alloc | apply pw_below_drewN | apply below_drew1 | refine below_set ?_ GE688.out | refine below_set ?_ GE696.out) | exact HB.out)))); (case aL => have := LMc44.out; omega); intro v701 w65 ho hb hg hat; rw [← Ny700.out] at ho; have n0_ := am (blk_grown (g := gb688) (o := .cells #[.int .i64 ((rd_T106 l1 x26_1).f0), .int .i64 ((rd_T106 l1 x26_1).f1), .slice A687_2 ((rd_T106 l1 x26_1).f2).length c687_2] 106 (0, 0)) (zk BK688.out) hg (Kd.S_away HO_8.out (fun _ hk => hk.2.1))); have n1_ := am (blk_grown (g := gb696) (o := .cells #[.int .i64 (wrap64 (((rd_T106 l1 x26_1).f0) + t690)), .int .i64 (wrap64 ((wrap64 (((rd_T106 l1 x26_1).f1) - t690)) - t691)), .slice Ao58 t693.length co58] 106 (0, 0)) (zk BK696.out) hg (Kd.S_away HO_8.out (fun _ hk => hk.2.2))); have n2_ := am (hb); have n3_ := am (ho); clear BK688; clear BK696; clear HB; clear HO_8; clear HO695; have BK688 := n0_; have BK696 := n1_; have HB := n2_; have HO702 := n3_; clear n0_ n1_ n2_ n3_; clear ho hb hg hat))
                go_roundg k1
                case measure => have := HK1.out; omega
                case rel => exact ⟨(y700), (wrap64 (x26_1 + 1)), zf, H', ⟨by have := HK1.out; omega⟩, ⟨by (with_reducible repeat (first | apply Kd.S_alloc | apply Kd.S_drewN | apply Kd.S_drew)); exact Kd.S_mono HO702.out (fun _ hk => trivial)⟩, ⟨by repeat (first | (with_reducible first | exact HB.out | apply below_alloc | apply pw_below_drewN | apply below_drew1 | refine below_set ?_ GE688.out | refine below_set ?_ GE696.out) | exact HB.out)⟩⟩
               ·rw [if_neg c44] at H
                exact absurd H (by simp)
              ·rw [if_neg c43] at H
               have c43b0 : decide (0 < (t693.length : Int)) = false := decide_eq_false c43
               have c43b1 : decide (0 < t693.length) = false := decide_eq_false (by omega)
               clear c43
               have H' := am H
               clear H
               have p687 : 0 ≤ (x26_1 : Int) := oa
               have q687 : x26_1 < (l1.length : Int) := oa
               obtain ⟨ad687, A687_2, c687_2, e687, hx687_0, hx687_1, hx687_2, hl687_2, hi687_2⟩ := at_T106 HR1.out x26_1 p687 q687
               cases e687
               replace hx687_0 := (HB.out.cell (World.block_lt_of_cell? w _ hx687_0)).trans hx687_0
               replace hx687_1 := (HB.out.cell (World.block_lt_of_cell? w _ hx687_1)).trans hx687_1
               replace hx687_2 := (HB.out.cell (World.block_lt_of_cell? w _ hx687_2)).trans hx687_2
               have HR687_2 := am hi687_2
               have HC687_2 := am hl687_2
               clear hi687_2 hl687_2
               replace p687 := eq_true p687
               replace q687 := eq_true q687
               try go_wp2_with (first | ((with_reducible refine gate_dst (N := 10) rfl ?_); (try (refine gate_guard (by rfl) ?_; dsimp only)); refine box_event ?hg (N := 10) ?hd (cs := #[.int .i64 0, .int .i64 0, .slice none 0 0]) (t := 106) ?hr ?_; (case hd => rfl); (case hg => rfl); (case hr => first | (go_simp; done) | (go_simp; rfl)); intro gb688 hg w66 hbox hb; have n0_ := am (Kd.S_below (Kd.S_elderB (zs HO_8.out) gb688 (Nat.le_of_eq hg.symm)) hb); have n1_ := am (below_step zb hb); have n2_ := am (hbox); have n3_ := am ((by rw [hg]; exact (below_size zb) : w.heap.size ≤ gb688)); have n4_ := am ((by rw [hg]; exact (below_size zb) : w.heap.size ≤ gb688)); clear HO_8; clear HB; have HO_8 := n0_; have HB := n1_; have BK688 := n2_; have GW688 := n3_; have GE688 := n4_; clear n0_ n1_ n2_ n3_ n4_; clear hb hbox hg; have hcz67_0 : w66.cell? ⟨gb688, 0, none⟩ = some (.int .i64 0) := (blk_cell BK688.out 0).trans rfl; have hcz67_1 : w66.cell? ⟨gb688, 1, none⟩ = some (.int .i64 0) := (blk_cell BK688.out 1).trans rfl; have hcz67_2 : w66.cell? ⟨gb688, 2, none⟩ = some (.slice none 0 0) := (blk_cell BK688.out 2).trans rfl; have hfz67_0 := blk_frozen BK688.out 0; have hfz67_1 := blk_frozen BK688.out 1; have hfz67_2 := blk_frozen BK688.out 2; obtain ⟨i068, hi068, _, hsz68, _⟩ := info_parts info9; obtain ⟨A68, hcut68, hA68, hC68⟩ := print_mid_of (P := Try.prog) Value.string (⟨#[]⟩ : ByteArray) 24 9 .i64 .i64 Try.underlying24 hi068 hsz68 A0 c0 l0 ((rd_T106 l1 x26_1).f0) (wrap64 (((rd_T106 l1 x26_1).f0) + ((rd_T106 l1 x26_1).f1))) oa (by first | omega | exact oa) oa HC0.out; have HR689 := am (Kd.C_of_reads (h1 := fun _ => rfl) (hA68 _ (Kd.reads_of_C HR0.out))); have HC689 := am hC68; clear hA68 hC68 hi068 hsz68))
               have n0_ : Aside0 (Kd.S k106 106 (((w66.setCell ⟨gb688, 0, none⟩ (.int .i64 ((rd_T106 l1 x26_1).f0))).setCell ⟨gb688, 1, none⟩ (.int .i64 ((rd_T106 l1 x26_1).f1))).setCell ⟨gb688, 2, none⟩ (.slice A687_2 ((rd_T106 l1 x26_1).f2).length c687_2)) w.heap.size (fun k_ => k_ ≠ gb688) u8 x8_1) := ⟨by (with_reducible repeat (first | apply Kd.S_alloc | apply Kd.S_drewN | apply Kd.S_drew)); exact Kd.S_mono (Kd.S_far (p := ⟨gb688, 2, none⟩) (Kd.S_far (p := ⟨gb688, 1, none⟩) (Kd.S_far (p := ⟨gb688, 0, none⟩) (Kd.S_mono HO_8.out (fun k_ hk => (⟨hk, hk.2⟩ : _ ∧ k_ ≠ gb688))) (fun _ hk => hk.2) (.int .i64 ((rd_T106 l1 x26_1).f0))) (fun _ hk => hk.2) (.int .i64 ((rd_T106 l1 x26_1).f1))) (fun _ hk => hk.2) (.slice A687_2 ((rd_T106 l1 x26_1).f2).length c687_2)) (fun _ hk => hk.1.2)⟩
               have n1_ : Aside0 ((((w66.setCell ⟨gb688, 0, none⟩ (.int .i64 ((rd_T106 l1 x26_1).f0))).setCell ⟨gb688, 1, none⟩ (.int .i64 ((rd_T106 l1 x26_1).f1))).setCell ⟨gb688, 2, none⟩ (.slice A687_2 ((rd_T106 l1 x26_1).f2).length c687_2)).heap[gb688]? = some (.cells #[.int .i64 ((rd_T106 l1 x26_1).f0), .int .i64 ((rd_T106 l1 x26_1).f1), .slice A687_2 ((rd_T106 l1 x26_1).f2).length c687_2] 106 (0, 0))) := ⟨by (with_reducible repeat (first | refine blk_drewN ?_ _ | refine blk_drew ?_ | refine blk_alloc ?_ _)); refine blk_put (cs := #[.int .i64 ((rd_T106 l1 x26_1).f0), .int .i64 ((rd_T106 l1 x26_1).f1), .slice none 0 0]) ?_ 2 _ rfl; (with_reducible repeat (first | refine blk_drewN ?_ _ | refine blk_drew ?_ | refine blk_alloc ?_ _)); refine blk_put (cs := #[.int .i64 ((rd_T106 l1 x26_1).f0), .int .i64 0, .slice none 0 0]) ?_ 1 _ rfl; (with_reducible repeat (first | refine blk_drewN ?_ _ | refine blk_drew ?_ | refine blk_alloc ?_ _)); refine blk_put (cs := #[.int .i64 0, .int .i64 0, .slice none 0 0]) ?_ 0 _ rfl; (with_reducible repeat (first | refine blk_drewN ?_ _ | refine blk_drew ?_ | refine blk_alloc ?_ _)); exact BK688.out⟩
               have n2_ : Aside0 (Below w.heap.size w (((w66.setCell ⟨gb688, 0, none⟩ (.int .i64 ((rd_T106 l1 x26_1).f0))).setCell ⟨gb688, 1, none⟩ (.int .i64 ((rd_T106 l1 x26_1).f1))).setCell ⟨gb688, 2, none⟩ (.slice A687_2 ((rd_T106 l1 x26_1).f2).length c687_2))) := ⟨by repeat (first | (with_reducible first | exact HB.out | apply below_alloc | apply pw_below_drewN | apply below_drew1 | refine below_set ?_ GE688.out) | exact HB.out)⟩
               (try clear HO_8)
               (try clear BK688)
               (try clear HB)
               (try simp only [show ∀ (w_ : World) (n_ : Nat) (p_ : Addr) (v_ : Value), (w_.drewN n_).setCell p_ v_ = (w_.setCell p_ v_).drewN n_ from fun _ _ _ _ => rfl])
               generalize (((w66.setCell ⟨gb688, 0, none⟩ (.int .i64 ((rd_T106 l1 x26_1).f0))).setCell ⟨gb688, 1, none⟩ (.int .i64 ((rd_T106 l1 x26_1).f1))).setCell ⟨gb688, 2, none⟩ (.slice A687_2 ((rd_T106 l1 x26_1).f2).length c687_2)) = w69 at n0_ n1_ n2_ ⊢
               have HO_8 := n0_
               have BK688 := n1_
               have HB := n2_
               clear n0_ n1_ n2_
               have n0_ := am (Kd.S_drew HO_8.out)
               have n1_ := am (blk_drew BK688.out)
               have n2_ := am (below_drew1 HB.out)
               clear HO_8
               clear BK688
               clear HB
               have HO_8 := n0_
               have BK688 := n1_
               have HB := n2_
               clear n0_ n1_ n2_
               refine start_ (n := 10) (S := fun w' => w'.cell? ⟨gb688, 0, none⟩ = some (.int .i64 ((rd_T106 l1 x26_1).f0)) ∧ w'.cell? ⟨gb688, 1, none⟩ = some (.int .i64 ((rd_T106 l1 x26_1).f1)) ∧ w'.cell? ⟨gb688, 2, none⟩ = some (.slice A687_2 ((rd_T106 l1 x26_1).f2).length c687_2)) (ds := []) #[O,O,O,O,O,O,O,O,O,O] (by kernel_rfl) rfl rfl ⟨(blk_cell BK688.out 0).trans rfl, (blk_cell BK688.out 1).trans rfl, (blk_cell BK688.out 2).trans rfl⟩ (fun hHeld => ?_); refine with_tabW impl_TrimHunks.tab9 impl_TrimHunks.bits9 (fun HT_ HW_ => ?_)
               generalize w69.drew = w70 at HO_8 BK688 HB hHeld ⊢
               refine pure_ (i := 0) (N := some 39) (v := ?_) (a' := ?_) #[Y,O,O,O,O,O,O,O,O,O] rfl rfl zx (fun _ _ _ h => h) (Or.inl ⟨by rfl, ?_⟩) ?_ ?_
               rotate_left; (intro w'; go_simp; with_reducible rfl); rotate_left; (simp only [Act.put,qa,qb,qc,i64_w,i32_w]; rfl)
               refine pure_ (i := 1) (N := some 40) (v := ?_) (a' := ?_) #[Y,Y,O,O,O,O,O,O,O,O] rfl rfl zx (fun _ _ _ h => h) (Or.inl ⟨by rfl, ?_⟩) ?_ ?_
               rotate_left; (intro w'; go_simp; with_reducible rfl); rotate_left; (simp only [Act.put,qa,qb,qc,i64_w,i32_w]; rfl)
               refine pure_ (i := 4) (N := some 43) (v := ?_) (a' := ?_) #[Y,Y,O,O,Y,O,O,O,O,O] rfl rfl zx (fun _ _ _ h => h) (Or.inl ⟨by rfl, ?_⟩) ?_ ?_
               rotate_left; (intro w'; go_simp; with_reducible rfl); rotate_left; (simp only [Act.put,qa,qb,qc,i64_w,i32_w]; rfl)
               refine pure_ (i := 5) (N := some 44) (v := ?_) (a' := ?_) #[Y,Y,O,O,Y,Y,O,O,O,O] rfl rfl zx (fun _ _ _ h => h) (Or.inl ⟨by rfl, ?_⟩) ?_ ?_
               rotate_left; (intro w'; go_simp; with_reducible rfl); rotate_left; (simp only [Act.put,qa,qb,qc,i64_w,i32_w]; rfl)
               refine take_ (i := 2) (N := some 41) (v := ?_) (a' := ?_) #[Y,Y,Y,O,Y,Y,O,O,O,O] rfl rfl (take_ofW HT_.out HW_.out (by kernel_rfl)) (fun _ _ _ h => h) (Or.inl ⟨by rfl, ?_⟩) hHeld ?_ ?_
               rotate_left; (rintro w' ⟨s0, s1, s2⟩; go_simp; with_reducible rfl); rotate_left; (simp only [Act.put,qa,qb,qc,i64_w,i32_w]; rfl)
               refine take_ (i := 6) (N := some 45) (v := ?_) (a' := ?_) #[Y,Y,Y,O,Y,Y,Y,O,O,O] rfl rfl (take_ofW HT_.out HW_.out (by kernel_rfl)) (fun _ _ _ h => h) (Or.inl ⟨by rfl, ?_⟩) hHeld ?_ ?_
               rotate_left; (rintro w' ⟨s0, s1, s2⟩; go_simp; with_reducible rfl); rotate_left; (simp only [Act.put,qa,qb,qc,i64_w,i32_w]; rfl)
               refine one_ (i := 3) (N := some 42) #[Y,Y,Y,Y,Y,Y,Y,O,O,O] rfl rfl (one_of HT_.out (by kernel_rfl)) (by decide) (fun K hK => ?_)
               refine goes_ Try.func86 (by kernel_rfl) rfl #[.slice A68 ((l0.take ((wrap64 (((rd_T106 l1 x26_1).f0) + ((rd_T106 l1 x26_1).f1))) : Int).toNat).drop (((rd_T106 l1 x26_1).f0) : Int).toNat).length (c0 - ((rd_T106 l1 x26_1).f0).toNat), .slice A687_2 ((rd_T106 l1 x26_1).f2).length c687_2] (by rfl) rfl rfl (by (try simp only [List.map_toArray, List.map_cons, List.map_nil]); first | done | (rw [show ((l0.take ((wrap64 (((rd_T106 l1 x26_1).f0) + ((rd_T106 l1 x26_1).f1))) : Int).toNat).drop (((rd_T106 l1 x26_1).f0) : Int).toNat).length = ((wrap64 (((rd_T106 l1 x26_1).f0) + ((rd_T106 l1 x26_1).f1))).toNat - ((rd_T106 l1 x26_1).f0).toNat) from (by rw [List.length_drop, List.length_take]; have h_ : ((wrap64 (((rd_T106 l1 x26_1).f0) + ((rd_T106 l1 x26_1).f1))) : Int) ≤ (l0.length : Int) := oa; omega)] <;> rfl) | rfl | (simp only [List.length_drop, List.length_take]; rfl)) ?_
               with_reducible refine (impl_sameAhead.calls k1 _ _ ((l0.take ((wrap64 (((rd_T106 l1 x26_1).f0) + ((rd_T106 l1 x26_1).f1))) : Int).toNat).drop (((rd_T106 l1 x26_1).f0) : Int).toNat) _ _ ((rd_T106 l1 x26_1).f2) t690 _ ?side1 ?side2 ?side3 ?side4 A14.out).mono ?_
               (case side1 => exact zq (Kd.C_below HR689.out HB.out))
               (case side2 => exact HC689.out)
               (case side3 => exact zq (Kd.C_below HR687_2.out HB.out))
               (case side4 => exact HC687_2.out)
               rintro e w71 ⟨rfl, hb⟩
               refine ⟨_, rfl, ?_⟩
               have n0_ := am (Kd.S_below (zs HO_8.out) hb)
               have n1_ := am (blk_below (g := gb688) (o := .cells #[.int .i64 ((rd_T106 l1 x26_1).f0), .int .i64 ((rd_T106 l1 x26_1).f1), .slice A687_2 ((rd_T106 l1 x26_1).f2).length c687_2] 106 (0, 0)) (zk BK688.out) hb)
               have n2_ := am (below_step (by repeat (first | (with_reducible first | exact HB.out | apply below_alloc | apply pw_below_drewN | apply below_drew1 | refine below_set ?_ GE688.out) | exact HB.out)) hb)
               clear HO_8
               clear BK688
               clear HB
               have HO_8 := n0_
               have BK688 := n1_
               have HB := n2_
               clear n0_ n1_ n2_
               (try clear hb)
               (try clear hb2)
               (try clear hk)
               (try clear hi)
               refine hK.out _ _ ⟨(blk_cell BK688.out 0).trans rfl, (blk_cell BK688.out 1).trans rfl, (blk_cell BK688.out 2).trans rfl⟩ (fun hHeld => ?_)
               clear hK K
               refine norm_ (a' := ?_) ?_ ?_
               rotate_left
               ·show Act.put _ (some 42) _ = _
                simp only [Act.put,qa,qb,qc,i64_w,i32_w]
                rfl
               refine one_ (i := 7) (N := some 46) #[Y,Y,Y,Y,Y,Y,Y,Y,O,O] rfl rfl (one_of HT_.out (by kernel_rfl)) (by decide) (fun K hK => ?_)
               refine goes_ Try.func87 (by kernel_rfl) rfl #[.slice A68 ((l0.take ((wrap64 (((rd_T106 l1 x26_1).f0) + ((rd_T106 l1 x26_1).f1))) : Int).toNat).drop (((rd_T106 l1 x26_1).f0) : Int).toNat).length (c0 - ((rd_T106 l1 x26_1).f0).toNat), .slice A687_2 ((rd_T106 l1 x26_1).f2).length c687_2] (by rfl) rfl rfl (by (try simp only [List.map_toArray, List.map_cons, List.map_nil]); first | done | (rw [show ((l0.take ((wrap64 (((rd_T106 l1 x26_1).f0) + ((rd_T106 l1 x26_1).f1))) : Int).toNat).drop (((rd_T106 l1 x26_1).f0) : Int).toNat).length = ((wrap64 (((rd_T106 l1 x26_1).f0) + ((rd_T106 l1 x26_1).f1))).toNat - ((rd_T106 l1 x26_1).f0).toNat) from (by rw [List.length_drop, List.length_take]; have h_ : ((wrap64 (((rd_T106 l1 x26_1).f0) + ((rd_T106 l1 x26_1).f1))) : Int) ≤ (l0.length : Int) := oa; omega)] <;> rfl) | rfl | (simp only [List.length_drop, List.length_take]; rfl)) ?_
               with_reducible refine (impl_sameBehind.calls k1 _ _ ((l0.take ((wrap64 (((rd_T106 l1 x26_1).f0) + ((rd_T106 l1 x26_1).f1))) : Int).toNat).drop (((rd_T106 l1 x26_1).f0) : Int).toNat) _ _ ((rd_T106 l1 x26_1).f2) t691 _ ?side1 ?side2 ?side3 ?side4 A15.out).mono ?_
               (case side1 => exact zq (Kd.C_below HR689.out HB.out))
               (case side2 => exact HC689.out)
               (case side3 => exact zq (Kd.C_below HR687_2.out HB.out))
               (case side4 => exact HC687_2.out)
               rintro e w72 ⟨rfl, hb⟩
               refine ⟨_, rfl, ?_⟩
               have n0_ := am (Kd.S_below (zs HO_8.out) hb)
               have n1_ := am (blk_below (g := gb688) (o := .cells #[.int .i64 ((rd_T106 l1 x26_1).f0), .int .i64 ((rd_T106 l1 x26_1).f1), .slice A687_2 ((rd_T106 l1 x26_1).f2).length c687_2] 106 (0, 0)) (zk BK688.out) hb)
               have n2_ := am (below_step (by repeat (first | (with_reducible first | exact HB.out | apply below_alloc | apply pw_below_drewN | apply below_drew1 | refine below_set ?_ GE688.out) | exact HB.out)) hb)
               clear HO_8
               clear BK688
               clear HB
               have HO_8 := n0_
               have BK688 := n1_
               have HB := n2_
               clear n0_ n1_ n2_
               (try clear hb)
               (try clear hb2)
               (try clear hk)
               (try clear hi)
               refine hK.out _ _ ⟨(blk_cell BK688.out 0).trans rfl, (blk_cell BK688.out 1).trans rfl, (blk_cell BK688.out 2).trans rfl⟩ (fun hHeld => ?_)
               clear hK K
               refine norm_ (a' := ?_) ?_ ?_
               rotate_left
               ·show Act.put _ (some 46) _ = _
                simp only [Act.put,qa,qb,qc,i64_w,i32_w]
                rfl
               refine pure_ (i := 8) (N := some 12) (v := ?_) (a' := ?_) #[Y,Y,Y,Y,Y,Y,Y,Y,Y,O] rfl rfl zx (fun _ _ _ h => h) (Or.inl ⟨by rfl, ?_⟩) ?_ ?_
               rotate_left; (intro w'; go_simp; with_reducible rfl); rotate_left; (simp only [Act.put,qa,qb,qc,i64_w,i32_w]; rfl)
               refine pure_ (i := 9) (N := some 13) (v := ?_) (a' := ?_) #[Y,Y,Y,Y,Y,Y,Y,Y,Y,Y] rfl rfl zx (fun _ _ _ h => h) (Or.inl ⟨by rfl, ?_⟩) ?_ ?_
               rotate_left; (intro w'; go_simp; with_reducible rfl); rotate_left; (simp only [Act.put,qa,qb,qc,i64_w,i32_w]; rfl)
               refine done_ (done_of HT_.out (by kernel_rfl)) ?_
               try go_wp2
               have n0_ := am (Kd.S_drew HO_8.out)
               have n1_ := am (blk_drew BK688.out)
               have n2_ := am (below_drew1 HB.out)
               clear HO_8
               clear BK688
               clear HB
               have HO_8 := n0_
               have BK688 := n1_
               have HB := n2_
               clear n0_ n1_ n2_
               obtain ⟨i074, hi074, _, hsz74, _⟩ := info_parts info9
               obtain ⟨A74, hcut74, hA74, hC74⟩ := print_mid_of (P := Try.prog) Value.string (⟨#[]⟩ : ByteArray) 24 9 .i64 .i64 Try.underlying24 hi074 hsz74 A687_2 c687_2 ((rd_T106 l1 x26_1).f2) t690 (wrap64 ((((rd_T106 l1 x26_1).f2).length : Int) - t691)) oa (by first | omega | exact oa) oa HC687_2.out
               have HR692 := am (Kd.C_of_reads (h1 := fun _ => rfl) (hA74 _ (Kd.reads_of_C HR687_2.out)))
               have HC692 := am hC74
               clear hA74 hC74 hi074 hsz74
               refine start_ (n := 23) (S := fun w' => w'.cell? ⟨gb688, 0, none⟩ = some (.int .i64 ((rd_T106 l1 x26_1).f0)) ∧ w'.cell? ⟨gb688, 1, none⟩ = some (.int .i64 ((rd_T106 l1 x26_1).f1)) ∧ w'.cell? ⟨gb688, 2, none⟩ = some (.slice A687_2 ((rd_T106 l1 x26_1).f2).length c687_2)) (ds := []) #[O,O,O,O,O,O,O,O,O,O,O,O,O,O,O,O,O,O,O,O,O,O,O] (by kernel_rfl) rfl rfl ⟨(blk_cell BK688.out 0).trans rfl, (blk_cell BK688.out 1).trans rfl, (blk_cell BK688.out 2).trans rfl⟩ (fun hHeld => ?_); refine with_tabW impl_TrimHunks.tab10 impl_TrimHunks.bits10 (fun HT_ HW_ => ?_)
               generalize w72.drew = w73 at HO_8 BK688 HB HR692 hHeld ⊢
               refine pure_ (i := 0) (N := some 47) (v := ?_) (a' := ?_) #[Y,O,O,O,O,O,O,O,O,O,O,O,O,O,O,O,O,O,O,O,O,O,O] rfl rfl zx (fun _ _ _ h => h) (Or.inl ⟨by rfl, ?_⟩) ?_ ?_
               rotate_left; (intro w'; go_simp; with_reducible rfl); rotate_left; (simp only [Act.put,qa,qb,qc,i64_w,i32_w]; rfl)
               refine pure_ (i := 2) (N := some 49) (v := ?_) (a' := ?_) #[Y,O,Y,O,O,O,O,O,O,O,O,O,O,O,O,O,O,O,O,O,O,O,O] rfl rfl zx (fun _ _ _ h => h) (Or.inl ⟨by rfl, ?_⟩) ?_ ?_
               rotate_left; (intro w'; go_simp; with_reducible rfl); rotate_left; (simp only [Act.put,qa,qb,qc,i64_w,i32_w]; rfl)
               refine pure_ (i := 4) (N := some 51) (v := ?_) (a' := ?_) #[Y,O,Y,O,Y,O,O,O,O,O,O,O,O,O,O,O,O,O,O,O,O,O,O] rfl rfl zx (fun _ _ _ h => h) (Or.inl ⟨by rfl, ?_⟩) ?_ ?_
               rotate_left; (intro w'; go_simp; with_reducible rfl); rotate_left; (simp only [Act.put,qa,qb,qc,i64_w,i32_w]; rfl)
               refine pure_ (i := 6) (N := some 53) (v := ?_) (a' := ?_) #[Y,O,Y,O,Y,O,Y,O,O,O,O,O,O,O,O,O,O,O,O,O,O,O,O] rfl rfl zx (fun _ _ _ h => h) (Or.inl ⟨by rfl, ?_⟩) ?_ ?_
               rotate_left; (intro w'; go_simp; with_reducible rfl); rotate_left; (simp only [Act.put,qa,qb,qc,i64_w,i32_w]; rfl)
               refine pure_ (i := 8) (N := some 55) (v := ?_) (a' := ?_) #[Y,O,Y,O,Y,O,Y,O,Y,O,O,O,O,O,O,O,O,O,O,O,O,O,O] rfl rfl zx (fun _ _ _ h => h) (Or.inl ⟨by rfl, ?_⟩) ?_ ?_
               rotate_left; (intro w'; go_simp; with_reducible rfl); rotate_left; (simp only [Act.put,qa,qb,qc,i64_w,i32_w]; rfl)
               refine pure_ (i := 10) (N := some 57) (v := ?_) (a' := ?_) #[Y,O,Y,O,Y,O,Y,O,Y,O,Y,O,O,O,O,O,O,O,O,O,O,O,O] rfl rfl zx (fun _ _ _ h => h) (Or.inl ⟨by rfl, ?_⟩) ?_ ?_
               rotate_left; (intro w'; go_simp; with_reducible rfl); rotate_left; (simp only [Act.put,qa,qb,qc,i64_w,i32_w]; rfl)
               refine pure_ (i := 12) (N := some 59) (v := ?_) (a' := ?_) #[Y,O,Y,O,Y,O,Y,O,Y,O,Y,O,Y,O,O,O,O,O,O,O,O,O,O] rfl rfl zx (fun _ _ _ h => h) (Or.inl ⟨by rfl, ?_⟩) ?_ ?_
               rotate_left; (intro w'; go_simp; with_reducible rfl); rotate_left; (simp only [Act.put,qa,qb,qc,i64_w,i32_w]; rfl)
               refine pure_ (i := 13) (N := some 60) (v := ?_) (a' := ?_) #[Y,O,Y,O,Y,O,Y,O,Y,O,Y,O,Y,Y,O,O,O,O,O,O,O,O,O] rfl rfl zx (fun _ _ _ h => h) (Or.inl ⟨by rfl, ?_⟩) ?_ ?_
               rotate_left; (intro w'; go_simp; with_reducible rfl); rotate_left; (simp only [Act.put,qa,qb,qc,i64_w,i32_w]; rfl)
               refine pure_ (i := 16) (N := some 63) (v := ?_) (a' := ?_) #[Y,O,Y,O,Y,O,Y,O,Y,O,Y,O,Y,Y,O,O,Y,O,O,O,O,O,O] rfl rfl zx (fun _ _ _ h => h) (Or.inl ⟨by rfl, ?_⟩) ?_ ?_
               rotate_left; (intro w'; go_simp; with_reducible rfl); rotate_left; (simp only [Act.put,qa,qb,qc,i64_w,i32_w]; rfl)
               refine take_ (i := 1) (N := some 48) (v := ?_) (a' := ?_) #[Y,Y,Y,O,Y,O,Y,O,Y,O,Y,O,Y,Y,O,O,Y,O,O,O,O,O,O] rfl rfl (take_ofW HT_.out HW_.out (by kernel_rfl)) (fun _ _ _ h => h) (Or.inl ⟨by rfl, ?_⟩) hHeld ?_ ?_
               rotate_left; (rintro w' ⟨s0, s1, s2⟩; go_simp; with_reducible rfl); rotate_left; (simp only [Act.put,qa,qb,qc,i64_w,i32_w]; rfl)
               refine pure_ (i := 3) (N := some 50) (v := ?_) (a' := ?_) #[Y,Y,Y,Y,Y,O,Y,O,Y,O,Y,O,Y,Y,O,O,Y,O,O,O,O,O,O] rfl rfl zx (fun _ _ _ h => h) (Or.inl ⟨by rfl, ?_⟩) ?_ ?_
               rotate_left; (intro w'; go_simp; with_reducible rfl); rotate_left; (simp only [Act.put,qa,qb,qc,i64_w,i32_w]; rfl)
               refine take_ (i := 5) (N := some 52) (v := ?_) (a' := ?_) #[Y,Y,Y,Y,Y,Y,Y,O,Y,O,Y,O,Y,Y,O,O,Y,O,O,O,O,O,O] rfl rfl (take_ofW HT_.out HW_.out (by kernel_rfl)) (fun _ _ _ h => h) (Or.inl ⟨by rfl, ?_⟩) hHeld ?_ ?_
               rotate_left; (rintro w' ⟨s0, s1, s2⟩; go_simp; with_reducible rfl); rotate_left; (simp only [Act.put,qa,qb,qc,i64_w,i32_w]; rfl)
               refine pure_ (i := 7) (N := some 54) (v := ?_) (a' := ?_) #[Y,Y,Y,Y,Y,Y,Y,Y,Y,O,Y,O,Y,Y,O,O,Y,O,O,O,O,O,O] rfl rfl zx (fun _ _ _ h => h) (Or.inl ⟨by rfl, ?_⟩) ?_ ?_
               rotate_left; (intro w'; go_simp; with_reducible rfl); rotate_left; (simp only [Act.put,qa,qb,qc,i64_w,i32_w]; rfl)
               refine pure_ (i := 9) (N := some 56) (v := ?_) (a' := ?_) #[Y,Y,Y,Y,Y,Y,Y,Y,Y,Y,Y,O,Y,Y,O,O,Y,O,O,O,O,O,O] rfl rfl zx (fun _ _ _ h => h) (Or.inl ⟨by rfl, ?_⟩) ?_ ?_
               rotate_left; (intro w'; go_simp; with_reducible rfl); rotate_left; (simp only [Act.put,qa,qb,qc,i64_w,i32_w]; rfl)
               refine take_ (i := 11) (N := some 58) (v := ?_) (a' := ?_) #[Y,Y,Y,Y,Y,Y,Y,Y,Y,Y,Y,Y,Y,Y,O,O,Y,O,O,O,O,O,O] rfl rfl (take_ofW HT_.out HW_.out (by kernel_rfl)) (fun _ _ _ h => h) (Or.inl ⟨by rfl, ?_⟩) hHeld ?_ ?_
               rotate_left; (rintro w' ⟨s0, s1, s2⟩; go_simp; with_reducible rfl); rotate_left; (simp only [Act.put,qa,qb,qc,i64_w,i32_w]; rfl)
               refine take_ (i := 14) (N := some 61) (v := ?_) (a' := ?_) #[Y,Y,Y,Y,Y,Y,Y,Y,Y,Y,Y,Y,Y,Y,Y,O,Y,O,O,O,O,O,O] rfl rfl (take_ofW HT_.out HW_.out (by kernel_rfl)) (fun _ _ _ h => h) (Or.inl ⟨by rfl, ?_⟩) hHeld ?_ ?_
               rotate_left; (rintro w' ⟨s0, s1, s2⟩; go_simp; with_reducible rfl); rotate_left; (simp only [Act.put,qa,qb,qc,i64_w,i32_w]; rfl)
               refine pure_ (i := 15) (N := some 62) (v := ?_) (a' := ?_) #[Y,Y,Y,Y,Y,Y,Y,Y,Y,Y,Y,Y,Y,Y,Y,Y,Y,O,O,O,O,O,O] rfl rfl zx (fun _ _ _ h => h) (Or.inl ⟨by rfl, ?_⟩) ?_ ?_
               rotate_left; (intro w'; go_simp; with_reducible rfl); rotate_left; (simp only [Act.put,qa,qb,qc,i64_w,i32_w]; rfl)
               refine pure_ (i := 17) (N := some 64) (v := ?_) (a' := ?_) #[Y,Y,Y,Y,Y,Y,Y,Y,Y,Y,Y,Y,Y,Y,Y,Y,Y,Y,O,O,O,O,O] rfl rfl zx (fun _ _ _ h => h) (Or.inl ⟨by rfl, ?_⟩) ?_ ?_
               rotate_left; (intro w'; go_simp; with_reducible rfl); rotate_left; (simp only [Act.put,qa,qb,qc,i64_w,i32_w]; rfl)
               refine pure_ (i := 18) (N := some 65) (v := ?_) (a' := ?_) #[Y,Y,Y,Y,Y,Y,Y,Y,Y,Y,Y,Y,Y,Y,Y,Y,Y,Y,Y,O,O,O,O] rfl rfl zx (fun _ _ _ h => h) (Or.inl ⟨by rfl, ?_⟩) ?_ ?_
               rotate_left; (intro w'; go_simp; with_reducible rfl); rotate_left; (simp only [Act.put,qa,qb,qc,i64_w,i32_w]; rfl)
               refine join_ (σ := Value × Nat) 1 #[Y,Y,Y,Y,Y,Y,Y,Y,Y,Y,Y,Y,Y,Y,Y,Y,Y,Y,Y,Y,Y,Y,O] (fun s_ => [(66, s_.1), (14, .pointer (some ⟨s_.2, 0, none⟩)), (67, .agg #[.int .i64 (wrap64 (((rd_T106 l1 x26_1).f0) + t690)), .int .i64 (wrap64 ((wrap64 (((rd_T106 l1 x26_1).f1) - t690)) - t691)), s_.1])]) (fun s_ w' => (w'.cell? ⟨gb688, 0, none⟩ = some (.int .i64 ((rd_T106 l1 x26_1).f0)) ∧ w'.cell? ⟨gb688, 1, none⟩ = some (.int .i64 ((rd_T106 l1 x26_1).f1)) ∧ w'.cell? ⟨gb688, 2, none⟩ = some (.slice A687_2 ((rd_T106 l1 x26_1).f2).length c687_2)) ∧ (Kd.R Kd.string 9 w' w.heap.size (fun _ => True) s_.1 t693) ∧ (Kd.S k106 106 w' w.heap.size (fun k_ => some k_ ≠ (s_.1 : Value).ownBlock ∧ k_ ≠ gb688 ∧ k_ ≠ s_.2) u8 x8_1) ∧ (w'.heap[gb688]? = some (.cells #[.int .i64 ((rd_T106 l1 x26_1).f0), .int .i64 ((rd_T106 l1 x26_1).f1), .slice A687_2 ((rd_T106 l1 x26_1).f2).length c687_2] 106 (0, 0))) ∧ (w'.heap[s_.2]? = some (.cells #[.int .i64 0, .int .i64 0, .slice none 0 0] 106 (0, 0))) ∧ (w.heap.size ≤ s_.2) ∧ (w.heap.size ≤ s_.2) ∧ (gb688 ≠ s_.2) ∧ (s_.2 ≠ gb688) ∧ (Below w.heap.size w w')) ?_ ?_
               rotate_left
               ·intro hCont
                refine two_ (i := 19) (j := 21) (Ni := some 66) (Nj := some 14) #[Y,Y,Y,Y,Y,Y,Y,Y,Y,Y,Y,Y,Y,Y,Y,Y,Y,Y,Y,Y,O,O,O] #[Y,Y,Y,Y,Y,Y,Y,Y,Y,Y,Y,Y,Y,Y,Y,Y,Y,Y,Y,O,O,Y,O] rfl rfl rfl rfl (two_of HT_.out (by kernel_rfl)) (by decide) (by decide) (fun K hK => ?_) (fun K hK => ?_)
                ·skip
                 refine goes_ Try.func65 (by kernel_rfl) rfl #[.slice A74 ((((rd_T106 l1 x26_1).f2).take ((wrap64 ((((rd_T106 l1 x26_1).f2).length : Int) - t691)) : Int).toNat).drop (t690 : Int).toNat).length (c687_2 - t690.toNat)] (by rfl) rfl rfl (by (try simp only [List.map_toArray, List.map_cons, List.map_nil]); first | done | (rw [show ((((rd_T106 l1 x26_1).f2).take ((wrap64 ((((rd_T106 l1 x26_1).f2).length : Int) - t691)) : Int).toNat).drop (t690 : Int).toNat).length = ((wrap64 ((((rd_T106 l1 x26_1).f2).length : Int) - t691)).toNat - t690.toNat) from (by rw [List.length_drop, List.length_take]; have h_ : ((wrap64 ((((rd_T106 l1 x26_1).f2).length : Int) - t691)) : Int) ≤ (((rd_T106 l1 x26_1).f2).length : Int) := oa; omega)] <;> rfl) | rfl | (simp only [List.length_drop, List.length_take]; rfl)) ?_
                 with_reducible refine (slices_Clone_string_string.calls _ _ ((((rd_T106 l1 x26_1).f2).take ((wrap64 ((((rd_T106 l1 x26_1).f2).length : Int) - t691)) : Int).toNat).drop (t690 : Int).toNat) t693 _ ?side1 ?side2 A19.out).mono ?_
                 (case side1 => exact zq (Kd.C_below HR692.out HB.out))
                 (case side2 => exact HC692.out)
                 rintro e w75 ⟨v694, rfl, ho0, hb⟩
                 refine ⟨_, rfl, ?_⟩
                 have n0_ := am (Kd.S_elder' (zs HO_8.out) (Kd.R_base ho0) hb)
                 have n1_ := am (Kd.R_lower ho0 (below_size (by repeat (first | (with_reducible first | exact HB.out | apply below_alloc | apply pw_below_drewN | apply below_drew1 | refine below_set ?_ GE688.out) | exact HB.out))))
                 have n2_ := am (blk_below (g := gb688) (o := .cells #[.int .i64 ((rd_T106 l1 x26_1).f0), .int .i64 ((rd_T106 l1 x26_1).f1), .slice A687_2 ((rd_T106 l1 x26_1).f2).length c687_2] 106 (0, 0)) (zk BK688.out) hb)
                 have n3_ := am (below_step (by repeat (first | (with_reducible first | exact HB.out | apply below_alloc | apply pw_below_drewN | apply below_drew1 | refine below_set ?_ GE688.out) | exact HB.out)) hb)
                 clear HO_8
                 clear BK688
                 clear HB
                 have HO_8 := n0_
                 have HO695 := n1_
                 have BK688 := n2_
                 have HB := n3_
                 clear n0_ n1_ n2_ n3_
                 (try clear hb)
                 (try clear hb2)
                 (try clear hk)
                 (try clear hi)
                 (try clear ho0)
                 obtain ⟨Ao76, co76, eo76⟩ := Kd.R_slice HO695.out
                 (first | subst eo76 | (injection eo76 with f1_ f2_ f3_; have f4_ := f1_.symm; have f5_ := f3_.symm; clear f1_ f2_ f3_; subst f4_; subst f5_))
                 refine hK.out _ _ ⟨(blk_cell BK688.out 0).trans rfl, (blk_cell BK688.out 1).trans rfl, (blk_cell BK688.out 2).trans rfl⟩ (fun hHeld => ?_)
                 clear hK K
                 refine norm_ (a' := ?_) ?_ ?_
                 rotate_left
                 ·show Act.put _ (some 66) _ = _
                  simp only [Act.put,qa,qb,qc,i64_w,i32_w]
                  rfl
                 refine pure_ (i := 20) (N := some 67) (v := ?_) (a' := ?_) #[Y,Y,Y,Y,Y,Y,Y,Y,Y,Y,Y,Y,Y,Y,Y,Y,Y,Y,Y,Y,Y,O,O] rfl rfl zx (fun _ _ _ h => h) (Or.inl ⟨by rfl, ?_⟩) ?_ ?_
                 rotate_left; (intro w'; go_simp; with_reducible rfl); rotate_left; (simp only [Act.put,qa,qb,qc,i64_w,i32_w]; rfl)
                 refine one_ (i := 21) (N := some 14) #[Y,Y,Y,Y,Y,Y,Y,Y,Y,Y,Y,Y,Y,Y,Y,Y,Y,Y,Y,Y,Y,Y,O] rfl rfl (one_of HT_.out (by kernel_rfl)) (by decide) (fun K hK => ?_)
                 refine box_step ?hg (N := 14) ?hd (cs := #[.int .i64 0, .int .i64 0, .slice none 0 0]) (t := 106) ?hr ?_; (case hd => rfl); (case hg => rfl); (case hr => first | (go_simp; done) | (go_simp; rfl))
                 intro gb696 hg w77 hbox hb
                 have n0_ := am (Kd.S_below (Kd.S_elderB (zs HO_8.out) gb696 (Nat.le_of_eq hg.symm)) hb)
                 have n1_ := am (Kd.R_below (zr HO695.out) hb)
                 have n2_ := am (blk_below (g := gb688) (o := .cells #[.int .i64 ((rd_T106 l1 x26_1).f0), .int .i64 ((rd_T106 l1 x26_1).f1), .slice A687_2 ((rd_T106 l1 x26_1).f2).length c687_2] 106 (0, 0)) (zk BK688.out) hb)
                 have n3_ := am (below_step (by repeat (first | (with_reducible first | exact HB.out | apply below_alloc | apply pw_below_drewN | apply below_drew1 | refine below_set ?_ GE688.out) | exact HB.out)) hb)
                 have n4_ := am (hbox)
                 have n5_ := am ((by rw [hg]; exact (below_size (by repeat (first | (with_reducible first | exact HB.out | apply below_alloc | apply pw_below_drewN | apply below_drew1 | refine below_set ?_ GE688.out) | exact HB.out))) : w.heap.size ≤ gb696))
                 have n6_ := am ((by rw [hg]; exact (below_size (by repeat (first | (with_reducible first | exact HB.out | apply below_alloc | apply pw_below_drewN | apply below_drew1 | refine below_set ?_ GE688.out) | exact HB.out))) : w.heap.size ≤ gb696))
                 have n7_ := am ((by rw [hg]; exact Nat.ne_of_lt (blk_lt (g := gb688) (o := .cells #[.int .i64 ((rd_T106 l1 x26_1).f0), .int .i64 ((rd_T106 l1 x26_1).f1), .slice A687_2 ((rd_T106 l1 x26_1).f2).length c687_2] 106 (0, 0)) (zk BK688.out)) : gb688 ≠ gb696))
                 have n8_ := am ((by rw [hg]; exact Nat.ne_of_gt (blk_lt (g := gb688) (o := .cells #[.int .i64 ((rd_T106 l1 x26_1).f0), .int .i64 ((rd_T106 l1 x26_1).f1), .slice A687_2 ((rd_T106 l1 x26_1).f2).length c687_2] 106 (0, 0)) (zk BK688.out)) : gb696 ≠ gb688))
                 clear HO_8
                 clear HO695
                 clear BK688
                 clear HB
                 have HO_8 := n0_
                 have HO695 := n1_
                 have BK688 := n2_
                 have HB := n3_
                 have BK696 := n4_
                 have GW696 := n5_
                 have GE696 := n6_
                 have NB688_696 := n7_
                 have NB696_688 := n8_
                 clear n0_ n1_ n2_ n3_ n4_ n5_ n6_ n7_ n8_
                 clear hb hbox hg
                 refine hK.out _ _ ⟨(blk_cell BK688.out 0).trans rfl, (blk_cell BK688.out 1).trans rfl, (blk_cell BK688.out 2).trans rfl⟩ (fun hHeld => ?_)
                 clear hK K
                 refine norm_ (a' := ?_) ?_ ?_
                 rotate_left
                 ·show Act.put _ (some 14) _ = _
                  simp only [Act.put,qa,qb,qc,i64_w,i32_w]
                  rfl
                 exact norm_ (by simp only [putAll, Act.put, List.setIfInBounds_toArray, List.set_cons_zero, List.set_cons_succ]) (hCont (.slice Ao76 t693.length co76, gb696) _ ⟨hHeld, (zr HO695.out), (by (with_reducible repeat (first | apply Kd.S_alloc | apply Kd.S_drewN | apply Kd.S_drew)); exact Kd.S_mono HO_8.out (fun _ hk => ⟨hk.1.2, ⟨hk.1.1, hk.2⟩⟩)), (zk BK688.out), (zk BK696.out), GW696.out, GE696.out, NB688_696.out, NB696_688.out, (by repeat (first | (with_reducible first | exact HB.out | apply below_alloc | apply pw_below_drewN | apply below_drew1 | refine below_set ?_ GE688.out | refine below_set ?_ GE696.out) | exact HB.out))⟩)
                ·skip
                 refine box_step ?hg (N := 14) ?hd (cs := #[.int .i64 0, .int .i64 0, .slice none 0 0]) (t := 106) ?hr ?_; (case hd => rfl); (case hg => rfl); (case hr => first | (go_simp; done) | (go_simp; rfl))
                 intro gb696 hg w75 hbox hb
                 have n0_ := am (Kd.S_below (Kd.S_elderB (zs HO_8.out) gb696 (Nat.le_of_eq hg.symm)) hb)
                 have n1_ := am (blk_below (g := gb688) (o := .cells #[.int .i64 ((rd_T106 l1 x26_1).f0), .int .i64 ((rd_T106 l1 x26_1).f1), .slice A687_2 ((rd_T106 l1 x26_1).f2).length c687_2] 106 (0, 0)) (zk BK688.out) hb)
                 have n2_ := am (below_step (by repeat (first | (with_reducible first | exact HB.out | apply below_alloc | apply pw_below_drewN | apply below_drew1 | refine below_set ?_ GE688.out) | exact HB.out)) hb)
                 have n3_ := am (hbox)
                 have n4_ := am ((by rw [hg]; exact (below_size (by repeat (first | (with_reducible first | exact HB.out | apply below_alloc | apply pw_below_drewN | apply below_drew1 | refine below_set ?_ GE688.out) | exact HB.out))) : w.heap.size ≤ gb696))
                 have n5_ := am ((by rw [hg]; exact (below_size (by repeat (first | (with_reducible first | exact HB.out | apply below_alloc | apply pw_below_drewN | apply below_drew1 | refine below_set ?_ GE688.out) | exact HB.out))) : w.heap.size ≤ gb696))
                 have n6_ := am ((by rw [hg]; exact Nat.ne_of_lt (blk_lt (g := gb688) (o := .cells #[.int .i64 ((rd_T106 l1 x26_1).f0), .int .i64 ((rd_T106 l1 x26_1).f1), .slice A687_2 ((rd_T106 l1 x26_1).f2).length c687_2] 106 (0, 0)) (zk BK688.out)) : gb688 ≠ gb696))
                 have n7_ := am ((by rw [hg]; exact Nat.ne_of_gt (blk_lt (g := gb688) (o := .cells #[.int .i64 ((rd_T106 l1 x26_1).f0), .int .i64 ((rd_T106 l1 x26_1).f1), .slice A687_2 ((rd_T106 l1 x26_1).f2).length c687_2] 106 (0, 0)) (zk BK688.out)) : gb696 ≠ gb688))
                 clear HO_8
                 clear BK688
                 clear HB
                 have HO_8 := n0_
                 have BK688 := n1_
                 have HB := n2_
                 have BK696 := n3_
                 have GW696 := n4_
                 have GE696 := n5_
                 have NB688_696 := n6_
                 have NB696_688 := n7_
                 clear n0_ n1_ n2_ n3_ n4_ n5_ n6_ n7_
                 clear hb hbox hg
                 refine hK.out _ _ ⟨(blk_cell BK688.out 0).trans rfl, (blk_cell BK688.out 1).trans rfl, (blk_cell BK688.out 2).trans rfl⟩ (fun hHeld => ?_)
                 clear hK K
                 refine norm_ (a' := ?_) ?_ ?_
                 rotate_left
                 ·show Act.put _ (some 14) _ = _
                  simp only [Act.put,qa,qb,qc,i64_w,i32_w]
                  rfl
                 refine one_ (i := 19) (N := some 66) #[Y,Y,Y,Y,Y,Y,Y,Y,Y,Y,Y,Y,Y,Y,Y,Y,Y,Y,Y,Y,O,Y,O] rfl rfl (one_of HT_.out (by kernel_rfl)) (by decide) (fun K hK => ?_)
                 refine goes_ Try.func65 (by kernel_rfl) rfl #[.slice A74 ((((rd_T106 l1 x26_1).f2).take ((wrap64 ((((rd_T106 l1 x26_1).f2).length : Int) - t691)) : Int).toNat).drop (t690 : Int).toNat).length (c687_2 - t690.toNat)] (by rfl) rfl rfl (by (try simp only [List.map_toArray, List.map_cons, List.map_nil]); first | done | (rw [show ((((rd_T106 l1 x26_1).f2).take ((wrap64 ((((rd_T106 l1 x26_1).f2).length : Int) - t691)) : Int).toNat).drop (t690 : Int).toNat).length = ((wrap64 ((((rd_T106 l1 x26_1).f2).length : Int) - t691)).toNat - t690.toNat) from (by rw [List.length_drop, List.length_take]; have h_ : ((wrap64 ((((rd_T106 l1 x26_1).f2).length : Int) - t691)) : Int) ≤ (((rd_T106 l1 x26_1).f2).length : Int) := oa; omega)] <;> rfl) | rfl | (simp only [List.length_drop, List.length_take]; rfl)) ?_
                 with_reducible refine (slices_Clone_string_string.calls _ _ ((((rd_T106 l1 x26_1).f2).take ((wrap64 ((((rd_T106 l1 x26_1).f2).length : Int) - t691)) : Int).toNat).drop (t690 : Int).toNat) t693 _ ?side1 ?side2 A19.out).mono ?_
                 (case side1 => exact zq (Kd.C_below HR692.out HB.out))
                 (case side2 => exact HC692.out)
                 rintro e w76 ⟨v694, rfl, ho0, hb⟩
                 refine ⟨_, rfl, ?_⟩
                 have n0_ := am (Kd.S_elder' (zs HO_8.out) (Kd.R_base ho0) hb)
                 have n1_ := am (Kd.R_lower ho0 (below_size (by repeat (first | (with_reducible first | exact HB.out | apply below_alloc | apply pw_below_drewN | apply below_drew1 | refine below_set ?_ GE688.out | refine below_set ?_ GE696.out) | exact HB.out))))
                 have n2_ := am (blk_below (g := gb688) (o := .cells #[.int .i64 ((rd_T106 l1 x26_1).f0), .int .i64 ((rd_T106 l1 x26_1).f1), .slice A687_2 ((rd_T106 l1 x26_1).f2).length c687_2] 106 (0, 0)) (zk BK688.out) hb)
                 have n3_ := am (blk_below (g := gb696) (o := .cells #[.int .i64 0, .int .i64 0, .slice none 0 0] 106 (0, 0)) (zk BK696.out) hb)
                 have n4_ := am (below_step (by repeat (first | (with_reducible first | exact HB.out | apply below_alloc | apply pw_below_drewN | apply below_drew1 | refine below_set ?_ GE688.out | refine below_set ?_ GE696.out) | exact HB.out)) hb)
                 clear HO_8
                 clear BK688
                 clear BK696
                 clear HB
                 have HO_8 := n0_
                 have HO695 := n1_
                 have BK688 := n2_
                 have BK696 := n3_
                 have HB := n4_
                 clear n0_ n1_ n2_ n3_ n4_
                 (try clear hb)
                 (try clear hb2)
                 (try clear hk)
                 (try clear hi)
                 (try clear ho0)
                 obtain ⟨Ao77, co77, eo77⟩ := Kd.R_slice HO695.out
                 (first | subst eo77 | (injection eo77 with f1_ f2_ f3_; have f4_ := f1_.symm; have f5_ := f3_.symm; clear f1_ f2_ f3_; subst f4_; subst f5_))
                 refine hK.out _ _ ⟨(blk_cell BK688.out 0).trans rfl, (blk_cell BK688.out 1).trans rfl, (blk_cell BK688.out 2).trans rfl⟩ (fun hHeld => ?_)
                 clear hK K
                 refine norm_ (a' := ?_) ?_ ?_
                 rotate_left
                 ·show Act.put _ (some 66) _ = _
                  simp only [Act.put,qa,qb,qc,i64_w,i32_w]
                  rfl
                 refine pure_ (i := 20) (N := some 67) (v := ?_) (a' := ?_) #[Y,Y,Y,Y,Y,Y,Y,Y,Y,Y,Y,Y,Y,Y,Y,Y,Y,Y,Y,Y,Y,Y,O] rfl rfl zx (fun _ _ _ h => h) (Or.inl ⟨by rfl, ?_⟩) ?_ ?_
                 rotate_left; (intro w'; go_simp; with_reducible rfl); rotate_left; (simp only [Act.put,qa,qb,qc,i64_w,i32_w]; rfl)
                 exact norm_ (by simp only [putAll, Act.put, List.setIfInBounds_toArray, List.set_cons_zero, List.set_cons_succ]) (hCont (.slice Ao77 t693.length co77, gb696) _ ⟨hHeld, (zr HO695.out), (by (with_reducible repeat (first | apply Kd.S_alloc | apply Kd.S_drewN | apply Kd.S_drew)); exact Kd.S_mono HO_8.out (fun _ hk => ⟨hk.2, ⟨hk.1.1, hk.1.2⟩⟩)), (zk BK688.out), (zk BK696.out), GW696.out, GE696.out, NB688_696.out, NB696_688.out, (by repeat (first | (with_reducible first | exact HB.out | apply below_alloc | apply pw_below_drewN | apply below_drew1 | refine below_set ?_ GE688.out | refine below_set ?_ GE696.out) | exact HB.out))⟩)
               rintro ⟨v694, gb696⟩ w78 ⟨hS_, h0_, h1_, h2_, h3_, h4_, h5_, h6_, h7_, h8_⟩
               have n0_ : Aside0 (Kd.R Kd.string 9 w78 w.heap.size (fun _ => True) v694 t693) := ⟨h0_⟩
               have n1_ : Aside0 (Kd.S k106 106 w78 w.heap.size (fun k_ => some k_ ≠ (v694 : Value).ownBlock ∧ k_ ≠ gb688 ∧ k_ ≠ gb696) u8 x8_1) := ⟨h1_⟩
               have n2_ : Aside0 (w78.heap[gb688]? = some (.cells #[.int .i64 ((rd_T106 l1 x26_1).f0), .int .i64 ((rd_T106 l1 x26_1).f1), .slice A687_2 ((rd_T106 l1 x26_1).f2).length c687_2] 106 (0, 0))) := ⟨h2_⟩
               have n3_ : Aside0 (w78.heap[gb696]? = some (.cells #[.int .i64 0, .int .i64 0, .slice none 0 0] 106 (0, 0))) := ⟨h3_⟩
               have n4_ : Aside0 (w.heap.size ≤ gb696) := ⟨h4_⟩
               have n5_ : Aside0 (w.heap.size ≤ gb696) := ⟨h5_⟩
               have n6_ : Aside0 (gb688 ≠ gb696) := ⟨h6_⟩
               have n7_ : Aside0 (gb696 ≠ gb688) := ⟨h7_⟩
               have n8_ : Aside0 (Below w.heap.size w w78) := ⟨h8_⟩
               clear HO_8
               clear BK688
               clear HB
               clear h0_ h1_ h2_ h3_ h4_ h5_ h6_ h7_ h8_
               have HO695 := n0_
               have HO_8 := n1_
               have BK688 := n2_
               have BK696 := n3_
               have GW696 := n4_
               have GE696 := n5_
               have NB688_696 := n6_
               have NB696_688 := n7_
               have HB := n8_
               clear n0_ n1_ n2_ n3_ n4_ n5_ n6_ n7_ n8_
               have hHeld : w78.cell? ⟨gb688, 0, none⟩ = some (.int .i64 ((rd_T106 l1 x26_1).f0)) ∧ w78.cell? ⟨gb688, 1, none⟩ = some (.int .i64 ((rd_T106 l1 x26_1).f1)) ∧ w78.cell? ⟨gb688, 2, none⟩ = some (.slice A687_2 ((rd_T106 l1 x26_1).f2).length c687_2) := hS_
               obtain ⟨Ao79, co79, eo79⟩ := Kd.R_slice HO695.out
               (first | subst eo79 | (injection eo79 with f1_ f2_ f3_; have f4_ := f1_.symm; have f5_ := f3_.symm; clear f1_ f2_ f3_; subst f4_; subst f5_))
               refine norm_ (a' := ?_) ?_ ?_
               rotate_left
               ·simp only [putAll, Act.put, List.setIfInBounds_toArray, List.set_cons_zero, List.set_cons_succ]
                rfl
               refine one_ (i := 22) (N := none) #[Y,Y,Y,Y,Y,Y,Y,Y,Y,Y,Y,Y,Y,Y,Y,Y,Y,Y,Y,Y,Y,Y,Y] rfl rfl (one_of HT_.out (by kernel_rfl)) (by decide) (fun K hK => ?_)
               have hs80 : w78.cell? ⟨gb696, 0, none⟩ = some (.int .i64 0) := (blk_cell BK696.out 0).trans rfl
               have hfs80 := blk_frozen BK696.out 0
               have hns80_0 := NB688_696.out
               have hms80_0 := NB696_688.out
               have hs81 : w78.cell? ⟨gb696, 1, none⟩ = some (.int .i64 0) := (blk_cell BK696.out 1).trans rfl
               have hfs81 := blk_frozen BK696.out 1
               have hns81_0 := NB688_696.out
               have hms81_0 := NB696_688.out
               have hs82 : w78.cell? ⟨gb696, 2, none⟩ = some (.slice none 0 0) := (blk_cell BK696.out 2).trans rfl
               have hfs82 := blk_frozen BK696.out 2
               have hns82_0 := NB688_696.out
               have hms82_0 := NB696_688.out
               refine skip_ (w1 := ?_) (by rfl) rfl ?_ ?_
               rotate_left
               ·go_simp
                rfl
               refine hK.out _ _ ⟨((cell_far (p := ⟨gb696, _, none⟩) NB688_696.out _).trans (((cell_far (p := ⟨gb696, _, none⟩) NB688_696.out _).trans (((cell_far (p := ⟨gb696, _, none⟩) NB688_696.out _).trans (hHeld.1)))))), ((cell_far (p := ⟨gb696, _, none⟩) NB688_696.out _).trans (((cell_far (p := ⟨gb696, _, none⟩) NB688_696.out _).trans (((cell_far (p := ⟨gb696, _, none⟩) NB688_696.out _).trans (hHeld.2.1)))))), ((cell_far (p := ⟨gb696, _, none⟩) NB688_696.out _).trans (((cell_far (p := ⟨gb696, _, none⟩) NB688_696.out _).trans (((cell_far (p := ⟨gb696, _, none⟩) NB688_696.out _).trans (hHeld.2.2))))))⟩ (fun hHeld => ?_)
               clear hK K
               refine done_ (done_of HT_.out (by kernel_rfl)) ?_
               have hnb83 := NB696_688.out
               have hnc83 := NB688_696.out
               have hcz84_0 : w78.cell? ⟨gb696, 0, none⟩ = some (.int .i64 0) := (blk_cell BK696.out 0).trans rfl
               have hcz84_1 : w78.cell? ⟨gb696, 1, none⟩ = some (.int .i64 0) := (blk_cell BK696.out 1).trans rfl
               have hcz84_2 : w78.cell? ⟨gb696, 2, none⟩ = some (.slice none 0 0) := (blk_cell BK696.out 2).trans rfl
               have hfz84_0 := blk_frozen BK696.out 0
               have hfz84_1 := blk_frozen BK696.out 1
               have hfz84_2 := blk_frozen BK696.out 2
               try go_wp2
               go_roundg k1
               case measure => have := HK1.out; omega
               case rel => exact ⟨(x8_1), (wrap64 (x26_1 + 1)), zf, H', ⟨by have := HK1.out; omega⟩, ⟨by (with_reducible repeat (first | apply Kd.S_alloc | apply Kd.S_drewN | apply Kd.S_drew)); exact Kd.S_mono (Kd.S_far (p := ⟨gb696, 2, none⟩) (Kd.S_far (p := ⟨gb696, 1, none⟩) (Kd.S_far (p := ⟨gb696, 0, none⟩) (Kd.S_mono HO_8.out (fun k_ hk => (⟨hk, hk.2.2⟩ : _ ∧ k_ ≠ gb696))) (fun _ hk => hk.2) (.int .i64 (wrap64 (((rd_T106 l1 x26_1).f0) + t690)))) (fun _ hk => hk.2) (.int .i64 (wrap64 ((wrap64 (((rd_T106 l1 x26_1).f1) - t690)) - t691)))) (fun _ hk => hk.2) (.slice Ao79 t693.length co79)) (fun _ hk => trivial)⟩, ⟨by repeat (first | (with_reducible first | exact HB.out | apply below_alloc | apply pw_below_drewN | apply below_drew1 | refine below_set ?_ GE688.out | refine below_set ?_ GE696.out) | exact HB.out)⟩⟩
            ·rw [if_neg c18] at H
             exact absurd H (by simp)
           ·rw [if_neg c17] at H
            exact absurd H (by simp)
          ·rw [if_neg c16] at H
           exact absurd H (by simp)
         ·rw [if_neg c13] at H
          exact absurd H (by simp)
        ·rw [if_neg c12] at H
         exact absurd H (by simp)
       ·rw [if_neg c11] at H
        exact absurd H (by simp)
      ·rw [if_neg c10] at H
       exact absurd H (by simp)
     ·rw [if_neg c9] at H
      exact absurd H (by simp)
    ·rw [if_neg c8] at H
     have c8b0 : decide (x26_1 < (l1.length : Int)) = false := decide_eq_false c8
     clear c8
     simp only [Option.some.injEq, Prod.mk.injEq] at H
     obtain ⟨rfl, rfl⟩ := H
     go_wp2
     go_ret2
     exact ⟨_, by first | rfl | (simp [errW_none, errW_some] <;> rfl) | (simp [*, errW_none, errW_some] <;> rfl), by (with_reducible repeat (first | apply Kd.S_alloc | apply Kd.S_drewN | apply Kd.S_drew)); exact HO_8.out, by repeat (first | (with_reducible first | exact HB.out | apply below_alloc | apply pw_below_drewN | apply below_drew1) | exact HB.out)⟩
 ·replace c4 := Bool.eq_false_iff.mpr c4
  subst c4
  have H1 : (some (([] : List (S106)), false)) = some (r1, r2) := by rw [if_neg (show ¬ (false = true) by decide)] at H; exact H
  clear H
  have H := H1
  clear H1
  simp only [Option.some.injEq, Prod.mk.injEq] at H
  obtain ⟨rfl, rfl⟩ := H
  go_enter Try.func29, Try.ntmps29
  go_wp2_with (first | ((with_reducible refine gateC (f := 32) rfl ?_); refine goesL_ (some 18) rfl rfl Try.func32 (by kernel_rfl) rfl #[.slice A0 l0.length c0, .slice A1 l1.length c1] rfl zm ?_; (with_reducible refine (impl_Patch.calls k _ _ l0 _ _ l1 t680 false _ ?side1 ?side2 ?side3 ?side4 A3.out).mono ?_); (case side1 => exact zq HR0.out); (case side2 => exact HC0.out); (case side3 => exact zq HR1.out); (case side4 => exact HC1.out); rintro e w85 ⟨v682, rfl, ho0, hb⟩; refine ⟨_, rfl, ?_⟩; have n0_ := am (Kd.R_lower ho0 (below_size zb)); have n1_ := am (below_step zb hb); clear HB; have HO683 := n0_; have HB := n1_; clear n0_ n1_; (try clear hb); (try clear ho0)))
  go_ret2
  exact ⟨_, by first | rfl | (simp [errW_none, errW_some] <;> rfl) | (simp [*, errW_none, errW_some] <;> rfl), by first | exact Kd.S_nil _ _ _ _ _ | exact Kd.Q_nil _ _ _ _ _ | exact Kd.R_nil _ _ _ _ _, by repeat (first | (with_reducible first | exact HB.out | apply below_alloc | apply pw_below_drewN | apply below_drew1) | exact HB.out)⟩
end Go.Proofs.Ytmcldkobejhaeaa.My
/- Written by this session's program (wip/gen): a plain function with the same answers as the Go function, and the proof that the Go code comes to them. Asked: that the plain function has an answer. -/
namespace Go.Proofs.Ytmcldkobejhaeaa.My
open Go.RowKit Go.Proofs.YtmcldkobejhaeaaW.PrintWords Go.Proofs.YtmcldkobejhaeaaW.PrintLast Go.Proofs.YtmcldkobejhaeaaW.PrintMore
attribute [local go_sem] max2_int min2_int max_two min_two max_three min_three max_four min_four
set_option linter.unusedVariables false
set_option linter.unusedSimpArgs false
def laws_big.f (l0 : List Int) (l1 : List Int) : Option (Bool) := if (l0.length : Int) > 1048576 then (some true) else (some (decide ((l1.length : Int) > (wrap64 (1048576 - (l0.length : Int))))))
set_option maxHeartbeats 8000000 in
set_option maxRecDepth 100000 in
theorem laws_big.calls (A0 : Option Addr) (c0 : Nat) (l0 : List Int) (A1 : Option Addr) (c1 : Nat) (l1 : List Int) (r : Bool) (w : World) (hr0 : Kd.C (Kd.int .u8) w A0 l0.length l0) (hc0 : l0.length ≤ c0) (hr1 : Kd.C (Kd.int .u8) w A1 l1.length l1) (hc1 : l1.length ≤ c1) (h : laws_big.f l0 l1 = some r) :
  Calls Try.prog 9 #[.slice A0 l0.length c0, .slice A1 l1.length c1] w fun e w' => e = .returned (.bool r) ∧ Drawn0 w w' := by
 have HR0 := am hr0
 have HC0 := am hc0
 clear hr0 hc0
 have HR1 := am hr1
 have HC1 := am hc1
 clear hr1 hc1
 have H : (if (l0.length : Int) > 1048576 then (some true) else (some (decide ((l1.length : Int) > (wrap64 (1048576 - (l0.length : Int))))))) = some r := h
 clear h
 by_cases c3 : (l0.length : Int) > 1048576
 ·rw [if_pos c3] at H
  have c3b0 : decide (1048576 < (l0.length : Int)) = true := decide_eq_true c3
  have c3b1 : decide (1048576 < l0.length) = true := decide_eq_true (by omega)
  clear c3
  obtain rfl := Option.some.inj H
  go_enter Try.func9, Try.ntmps9
  go_wp2
  go_ret
  exact ⟨by first | rfl | (simp; done) | (simp [*]; done), by repeat (first | exact Drawn0.refl _ | apply Drawn0.step)⟩
 ·rw [if_neg c3] at H
  have c3b0 : decide (1048576 < (l0.length : Int)) = false := decide_eq_false c3
  have c3b1 : decide (1048576 < l0.length) = false := decide_eq_false (by omega)
  clear c3
  obtain rfl := Option.some.inj H
  go_enter Try.func9, Try.ntmps9
  go_wp2
  go_ret
  exact ⟨by first | rfl | (simp; done) | (simp [*]; done), by repeat (first | exact Drawn0.refl _ | apply Drawn0.step)⟩
end Go.Proofs.Ytmcldkobejhaeaa.My
/- Written by this session's program (wip/gen): a plain function with the same answers as the Go function, and the proof that the Go code comes to them. Asked: that the plain function has an answer. -/
namespace Go.Proofs.Ytmcldkobejhaeaa.My
open Go.RowKit Go.Proofs.YtmcldkobejhaeaaW.PrintWords Go.Proofs.YtmcldkobejhaeaaW.PrintLast Go.Proofs.YtmcldkobejhaeaaW.PrintMore
attribute [local go_sem] max2_int min2_int max_two min_two max_three min_three max_four min_four
set_option linter.unusedVariables false
set_option linter.unusedSimpArgs false
def laws_sameTexts.l0 : Nat → List ByteArray → List ByteArray → Int → Int → Option (Bool)
 | 0, _, _, _, _ => none
 | k + 1, x0, x1, x12, x13 => if x13 < x12 then (if 0 ≤ x13 then (if x13 < (x0.length : Int) then (if x13 < (x1.length : Int) then (if (rdOf ByteArray.empty x0 x13).toList = (rdOf ByteArray.empty x1 x13).toList then (laws_sameTexts.l0 k x0 x1 x12 (wrap64 (x13 + 1))) else (some false)) else (none)) else (none)) else (none)) else (some true)
def laws_sameTexts.f (k : Nat) (l0 : List ByteArray) (l1 : List ByteArray) : Option (Bool) := if (l0.length : Int) = (l1.length : Int) then (laws_sameTexts.l0 k l0 l1 (l0.length : Int) 0) else (some false)
set_option maxHeartbeats 8000000 in
set_option maxRecDepth 100000 in
theorem laws_sameTexts.calls (k : Nat) (A0 : Option Addr) (c0 : Nat) (l0 : List ByteArray) (A1 : Option Addr) (c1 : Nat) (l1 : List ByteArray) (r : Bool) (w : World) (hr0 : Kd.C Kd.string w A0 l0.length l0) (hc0 : l0.length ≤ c0) (hr1 : Kd.C Kd.string w A1 l1.length l1) (hc1 : l1.length ≤ c1) (h : laws_sameTexts.f k l0 l1 = some r) :
  Calls Try.prog 13 #[.slice A0 l0.length c0, .slice A1 l1.length c1] w fun e w' => e = .returned (.bool r) ∧ Drawn0 w w' := by
 have HR0 := am hr0
 have HC0 := am hc0
 clear hr0 hc0
 have HR1 := am hr1
 have HC1 := am hc1
 clear hr1 hc1
 have H : (if (l0.length : Int) = (l1.length : Int) then (laws_sameTexts.l0 k l0 l1 (l0.length : Int) 0) else (some false)) = some r := h
 clear h
 by_cases c3 : (l0.length : Int) = (l1.length : Int)
 ·rw [if_pos c3] at H
  have c3b0 : ((l0.length : Int) == (l1.length : Int)) = true := beq_iff_eq.mpr c3
  have c3b1 : ((l0.length : Int) != (l1.length : Int)) = false := bne_eq_false_iff_eq.mpr c3
  have c3b2 : (l0.length == l1.length) = true := by first | simpa using c3 | (simp at c3 ⊢; omega)
  clear c3
  have H' := am H
  clear H
  go_enter Try.func13, Try.ntmps13
  go_wp2
  repeat (go_quiet (fail); try go_wp2)
  go_loopg [13] k (fun kq v13 w' => ∃ (x13_1 : Int), v13 = .int .i64 x13_1 ∧ Aside0 (laws_sameTexts.l0 kq l0 l1 (l0.length : Int) x13_1 = some r) ∧ Aside0 (kq ≤ k) ∧ Drawn0 w w')
  case atStart => exact ⟨(0), zf, H', ⟨Nat.le_refl _⟩, by repeat (first | exact Drawn0.refl _ | apply Drawn0.step)⟩
  case round =>
   clear H'
   try clear c1
   try clear p2
   try clear c3
   try clear c3b0
   try clear c3b1
   try clear c3b2
   obtain ⟨x13_1, rfl, HA, HK1, ⟨m1, rfl⟩⟩ := hrel
   cases gk with
   | zero => exact absurd HA.out (by simp [laws_sameTexts.l0])
   | succ k1 =>
    have H := HA.out
    clear HA
    simp only [laws_sameTexts.l0] at H
    by_cases c4 : x13_1 < (l0.length : Int)
    ·rw [if_pos c4] at H
     have c4b0 : decide (x13_1 < (l0.length : Int)) = true := decide_eq_true c4
     clear c4
     by_cases c5 : 0 ≤ x13_1
     ·rw [if_pos c5] at H
      have c5b0 : decide (0 ≤ x13_1) = true := decide_eq_true c5
      clear c5
      by_cases c6 : x13_1 < (l0.length : Int)
      ·rw [if_pos c6] at H
       have c6b0 : decide (x13_1 < (l0.length : Int)) = true := decide_eq_true c6
       clear c6
       by_cases c7 : x13_1 < (l1.length : Int)
       ·rw [if_pos c7] at H
        have c7b0 : decide (x13_1 < (l1.length : Int)) = true := decide_eq_true c7
        clear c7
        by_cases c8 : (rdOf ByteArray.empty l0 x13_1).toList = (rdOf ByteArray.empty l1 x13_1).toList
        ·rw [if_pos c8] at H
         have c8b0 : ((rdOf ByteArray.empty l0 x13_1).toList == (rdOf ByteArray.empty l1 x13_1).toList) = true := beq_iff_eq.mpr c8
         have c8b1 : ((rdOf ByteArray.empty l0 x13_1).toList != (rdOf ByteArray.empty l1 x13_1).toList) = false := bne_eq_false_iff_eq.mpr c8
         clear c8
         have H' := am H
         clear H
         have p199 : 0 ≤ (x13_1 : Int) := oa
         have q199 : x13_1 < (l0.length : Int) := oa
         obtain ⟨ad199, e199, hx199_0⟩ := Kd.at_string HR0.out x13_1 p199 q199
         cases e199
         replace p199 := eq_true p199
         replace q199 := eq_true q199
         have p200 : 0 ≤ (x13_1 : Int) := oa
         have q200 : x13_1 < (l1.length : Int) := oa
         obtain ⟨ad200, e200, hx200_0⟩ := Kd.at_string HR1.out x13_1 p200 q200
         cases e200
         replace p200 := eq_true p200
         replace q200 := eq_true q200
         go_wp2
         repeat (go_quiet (fail); try go_wp2)
         go_roundg k1
         case measure => have := HK1.out; omega
         case rel => exact ⟨(wrap64 (x13_1 + 1)), zf, H', ⟨by have := HK1.out; omega⟩, by repeat (first | exact Drawn0.refl _ | apply Drawn0.step)⟩
        ·rw [if_neg c8] at H
         have c8b0 : ((rdOf ByteArray.empty l0 x13_1).toList == (rdOf ByteArray.empty l1 x13_1).toList) = false := beq_eq_false_iff_ne.mpr c8
         have c8b1 : ((rdOf ByteArray.empty l0 x13_1).toList != (rdOf ByteArray.empty l1 x13_1).toList) = true := bne_iff_ne.mpr c8
         obtain rfl := Option.some.inj H
         have p199 : 0 ≤ (x13_1 : Int) := oa
         have q199 : x13_1 < (l0.length : Int) := oa
         obtain ⟨ad199, e199, hx199_0⟩ := Kd.at_string HR0.out x13_1 p199 q199
         cases e199
         replace p199 := eq_true p199
         replace q199 := eq_true q199
         have p200 : 0 ≤ (x13_1 : Int) := oa
         have q200 : x13_1 < (l1.length : Int) := oa
         obtain ⟨ad200, e200, hx200_0⟩ := Kd.at_string HR1.out x13_1 p200 q200
         cases e200
         replace p200 := eq_true p200
         replace q200 := eq_true q200
         go_wp2
         repeat (go_quiet (fail); try go_wp2)
         go_ret
         exact ⟨by first | rfl | (simp; done) | (simp [*]; done), by repeat (first | exact Drawn0.refl _ | apply Drawn0.step)⟩
       ·rw [if_neg c7] at H
        exact absurd H (by simp)
      ·rw [if_neg c6] at H
       exact absurd H (by simp)
     ·rw [if_neg c5] at H
      exact absurd H (by simp)
    ·rw [if_neg c4] at H
     have c4b0 : decide (x13_1 < (l0.length : Int)) = false := decide_eq_false c4
     clear c4
     obtain rfl := Option.some.inj H
     go_wp2
     repeat (go_quiet (fail); try go_wp2)
     go_ret
     exact ⟨by first | rfl | (simp; done) | (simp [*]; done), by repeat (first | exact Drawn0.refl _ | apply Drawn0.step)⟩
 ·rw [if_neg c3] at H
  have c3b0 : ((l0.length : Int) == (l1.length : Int)) = false := beq_eq_false_iff_ne.mpr c3
  have c3b1 : ((l0.length : Int) != (l1.length : Int)) = true := bne_iff_ne.mpr c3
  have c3b2 : (l0.length == l1.length) = false := by first | simpa using c3 | (simp at c3 ⊢; omega)
  obtain rfl := Option.some.inj H
  go_enter Try.func13, Try.ntmps13
  go_wp2
  repeat (go_quiet (fail); try go_wp2)
  go_ret
  exact ⟨by first | rfl | (simp; done) | (simp [*]; done), by repeat (first | exact Drawn0.refl _ | apply Drawn0.step)⟩
end Go.Proofs.Ytmcldkobejhaeaa.My
/- Written by this session's program (wip/gen): a plain function with the same answers as the Go function, and the proof that the Go code comes to them. Asked: that the plain function has an answer. -/
namespace Go.Proofs.Ytmcldkobejhaeaa.My
open Go.RowKit Go.Proofs.YtmcldkobejhaeaaW.PrintWords Go.Proofs.YtmcldkobejhaeaaW.PrintLast Go.Proofs.YtmcldkobejhaeaaW.PrintMore
attribute [local go_sem] max2_int min2_int max_two min_two max_three min_three max_four min_four
set_option linter.unusedVariables false
set_option linter.unusedSimpArgs false
def laws_sameHunks.l0 : Nat → List (S106) → List (S106) → Int → Int → Option (Bool)
 | 0, _, _, _, _ => none
 | k + 1, x1, x12, x13, x14 => if x14 < x13 then (if 0 ≤ x14 then (if x14 < (x12.length : Int) then (if x14 < (x1.length : Int) then (if ((rd_T106 x12 x14).f0) = ((rd_T106 x1 x14).f0) then (if ((rd_T106 x12 x14).f1) = ((rd_T106 x1 x14).f1) then ((laws_sameTexts.f k ((rd_T106 x12 x14).f2) ((rd_T106 x1 x14).f2)).bind fun t752 => (if t752 = true then (laws_sameHunks.l0 k x1 x12 x13 (wrap64 (x14 + 1))) else (some false))) else (some false)) else (some false)) else (none)) else (none)) else (none)) else (some true)
def laws_sameHunks.f (k : Nat) (l0 : List (S106)) (l1 : List (S106)) : Option (Bool) := if (l0.length : Int) = (l1.length : Int) then (laws_sameHunks.l0 k l1 l0 (l0.length : Int) 0) else (some false)
set_option maxHeartbeats 8000000 in
set_option maxRecDepth 100000 in
theorem laws_sameHunks.calls (k : Nat) (A0 : Option Addr) (c0 : Nat) (l0 : List (S106)) (A1 : Option Addr) (c1 : Nat) (l1 : List (S106)) (r : Bool) (w : World) (hr0 : Kd.C k106 w A0 l0.length l0) (hc0 : l0.length ≤ c0) (hr1 : Kd.C k106 w A1 l1.length l1) (hc1 : l1.length ≤ c1) (h : laws_sameHunks.f k l0 l1 = some r) :
  Calls Try.prog 31 #[.slice A0 l0.length c0, .slice A1 l1.length c1] w fun e w' => e = .returned (.bool r) ∧ Below w.heap.size w w' := by
 have hu106 := Try.underlying106
 have HR0 := am hr0
 have HC0 := am hc0
 clear hr0 hc0
 have HR1 := am hr1
 have HC1 := am hc1
 clear hr1 hc1
 have HB := am (Below.refl w.heap.size w)
 have H : (if (l0.length : Int) = (l1.length : Int) then (laws_sameHunks.l0 k l1 l0 (l0.length : Int) 0) else (some false)) = some r := h
 clear h
 by_cases c3 : (l0.length : Int) = (l1.length : Int)
 ·rw [if_pos c3] at H
  have c3b0 : ((l0.length : Int) == (l1.length : Int)) = true := beq_iff_eq.mpr c3
  have c3b1 : ((l0.length : Int) != (l1.length : Int)) = false := bne_eq_false_iff_eq.mpr c3
  have c3b2 : (l0.length == l1.length) = true := by first | simpa using c3 | (simp at c3 ⊢; omega)
  clear c3
  have H' := am H
  clear H
  go_enter Try.func31, Try.ntmps31
  go_wp2
  repeat (go_quiet (fail); try go_wp2)
  go_loopg [14] k (fun kq v14 w' => ∃ (x14_1 : Int), v14 = .int .i64 x14_1 ∧ Aside0 (laws_sameHunks.l0 kq l1 l0 (l0.length : Int) x14_1 = some r) ∧ Aside0 (kq ≤ k) ∧ Aside0 (Below w.heap.size w w'))
  case atStart => exact ⟨(0), zf, H', ⟨Nat.le_refl _⟩, ⟨by repeat (first | (with_reducible first | exact HB.out | apply below_alloc | apply pw_below_drewN | apply below_drew1) | exact HB.out)⟩⟩
  case round =>
   clear H'
   try clear c1
   try clear p2
   try clear c3
   try clear c3b0
   try clear c3b1
   try clear c3b2
   obtain ⟨x14_1, rfl, HA, HK1, HB⟩ := hrel
   cases gk with
   | zero => exact absurd HA.out (by simp [laws_sameHunks.l0])
   | succ k1 =>
    have H := HA.out
    clear HA
    simp only [laws_sameHunks.l0] at H
    by_cases c4 : x14_1 < (l0.length : Int)
    ·rw [if_pos c4] at H
     have c4b0 : decide (x14_1 < (l0.length : Int)) = true := decide_eq_true c4
     clear c4
     by_cases c5 : 0 ≤ x14_1
     ·rw [if_pos c5] at H
      have c5b0 : decide (0 ≤ x14_1) = true := decide_eq_true c5
      clear c5
      by_cases c6 : x14_1 < (l0.length : Int)
      ·rw [if_pos c6] at H
       have c6b0 : decide (x14_1 < (l0.length : Int)) = true := decide_eq_true c6
       clear c6
       by_cases c7 : x14_1 < (l1.length : Int)
       ·rw [if_pos c7] at H
        have c7b0 : decide (x14_1 < (l1.length : Int)) = true := decide_eq_true c7
        clear c7
        by_cases c8 : ((rd_T106 l0 x14_1).f0) = ((rd_T106 l1 x14_1).f0)
        ·rw [if_pos c8] at H
         have c8b0 : (((rd_T106 l0 x14_1).f0) == ((rd_T106 l1 x14_1).f0)) = true := beq_iff_eq.mpr c8
         have c8b1 : (((rd_T106 l0 x14_1).f0) != ((rd_T106 l1 x14_1).f0)) = false := bne_eq_false_iff_eq.mpr c8
         clear c8
         by_cases c9 : ((rd_T106 l0 x14_1).f1) = ((rd_T106 l1 x14_1).f1)
         ·rw [if_pos c9] at H
          have c9b0 : (((rd_T106 l0 x14_1).f1) == ((rd_T106 l1 x14_1).f1)) = true := beq_iff_eq.mpr c9
          have c9b1 : (((rd_T106 l0 x14_1).f1) != ((rd_T106 l1 x14_1).f1)) = false := bne_eq_false_iff_eq.mpr c9
          clear c9
          replace H := Option.bind_eq_some_iff.mp H
          obtain ⟨t752, A100, H⟩ := H
          replace H : (if t752 = true then (laws_sameHunks.l0 k1 l1 l0 (l0.length : Int) (wrap64 (x14_1 + 1))) else (some false)) = some r := H
          have A10 := am A100
          clear A100
          by_cases c11 : t752 = true
          ·subst c11
           have H1 : (laws_sameHunks.l0 k1 l1 l0 (l0.length : Int) (wrap64 (x14_1 + 1))) = some r := by rw [if_pos rfl] at H; exact H
           clear H
           have H := H1
           clear H1
           have H' := am H
           clear H
           have p747 : 0 ≤ (x14_1 : Int) := oa
           have q747 : x14_1 < (l0.length : Int) := oa
           obtain ⟨ad747, A747_2, c747_2, e747, hx747_0, hx747_1, hx747_2, hl747_2, hi747_2⟩ := at_T106 HR0.out x14_1 p747 q747
           cases e747
           replace hx747_0 := (HB.out.cell (World.block_lt_of_cell? w _ hx747_0)).trans hx747_0
           replace hx747_1 := (HB.out.cell (World.block_lt_of_cell? w _ hx747_1)).trans hx747_1
           replace hx747_2 := (HB.out.cell (World.block_lt_of_cell? w _ hx747_2)).trans hx747_2
           have HR747_2 := am hi747_2
           have HC747_2 := am hl747_2
           clear hi747_2 hl747_2
           replace p747 := eq_true p747
           replace q747 := eq_true q747
           go_wp2_with (first | ((with_reducible refine gate_dst (N := 6) rfl ?_); refine box_event ?hg (N := 6) ?hd (cs := #[.int .i64 0, .int .i64 0, .slice none 0 0]) (t := 106) ?hr ?_; (case hd => rfl); (case hg => rfl); (case hr => first | (go_simp; done) | (go_simp; rfl)); intro gb748 hg w12 hbox hb; have n0_ := am (below_step zb hb); have n1_ := am (hbox); have n2_ := am ((by rw [hg]; exact (below_size zb) : w.heap.size ≤ gb748)); have n3_ := am ((by rw [hg]; exact (below_size zb) : w.heap.size ≤ gb748)); clear HB; have HB := n0_; have BK748 := n1_; have GW748 := n2_; have GE748 := n3_; clear n0_ n1_ n2_ n3_; clear hb hbox hg; have hcz13_0 : w12.cell? ⟨gb748, 0, none⟩ = some (.int .i64 0) := (blk_cell BK748.out 0).trans rfl; have hcz13_1 : w12.cell? ⟨gb748, 1, none⟩ = some (.int .i64 0) := (blk_cell BK748.out 1).trans rfl; have hcz13_2 : w12.cell? ⟨gb748, 2, none⟩ = some (.slice none 0 0) := (blk_cell BK748.out 2).trans rfl; have hfz13_0 := blk_frozen BK748.out 0; have hfz13_1 := blk_frozen BK748.out 1; have hfz13_2 := blk_frozen BK748.out 2; have p749 : 0 ≤ (x14_1 : Int) := oa; have q749 : x14_1 < (l1.length : Int) := oa; obtain ⟨ad749, A749_2, c749_2, e749, hx749_0, hx749_1, hx749_2, hl749_2, hi749_2⟩ := at_T106 HR1.out x14_1 p749 q749; cases e749; have hn749_0 : ad749.block ≠ gb748 := Nat.ne_of_lt (Nat.lt_of_lt_of_le (zl hx749_0) GW748.out); have hn749_1 : ad749.block ≠ gb748 := Nat.ne_of_lt (Nat.lt_of_lt_of_le (zl hx749_0) GW748.out); have hn749_2 : ad749.block ≠ gb748 := Nat.ne_of_lt (Nat.lt_of_lt_of_le (zl hx749_0) GW748.out); replace hx749_0 := (HB.out.cell (World.block_lt_of_cell? w _ hx749_0)).trans hx749_0; replace hx749_1 := (HB.out.cell (World.block_lt_of_cell? w _ hx749_1)).trans hx749_1; replace hx749_2 := (HB.out.cell (World.block_lt_of_cell? w _ hx749_2)).trans hx749_2; have HR749_2 := am hi749_2; have HC749_2 := am hl749_2; clear hi749_2 hl749_2; replace hx749_0 := (cell_far (p := ⟨gb748, 0, none⟩) (zn hn749_0) (.int .i64 ((rd_T106 l0 x14_1).f0))).trans hx749_0; replace hx749_1 := (cell_far (p := ⟨gb748, 0, none⟩) (zn hn749_0) (.int .i64 ((rd_T106 l0 x14_1).f0))).trans hx749_1; replace hx749_2 := (cell_far (p := ⟨gb748, 0, none⟩) (zn hn749_0) (.int .i64 ((rd_T106 l0 x14_1).f0))).trans hx749_2; replace hx749_0 := (cell_far (p := ⟨gb748, 1, none⟩) (zn hn749_1) (.int .i64 ((rd_T106 l0 x14_1).f1))).trans hx749_0; replace hx749_1 := (cell_far (p := ⟨gb748, 1, none⟩) (zn hn749_1) (.int .i64 ((rd_T106 l0 x14_1).f1))).trans hx749_1; replace hx749_2 := (cell_far (p := ⟨gb748, 1, none⟩) (zn hn749_1) (.int .i64 ((rd_T106 l0 x14_1).f1))).trans hx749_2; replace hx749_0 := (cell_far (p := ⟨gb748, 2, none⟩) (zn hn749_2) (.slice A747_2 ((rd_T106 l0 x14_1).f2).length c747_2)).trans hx749_0; replace hx749_1 := (cell_far (p := ⟨gb748, 2, none⟩) (zn hn749_2) (.slice A747_2 ((rd_T106 l0 x14_1).f2).length c747_2)).trans hx749_1; replace hx749_2 := (cell_far (p := ⟨gb748, 2, none⟩) (zn hn749_2) (.slice A747_2 ((rd_T106 l0 x14_1).f2).length c747_2)).trans hx749_2; (try have hy749_0 := fun (n_ : Nat) => (show (((((w12.drewN n_).setCell ⟨gb748, 0, none⟩ (.int .i64 ((rd_T106 l0 x14_1).f0))).setCell ⟨gb748, 1, none⟩ (.int .i64 ((rd_T106 l0 x14_1).f1))).setCell ⟨gb748, 2, none⟩ (.slice A747_2 ((rd_T106 l0 x14_1).f2).length c747_2))).cell? _ = some _ from hx749_0)); (try have hy749_1 := fun (n_ : Nat) => (show (((((w12.drewN n_).setCell ⟨gb748, 0, none⟩ (.int .i64 ((rd_T106 l0 x14_1).f0))).setCell ⟨gb748, 1, none⟩ (.int .i64 ((rd_T106 l0 x14_1).f1))).setCell ⟨gb748, 2, none⟩ (.slice A747_2 ((rd_T106 l0 x14_1).f2).length c747_2))).cell? _ = some _ from hx749_1)); (try have hy749_2 := fun (n_ : Nat) => (show (((((w12.drewN n_).setCell ⟨gb748, 0, none⟩ (.int .i64 ((rd_T106 l0 x14_1).f0))).setCell ⟨gb748, 1, none⟩ (.int .i64 ((rd_T106 l0 x14_1).f1))).setCell ⟨gb748, 2, none⟩ (.slice A747_2 ((rd_T106 l0 x14_1).f2).length c747_2))).cell? _ = some _ from hx749_2)); clear hn749_0; clear hn749_1; clear hn749_2; replace p749 := eq_true p749; replace q749 := eq_true q749; have p750 : 0 ≤ (x14_1 : Int) := oa; have q750 : x14_1 < (l1.length : Int) := oa; obtain ⟨ad750, A750_2, c750_2, e750, hx750_0, hx750_1, hx750_2, hl750_2, hi750_2⟩ := at_T106 HR1.out x14_1 p750 q750; obtain rfl : ad749 = ad750 := (by injection e750); have hn750_0 : ad749.block ≠ gb748 := Nat.ne_of_lt (Nat.lt_of_lt_of_le (zl hx750_0) GW748.out); have hn750_1 : ad749.block ≠ gb748 := Nat.ne_of_lt (Nat.lt_of_lt_of_le (zl hx750_0) GW748.out); have hn750_2 : ad749.block ≠ gb748 := Nat.ne_of_lt (Nat.lt_of_lt_of_le (zl hx750_0) GW748.out); replace hx750_0 := (HB.out.cell (World.block_lt_of_cell? w _ hx750_0)).trans hx750_0; replace hx750_1 := (HB.out.cell (World.block_lt_of_cell? w _ hx750_1)).trans hx750_1; replace hx750_2 := (HB.out.cell (World.block_lt_of_cell? w _ hx750_2)).trans hx750_2; have HR750_2 := am hi750_2; have HC750_2 := am hl750_2; clear hi750_2 hl750_2; replace hx750_0 := (cell_far (p := ⟨gb748, 0, none⟩) (zn hn750_0) (.int .i64 ((rd_T106 l0 x14_1).f0))).trans hx750_0; replace hx750_1 := (cell_far (p := ⟨gb748, 0, none⟩) (zn hn750_0) (.int .i64 ((rd_T106 l0 x14_1).f0))).trans hx750_1; replace hx750_2 := (cell_far (p := ⟨gb748, 0, none⟩) (zn hn750_0) (.int .i64 ((rd_T106 l0 x14_1).f0))).trans hx750_2; replace hx750_0 := (cell_far (p := ⟨gb748, 1, none⟩) (zn hn750_1) (.int .i64 ((rd_T106 l0 x14_1).f1))).trans hx750_0; replace hx750_1 := (cell_far (p := ⟨gb748, 1, none⟩) (zn hn750_1) (.int .i64 ((rd_T106 l0 x14_1).f1))).trans hx750_1; replace hx750_2 := (cell_far (p := ⟨gb748, 1, none⟩) (zn hn750_1) (.int .i64 ((rd_T106 l0 x14_1).f1))).trans hx750_2; replace hx750_0 := (cell_far (p := ⟨gb748, 2, none⟩) (zn hn750_2) (.slice A747_2 ((rd_T106 l0 x14_1).f2).length c747_2)).trans hx750_0; replace hx750_1 := (cell_far (p := ⟨gb748, 2, none⟩) (zn hn750_2) (.slice A747_2 ((rd_T106 l0 x14_1).f2).length c747_2)).trans hx750_1; replace hx750_2 := (cell_far (p := ⟨gb748, 2, none⟩) (zn hn750_2) (.slice A747_2 ((rd_T106 l0 x14_1).f2).length c747_2)).trans hx750_2; (try have hy750_0 := fun (n_ : Nat) => (show (((((w12.drewN n_).setCell ⟨gb748, 0, none⟩ (.int .i64 ((rd_T106 l0 x14_1).f0))).setCell ⟨gb748, 1, none⟩ (.int .i64 ((rd_T106 l0 x14_1).f1))).setCell ⟨gb748, 2, none⟩ (.slice A747_2 ((rd_T106 l0 x14_1).f2).length c747_2))).cell? _ = some _ from hx750_0)); (try have hy750_1 := fun (n_ : Nat) => (show (((((w12.drewN n_).setCell ⟨gb748, 0, none⟩ (.int .i64 ((rd_T106 l0 x14_1).f0))).setCell ⟨gb748, 1, none⟩ (.int .i64 ((rd_T106 l0 x14_1).f1))).setCell ⟨gb748, 2, none⟩ (.slice A747_2 ((rd_T106 l0 x14_1).f2).length c747_2))).cell? _ = some _ from hx750_1)); (try have hy750_2 := fun (n_ : Nat) => (show (((((w12.drewN n_).setCell ⟨gb748, 0, none⟩ (.int .i64 ((rd_T106 l0 x14_1).f0))).setCell ⟨gb748, 1, none⟩ (.int .i64 ((rd_T106 l0 x14_1).f1))).setCell ⟨gb748, 2, none⟩ (.slice A747_2 ((rd_T106 l0 x14_1).f2).length c747_2))).cell? _ = some _ from hx750_2)); clear hn750_0; clear hn750_1; clear hn750_2; replace p750 := eq_true p750; replace q750 := eq_true q750; have p751 : 0 ≤ (x14_1 : Int) := oa; have q751 : x14_1 < (l1.length : Int) := oa; obtain ⟨ad751, A751_2, c751_2, e751, hx751_0, hx751_1, hx751_2, hl751_2, hi751_2⟩ := at_T106 HR1.out x14_1 p751 q751; obtain rfl : ad749 = ad751 := (by injection e751); have hn751_0 : ad749.block ≠ gb748 := Nat.ne_of_lt (Nat.lt_of_lt_of_le (zl hx751_0) GW748.out); have hn751_1 : ad749.block ≠ gb748 := Nat.ne_of_lt (Nat.lt_of_lt_of_le (zl hx751_0) GW748.out); have hn751_2 : ad749.block ≠ gb748 := Nat.ne_of_lt (Nat.lt_of_lt_of_le (zl hx751_0) GW748.out); replace hx751_0 := (HB.out.cell (World.block_lt_of_cell? w _ hx751_0)).trans hx751_0; replace hx751_1 := (HB.out.cell (World.block_lt_of_cell? w _ hx751_1)).trans hx751_1; replace hx751_2 := (HB.out.cell (World.block_lt_of_cell? w _ hx751_2)).trans hx751_2; have HR751_2 := am hi751_2; have HC751_2 := am hl751_2; clear hi751_2 hl751_2; replace hx751_0 := (cell_far (p := ⟨gb748, 0, none⟩) (zn hn751_0) (.int .i64 ((rd_T106 l0 x14_1).f0))).trans hx751_0; replace hx751_1 := (cell_far (p := ⟨gb748, 0, none⟩) (zn hn751_0) (.int .i64 ((rd_T106 l0 x14_1).f0))).trans hx751_1; replace hx751_2 := (cell_far (p := ⟨gb748, 0, none⟩) (zn hn751_0) (.int .i64 ((rd_T106 l0 x14_1).f0))).trans hx751_2; replace hx751_0 := (cell_far (p := ⟨gb748, 1, none⟩) (zn hn751_1) (.int .i64 ((rd_T106 l0 x14_1).f1))).trans hx751_0; replace hx751_1 := (cell_far (p := ⟨gb748, 1, none⟩) (zn hn751_1) (.int .i64 ((rd_T106 l0 x14_1).f1))).trans hx751_1; replace hx751_2 := (cell_far (p := ⟨gb748, 1, none⟩) (zn hn751_1) (.int .i64 ((rd_T106 l0 x14_1).f1))).trans hx751_2; replace hx751_0 := (cell_far (p := ⟨gb748, 2, none⟩) (zn hn751_2) (.slice A747_2 ((rd_T106 l0 x14_1).f2).length c747_2)).trans hx751_0; replace hx751_1 := (cell_far (p := ⟨gb748, 2, none⟩) (zn hn751_2) (.slice A747_2 ((rd_T106 l0 x14_1).f2).length c747_2)).trans hx751_1; replace hx751_2 := (cell_far (p := ⟨gb748, 2, none⟩) (zn hn751_2) (.slice A747_2 ((rd_T106 l0 x14_1).f2).length c747_2)).trans hx751_2; (try have hy751_0 := fun (n_ : Nat) => (show (((((w12.drewN n_).setCell ⟨gb748, 0, none⟩ (.int .i64 ((rd_T106 l0 x14_1).f0))).setCell ⟨gb748, 1, none⟩ (.int .i64 ((rd_T106 l0 x14_1).f1))).setCell ⟨gb748, 2, none⟩ (.slice A747_2 ((rd_T106 l0 x14_1).f2).length c747_2))).cell? _ = some _ from hx751_0)); (try have hy751_1 := fun (n_ : Nat) => (show (((((w12.drewN n_).setCell ⟨gb748, 0, none⟩ (.int .i64 ((rd_T106 l0 x14_1).f0))).setCell ⟨gb748, 1, none⟩ (.int .i64 ((rd_T106 l0 x14_1).f1))).setCell ⟨gb748, 2, none⟩ (.slice A747_2 ((rd_T106 l0 x14_1).f2).length c747_2))).cell? _ = some _ from hx751_1)); (try have hy751_2 := fun (n_ : Nat) => (show (((((w12.drewN n_).setCell ⟨gb748, 0, none⟩ (.int .i64 ((rd_T106 l0 x14_1).f0))).setCell ⟨gb748, 1, none⟩ (.int .i64 ((rd_T106 l0 x14_1).f1))).setCell ⟨gb748, 2, none⟩ (.slice A747_2 ((rd_T106 l0 x14_1).f2).length c747_2))).cell? _ = some _ from hx751_2)); clear hn751_0; clear hn751_1; clear hn751_2; replace p751 := eq_true p751; replace q751 := eq_true q751))
           repeat (go_quiet (first | (go_at_call 13; (with_reducible refine (laws_sameTexts.calls k1 _ _ ((rd_T106 l0 x14_1).f2) _ _ ((rd_T106 l1 x14_1).f2) true _ ?side1 ?side2 ?side3 ?side4 A10.out).mono ?_); (case side1 => exact Kd.C_below HR747_2.out (by repeat (first | (with_reducible first | exact HB.out | apply below_alloc | apply pw_below_drewN | apply below_drew1 | refine below_set ?_ GE748.out) | exact HB.out))); (case side2 => exact HC747_2.out); (case side3 => exact Kd.C_below HR749_2.out (by repeat (first | (with_reducible first | exact HB.out | apply below_alloc | apply pw_below_drewN | apply below_drew1 | refine below_set ?_ GE748.out) | exact HB.out))); (case side4 => exact HC749_2.out); rintro e w' ⟨rfl, ⟨nd, rfl⟩⟩; (try exact zd))); try go_wp2)
           go_roundg k1
           case measure => have := HK1.out; omega
           case rel => exact ⟨(wrap64 (x14_1 + 1)), zf, H', ⟨by have := HK1.out; omega⟩, ⟨by repeat (first | (with_reducible first | exact HB.out | apply below_alloc | apply pw_below_drewN | apply below_drew1 | refine below_set ?_ GE748.out) | exact HB.out)⟩⟩
          ·replace c11 := Bool.eq_false_iff.mpr c11
           subst c11
           have H1 : (some false) = some r := by rw [if_neg (show ¬ (false = true) by decide)] at H; exact H
           clear H
           have H := H1
           clear H1
           obtain rfl := Option.some.inj H
           have p747 : 0 ≤ (x14_1 : Int) := oa
           have q747 : x14_1 < (l0.length : Int) := oa
           obtain ⟨ad747, A747_2, c747_2, e747, hx747_0, hx747_1, hx747_2, hl747_2, hi747_2⟩ := at_T106 HR0.out x14_1 p747 q747
           cases e747
           replace hx747_0 := (HB.out.cell (World.block_lt_of_cell? w _ hx747_0)).trans hx747_0
           replace hx747_1 := (HB.out.cell (World.block_lt_of_cell? w _ hx747_1)).trans hx747_1
           replace hx747_2 := (HB.out.cell (World.block_lt_of_cell? w _ hx747_2)).trans hx747_2
           have HR747_2 := am hi747_2
           have HC747_2 := am hl747_2
           clear hi747_2 hl747_2
           replace p747 := eq_true p747
           replace q747 := eq_true q747
           go_wp2_with (first | ((with_reducible refine gate_dst (N := 6) rfl ?_); refine box_event ?hg (N := 6) ?hd (cs := #[.int .i64 0, .int .i64 0, .slice none 0 0]) (t := 106) ?hr ?_; (case hd => rfl); (case hg => rfl); (case hr => first | (go_simp; done) | (go_simp; rfl)); intro gb748 hg w14 hbox hb; have n0_ := am (below_step zb hb); have n1_ := am (hbox); have n2_ := am ((by rw [hg]; exact (below_size zb) : w.heap.size ≤ gb748)); have n3_ := am ((by rw [hg]; exact (below_size zb) : w.heap.size ≤ gb748)); clear HB; have HB := n0_; have BK748 := n1_; have GW748 := n2_; have GE748 := n3_; clear n0_ n1_ n2_ n3_; clear hb hbox hg; have hcz15_0 : w14.cell? ⟨gb748, 0, none⟩ = some (.int .i64 0) := (blk_cell BK748.out 0).trans rfl; have hcz15_1 : w14.cell? ⟨gb748, 1, none⟩ = some (.int .i64 0) := (blk_cell BK748.out 1).trans rfl; have hcz15_2 : w14.cell? ⟨gb748, 2, none⟩ = some (.slice none 0 0) := (blk_cell BK748.out 2).trans rfl; have hfz15_0 := blk_frozen BK748.out 0; have hfz15_1 := blk_frozen BK748.out 1; have hfz15_2 := blk_frozen BK748.out 2; have p749 : 0 ≤ (x14_1 : Int) := oa; have q749 : x14_1 < (l1.length : Int) := oa; obtain ⟨ad749, A749_2, c749_2, e749, hx749_0, hx749_1, hx749_2, hl749_2, hi749_2⟩ := at_T106 HR1.out x14_1 p749 q749; cases e749; have hn749_0 : ad749.block ≠ gb748 := Nat.ne_of_lt (Nat.lt_of_lt_of_le (zl hx749_0) GW748.out); have hn749_1 : ad749.block ≠ gb748 := Nat.ne_of_lt (Nat.lt_of_lt_of_le (zl hx749_0) GW748.out); have hn749_2 : ad749.block ≠ gb748 := Nat.ne_of_lt (Nat.lt_of_lt_of_le (zl hx749_0) GW748.out); replace hx749_0 := (HB.out.cell (World.block_lt_of_cell? w _ hx749_0)).trans hx749_0; replace hx749_1 := (HB.out.cell (World.block_lt_of_cell? w _ hx749_1)).trans hx749_1; replace hx749_2 := (HB.out.cell (World.block_lt_of_cell? w _ hx749_2)).trans hx749_2; have HR749_2 := am hi749_2; have HC749_2 := am hl749_2; clear hi749_2 hl749_2; replace hx749_0 := (cell_far (p := ⟨gb748, 0, none⟩) (zn hn749_0) (.int .i64 ((rd_T106 l0 x14_1).f0))).trans hx749_0; replace hx749_1 := (cell_far (p := ⟨gb748, 0, none⟩) (zn hn749_0) (.int .i64 ((rd_T106 l0 x14_1).f0))).trans hx749_1; replace hx749_2 := (cell_far (p := ⟨gb748, 0, none⟩) (zn hn749_0) (.int .i64 ((rd_T106 l0 x14_1).f0))).trans hx749_2; replace hx749_0 := (cell_far (p := ⟨gb748, 1, none⟩) (zn hn749_1) (.int .i64 ((rd_T106 l0 x14_1).f1))).trans hx749_0; replace hx749_1 := (cell_far (p := ⟨gb748, 1, none⟩) (zn hn749_1) (.int .i64 ((rd_T106 l0 x14_1).f1))).trans hx749_1; replace hx749_2 := (cell_far (p := ⟨gb748, 1, none⟩) (zn hn749_1) (.int .i64 ((rd_T106 l0 x14_1).f1))).trans hx749_2; replace hx749_0 := (cell_far (p := ⟨gb748, 2, none⟩) (zn hn749_2) (.slice A747_2 ((rd_T106 l0 x14_1).f2).length c747_2)).trans hx749_0; replace hx749_1 := (cell_far (p := ⟨gb748, 2, none⟩) (zn hn749_2) (.slice A747_2 ((rd_T106 l0 x14_1).f2).length c747_2)).trans hx749_1; replace hx749_2 := (cell_far (p := ⟨gb748, 2, none⟩) (zn hn749_2) (.slice A747_2 ((rd_T106 l0 x14_1).f2).length c747_2)).trans hx749_2; (try have hy749_0 := fun (n_ : Nat) => (show (((((w14.drewN n_).setCell ⟨gb748, 0, none⟩ (.int .i64 ((rd_T106 l0 x14_1).f0))).setCell ⟨gb748, 1, none⟩ (.int .i64 ((rd_T106 l0 x14_1).f1))).setCell ⟨gb748, 2, none⟩ (.slice A747_2 ((rd_T106 l0 x14_1).f2).length c747_2))).cell? _ = some _ from hx749_0)); (try have hy749_1 := fun (n_ : Nat) => (show (((((w14.drewN n_).setCell ⟨gb748, 0, none⟩ (.int .i64 ((rd_T106 l0 x14_1).f0))).setCell ⟨gb748, 1, none⟩ (.int .i64 ((rd_T106 l0 x14_1).f1))).setCell ⟨gb748, 2, none⟩ (.slice A747_2 ((rd_T106 l0 x14_1).f2).length c747_2))).cell? _ = some _ from hx749_1)); (try have hy749_2 := fun (n_ : Nat) => (show (((((w14.drewN n_).setCell ⟨gb748, 0, none⟩ (.int .i64 ((rd_T106 l0 x14_1).f0))).setCell ⟨gb748, 1, none⟩ (.int .i64 ((rd_T106 l0 x14_1).f1))).setCell ⟨gb748, 2, none⟩ (.slice A747_2 ((rd_T106 l0 x14_1).f2).length c747_2))).cell? _ = some _ from hx749_2)); clear hn749_0; clear hn749_1; clear hn749_2; replace p749 := eq_true p749; replace q749 := eq_true q749; have p750 : 0 ≤ (x14_1 : Int) := oa; have q750 : x14_1 < (l1.length : Int) := oa; obtain ⟨ad750, A750_2, c750_2, e750, hx750_0, hx750_1, hx750_2, hl750_2, hi750_2⟩ := at_T106 HR1.out x14_1 p750 q750; obtain rfl : ad749 = ad750 := (by injection e750); have hn750_0 : ad749.block ≠ gb748 := Nat.ne_of_lt (Nat.lt_of_lt_of_le (zl hx750_0) GW748.out); have hn750_1 : ad749.block ≠ gb748 := Nat.ne_of_lt (Nat.lt_of_lt_of_le (zl hx750_0) GW748.out); have hn750_2 : ad749.block ≠ gb748 := Nat.ne_of_lt (Nat.lt_of_lt_of_le (zl hx750_0) GW748.out); replace hx750_0 := (HB.out.cell (World.block_lt_of_cell? w _ hx750_0)).trans hx750_0; replace hx750_1 := (HB.out.cell (World.block_lt_of_cell? w _ hx750_1)).trans hx750_1; replace hx750_2 := (HB.out.cell (World.block_lt_of_cell? w _ hx750_2)).trans hx750_2; have HR750_2 := am hi750_2; have HC750_2 := am hl750_2; clear hi750_2 hl750_2; replace hx750_0 := (cell_far (p := ⟨gb748, 0, none⟩) (zn hn750_0) (.int .i64 ((rd_T106 l0 x14_1).f0))).trans hx750_0; replace hx750_1 := (cell_far (p := ⟨gb748, 0, none⟩) (zn hn750_0) (.int .i64 ((rd_T106 l0 x14_1).f0))).trans hx750_1; replace hx750_2 := (cell_far (p := ⟨gb748, 0, none⟩) (zn hn750_0) (.int .i64 ((rd_T106 l0 x14_1).f0))).trans hx750_2; replace hx750_0 := (cell_far (p := ⟨gb748, 1, none⟩) (zn hn750_1) (.int .i64 ((rd_T106 l0 x14_1).f1))).trans hx750_0; replace hx750_1 := (cell_far (p := ⟨gb748, 1, none⟩) (zn hn750_1) (.int .i64 ((rd_T106 l0 x14_1).f1))).trans hx750_1; replace hx750_2 := (cell_far (p := ⟨gb748, 1, none⟩) (zn hn750_1) (.int .i64 ((rd_T106 l0 x14_1).f1))).trans hx750_2; replace hx750_0 := (cell_far (p := ⟨gb748, 2, none⟩) (zn hn750_2) (.slice A747_2 ((rd_T106 l0 x14_1).f2).length c747_2)).trans hx750_0; replace hx750_1 := (cell_far (p := ⟨gb748, 2, none⟩) (zn hn750_2) (.slice A747_2 ((rd_T106 l0 x14_1).f2).length c747_2)).trans hx750_1; replace hx750_2 := (cell_far (p := ⟨gb748, 2, none⟩) (zn hn750_2) (.slice A747_2 ((rd_T106 l0 x14_1).f2).length c747_2)).trans hx750_2; (try have hy750_0 := fun (n_ : Nat) => (show (((((w14.drewN n_).setCell ⟨gb748, 0, none⟩ (.int .i64 ((rd_T106 l0 x14_1).f0))).setCell ⟨gb748, 1, none⟩ (.int .i64 ((rd_T106 l0 x14_1).f1))).setCell ⟨gb748, 2, none⟩ (.slice A747_2 ((rd_T106 l0 x14_1).f2).length c747_2))).cell? _ = some _ from hx750_0)); (try have hy750_1 := fun (n_ : Nat) => (show (((((w14.drewN n_).setCell ⟨gb748, 0, none⟩ (.int .i64 ((rd_T106 l0 x14_1).f0))).setCell ⟨gb748, 1, none⟩ (.int .i64 ((rd_T106 l0 x14_1).f1))).setCell ⟨gb748, 2, none⟩ (.slice A747_2 ((rd_T106 l0 x14_1).f2).length c747_2))).cell? _ = some _ from hx750_1)); (try have hy750_2 := fun (n_ : Nat) => (show (((((w14.drewN n_).setCell ⟨gb748, 0, none⟩ (.int .i64 ((rd_T106 l0 x14_1).f0))).setCell ⟨gb748, 1, none⟩ (.int .i64 ((rd_T106 l0 x14_1).f1))).setCell ⟨gb748, 2, none⟩ (.slice A747_2 ((rd_T106 l0 x14_1).f2).length c747_2))).cell? _ = some _ from hx750_2)); clear hn750_0; clear hn750_1; clear hn750_2; replace p750 := eq_true p750; replace q750 := eq_true q750; have p751 : 0 ≤ (x14_1 : Int) := oa; have q751 : x14_1 < (l1.length : Int) := oa; obtain ⟨ad751, A751_2, c751_2, e751, hx751_0, hx751_1, hx751_2, hl751_2, hi751_2⟩ := at_T106 HR1.out x14_1 p751 q751; obtain rfl : ad749 = ad751 := (by injection e751); have hn751_0 : ad749.block ≠ gb748 := Nat.ne_of_lt (Nat.lt_of_lt_of_le (zl hx751_0) GW748.out); have hn751_1 : ad749.block ≠ gb748 := Nat.ne_of_lt (Nat.lt_of_lt_of_le (zl hx751_0) GW748.out); have hn751_2 : ad749.block ≠ gb748 := Nat.ne_of_lt (Nat.lt_of_lt_of_le (zl hx751_0) GW748.out); replace hx751_0 := (HB.out.cell (World.block_lt_of_cell? w _ hx751_0)).trans hx751_0; replace hx751_1 := (HB.out.cell (World.block_lt_of_cell? w _ hx751_1)).trans hx751_1; replace hx751_2 := (HB.out.cell (World.block_lt_of_cell? w _ hx751_2)).trans hx751_2; have HR751_2 := am hi751_2; have HC751_2 := am hl751_2; clear hi751_2 hl751_2; replace hx751_0 := (cell_far (p := ⟨gb748, 0, none⟩) (zn hn751_0) (.int .i64 ((rd_T106 l0 x14_1).f0))).trans hx751_0; replace hx751_1 := (cell_far (p := ⟨gb748, 0, none⟩) (zn hn751_0) (.int .i64 ((rd_T106 l0 x14_1).f0))).trans hx751_1; replace hx751_2 := (cell_far (p := ⟨gb748, 0, none⟩) (zn hn751_0) (.int .i64 ((rd_T106 l0 x14_1).f0))).trans hx751_2; replace hx751_0 := (cell_far (p := ⟨gb748, 1, none⟩) (zn hn751_1) (.int .i64 ((rd_T106 l0 x14_1).f1))).trans hx751_0; replace hx751_1 := (cell_far (p := ⟨gb748, 1, none⟩) (zn hn751_1) (.int .i64 ((rd_T106 l0 x14_1).f1))).trans hx751_1; replace hx751_2 := (cell_far (p := ⟨gb748, 1, none⟩) (zn hn751_1) (.int .i64 ((rd_T106 l0 x14_1).f1))).trans hx751_2; replace hx751_0 := (cell_far (p := ⟨gb748, 2, none⟩) (zn hn751_2) (.slice A747_2 ((rd_T106 l0 x14_1).f2).length c747_2)).trans hx751_0; replace hx751_1 := (cell_far (p := ⟨gb748, 2, none⟩) (zn hn751_2) (.slice A747_2 ((rd_T106 l0 x14_1).f2).length c747_2)).trans hx751_1; replace hx751_2 := (cell_far (p := ⟨gb748, 2, none⟩) (zn hn751_2) (.slice A747_2 ((rd_T106 l0 x14_1).f2).length c747_2)).trans hx751_2; (try have hy751_0 := fun (n_ : Nat) => (show (((((w14.drewN n_).setCell ⟨gb748, 0, none⟩ (.int .i64 ((rd_T106 l0 x14_1).f0))).setCell ⟨gb748, 1, none⟩ (.int .i64 ((rd_T106 l0 x14_1).f1))).setCell ⟨gb748, 2, none⟩ (.slice A747_2 ((rd_T106 l0 x14_1).f2).length c747_2))).cell? _ = some _ from hx751_0)); (try have hy751_1 := fun (n_ : Nat) => (show (((((w14.drewN n_).setCell ⟨gb748, 0, none⟩ (.int .i64 ((rd_T106 l0 x14_1).f0))).setCell ⟨gb748, 1, none⟩ (.int .i64 ((rd_T106 l0 x14_1).f1))).setCell ⟨gb748, 2, none⟩ (.slice A747_2 ((rd_T106 l0 x14_1).f2).length c747_2))).cell? _ = some _ from hx751_1)); (try have hy751_2 := fun (n_ : Nat) => (show (((((w14.drewN n_).setCell ⟨gb748, 0, none⟩ (.int .i64 ((rd_T106 l0 x14_1).f0))).setCell ⟨gb748, 1, none⟩ (.int .i64 ((rd_T106 l0 x14_1).f1))).setCell ⟨gb748, 2, none⟩ (.slice A747_2 ((rd_T106 l0 x14_1).f2).length c747_2))).cell? _ = some _ from hx751_2)); clear hn751_0; clear hn751_1; clear hn751_2; replace p751 := eq_true p751; replace q751 := eq_true q751))
           repeat (go_quiet (first | (go_at_call 13; (with_reducible refine (laws_sameTexts.calls k1 _ _ ((rd_T106 l0 x14_1).f2) _ _ ((rd_T106 l1 x14_1).f2) false _ ?side1 ?side2 ?side3 ?side4 A10.out).mono ?_); (case side1 => exact Kd.C_below HR747_2.out (by repeat (first | (with_reducible first | exact HB.out | apply below_alloc | apply pw_below_drewN | apply below_drew1 | refine below_set ?_ GE748.out) | exact HB.out))); (case side2 => exact HC747_2.out); (case side3 => exact Kd.C_below HR749_2.out (by repeat (first | (with_reducible first | exact HB.out | apply below_alloc | apply pw_below_drewN | apply below_drew1 | refine below_set ?_ GE748.out) | exact HB.out))); (case side4 => exact HC749_2.out); rintro e w' ⟨rfl, ⟨nd, rfl⟩⟩; (try exact zd))); try go_wp2)
           go_ret
           exact ⟨by first | rfl | (simp [errW_none, errW_some] <;> rfl) | (simp [*, errW_none, errW_some] <;> rfl), by repeat (first | (with_reducible first | exact HB.out | apply below_alloc | apply pw_below_drewN | apply below_drew1 | refine below_set ?_ GE748.out) | exact HB.out)⟩
         ·rw [if_neg c9] at H
          have c9b0 : (((rd_T106 l0 x14_1).f1) == ((rd_T106 l1 x14_1).f1)) = false := beq_eq_false_iff_ne.mpr c9
          have c9b1 : (((rd_T106 l0 x14_1).f1) != ((rd_T106 l1 x14_1).f1)) = true := bne_iff_ne.mpr c9
          obtain rfl := Option.some.inj H
          have p747 : 0 ≤ (x14_1 : Int) := oa
          have q747 : x14_1 < (l0.length : Int) := oa
          obtain ⟨ad747, A747_2, c747_2, e747, hx747_0, hx747_1, hx747_2, hl747_2, hi747_2⟩ := at_T106 HR0.out x14_1 p747 q747
          cases e747
          replace hx747_0 := (HB.out.cell (World.block_lt_of_cell? w _ hx747_0)).trans hx747_0
          replace hx747_1 := (HB.out.cell (World.block_lt_of_cell? w _ hx747_1)).trans hx747_1
          replace hx747_2 := (HB.out.cell (World.block_lt_of_cell? w _ hx747_2)).trans hx747_2
          have HR747_2 := am hi747_2
          have HC747_2 := am hl747_2
          clear hi747_2 hl747_2
          replace p747 := eq_true p747
          replace q747 := eq_true q747
          go_wp2_with (first | ((with_reducible refine gate_dst (N := 6) rfl ?_); refine box_event ?hg (N := 6) ?hd (cs := #[.int .i64 0, .int .i64 0, .slice none 0 0]) (t := 106) ?hr ?_; (case hd => rfl); (case hg => rfl); (case hr => first | (go_simp; done) | (go_simp; rfl)); intro gb748 hg w16 hbox hb; have n0_ := am (below_step zb hb); have n1_ := am (hbox); have n2_ := am ((by rw [hg]; exact (below_size zb) : w.heap.size ≤ gb748)); have n3_ := am ((by rw [hg]; exact (below_size zb) : w.heap.size ≤ gb748)); clear HB; have HB := n0_; have BK748 := n1_; have GW748 := n2_; have GE748 := n3_; clear n0_ n1_ n2_ n3_; clear hb hbox hg; have hcz17_0 : w16.cell? ⟨gb748, 0, none⟩ = some (.int .i64 0) := (blk_cell BK748.out 0).trans rfl; have hcz17_1 : w16.cell? ⟨gb748, 1, none⟩ = some (.int .i64 0) := (blk_cell BK748.out 1).trans rfl; have hcz17_2 : w16.cell? ⟨gb748, 2, none⟩ = some (.slice none 0 0) := (blk_cell BK748.out 2).trans rfl; have hfz17_0 := blk_frozen BK748.out 0; have hfz17_1 := blk_frozen BK748.out 1; have hfz17_2 := blk_frozen BK748.out 2; have p749 : 0 ≤ (x14_1 : Int) := oa; have q749 : x14_1 < (l1.length : Int) := oa; obtain ⟨ad749, A749_2, c749_2, e749, hx749_0, hx749_1, hx749_2, hl749_2, hi749_2⟩ := at_T106 HR1.out x14_1 p749 q749; cases e749; have hn749_0 : ad749.block ≠ gb748 := Nat.ne_of_lt (Nat.lt_of_lt_of_le (zl hx749_0) GW748.out); have hn749_1 : ad749.block ≠ gb748 := Nat.ne_of_lt (Nat.lt_of_lt_of_le (zl hx749_0) GW748.out); have hn749_2 : ad749.block ≠ gb748 := Nat.ne_of_lt (Nat.lt_of_lt_of_le (zl hx749_0) GW748.out); replace hx749_0 := (HB.out.cell (World.block_lt_of_cell? w _ hx749_0)).trans hx749_0; replace hx749_1 := (HB.out.cell (World.block_lt_of_cell? w _ hx749_1)).trans hx749_1; replace hx749_2 := (HB.out.cell (World.block_lt_of_cell? w _ hx749_2)).trans hx749_2; have HR749_2 := am hi749_2; have HC749_2 := am hl749_2; clear hi749_2 hl749_2; replace hx749_0 := (cell_far (p := ⟨gb748, 0, none⟩) (zn hn749_0) (.int .i64 ((rd_T106 l0 x14_1).f0))).trans hx749_0; replace hx749_1 := (cell_far (p := ⟨gb748, 0, none⟩) (zn hn749_0) (.int .i64 ((rd_T106 l0 x14_1).f0))).trans hx749_1; replace hx749_2 := (cell_far (p := ⟨gb748, 0, none⟩) (zn hn749_0) (.int .i64 ((rd_T106 l0 x14_1).f0))).trans hx749_2; replace hx749_0 := (cell_far (p := ⟨gb748, 1, none⟩) (zn hn749_1) (.int .i64 ((rd_T106 l0 x14_1).f1))).trans hx749_0; replace hx749_1 := (cell_far (p := ⟨gb748, 1, none⟩) (zn hn749_1) (.int .i64 ((rd_T106 l0 x14_1).f1))).trans hx749_1; replace hx749_2 := (cell_far (p := ⟨gb748, 1, none⟩) (zn hn749_1) (.int .i64 ((rd_T106 l0 x14_1).f1))).trans hx749_2; replace hx749_0 := (cell_far (p := ⟨gb748, 2, none⟩) (zn hn749_2) (.slice A747_2 ((rd_T106 l0 x14_1).f2).length c747_2)).trans hx749_0; replace hx749_1 := (cell_far (p := ⟨gb748, 2, none⟩) (zn hn749_2) (.slice A747_2 ((rd_T106 l0 x14_1).f2).length c747_2)).trans hx749_1; replace hx749_2 := (cell_far (p := ⟨gb748, 2, none⟩) (zn hn749_2) (.slice A747_2 ((rd_T106 l0 x14_1).f2).length c747_2)).trans hx749_2; (try have hy749_0 := fun (n_ : Nat) => (show (((((w16.drewN n_).setCell ⟨gb748, 0, none⟩ (.int .i64 ((rd_T106 l0 x14_1).f0))).setCell ⟨gb748, 1, none⟩ (.int .i64 ((rd_T106 l0 x14_1).f1))).setCell ⟨gb748, 2, none⟩ (.slice A747_2 ((rd_T106 l0 x14_1).f2).length c747_2))).cell? _ = some _ from hx749_0)); (try have hy749_1 := fun (n_ : Nat) => (show (((((w16.drewN n_).setCell ⟨gb748, 0, none⟩ (.int .i64 ((rd_T106 l0 x14_1).f0))).setCell ⟨gb748, 1, none⟩ (.int .i64 ((rd_T106 l0 x14_1).f1))).setCell ⟨gb748, 2, none⟩ (.slice A747_2 ((rd_T106 l0 x14_1).f2).length c747_2))).cell? _ = some _ from hx749_1)); (try have hy749_2 := fun (n_ : Nat) => (show (((((w16.drewN n_).setCell ⟨gb748, 0, none⟩ (.int .i64 ((rd_T106 l0 x14_1).f0))).setCell ⟨gb748, 1, none⟩ (.int .i64 ((rd_T106 l0 x14_1).f1))).setCell ⟨gb748, 2, none⟩ (.slice A747_2 ((rd_T106 l0 x14_1).f2).length c747_2))).cell? _ = some _ from hx749_2)); clear hn749_0; clear hn749_1; clear hn749_2; replace p749 := eq_true p749; replace q749 := eq_true q749; have p750 : 0 ≤ (x14_1 : Int) := oa; have q750 : x14_1 < (l1.length : Int) := oa; obtain ⟨ad750, A750_2, c750_2, e750, hx750_0, hx750_1, hx750_2, hl750_2, hi750_2⟩ := at_T106 HR1.out x14_1 p750 q750; obtain rfl : ad749 = ad750 := (by injection e750); have hn750_0 : ad749.block ≠ gb748 := Nat.ne_of_lt (Nat.lt_of_lt_of_le (zl hx750_0) GW748.out); have hn750_1 : ad749.block ≠ gb748 := Nat.ne_of_lt (Nat.lt_of_lt_of_le (zl hx750_0) GW748.out); have hn750_2 : ad749.block ≠ gb748 := Nat.ne_of_lt (Nat.lt_of_lt_of_le (zl hx750_0) GW748.out); replace hx750_0 := (HB.out.cell (World.block_lt_of_cell? w _ hx750_0)).trans hx750_0; replace hx750_1 := (HB.out.cell (World.block_lt_of_cell? w _ hx750_1)).trans hx750_1; replace hx750_2 := (HB.out.cell (World.block_lt_of_cell? w _ hx750_2)).trans hx750_2; have HR750_2 := am hi750_2; have HC750_2 := am hl750_2; clear hi750_2 hl750_2; replace hx750_0 := (cell_far (p := ⟨gb748, 0, none⟩) (zn hn750_0) (.int .i64 ((rd_T106 l0 x14_1).f0))).trans hx750_0; replace hx750_1 := (cell_far (p := ⟨gb748, 0, none⟩) (zn hn750_0) (.int .i64 ((rd_T106 l0 x14_1).f0))).trans hx750_1; replace hx750_2 := (cell_far (p := ⟨gb748, 0, none⟩) (zn hn750_0) (.int .i64 ((rd_T106 l0 x14_1).f0))).trans hx750_2; replace hx750_0 := (cell_far (p := ⟨gb748, 1, none⟩) (zn hn750_1) (.int .i64 ((rd_T106 l0 x14_1).f1))).trans hx750_0; replace hx750_1 := (cell_far (p := ⟨gb748, 1, none⟩) (zn hn750_1) (.int .i64 ((rd_T106 l0 x14_1).f1))).trans hx750_1; replace hx750_2 := (cell_far (p := ⟨gb748, 1, none⟩) (zn hn750_1) (.int .i64 ((rd_T106 l0 x14_1).f1))).trans hx750_2; replace hx750_0 := (cell_far (p := ⟨gb748, 2, none⟩) (zn hn750_2) (.slice A747_2 ((rd_T106 l0 x14_1).f2).length c747_2)).trans hx750_0; replace hx750_1 := (cell_far (p := ⟨gb748, 2, none⟩) (zn hn750_2) (.slice A747_2 ((rd_T106 l0 x14_1).f2).length c747_2)).trans hx750_1; replace hx750_2 := (cell_far (p := ⟨gb748, 2, none⟩) (zn hn750_2) (.slice A747_2 ((rd_T106 l0 x14_1).f2).length c747_2)).trans hx750_2; (try have hy750_0 := fun (n_ : Nat) => (show (((((w16.drewN n_).setCell ⟨gb748, 0, none⟩ (.int .i64 ((rd_T106 l0 x14_1).f0))).setCell ⟨gb748, 1, none⟩ (.int .i64 ((rd_T106 l0 x14_1).f1))).setCell ⟨gb748, 2, none⟩ (.slice A747_2 ((rd_T106 l0 x14_1).f2).length c747_2))).cell? _ = some _ from hx750_0)); (try have hy750_1 := fun (n_ : Nat) => (show (((((w16.drewN n_).setCell ⟨gb748, 0, none⟩ (.int .i64 ((rd_T106 l0 x14_1).f0))).setCell ⟨gb748, 1, none⟩ (.int .i64 ((rd_T106 l0 x14_1).f1))).setCell ⟨gb748, 2, none⟩ (.slice A747_2 ((rd_T106 l0 x14_1).f2).length c747_2))).cell? _ = some _ from hx750_1)); (try have hy750_2 := fun (n_ : Nat) => (show (((((w16.drewN n_).setCell ⟨gb748, 0, none⟩ (.int .i64 ((rd_T106 l0 x14_1).f0))).setCell ⟨gb748, 1, none⟩ (.int .i64 ((rd_T106 l0 x14_1).f1))).setCell ⟨gb748, 2, none⟩ (.slice A747_2 ((rd_T106 l0 x14_1).f2).length c747_2))).cell? _ = some _ from hx750_2)); clear hn750_0; clear hn750_1; clear hn750_2; replace p750 := eq_true p750; replace q750 := eq_true q750))
          repeat (go_quiet (first | ((with_reducible refine gate_dst (N := 6) rfl ?_); refine box_event ?hg (N := 6) ?hd (cs := #[.int .i64 0, .int .i64 0, .slice none 0 0]) (t := 106) ?hr ?_; (case hd => rfl); (case hg => rfl); (case hr => first | (go_simp; done) | (go_simp; rfl)); intro gb748 hg w16 hbox hb; have n0_ := am (below_step zb hb); have n1_ := am (hbox); have n2_ := am ((by rw [hg]; exact (below_size zb) : w.heap.size ≤ gb748)); have n3_ := am ((by rw [hg]; exact (below_size zb) : w.heap.size ≤ gb748)); clear HB; have HB := n0_; have BK748 := n1_; have GW748 := n2_; have GE748 := n3_; clear n0_ n1_ n2_ n3_; clear hb hbox hg; have hcz17_0 : w16.cell? ⟨gb748, 0, none⟩ = some (.int .i64 0) := (blk_cell BK748.out 0).trans rfl; have hcz17_1 : w16.cell? ⟨gb748, 1, none⟩ = some (.int .i64 0) := (blk_cell BK748.out 1).trans rfl; have hcz17_2 : w16.cell? ⟨gb748, 2, none⟩ = some (.slice none 0 0) := (blk_cell BK748.out 2).trans rfl; have hfz17_0 := blk_frozen BK748.out 0; have hfz17_1 := blk_frozen BK748.out 1; have hfz17_2 := blk_frozen BK748.out 2; have p749 : 0 ≤ (x14_1 : Int) := oa; have q749 : x14_1 < (l1.length : Int) := oa; obtain ⟨ad749, A749_2, c749_2, e749, hx749_0, hx749_1, hx749_2, hl749_2, hi749_2⟩ := at_T106 HR1.out x14_1 p749 q749; cases e749; have hn749_0 : ad749.block ≠ gb748 := Nat.ne_of_lt (Nat.lt_of_lt_of_le (zl hx749_0) GW748.out); have hn749_1 : ad749.block ≠ gb748 := Nat.ne_of_lt (Nat.lt_of_lt_of_le (zl hx749_0) GW748.out); have hn749_2 : ad749.block ≠ gb748 := Nat.ne_of_lt (Nat.lt_of_lt_of_le (zl hx749_0) GW748.out); replace hx749_0 := (HB.out.cell (World.block_lt_of_cell? w _ hx749_0)).trans hx749_0; replace hx749_1 := (HB.out.cell (World.block_lt_of_cell? w _ hx749_1)).trans hx749_1; replace hx749_2 := (HB.out.cell (World.block_lt_of_cell? w _ hx749_2)).trans hx749_2; have HR749_2 := am hi749_2; have HC749_2 := am hl749_2; clear hi749_2 hl749_2; replace hx749_0 := (cell_far (p := ⟨gb748, 0, none⟩) (zn hn749_0) (.int .i64 ((rd_T106 l0 x14_1).f0))).trans hx749_0; replace hx749_1 := (cell_far (p := ⟨gb748, 0, none⟩) (zn hn749_0) (.int .i64 ((rd_T106 l0 x14_1).f0))).trans hx749_1; replace hx749_2 := (cell_far (p := ⟨gb748, 0, none⟩) (zn hn749_0) (.int .i64 ((rd_T106 l0 x14_1).f0))).trans hx749_2; replace hx749_0 := (cell_far (p := ⟨gb748, 1, none⟩) (zn hn749_1) (.int .i64 ((rd_T106 l0 x14_1).f1))).trans hx749_0; replace hx749_1 := (cell_far (p := ⟨gb748, 1, none⟩) (zn hn749_1) (.int .i64 ((rd_T106 l0 x14_1).f1))).trans hx749_1; replace hx749_2 := (cell_far (p := ⟨gb748, 1, none⟩) (zn hn749_1) (.int .i64 ((rd_T106 l0 x14_1).f1))).trans hx749_2; replace hx749_0 := (cell_far (p := ⟨gb748, 2, none⟩) (zn hn749_2) (.slice A747_2 ((rd_T106 l0 x14_1).f2).length c747_2)).trans hx749_0; replace hx749_1 := (cell_far (p := ⟨gb748, 2, none⟩) (zn hn749_2) (.slice A747_2 ((rd_T106 l0 x14_1).f2).length c747_2)).trans hx749_1; replace hx749_2 := (cell_far (p := ⟨gb748, 2, none⟩) (zn hn749_2) (.slice A747_2 ((rd_T106 l0 x14_1).f2).length c747_2)).trans hx749_2; (try have hy749_0 := fun (n_ : Nat) => (show (((((w16.drewN n_).setCell ⟨gb748, 0, none⟩ (.int .i64 ((rd_T106 l0 x14_1).f0))).setCell ⟨gb748, 1, none⟩ (.int .i64 ((rd_T106 l0 x14_1).f1))).setCell ⟨gb748, 2, none⟩ (.slice A747_2 ((rd_T106 l0 x14_1).f2).length c747_2))).cell? _ = some _ from hx749_0)); (try have hy749_1 := fun (n_ : Nat) => (show (((((w16.drewN n_).setCell ⟨gb748, 0, none⟩ (.int .i64 ((rd_T106 l0 x14_1).f0))).setCell ⟨gb748, 1, none⟩ (.int .i64 ((rd_T106 l0 x14_1).f1))).setCell ⟨gb748, 2, none⟩ (.slice A747_2 ((rd_T106 l0 x14_1).f2).length c747_2))).cell? _ = some _ from hx749_1)); (try have hy749_2 := fun (n_ : Nat) => (show (((((w16.drewN n_).setCell ⟨gb748, 0, none⟩ (.int .i64 ((rd_T106 l0 x14_1).f0))).setCell ⟨gb748, 1, none⟩ (.int .i64 ((rd_T106 l0 x14_1).f1))).setCell ⟨gb748, 2, none⟩ (.slice A747_2 ((rd_T106 l0 x14_1).f2).length c747_2))).cell? _ = some _ from hx749_2)); clear hn749_0; clear hn749_1; clear hn749_2; replace p749 := eq_true p749; replace q749 := eq_true q749; have p750 : 0 ≤ (x14_1 : Int) := oa; have q750 : x14_1 < (l1.length : Int) := oa; obtain ⟨ad750, A750_2, c750_2, e750, hx750_0, hx750_1, hx750_2, hl750_2, hi750_2⟩ := at_T106 HR1.out x14_1 p750 q750; obtain rfl : ad749 = ad750 := (by injection e750); have hn750_0 : ad749.block ≠ gb748 := Nat.ne_of_lt (Nat.lt_of_lt_of_le (zl hx750_0) GW748.out); have hn750_1 : ad749.block ≠ gb748 := Nat.ne_of_lt (Nat.lt_of_lt_of_le (zl hx750_0) GW748.out); have hn750_2 : ad749.block ≠ gb748 := Nat.ne_of_lt (Nat.lt_of_lt_of_le (zl hx750_0) GW748.out); replace hx750_0 := (HB.out.cell (World.block_lt_of_cell? w _ hx750_0)).trans hx750_0; replace hx750_1 := (HB.out.cell (World.block_lt_of_cell? w _ hx750_1)).trans hx750_1; replace hx750_2 := (HB.out.cell (World.block_lt_of_cell? w _ hx750_2)).trans hx750_2; have HR750_2 := am hi750_2; have HC750_2 := am hl750_2; clear hi750_2 hl750_2; replace hx750_0 := (cell_far (p := ⟨gb748, 0, none⟩) (zn hn750_0) (.int .i64 ((rd_T106 l0 x14_1).f0))).trans hx750_0; replace hx750_1 := (cell_far (p := ⟨gb748, 0, none⟩) (zn hn750_0) (.int .i64 ((rd_T106 l0 x14_1).f0))).trans hx750_1; replace hx750_2 := (cell_far (p := ⟨gb748, 0, none⟩) (zn hn750_0) (.int .i64 ((rd_T106 l0 x14_1).f0))).trans hx750_2; replace hx750_0 := (cell_far (p := ⟨gb748, 1, none⟩) (zn hn750_1) (.int .i64 ((rd_T106 l0 x14_1).f1))).trans hx750_0; replace hx750_1 := (cell_far (p := ⟨gb748, 1, none⟩) (zn hn750_1) (.int .i64 ((rd_T106 l0 x14_1).f1))).trans hx750_1; replace hx750_2 := (cell_far (p := ⟨gb748, 1, none⟩) (zn hn750_1) (.int .i64 ((rd_T106 l0 x14_1).f1))).trans hx750_2; replace hx750_0 := (cell_far (p := ⟨gb748, 2, none⟩) (zn hn750_2) (.slice A747_2 ((rd_T106 l0 x14_1).f2).length c747_2)).trans hx750_0; replace hx750_1 := (cell_far (p := ⟨gb748, 2, none⟩) (zn hn750_2) (.slice A747_2 ((rd_T106 l0 x14_1).f2).length c747_2)).trans hx750_1; replace hx750_2 := (cell_far (p := ⟨gb748, 2, none⟩) (zn hn750_2) (.slice A747_2 ((rd_T106 l0 x14_1).f2).length c747_2)).trans hx750_2; (try have hy750_0 := fun (n_ : Nat) => (show (((((w16.drewN n_).setCell ⟨gb748, 0, none⟩ (.int .i64 ((rd_T106 l0 x14_1).f0))).setCell ⟨gb748, 1, none⟩ (.int .i64 ((rd_T106 l0 x14_1).f1))).setCell ⟨gb748, 2, none⟩ (.slice A747_2 ((rd_T106 l0 x14_1).f2).length c747_2))).cell? _ = some _ from hx750_0)); (try have hy750_1 := fun (n_ : Nat) => (show (((((w16.drewN n_).setCell ⟨gb748, 0, none⟩ (.int .i64 ((rd_T106 l0 x14_1).f0))).setCell ⟨gb748, 1, none⟩ (.int .i64 ((rd_T106 l0 x14_1).f1))).setCell ⟨gb748, 2, none⟩ (.slice A747_2 ((rd_T106 l0 x14_1).f2).length c747_2))).cell? _ = some _ from hx750_1)); (try have hy750_2 := fun (n_ : Nat) => (show (((((w16.drewN n_).setCell ⟨gb748, 0, none⟩ (.int .i64 ((rd_T106 l0 x14_1).f0))).setCell ⟨gb748, 1, none⟩ (.int .i64 ((rd_T106 l0 x14_1).f1))).setCell ⟨gb748, 2, none⟩ (.slice A747_2 ((rd_T106 l0 x14_1).f2).length c747_2))).cell? _ = some _ from hx750_2)); clear hn750_0; clear hn750_1; clear hn750_2; replace p750 := eq_true p750; replace q750 := eq_true q750)); try go_wp2_with (first | ((with_reducible refine gate_dst (N := 6) rfl ?_); refine box_event ?hg (N := 6) ?hd (cs := #[.int .i64 0, .int .i64 0, .slice none 0 0]) (t := 106) ?hr ?_; (case hd => rfl); (case hg => rfl); (case hr => first | (go_simp; done) | (go_simp; rfl)); intro gb748 hg w16 hbox hb; have n0_ := am (below_step zb hb); have n1_ := am (hbox); have n2_ := am ((by rw [hg]; exact (below_size zb) : w.heap.size ≤ gb748)); have n3_ := am ((by rw [hg]; exact (below_size zb) : w.heap.size ≤ gb748)); clear HB; have HB := n0_; have BK748 := n1_; have GW748 := n2_; have GE748 := n3_; clear n0_ n1_ n2_ n3_; clear hb hbox hg; have hcz17_0 : w16.cell? ⟨gb748, 0, none⟩ = some (.int .i64 0) := (blk_cell BK748.out 0).trans rfl; have hcz17_1 : w16.cell? ⟨gb748, 1, none⟩ = some (.int .i64 0) := (blk_cell BK748.out 1).trans rfl; have hcz17_2 : w16.cell? ⟨gb748, 2, none⟩ = some (.slice none 0 0) := (blk_cell BK748.out 2).trans rfl; have hfz17_0 := blk_frozen BK748.out 0; have hfz17_1 := blk_frozen BK748.out 1; have hfz17_2 := blk_frozen BK748.out 2; have p749 : 0 ≤ (x14_1 : Int) := oa; have q749 : x14_1 < (l1.length : Int) := oa; obtain ⟨ad749, A749_2, c749_2, e749, hx749_0, hx749_1, hx749_2, hl749_2, hi749_2⟩ := at_T106 HR1.out x14_1 p749 q749; cases e749; have hn749_0 : ad749.block ≠ gb748 := Nat.ne_of_lt (Nat.lt_of_lt_of_le (zl hx749_0) GW748.out); have hn749_1 : ad749.block ≠ gb748 := Nat.ne_of_lt (Nat.lt_of_lt_of_le (zl hx749_0) GW748.out); have hn749_2 : ad749.block ≠ gb748 := Nat.ne_of_lt (Nat.lt_of_lt_of_le (zl hx749_0) GW748.out); replace hx749_0 := (HB.out.cell (World.block_lt_of_cell? w _ hx749_0)).trans hx749_0; replace hx749_1 := (HB.out.cell (World.block_lt_of_cell? w _ hx749_1)).trans hx749_1; replace hx749_2 := (HB.out.cell (World.block_lt_of_cell? w _ hx749_2)).trans hx749_2; have HR749_2 := am hi749_2; have HC749_2 := am hl749_2; clear hi749_2 hl749_2; replace hx749_0 := (cell_far (p := ⟨gb748, 0, none⟩) (zn hn749_0) (.int .i64 ((rd_T106 l0 x14_1).f0))).trans hx749_0; replace hx749_1 := (cell_far (p := ⟨gb748, 0, none⟩) (zn hn749_0) (.int .i64 ((rd_T106 l0 x14_1).f0))).trans hx749_1; replace hx749_2 := (cell_far (p := ⟨gb748, 0, none⟩) (zn hn749_0) (.int .i64 ((rd_T106 l0 x14_1).f0))).trans hx749_2; replace hx749_0 := (cell_far (p := ⟨gb748, 1, none⟩) (zn hn749_1) (.int .i64 ((rd_T106 l0 x14_1).f1))).trans hx749_0; replace hx749_1 := (cell_far (p := ⟨gb748, 1, none⟩) (zn hn749_1) (.int .i64 ((rd_T106 l0 x14_1).f1))).trans hx749_1; replace hx749_2 := (cell_far (p := ⟨gb748, 1, none⟩) (zn hn749_1) (.int .i64 ((rd_T106 l0 x14_1).f1))).trans hx749_2; replace hx749_0 := (cell_far (p := ⟨gb748, 2, none⟩) (zn hn749_2) (.slice A747_2 ((rd_T106 l0 x14_1).f2).length c747_2)).trans hx749_0; replace hx749_1 := (cell_far (p := ⟨gb748, 2, none⟩) (zn hn749_2) (.slice A747_2 ((rd_T106 l0 x14_1).f2).length c747_2)).trans hx749_1; replace hx749_2 := (cell_far (p := ⟨gb748, 2, none⟩) (zn hn749_2) (.slice A747_2 ((rd_T106 l0 x14_1).f2).length c747_2)).trans hx749_2; (try have hy749_0 := fun (n_ : Nat) => (show (((((w16.drewN n_).setCell ⟨gb748, 0, none⟩ (.int .i64 ((rd_T106 l0 x14_1).f0))).setCell ⟨gb748, 1, none⟩ (.int .i64 ((rd_T106 l0 x14_1).f1))).setCell ⟨gb748, 2, none⟩ (.slice A747_2 ((rd_T106 l0 x14_1).f2).length c747_2))).cell? _ = some _ from hx749_0)); (try have hy749_1 := fun (n_ : Nat) => (show (((((w16.drewN n_).setCell ⟨gb748, 0, none⟩ (.int .i64 ((rd_T106 l0 x14_1).f0))).setCell ⟨gb748, 1, none⟩ (.int .i64 ((rd_T106 l0 x14_1).f1))).setCell ⟨gb748, 2, none⟩ (.slice A747_2 ((rd_T106 l0 x14_1).f2).length c747_2))).cell? _ = some _ from hx749_1)); (try have hy749_2 := fun (n_ : Nat) => (show (((((w16.drewN n_).setCell ⟨gb748, 0, none⟩ (.int .i64 ((rd_T106 l0 x14_1).f0))).setCell ⟨gb748, 1, none⟩ (.int .i64 ((rd_T106 l0 x14_1).f1))).setCell ⟨gb748, 2, none⟩ (.slice A747_2 ((rd_T106 l0 x14_1).f2).length c747_2))).cell? _ = some _ from hx749_2)); clear hn749_0; clear hn749_1; clear hn749_2; replace p749 := eq_true p749; replace q749 := eq_true q749; have p750 : 0 ≤ (x14_1 : Int) := oa; have q750 : x14_1 < (l1.length : Int) := oa; obtain ⟨ad750, A750_2, c750_2, e750, hx750_0, hx750_1, hx750_2, hl750_2, hi750_2⟩ := at_T106 HR1.out x14_1 p750 q750; obtain rfl : ad749 = ad750 := (by injection e750); have hn750_0 : ad749.block ≠ gb748 := Nat.ne_of_lt (Nat.lt_of_lt_of_le (zl hx750_0) GW748.out); have hn750_1 : ad749.block ≠ gb748 := Nat.ne_of_lt (Nat.lt_of_lt_of_le (zl hx750_0) GW748.out); have hn750_2 : ad749.block ≠ gb748 := Nat.ne_of_lt (Nat.lt_of_lt_of_le (zl hx750_0) GW748.out); replace hx750_0 := (HB.out.cell (World.block_lt_of_cell? w _ hx750_0)).trans hx750_0; replace hx750_1 := (HB.out.cell (World.block_lt_of_cell? w _ hx750_1)).trans hx750_1; replace hx750_2 := (HB.out.cell (World.block_lt_of_cell? w _ hx750_2)).trans hx750_2; have HR750_2 := am hi750_2; have HC750_2 := am hl750_2; clear hi750_2 hl750_2; replace hx750_0 := (cell_far (p := ⟨gb748, 0, none⟩) (zn hn750_0) (.int .i64 ((rd_T106 l0 x14_1).f0))).trans hx750_0; replace hx750_1 := (cell_far (p := ⟨gb748, 0, none⟩) (zn hn750_0) (.int .i64 ((rd_T106 l0 x14_1).f0))).trans hx750_1; replace hx750_2 := (cell_far (p := ⟨gb748, 0, none⟩) (zn hn750_0) (.int .i64 ((rd_T106 l0 x14_1).f0))).trans hx750_2; replace hx750_0 := (cell_far (p := ⟨gb748, 1, none⟩) (zn hn750_1) (.int .i64 ((rd_T106 l0 x14_1).f1))).trans hx750_0; replace hx750_1 := (cell_far (p := ⟨gb748, 1, none⟩) (zn hn750_1) (.int .i64 ((rd_T106 l0 x14_1).f1))).trans hx750_1; replace hx750_2 := (cell_far (p := ⟨gb748, 1, none⟩) (zn hn750_1) (.int .i64 ((rd_T106 l0 x14_1).f1))).trans hx750_2; replace hx750_0 := (cell_far (p := ⟨gb748, 2, none⟩) (zn hn750_2) (.slice A747_2 ((rd_T106 l0 x14_1).f2).length c747_2)).trans hx750_0; replace hx750_1 := (cell_far (p := ⟨gb748, 2, none⟩) (zn hn750_2) (.slice A747_2 ((rd_T106 l0 x14_1).f2).length c747_2)).trans hx750_1; replace hx750_2 := (cell_far (p := ⟨gb748, 2, none⟩) (zn hn750_2) (.slice A747_2 ((rd_T106 l0 x14_1).f2).length c747_2)).trans hx750_2; (try have hy750_0 := fun (n_ : Nat) => (show (((((w16.drewN n_).setCell ⟨gb748, 0, none⟩ (.int .i64 ((rd_T106 l0 x14_1).f0))).setCell ⟨gb748, 1, none⟩ (.int .i64 ((rd_T106 l0 x14_1).f1))).setCell ⟨gb748, 2, none⟩ (.slice A747_2 ((rd_T106 l0 x14_1).f2).length c747_2))).cell? _ = some _ from hx750_0)); (try have hy750_1 := fun (n_ : Nat) => (show (((((w16.drewN n_).setCell ⟨gb748, 0, none⟩ (.int .i64 ((rd_T106 l0 x14_1).f0))).setCell ⟨gb748, 1, none⟩ (.int .i64 ((rd_T106 l0 x14_1).f1))).setCell ⟨gb748, 2, none⟩ (.slice A747_2 ((rd_T106 l0 x14_1).f2).length c747_2))).cell? _ = some _ from hx750_1)); (try have hy750_2 := fun (n_ : Nat) => (show (((((w16.drewN n_).setCell ⟨gb748, 0, none⟩ (.int .i64 ((rd_T106 l0 x14_1).f0))).setCell ⟨gb748, 1, none⟩ (.int .i64 ((rd_T106 l0 x14_1).f1))).setCell ⟨gb748, 2, none⟩ (.slice A747_2 ((rd_T106 l0 x14_1).f2).length c747_2))).cell? _ = some _ from hx750_2)); clear hn750_0; clear hn750_1; clear hn750_2; replace p750 := eq_true p750; replace q750 := eq_true q750)))
          go_ret
          exact ⟨by first | rfl | (simp [errW_none, errW_some] <;> rfl) | (simp [*, errW_none, errW_some] <;> rfl), by repeat (first | (with_reducible first | exact HB.out | apply below_alloc | apply pw_below_drewN | apply below_drew1 | refine below_set ?_ GE748.out) | exact HB.out)⟩
        ·rw [if_neg c8] at H
         have c8b0 : (((rd_T106 l0 x14_1).f0) == ((rd_T106 l1 x14_1).f0)) = false := beq_eq_false_iff_ne.mpr c8
         have c8b1 : (((rd_T106 l0 x14_1).f0) != ((rd_T106 l1 x14_1).f0)) = true := bne_iff_ne.mpr c8
         obtain rfl := Option.some.inj H
         have p747 : 0 ≤ (x14_1 : Int) := oa
         have q747 : x14_1 < (l0.length : Int) := oa
         obtain ⟨ad747, A747_2, c747_2, e747, hx747_0, hx747_1, hx747_2, hl747_2, hi747_2⟩ := at_T106 HR0.out x14_1 p747 q747
         cases e747
         replace hx747_0 := (HB.out.cell (World.block_lt_of_cell? w _ hx747_0)).trans hx747_0
         replace hx747_1 := (HB.out.cell (World.block_lt_of_cell? w _ hx747_1)).trans hx747_1
         replace hx747_2 := (HB.out.cell (World.block_lt_of_cell? w _ hx747_2)).trans hx747_2
         have HR747_2 := am hi747_2
         have HC747_2 := am hl747_2
         clear hi747_2 hl747_2
         replace p747 := eq_true p747
         replace q747 := eq_true q747
         go_wp2_with (first | ((with_reducible refine gate_dst (N := 6) rfl ?_); refine box_event ?hg (N := 6) ?hd (cs := #[.int .i64 0, .int .i64 0, .slice none 0 0]) (t := 106) ?hr ?_; (case hd => rfl); (case hg => rfl); (case hr => first | (go_simp; done) | (go_simp; rfl)); intro gb748 hg w18 hbox hb; have n0_ := am (below_step zb hb); have n1_ := am (hbox); have n2_ := am ((by rw [hg]; exact (below_size zb) : w.heap.size ≤ gb748)); have n3_ := am ((by rw [hg]; exact (below_size zb) : w.heap.size ≤ gb748)); clear HB; have HB := n0_; have BK748 := n1_; have GW748 := n2_; have GE748 := n3_; clear n0_ n1_ n2_ n3_; clear hb hbox hg; have hcz19_0 : w18.cell? ⟨gb748, 0, none⟩ = some (.int .i64 0) := (blk_cell BK748.out 0).trans rfl; have hcz19_1 : w18.cell? ⟨gb748, 1, none⟩ = some (.int .i64 0) := (blk_cell BK748.out 1).trans rfl; have hcz19_2 : w18.cell? ⟨gb748, 2, none⟩ = some (.slice none 0 0) := (blk_cell BK748.out 2).trans rfl; have hfz19_0 := blk_frozen BK748.out 0; have hfz19_1 := blk_frozen BK748.out 1; have hfz19_2 := blk_frozen BK748.out 2; have p749 : 0 ≤ (x14_1 : Int) := oa; have q749 : x14_1 < (l1.length : Int) := oa; obtain ⟨ad749, A749_2, c749_2, e749, hx749_0, hx749_1, hx749_2, hl749_2, hi749_2⟩ := at_T106 HR1.out x14_1 p749 q749; cases e749; have hn749_0 : ad749.block ≠ gb748 := Nat.ne_of_lt (Nat.lt_of_lt_of_le (zl hx749_0) GW748.out); have hn749_1 : ad749.block ≠ gb748 := Nat.ne_of_lt (Nat.lt_of_lt_of_le (zl hx749_0) GW748.out); have hn749_2 : ad749.block ≠ gb748 := Nat.ne_of_lt (Nat.lt_of_lt_of_le (zl hx749_0) GW748.out); replace hx749_0 := (HB.out.cell (World.block_lt_of_cell? w _ hx749_0)).trans hx749_0; replace hx749_1 := (HB.out.cell (World.block_lt_of_cell? w _ hx749_1)).trans hx749_1; replace hx749_2 := (HB.out.cell (World.block_lt_of_cell? w _ hx749_2)).trans hx749_2; have HR749_2 := am hi749_2; have HC749_2 := am hl749_2; clear hi749_2 hl749_2; replace hx749_0 := (cell_far (p := ⟨gb748, 0, none⟩) (zn hn749_0) (.int .i64 ((rd_T106 l0 x14_1).f0))).trans hx749_0; replace hx749_1 := (cell_far (p := ⟨gb748, 0, none⟩) (zn hn749_0) (.int .i64 ((rd_T106 l0 x14_1).f0))).trans hx749_1; replace hx749_2 := (cell_far (p := ⟨gb748, 0, none⟩) (zn hn749_0) (.int .i64 ((rd_T106 l0 x14_1).f0))).trans hx749_2; replace hx749_0 := (cell_far (p := ⟨gb748, 1, none⟩) (zn hn749_1) (.int .i64 ((rd_T106 l0 x14_1).f1))).trans hx749_0; replace hx749_1 := (cell_far (p := ⟨gb748, 1, none⟩) (zn hn749_1) (.int .i64 ((rd_T106 l0 x14_1).f1))).trans hx749_1; replace hx749_2 := (cell_far (p := ⟨gb748, 1, none⟩) (zn hn749_1) (.int .i64 ((rd_T106 l0 x14_1).f1))).trans hx749_2; replace hx749_0 := (cell_far (p := ⟨gb748, 2, none⟩) (zn hn749_2) (.slice A747_2 ((rd_T106 l0 x14_1).f2).length c747_2)).trans hx749_0; replace hx749_1 := (cell_far (p := ⟨gb748, 2, none⟩) (zn hn749_2) (.slice A747_2 ((rd_T106 l0 x14_1).f2).length c747_2)).trans hx749_1; replace hx749_2 := (cell_far (p := ⟨gb748, 2, none⟩) (zn hn749_2) (.slice A747_2 ((rd_T106 l0 x14_1).f2).length c747_2)).trans hx749_2; (try have hy749_0 := fun (n_ : Nat) => (show (((((w18.drewN n_).setCell ⟨gb748, 0, none⟩ (.int .i64 ((rd_T106 l0 x14_1).f0))).setCell ⟨gb748, 1, none⟩ (.int .i64 ((rd_T106 l0 x14_1).f1))).setCell ⟨gb748, 2, none⟩ (.slice A747_2 ((rd_T106 l0 x14_1).f2).length c747_2))).cell? _ = some _ from hx749_0)); (try have hy749_1 := fun (n_ : Nat) => (show (((((w18.drewN n_).setCell ⟨gb748, 0, none⟩ (.int .i64 ((rd_T106 l0 x14_1).f0))).setCell ⟨gb748, 1, none⟩ (.int .i64 ((rd_T106 l0 x14_1).f1))).setCell ⟨gb748, 2, none⟩ (.slice A747_2 ((rd_T106 l0 x14_1).f2).length c747_2))).cell? _ = some _ from hx749_1)); (try have hy749_2 := fun (n_ : Nat) => (show (((((w18.drewN n_).setCell ⟨gb748, 0, none⟩ (.int .i64 ((rd_T106 l0 x14_1).f0))).setCell ⟨gb748, 1, none⟩ (.int .i64 ((rd_T106 l0 x14_1).f1))).setCell ⟨gb748, 2, none⟩ (.slice A747_2 ((rd_T106 l0 x14_1).f2).length c747_2))).cell? _ = some _ from hx749_2)); clear hn749_0; clear hn749_1; clear hn749_2; replace p749 := eq_true p749; replace q749 := eq_true q749))
         repeat (go_quiet (first | ((with_reducible refine gate_dst (N := 6) rfl ?_); refine box_event ?hg (N := 6) ?hd (cs := #[.int .i64 0, .int .i64 0, .slice none 0 0]) (t := 106) ?hr ?_; (case hd => rfl); (case hg => rfl); (case hr => first | (go_simp; done) | (go_simp; rfl)); intro gb748 hg w18 hbox hb; have n0_ := am (below_step zb hb); have n1_ := am (hbox); have n2_ := am ((by rw [hg]; exact (below_size zb) : w.heap.size ≤ gb748)); have n3_ := am ((by rw [hg]; exact (below_size zb) : w.heap.size ≤ gb748)); clear HB; have HB := n0_; have BK748 := n1_; have GW748 := n2_; have GE748 := n3_; clear n0_ n1_ n2_ n3_; clear hb hbox hg; have hcz19_0 : w18.cell? ⟨gb748, 0, none⟩ = some (.int .i64 0) := (blk_cell BK748.out 0).trans rfl; have hcz19_1 : w18.cell? ⟨gb748, 1, none⟩ = some (.int .i64 0) := (blk_cell BK748.out 1).trans rfl; have hcz19_2 : w18.cell? ⟨gb748, 2, none⟩ = some (.slice none 0 0) := (blk_cell BK748.out 2).trans rfl; have hfz19_0 := blk_frozen BK748.out 0; have hfz19_1 := blk_frozen BK748.out 1; have hfz19_2 := blk_frozen BK748.out 2; have p749 : 0 ≤ (x14_1 : Int) := oa; have q749 : x14_1 < (l1.length : Int) := oa; obtain ⟨ad749, A749_2, c749_2, e749, hx749_0, hx749_1, hx749_2, hl749_2, hi749_2⟩ := at_T106 HR1.out x14_1 p749 q749; cases e749; have hn749_0 : ad749.block ≠ gb748 := Nat.ne_of_lt (Nat.lt_of_lt_of_le (zl hx749_0) GW748.out); have hn749_1 : ad749.block ≠ gb748 := Nat.ne_of_lt (Nat.lt_of_lt_of_le (zl hx749_0) GW748.out); have hn749_2 : ad749.block ≠ gb748 := Nat.ne_of_lt (Nat.lt_of_lt_of_le (zl hx749_0) GW748.out); replace hx749_0 := (HB.out.cell (World.block_lt_of_cell? w _ hx749_0)).trans hx749_0; replace hx749_1 := (HB.out.cell (World.block_lt_of_cell? w _ hx749_1)).trans hx749_1; replace hx749_2 := (HB.out.cell (World.block_lt_of_cell? w _ hx749_2)).trans hx749_2; have HR749_2 := am hi749_2; have HC749_2 := am hl749_2; clear hi749_2 hl749_2; replace hx749_0 := (cell_far (p := ⟨gb748, 0, none⟩) (zn hn749_0) (.int .i64 ((rd_T106 l0 x14_1).f0))).trans hx749_0; replace hx749_1 := (cell_far (p := ⟨gb748, 0, none⟩) (zn hn749_0) (.int .i64 ((rd_T106 l0 x14_1).f0))).trans hx749_1; replace hx749_2 := (cell_far (p := ⟨gb748, 0, none⟩) (zn hn749_0) (.int .i64 ((rd_T106 l0 x14_1).f0))).trans hx749_2; replace hx749_0 := (cell_far (p := ⟨gb748, 1, none⟩) (zn hn749_1) (.int .i64 ((rd_T106 l0 x14_1).f1))).trans hx749_0; replace hx749_1 := (cell_far (p := ⟨gb748, 1, none⟩) (zn hn749_1) (.int .i64 ((rd_T106 l0 x14_1).f1))).trans hx749_1; replace hx749_2 := (cell_far (p := ⟨gb748, 1, none⟩) (zn hn749_1) (.int .i64 ((rd_T106 l0 x14_1).f1))).trans hx749_2; replace hx749_0 := (cell_far (p := ⟨gb748, 2, none⟩) (zn hn749_2) (.slice A747_2 ((rd_T106 l0 x14_1).f2).length c747_2)).trans hx749_0; replace hx749_1 := (cell_far (p := ⟨gb748, 2, none⟩) (zn hn749_2) (.slice A747_2 ((rd_T106 l0 x14_1).f2).length c747_2)).trans hx749_1; replace hx749_2 := (cell_far (p := ⟨gb748, 2, none⟩) (zn hn749_2) (.slice A747_2 ((rd_T106 l0 x14_1).f2).length c747_2)).trans hx749_2; (try have hy749_0 := fun (n_ : Nat) => (show (((((w18.drewN n_).setCell ⟨gb748, 0, none⟩ (.int .i64 ((rd_T106 l0 x14_1).f0))).setCell ⟨gb748, 1, none⟩ (.int .i64 ((rd_T106 l0 x14_1).f1))).setCell ⟨gb748, 2, none⟩ (.slice A747_2 ((rd_T106 l0 x14_1).f2).length c747_2))).cell? _ = some _ from hx749_0)); (try have hy749_1 := fun (n_ : Nat) => (show (((((w18.drewN n_).setCell ⟨gb748, 0, none⟩ (.int .i64 ((rd_T106 l0 x14_1).f0))).setCell ⟨gb748, 1, none⟩ (.int .i64 ((rd_T106 l0 x14_1).f1))).setCell ⟨gb748, 2, none⟩ (.slice A747_2 ((rd_T106 l0 x14_1).f2).length c747_2))).cell? _ = some _ from hx749_1)); (try have hy749_2 := fun (n_ : Nat) => (show (((((w18.drewN n_).setCell ⟨gb748, 0, none⟩ (.int .i64 ((rd_T106 l0 x14_1).f0))).setCell ⟨gb748, 1, none⟩ (.int .i64 ((rd_T106 l0 x14_1).f1))).setCell ⟨gb748, 2, none⟩ (.slice A747_2 ((rd_T106 l0 x14_1).f2).length c747_2))).cell? _ = some _ from hx749_2)); clear hn749_0; clear hn749_1; clear hn749_2; replace p749 := eq_true p749; replace q749 := eq_true q749)); try go_wp2_with (first | ((with_reducible refine gate_dst (N := 6) rfl ?_); refine box_event ?hg (N := 6) ?hd (cs := #[.int .i64 0, .int .i64 0, .slice none 0 0]) (t := 106) ?hr ?_; (case hd => rfl); (case hg => rfl); (case hr => first | (go_simp; done) | (go_simp; rfl)); intro gb748 hg w18 hbox hb; have n0_ := am (below_step zb hb); have n1_ := am (hbox); have n2_ := am ((by rw [hg]; exact (below_size zb) : w.heap.size ≤ gb748)); have n3_ := am ((by rw [hg]; exact (below_size zb) : w.heap.size ≤ gb748)); clear HB; have HB := n0_; have BK748 := n1_; have GW748 := n2_; have GE748 := n3_; clear n0_ n1_ n2_ n3_; clear hb hbox hg; have hcz19_0 : w18.cell? ⟨gb748, 0, none⟩ = some (.int .i64 0) := (blk_cell BK748.out 0).trans rfl; have hcz19_1 : w18.cell? ⟨gb748, 1, none⟩ = some (.int .i64 0) := (blk_cell BK748.out 1).trans rfl; have hcz19_2 : w18.cell? ⟨gb748, 2, none⟩ = some (.slice none 0 0) := (blk_cell BK748.out 2).trans rfl; have hfz19_0 := blk_frozen BK748.out 0; have hfz19_1 := blk_frozen BK748.out 1; have hfz19_2 := blk_frozen BK748.out 2; have p749 : 0 ≤ (x14_1 : Int) := oa; have q749 : x14_1 < (l1.length : Int) := oa; obtain ⟨ad749, A749_2, c749_2, e749, hx749_0, hx749_1, hx749_2, hl749_2, hi749_2⟩ := at_T106 HR1.out x14_1 p749 q749; cases e749; have hn749_0 : ad749.block ≠ gb748 := Nat.ne_of_lt (Nat.lt_of_lt_of_le (zl hx749_0) GW748.out); have hn749_1 : ad749.block ≠ gb748 := Nat.ne_of_lt (Nat.lt_of_lt_of_le (zl hx749_0) GW748.out); have hn749_2 : ad749.block ≠ gb748 := Nat.ne_of_lt (Nat.lt_of_lt_of_le (zl hx749_0) GW748.out); replace hx749_0 := (HB.out.cell (World.block_lt_of_cell? w _ hx749_0)).trans hx749_0; replace hx749_1 := (HB.out.cell (World.block_lt_of_cell? w _ hx749_1)).trans hx749_1; replace hx749_2 := (HB.out.cell (World.block_lt_of_cell? w _ hx749_2)).trans hx749_2; have HR749_2 := am hi749_2; have HC749_2 := am hl749_2; clear hi749_2 hl749_2; replace hx749_0 := (cell_far (p := ⟨gb748, 0, none⟩) (zn hn749_0) (.int .i64 ((rd_T106 l0 x14_1).f0))).trans hx749_0; replace hx749_1 := (cell_far (p := ⟨gb748, 0, none⟩) (zn hn749_0) (.int .i64 ((rd_T106 l0 x14_1).f0))).trans hx749_1; replace hx749_2 := (cell_far (p := ⟨gb748, 0, none⟩) (zn hn749_0) (.int .i64 ((rd_T106 l0 x14_1).f0))).trans hx749_2; replace hx749_0 := (cell_far (p := ⟨gb748, 1, none⟩) (zn hn749_1) (.int .i64 ((rd_T106 l0 x14_1).f1))).trans hx749_0; replace hx749_1 := (cell_far (p := ⟨gb748, 1, none⟩) (zn hn749_1) (.int .i64 ((rd_T106 l0 x14_1).f1))).trans hx749_1; replace hx749_2 := (cell_far (p := ⟨gb748, 1, none⟩) (zn hn749_1) (.int .i64 ((rd_T106 l0 x14_1).f1))).trans hx749_2; replace hx749_0 := (cell_far (p := ⟨gb748, 2, none⟩) (zn hn749_2) (.slice A747_2 ((rd_T106 l0 x14_1).f2).length c747_2)).trans hx749_0; replace hx749_1 := (cell_far (p := ⟨gb748, 2, none⟩) (zn hn749_2) (.slice A747_2 ((rd_T106 l0 x14_1).f2).length c747_2)).trans hx749_1; replace hx749_2 := (cell_far (p := ⟨gb748, 2, none⟩) (zn hn749_2) (.slice A747_2 ((rd_T106 l0 x14_1).f2).length c747_2)).trans hx749_2; (try have hy749_0 := fun (n_ : Nat) => (show (((((w18.drewN n_).setCell ⟨gb748, 0, none⟩ (.int .i64 ((rd_T106 l0 x14_1).f0))).setCell ⟨gb748, 1, none⟩ (.int .i64 ((rd_T106 l0 x14_1).f1))).setCell ⟨gb748, 2, none⟩ (.slice A747_2 ((rd_T106 l0 x14_1).f2).length c747_2))).cell? _ = some _ from hx749_0)); (try have hy749_1 := fun (n_ : Nat) => (show (((((w18.drewN n_).setCell ⟨gb748, 0, none⟩ (.int .i64 ((rd_T106 l0 x14_1).f0))).setCell ⟨gb748, 1, none⟩ (.int .i64 ((rd_T106 l0 x14_1).f1))).setCell ⟨gb748, 2, none⟩ (.slice A747_2 ((rd_T106 l0 x14_1).f2).length c747_2))).cell? _ = some _ from hx749_1)); (try have hy749_2 := fun (n_ : Nat) => (show (((((w18.drewN n_).setCell ⟨gb748, 0, none⟩ (.int .i64 ((rd_T106 l0 x14_1).f0))).setCell ⟨gb748, 1, none⟩ (.int .i64 ((rd_T106 l0 x14_1).f1))).setCell ⟨gb748, 2, none⟩ (.slice A747_2 ((rd_T106 l0 x14_1).f2).length c747_2))).cell? _ = some _ from hx749_2)); clear hn749_0; clear hn749_1; clear hn749_2; replace p749 := eq_true p749; replace q749 := eq_true q749)))
         go_ret
         exact ⟨by first | rfl | (simp [errW_none, errW_some] <;> rfl) | (simp [*, errW_none, errW_some] <;> rfl), by repeat (first | (with_reducible first | exact HB.out | apply below_alloc | apply pw_below_drewN | apply below_drew1 | refine below_set ?_ GE748.out) | exact HB.out)⟩
       ·rw [if_neg c7] at H
        exact absurd H (by simp)
      ·rw [if_neg c6] at H
       exact absurd H (by simp)
     ·rw [if_neg c5] at H
      exact absurd H (by simp)
    ·rw [if_neg c4] at H
     have c4b0 : decide (x14_1 < (l0.length : Int)) = false := decide_eq_false c4
     clear c4
     obtain rfl := Option.some.inj H
     go_wp2
     repeat (go_quiet (fail); try go_wp2)
     go_ret
     exact ⟨by first | rfl | (simp [errW_none, errW_some] <;> rfl) | (simp [*, errW_none, errW_some] <;> rfl), by repeat (first | (with_reducible first | exact HB.out | apply below_alloc | apply pw_below_drewN | apply below_drew1) | exact HB.out)⟩
 ·rw [if_neg c3] at H
  have c3b0 : ((l0.length : Int) == (l1.length : Int)) = false := beq_eq_false_iff_ne.mpr c3
  have c3b1 : ((l0.length : Int) != (l1.length : Int)) = true := bne_iff_ne.mpr c3
  have c3b2 : (l0.length == l1.length) = false := by first | simpa using c3 | (simp at c3 ⊢; omega)
  obtain rfl := Option.some.inj H
  go_enter Try.func31, Try.ntmps31
  go_wp2
  repeat (go_quiet (fail); try go_wp2)
  go_ret
  exact ⟨by first | rfl | (simp [errW_none, errW_some] <;> rfl) | (simp [*, errW_none, errW_some] <;> rfl), by repeat (first | (with_reducible first | exact HB.out | apply below_alloc | apply pw_below_drewN | apply below_drew1) | exact HB.out)⟩
end Go.Proofs.Ytmcldkobejhaeaa.My
/- Written by this session's program (wip/gen): a plain function with the same answers as the Go function, and the proof that the Go code comes to them. Asked: that the plain function has an answer. -/
namespace Go.Proofs.Ytmcldkobejhaeaa.My
open Go.RowKit Go.Proofs.YtmcldkobejhaeaaW.PrintWords Go.Proofs.YtmcldkobejhaeaaW.PrintLast Go.Proofs.YtmcldkobejhaeaaW.PrintMore
attribute [local go_sem] max2_int min2_int max_two min_two max_three min_three max_four min_four
set_option linter.unusedVariables false
set_option linter.unusedSimpArgs false
def IsS87 (w0 W : World) (g : Nat) (f0 : List Int) (f1 : Int) (f2 : Int) : Prop := ∃ A0 c0, W.heap[g]? = some (.cells #[.slice A0 f0.length c0, .int .i64 f1, .int .u64 f2] 87 (0, 0)) ∧ w0.heap.size ≤ g ∧ Kd.C (Kd.int .u8) w0 A0 f0.length f0
theorem IsS87.grown {w0 W : World} {g : Nat} {f0 : List Int} {f1 : Int} {f2 : Int} {W1 : World} {row : Option Nat} (h : IsS87 w0 W g f0 f1 f2) (hw : W.grownBy W1 row) (hne : some g ≠ row) : IsS87 w0 W1 g f0 f1 f2 := by
 obtain ⟨A0, c0, hb, hg, hr0⟩ := h
 exact ⟨A0, c0, blk_grown hb hw hne, hg, hr0⟩
theorem IsS87.own_neN {w0 W : World} {g : Nat} {f0 : List Int} {f1 : Int} {f2 : Int} {α : Type} {d : Kd α} {e : Nat} {base : Nat} {ok : Nat → Prop} {v : Value} {xs : List α} (h : IsS87 w0 W g f0 f1 f2) (ho : Kd.N d e W base ok v xs) (ht : e ≠ 87) : some g ≠ v.ownBlock := by
 obtain ⟨A0, c0, hb, hg, hr0⟩ := h
 exact Kd.N_ne ho hb ht
theorem IsS87.fresh {w0 W : World} {g : Nat} {f0 : List Int} {f1 : Int} {f2 : Int} (h : IsS87 w0 W g f0 f1 f2) : ∀ k, W.heap.size ≤ k → k ≠ g := by
 obtain ⟨A0, c0, hb, hg, hr0⟩ := h
 exact Kd.freshB hb
theorem IsS87.below {w0 W : World} {g : Nat} {f0 : List Int} {f1 : Int} {f2 : Int} {W1 : World} (h : IsS87 w0 W g f0 f1 f2) (hw : Below W.heap.size W W1) : IsS87 w0 W1 g f0 f1 f2 := h.grown (grown_of_below hw none) (by simp)
theorem IsS87.alloc {w0 W : World} {g : Nat} {f0 : List Int} {f1 : Int} {f2 : Int} (h : IsS87 w0 W g f0 f1 f2) (o : Obj) : IsS87 w0 (W.alloc o) g f0 f1 f2 := h.below (below_alloc (Below.refl _ _) o)
theorem IsS87.drewN {w0 W : World} {g : Nat} {f0 : List Int} {f1 : Int} {f2 : Int} (h : IsS87 w0 W g f0 f1 f2) (m : Nat) : IsS87 w0 (W.drewN m) g f0 f1 f2 := h
theorem IsS87.drew {w0 W : World} {g : Nat} {f0 : List Int} {f1 : Int} {f2 : Int} (h : IsS87 w0 W g f0 f1 f2) : IsS87 w0 W.drew g f0 f1 f2 := h
theorem IsS87.at_ {w0 W : World} {g : Nat} {f0 : List Int} {f1 : Int} {f2 : Int} {w' : World} {m : Nat} (hq : W.drewN m = w') (h : IsS87 w0 W g f0 f1 f2) : IsS87 w0 w' g f0 f1 f2 := by subst hq; exact IsS87.drewN h m
theorem IsS87.apart {w0 W : World} {g : Nat} {f0 : List Int} {f1 : Int} {f2 : Int} {α : Type} {d : Kd α} {e : Nat} {base : Nat} {ok : Nat → Prop} {v : Value} {xs : List α} (h : IsS87 w0 W g f0 f1 f2) (ho : d.R e W base ok v xs) (ht : ∀ q, q ∈ e :: d.E → q ≠ 87) : d.R e W base (fun k => ok k ∧ k ≠ g) v xs := by
 obtain ⟨A0, c0, hb, hg, hr0⟩ := h
 exact Kd.R_types ho hb ht
theorem IsS87.own_ne {w0 W : World} {g : Nat} {f0 : List Int} {f1 : Int} {f2 : Int} {α : Type} {d : Kd α} {e : Nat} {base : Nat} {ok : Nat → Prop} {v : Value} {xs : List α} (h : IsS87 w0 W g f0 f1 f2) (ho : d.R e W base ok v xs) (ht : e ≠ 87) : some g ≠ v.ownBlock := by
 obtain ⟨A0, c0, hb, hg, hr0⟩ := h
 exact Kd.R_ne ho hb ht
theorem IsS87.apartS {w0 W : World} {g : Nat} {f0 : List Int} {f1 : Int} {f2 : Int} {α : Type} {d : Kd α} {e : Nat} {base : Nat} {ok : Nat → Prop} {v : Value} {xs : List α} (h : IsS87 w0 W g f0 f1 f2) (ho : d.S e W base ok v xs) (ht : ∀ q, q ∈ e :: d.E → q ≠ 87) : d.S e W base (fun k => ok k ∧ k ≠ g) v xs := by
 obtain ⟨A0, c0, hb, hg, hr0⟩ := h
 exact Kd.S_types ho hb ht
theorem IsS87.own_neS {w0 W : World} {g : Nat} {f0 : List Int} {f1 : Int} {f2 : Int} {α : Type} {d : Kd α} {e : Nat} {base : Nat} {ok : Nat → Prop} {v : Value} {xs : List α} (h : IsS87 w0 W g f0 f1 f2) (ho : d.S e W base ok v xs) (ht : e ≠ 87) : some g ≠ v.ownBlock := by
 obtain ⟨A0, c0, hb, hg, hr0⟩ := h
 exact Kd.S_ne ho hb ht
theorem IsS87.lt {w0 W : World} {g : Nat} {f0 : List Int} {f1 : Int} {f2 : Int} (h : IsS87 w0 W g f0 f1 f2) : g < W.heap.size := by
 obtain ⟨A0, c0, hb, hg, hr0⟩ := h
 exact blk_lt hb
theorem IsS87.ge {w0 W : World} {g : Nat} {f0 : List Int} {f1 : Int} {f2 : Int} (h : IsS87 w0 W g f0 f1 f2) : w0.heap.size ≤ g := by
 obtain ⟨A0, c0, hb, hg, hr0⟩ := h
 exact hg
theorem IsS87.far {w0 W : World} {g : Nat} {f0 : List Int} {f1 : Int} {f2 : Int} {p : Addr} (h : IsS87 w0 W g f0 f1 f2) (hne : g ≠ p.block) (u : Value) : IsS87 w0 (W.setCell p u) g f0 f1 f2 := by
 obtain ⟨A0, c0, hb, hg, hr0⟩ := h
 exact ⟨A0, c0, blk_far hb hne u, hg, hr0⟩
theorem cellS87_0 {W : World} {g : Nat} {A0 : Option Addr} {c0 : Nat} {f0 : List Int} {f1 : Int} {f2 : Int} (h : W.heap[g]? = some (.cells #[.slice A0 f0.length c0, .int .i64 f1, .int .u64 f2] 87 (0, 0))) : W.cell? ⟨g, 0, none⟩ = some (.slice A0 f0.length c0) := (blk_cell h 0).trans rfl
theorem cellS87_1 {W : World} {g : Nat} {A0 : Option Addr} {c0 : Nat} {f0 : List Int} {f1 : Int} {f2 : Int} (h : W.heap[g]? = some (.cells #[.slice A0 f0.length c0, .int .i64 f1, .int .u64 f2] 87 (0, 0))) : W.cell? ⟨g, 1, none⟩ = some (.int .i64 f1) := (blk_cell h 1).trans rfl
theorem IsS87.set_1 {w0 W : World} {g : Nat} {f0 : List Int} {f1 : Int} {f2 : Int} (h : IsS87 w0 W g f0 f1 f2) (x : Int) : IsS87 w0 (W.setCell ⟨g, 1, none⟩ (.int .i64 x)) g f0 x f2 := by
 obtain ⟨A0, c0, hb, hg, hr0⟩ := h
 exact ⟨A0, c0, by simpa using blk_set hb 1 (.int .i64 x), hg, hr0⟩
theorem cellS87_2 {W : World} {g : Nat} {A0 : Option Addr} {c0 : Nat} {f0 : List Int} {f1 : Int} {f2 : Int} (h : W.heap[g]? = some (.cells #[.slice A0 f0.length c0, .int .i64 f1, .int .u64 f2] 87 (0, 0))) : W.cell? ⟨g, 2, none⟩ = some (.int .u64 f2) := (blk_cell h 2).trans rfl
theorem IsS87.set_2 {w0 W : World} {g : Nat} {f0 : List Int} {f1 : Int} {f2 : Int} (h : IsS87 w0 W g f0 f1 f2) (x : Int) : IsS87 w0 (W.setCell ⟨g, 2, none⟩ (.int .u64 x)) g f0 f1 x := by
 obtain ⟨A0, c0, hb, hg, hr0⟩ := h
 exact ⟨A0, c0, by simpa using blk_set hb 2 (.int .u64 x), hg, hr0⟩
def spec_l1Cur_next.f (s0_0 : List Int) (s0_1 : Int) (s0_2 : Int) : Option (Int × Int × Int) := if s0_1 < (s0_0.length : Int) then (if 0 ≤ s0_1 then (if (wrap64 (s0_1 + 1)) ≤ (s0_0.length : Int) then (some (wrap64 (rd s0_0 s0_1), wrap64 (s0_1 + 1), IntKind.u64.wrap ((IntKind.u64.wrap ((IntKind.u64.wrap (s0_2 * 6364136223846793005)) + (IntKind.u64.wrap (wrap64 (rd s0_0 s0_1))))) + 1442695040888963407))) else (some (wrap64 (Go.bits .and .u64 ((IntKind.u64.wrap ((IntKind.u64.wrap ((IntKind.u64.wrap (s0_2 * 6364136223846793005)) + (IntKind.u64.wrap (wrap64 (rd s0_0 s0_1))))) + 1442695040888963407)) / 1099511627776) 255), wrap64 (s0_1 + 1), IntKind.u64.wrap ((IntKind.u64.wrap ((IntKind.u64.wrap (s0_2 * 6364136223846793005)) + (IntKind.u64.wrap (wrap64 (rd s0_0 s0_1))))) + 1442695040888963407)))) else (none)) else (if (wrap64 (s0_1 + 1)) ≤ (s0_0.length : Int) then (some (0, wrap64 (s0_1 + 1), IntKind.u64.wrap ((IntKind.u64.wrap ((IntKind.u64.wrap (s0_2 * 6364136223846793005)) + 0)) + 1442695040888963407))) else (some (wrap64 (Go.bits .and .u64 ((IntKind.u64.wrap ((IntKind.u64.wrap ((IntKind.u64.wrap (s0_2 * 6364136223846793005)) + 0)) + 1442695040888963407)) / 1099511627776) 255), wrap64 (s0_1 + 1), IntKind.u64.wrap ((IntKind.u64.wrap ((IntKind.u64.wrap (s0_2 * 6364136223846793005)) + 0)) + 1442695040888963407))))
set_option maxHeartbeats 8000000 in
set_option maxRecDepth 100000 in
theorem spec_l1Cur_next.calls (g : Nat) (s0_0 : List Int) (s0_1 : Int) (s0_2 : Int) (r1 : Int) (r2 : Int) (r3 : Int) (w0 w : World) (hI : IsS87 w0 w g s0_0 s0_1 s0_2) (hB : Below w0.heap.size w0 w) (h : spec_l1Cur_next.f s0_0 s0_1 s0_2 = some (r1, r2, r3)) :
  Calls Try.prog 124 #[.pointer (some ⟨g, 0, none⟩)] w fun e w' => e = .returned (.int .i64 r1) ∧ IsS87 w0 w' g s0_0 r2 r3 ∧ Below w0.heap.size w0 w' ∧ KeepBut w w' g none := by
 have HI0 := am hI
 have HK := am (KeepBut.refl w g none)
 have HL := am hB.size
 clear hI
 have HW0 := am hB.size
 have HB := am hB
 clear hB
 have H : (if s0_1 < (s0_0.length : Int) then (if 0 ≤ s0_1 then (if (wrap64 (s0_1 + 1)) ≤ (s0_0.length : Int) then (some (wrap64 (rd s0_0 s0_1), wrap64 (s0_1 + 1), IntKind.u64.wrap ((IntKind.u64.wrap ((IntKind.u64.wrap (s0_2 * 6364136223846793005)) + (IntKind.u64.wrap (wrap64 (rd s0_0 s0_1))))) + 1442695040888963407))) else (some (wrap64 (Go.bits .and .u64 ((IntKind.u64.wrap ((IntKind.u64.wrap ((IntKind.u64.wrap (s0_2 * 6364136223846793005)) + (IntKind.u64.wrap (wrap64 (rd s0_0 s0_1))))) + 1442695040888963407)) / 1099511627776) 255), wrap64 (s0_1 + 1), IntKind.u64.wrap ((IntKind.u64.wrap ((IntKind.u64.wrap (s0_2 * 6364136223846793005)) + (IntKind.u64.wrap (wrap64 (rd s0_0 s0_1))))) + 1442695040888963407)))) else (none)) else (if (wrap64 (s0_1 + 1)) ≤ (s0_0.length : Int) then (some (0, wrap64 (s0_1 + 1), IntKind.u64.wrap ((IntKind.u64.wrap ((IntKind.u64.wrap (s0_2 * 6364136223846793005)) + 0)) + 1442695040888963407))) else (some (wrap64 (Go.bits .and .u64 ((IntKind.u64.wrap ((IntKind.u64.wrap ((IntKind.u64.wrap (s0_2 * 6364136223846793005)) + 0)) + 1442695040888963407)) / 1099511627776) 255), wrap64 (s0_1 + 1), IntKind.u64.wrap ((IntKind.u64.wrap ((IntKind.u64.wrap (s0_2 * 6364136223846793005)) + 0)) + 1442695040888963407))))) = some (r1, r2, r3) := h
 clear h
 by_cases c2 : s0_1 < (s0_0.length : Int)
 ·rw [if_pos c2] at H
  have c2b0 : decide (s0_1 < (s0_0.length : Int)) = true := decide_eq_true c2
  clear c2
  by_cases c3 : 0 ≤ s0_1
  ·rw [if_pos c3] at H
   have c3b0 : decide (0 ≤ s0_1) = true := decide_eq_true c3
   clear c3
   by_cases c4 : (wrap64 (s0_1 + 1)) ≤ (s0_0.length : Int)
   ·rw [if_pos c4] at H
    have c4b0 : decide ((wrap64 (s0_1 + 1)) ≤ (s0_0.length : Int)) = true := decide_eq_true c4
    clear c4
    simp only [Option.some.injEq, Prod.mk.injEq] at H
    obtain ⟨rfl, rfl, rfl⟩ := H
    obtain ⟨ASz5_0, cSz5_0, HGz5, hgz5, HSz5_0⟩ := HI0.out
    have hcz5_0 := cellS87_0 HGz5
    have hcz5_1 := cellS87_1 HGz5
    have hcz5_2 := cellS87_2 HGz5
    have hfz5_1 := blk_frozen HGz5 1
    have hfz5_2 := blk_frozen HGz5 2
    clear HGz5 hgz5
    have p101 : 0 ≤ (s0_1 : Int) := oa
    have q101 : s0_1 < (s0_0.length : Int) := oa
    obtain ⟨ad101, e101, hx101_0⟩ := Kd.at_int HSz5_0 s0_1 p101 q101
    cases e101
    replace hx101_0 := pw_cell_below HB.out hx101_0
    replace p101 := eq_true p101
    replace q101 := eq_true q101
    go_enter Try.func124, Try.ntmps124
    go_wp2
    repeat (go_quiet (fail); try go_wp2)
    go_ret
    (try simp only [Int.add_zero])
    exact ⟨by first | rfl | (simp [errW_none, errW_some] <;> rfl) | (simp [*, errW_none, errW_some] <;> rfl), zi, zj, zh⟩
   ·rw [if_neg c4] at H
    have c4b0 : decide ((wrap64 (s0_1 + 1)) ≤ (s0_0.length : Int)) = false := decide_eq_false c4
    clear c4
    simp only [Option.some.injEq, Prod.mk.injEq] at H
    obtain ⟨rfl, rfl, rfl⟩ := H
    obtain ⟨ASz6_0, cSz6_0, HGz6, hgz6, HSz6_0⟩ := HI0.out
    have hcz6_0 := cellS87_0 HGz6
    have hcz6_1 := cellS87_1 HGz6
    have hcz6_2 := cellS87_2 HGz6
    have hfz6_1 := blk_frozen HGz6 1
    have hfz6_2 := blk_frozen HGz6 2
    clear HGz6 hgz6
    have p101 : 0 ≤ (s0_1 : Int) := oa
    have q101 : s0_1 < (s0_0.length : Int) := oa
    obtain ⟨ad101, e101, hx101_0⟩ := Kd.at_int HSz6_0 s0_1 p101 q101
    cases e101
    replace hx101_0 := pw_cell_below HB.out hx101_0
    replace p101 := eq_true p101
    replace q101 := eq_true q101
    go_enter Try.func124, Try.ntmps124
    go_wp2
    repeat (go_quiet (fail); try go_wp2)
    go_ret
    (try simp only [Int.add_zero])
    exact ⟨by first | rfl | (simp [errW_none, errW_some] <;> rfl) | (simp [*, errW_none, errW_some] <;> rfl), zi, zj, zh⟩
  ·rw [if_neg c3] at H
   exact absurd H (by simp)
 ·rw [if_neg c2] at H
  have c2b0 : decide (s0_1 < (s0_0.length : Int)) = false := decide_eq_false c2
  clear c2
  by_cases c7 : (wrap64 (s0_1 + 1)) ≤ (s0_0.length : Int)
  ·rw [if_pos c7] at H
   have c7b0 : decide ((wrap64 (s0_1 + 1)) ≤ (s0_0.length : Int)) = true := decide_eq_true c7
   clear c7
   simp only [Option.some.injEq, Prod.mk.injEq] at H
   obtain ⟨rfl, rfl, rfl⟩ := H
   obtain ⟨ASz8_0, cSz8_0, HGz8, hgz8, HSz8_0⟩ := HI0.out
   have hcz8_0 := cellS87_0 HGz8
   have hcz8_1 := cellS87_1 HGz8
   have hcz8_2 := cellS87_2 HGz8
   have hfz8_1 := blk_frozen HGz8 1
   have hfz8_2 := blk_frozen HGz8 2
   clear HGz8 hgz8
   go_enter Try.func124, Try.ntmps124
   go_wp2
   repeat (go_quiet (fail); try go_wp2)
   go_ret
   (try simp only [Int.add_zero])
   exact ⟨by first | rfl | (simp [errW_none, errW_some] <;> rfl) | (simp [*, errW_none, errW_some] <;> rfl), zi, zj, zh⟩
  ·rw [if_neg c7] at H
   have c7b0 : decide ((wrap64 (s0_1 + 1)) ≤ (s0_0.length : Int)) = false := decide_eq_false c7
   clear c7
   simp only [Option.some.injEq, Prod.mk.injEq] at H
   obtain ⟨rfl, rfl, rfl⟩ := H
   obtain ⟨ASz9_0, cSz9_0, HGz9, hgz9, HSz9_0⟩ := HI0.out
   have hcz9_0 := cellS87_0 HGz9
   have hcz9_1 := cellS87_1 HGz9
   have hcz9_2 := cellS87_2 HGz9
   have hfz9_1 := blk_frozen HGz9 1
   have hfz9_2 := blk_frozen HGz9 2
   clear HGz9 hgz9
   go_enter Try.func124, Try.ntmps124
   go_wp2
   repeat (go_quiet (fail); try go_wp2)
   go_ret
   (try simp only [Int.add_zero])
   exact ⟨by first | rfl | (simp [errW_none, errW_some] <;> rfl) | (simp [*, errW_none, errW_some] <;> rfl), zi, zj, zh⟩
end Go.Proofs.Ytmcldkobejhaeaa.My
/- Written by this session's program (wip/gen): a plain function with the same answers as the Go function, and the proof that the Go code comes to them. Asked: that the plain function has an answer. -/
namespace Go.Proofs.Ytmcldkobejhaeaa.My
open Go.RowKit Go.Proofs.YtmcldkobejhaeaaW.PrintWords Go.Proofs.YtmcldkobejhaeaaW.PrintLast Go.Proofs.YtmcldkobejhaeaaW.PrintMore
attribute [local go_sem] max2_int min2_int max_two min_two max_three min_three max_four min_four
set_option linter.unusedVariables false
set_option linter.unusedSimpArgs false
def spec_l1Cur_pick.f (s0_0 : List Int) (s0_1 : Int) (s0_2 : Int) (a1 : Int) : Option (Int × Int × Int) := if a1 ≤ 1 then (some (0, s0_1, s0_2)) else ((spec_l1Cur_next.f s0_0 s0_1 s0_2).bind fun bt102 => (if a1 > 200 then ((spec_l1Cur_next.f s0_0 bt102.2.1 bt102.2.2).bind fun bt105 => (if a1 = 0 then (none) else (some (Int.tmod (wrap64 ((wrap64 (bt102.1 * 256)) + bt105.1)) a1, bt105.2.1, bt105.2.2)))) else (if a1 = 0 then (none) else (some (Int.tmod bt102.1 a1, bt102.2.1, bt102.2.2)))))
set_option maxHeartbeats 8000000 in
set_option maxRecDepth 100000 in
theorem spec_l1Cur_pick.calls (g : Nat) (s0_0 : List Int) (s0_1 : Int) (s0_2 : Int) (a1 : Int) (r1 : Int) (r2 : Int) (r3 : Int) (w0 w : World) (hI : IsS87 w0 w g s0_0 s0_1 s0_2) (hB : Below w0.heap.size w0 w) (h : spec_l1Cur_pick.f s0_0 s0_1 s0_2 a1 = some (r1, r2, r3)) :
  Calls Try.prog 62 #[.pointer (some ⟨g, 0, none⟩), .int .i64 a1] w fun e w' => e = .returned (.int .i64 r1) ∧ IsS87 w0 w' g s0_0 r2 r3 ∧ Below w0.heap.size w0 w' ∧ KeepBut w w' g none := by
 have HI0 := am hI
 have HK := am (KeepBut.refl w g none)
 have HL := am hB.size
 clear hI
 have HW0 := am hB.size
 have HB := am hB
 clear hB
 have H : (if a1 ≤ 1 then (some (0, s0_1, s0_2)) else ((spec_l1Cur_next.f s0_0 s0_1 s0_2).bind fun bt102 => (if a1 > 200 then ((spec_l1Cur_next.f s0_0 bt102.2.1 bt102.2.2).bind fun bt105 => (if a1 = 0 then (none) else (some (Int.tmod (wrap64 ((wrap64 (bt102.1 * 256)) + bt105.1)) a1, bt105.2.1, bt105.2.2)))) else (if a1 = 0 then (none) else (some (Int.tmod bt102.1 a1, bt102.2.1, bt102.2.2)))))) = some (r1, r2, r3) := h
 clear h
 by_cases c3 : a1 ≤ 1
 ·rw [if_pos c3] at H
  have c3b0 : decide (a1 ≤ 1) = true := decide_eq_true c3
  clear c3
  simp only [Option.some.injEq, Prod.mk.injEq] at H
  obtain ⟨rfl, rfl, rfl⟩ := H
  go_enter Try.func62, Try.ntmps62
  go_wp2
  go_ret
  exact ⟨by first | rfl | (simp [errW_none, errW_some] <;> rfl) | (simp [*, errW_none, errW_some] <;> rfl), zi, zj, zh⟩
 ·rw [if_neg c3] at H
  have c3b0 : decide (a1 ≤ 1) = false := decide_eq_false c3
  clear c3
  replace H := Option.bind_eq_some_iff.mp H
  obtain ⟨⟨t102, t103, t104⟩, A40, H⟩ := H
  replace H : (if a1 > 200 then ((spec_l1Cur_next.f s0_0 t103 t104).bind fun bt105 => (if a1 = 0 then (none) else (some (Int.tmod (wrap64 ((wrap64 (t102 * 256)) + bt105.1)) a1, bt105.2.1, bt105.2.2)))) else (if a1 = 0 then (none) else (some (Int.tmod t102 a1, t103, t104)))) = some (r1, r2, r3) := H
  have A4 := am A40
  clear A40
  by_cases c5 : a1 > 200
  ·rw [if_pos c5] at H
   have c5b0 : decide (200 < a1) = true := decide_eq_true c5
   clear c5
   replace H := Option.bind_eq_some_iff.mp H
   obtain ⟨⟨t105, t106, t107⟩, A60, H⟩ := H
   replace H : (if a1 = 0 then (none) else (some (Int.tmod (wrap64 ((wrap64 (t102 * 256)) + t105)) a1, t106, t107))) = some (r1, r2, r3) := H
   have A6 := am A60
   clear A60
   by_cases c7 : a1 = 0
   ·rw [if_pos c7] at H
    exact absurd H (by simp)
   ·rw [if_neg c7] at H
    have c7b0 : (a1 == 0) = false := beq_eq_false_iff_ne.mpr c7
    have c7b1 : (a1 != 0) = true := bne_iff_ne.mpr c7
    simp only [Option.some.injEq, Prod.mk.injEq] at H
    obtain ⟨rfl, rfl, rfl⟩ := H
    go_enter Try.func62, Try.ntmps62
    go_wp2_with (first | ((with_reducible refine gateC (f := 124) rfl ?_); refine goesL_ (some 9) rfl rfl Try.func124 (by kernel_rfl) rfl #[.pointer (some ⟨g, 0, none⟩)] rfl zm ?_; (with_reducible refine (spec_l1Cur_next.calls g s0_0 s0_1 s0_2 t102 t103 t104 w0 _ ?side1 ?side2 A4.out).mono ?_); (case side1 => exact zi); (case side2 => exact zj); rintro e w8 ⟨rfl, hi, hb, hk⟩; refine ⟨_, rfl, ?_⟩; have n0_ := am (KeepBut.trans zh hk (.inl rfl)); have n1_ := am (hb); have n2_ := am (hi); clear HK; clear HB; clear HI0; have HK := n0_; have HB := n1_; have HI0 := n2_; clear n0_ n1_ n2_; (try clear hb); (try clear hk); (try clear hi)) | ((with_reducible refine gateC (f := 124) rfl ?_); refine goesL_ (some 15) rfl rfl Try.func124 (by kernel_rfl) rfl #[.pointer (some ⟨g, 0, none⟩)] rfl zm ?_; (with_reducible refine (spec_l1Cur_next.calls g s0_0 t103 t104 t105 t106 t107 w0 _ ?side1 ?side2 A6.out).mono ?_); (case side1 => exact zi); (case side2 => exact zj); rintro e w9 ⟨rfl, hi, hb, hk⟩; refine ⟨_, rfl, ?_⟩; have n0_ := am (KeepBut.trans zh hk (.inl rfl)); have n1_ := am (hb); have n2_ := am (hi); clear HK; clear HB; clear HI0; have HK := n0_; have HB := n1_; have HI0 := n2_; clear n0_ n1_ n2_; (try clear hb); (try clear hk); (try clear hi)))
    go_ret
    exact ⟨by first | rfl | (simp [errW_none, errW_some] <;> rfl) | (simp [*, errW_none, errW_some] <;> rfl), zi, zj, zh⟩
  ·rw [if_neg c5] at H
   have c5b0 : decide (200 < a1) = false := decide_eq_false c5
   clear c5
   by_cases c10 : a1 = 0
   ·rw [if_pos c10] at H
    exact absurd H (by simp)
   ·rw [if_neg c10] at H
    have c10b0 : (a1 == 0) = false := beq_eq_false_iff_ne.mpr c10
    have c10b1 : (a1 != 0) = true := bne_iff_ne.mpr c10
    simp only [Option.some.injEq, Prod.mk.injEq] at H
    obtain ⟨rfl, rfl, rfl⟩ := H
    go_enter Try.func62, Try.ntmps62
    go_wp2_with (first | ((with_reducible refine gateC (f := 124) rfl ?_); refine goesL_ (some 9) rfl rfl Try.func124 (by kernel_rfl) rfl #[.pointer (some ⟨g, 0, none⟩)] rfl zm ?_; (with_reducible refine (spec_l1Cur_next.calls g s0_0 s0_1 s0_2 t102 t103 t104 w0 _ ?side1 ?side2 A4.out).mono ?_); (case side1 => exact zi); (case side2 => exact zj); rintro e w11 ⟨rfl, hi, hb, hk⟩; refine ⟨_, rfl, ?_⟩; have n0_ := am (KeepBut.trans zh hk (.inl rfl)); have n1_ := am (hb); have n2_ := am (hi); clear HK; clear HB; clear HI0; have HK := n0_; have HB := n1_; have HI0 := n2_; clear n0_ n1_ n2_; (try clear hb); (try clear hk); (try clear hi)))
    go_ret
    exact ⟨by first | rfl | (simp [errW_none, errW_some] <;> rfl) | (simp [*, errW_none, errW_some] <;> rfl), zi, zj, zh⟩
end Go.Proofs.Ytmcldkobejhaeaa.My
/- Written by this session's program (wip/gen): a plain function with the same answers as the Go function, and the proof that the Go code comes to them. Asked: that the plain function has an answer. -/
namespace Go.Proofs.Ytmcldkobejhaeaa.My
open Go.RowKit Go.Proofs.YtmcldkobejhaeaaW.PrintWords Go.Proofs.YtmcldkobejhaeaaW.PrintLast Go.Proofs.YtmcldkobejhaeaaW.PrintMore
attribute [local go_sem] max2_int min2_int max_two min_two max_three min_three max_four min_four
set_option linter.unusedVariables false
set_option linter.unusedSimpArgs false
def spec_l1Cur_among.f (s0_0 : List Int) (s0_1 : Int) (s0_2 : Int) (l1 : List Int) : Option (Int × Int × Int) := (spec_l1Cur_pick.f s0_0 s0_1 s0_2 (l1.length : Int)).bind fun bt590 => (if 0 ≤ bt590.1 then (if bt590.1 < (l1.length : Int) then (some (rd l1 bt590.1, bt590.2.1, bt590.2.2)) else (none)) else (none))
set_option maxHeartbeats 8000000 in
set_option maxRecDepth 100000 in
theorem spec_l1Cur_among.calls (g : Nat) (s0_0 : List Int) (s0_1 : Int) (s0_2 : Int) (A1 : Option Addr) (c1 : Nat) (l1 : List Int) (r1 : Int) (r2 : Int) (r3 : Int) (w0 w : World) (hI : IsS87 w0 w g s0_0 s0_1 s0_2) (hB : Below w0.heap.size w0 w) (hr1 : Kd.C (Kd.int .i64) w A1 l1.length l1) (hc1 : l1.length ≤ c1) (hf1 : ∀ ad, A1 = some ad → 0 < l1.length → ad.block ≠ g) (h : spec_l1Cur_among.f s0_0 s0_1 s0_2 l1 = some (r1, r2, r3)) :
  Calls Try.prog 154 #[.pointer (some ⟨g, 0, none⟩), .slice A1 l1.length c1] w fun e w' => e = .returned (.int .i64 r1) ∧ IsS87 w0 w' g s0_0 r2 r3 ∧ Below w0.heap.size w0 w' ∧ KeepBut w w' g none := by
 have HR1 := am hr1
 have HC1 := am hc1
 clear hr1 hc1
 have HI0 := am hI
 have HK := am (KeepBut.refl w g none)
 have HL := am hB.size
 clear hI
 have HW0 := am hB.size
 have HB := am hB
 clear hB
 have H : ((spec_l1Cur_pick.f s0_0 s0_1 s0_2 (l1.length : Int)).bind fun bt590 => (if 0 ≤ bt590.1 then (if bt590.1 < (l1.length : Int) then (some (rd l1 bt590.1, bt590.2.1, bt590.2.2)) else (none)) else (none))) = some (r1, r2, r3) := h
 clear h
 replace H := Option.bind_eq_some_iff.mp H
 obtain ⟨⟨t590, t591, t592⟩, A30, H⟩ := H
 replace H : (if 0 ≤ t590 then (if t590 < (l1.length : Int) then (some (rd l1 t590, t591, t592)) else (none)) else (none)) = some (r1, r2, r3) := H
 have A3 := am A30
 clear A30
 by_cases c4 : 0 ≤ t590
 ·rw [if_pos c4] at H
  have c4b0 : decide (0 ≤ t590) = true := decide_eq_true c4
  clear c4
  by_cases c5 : t590 < (l1.length : Int)
  ·rw [if_pos c5] at H
   have c5b0 : decide (t590 < (l1.length : Int)) = true := decide_eq_true c5
   clear c5
   simp only [Option.some.injEq, Prod.mk.injEq] at H
   obtain ⟨rfl, rfl, rfl⟩ := H
   go_enter Try.func154, Try.ntmps154
   go_wp2_with (first | ((with_reducible refine gateC (f := 62) rfl ?_); refine goesL_ (some 9) rfl rfl Try.func62 (by kernel_rfl) rfl #[.pointer (some ⟨g, 0, none⟩), .int .i64 (l1.length : Int)] rfl zm ?_; (with_reducible refine (spec_l1Cur_pick.calls g s0_0 s0_1 s0_2 (l1.length : Int) t590 t591 t592 w0 _ ?side1 ?side2 A3.out).mono ?_); (case side1 => exact zi); (case side2 => exact zj); rintro e w6 ⟨rfl, hi, hb, hk⟩; refine ⟨_, rfl, ?_⟩; have n0_ := am (KeepBut.trans zh hk (.inl rfl)); have n1_ := am (hb); have n2_ := am (hi); clear HK; clear HB; clear HI0; have HK := n0_; have HB := n1_; have HI0 := n2_; clear n0_ n1_ n2_; (try clear hb); (try clear hk); (try clear hi); have p593 : 0 ≤ (t590 : Int) := oa; have q593 : t590 < (l1.length : Int) := oa; obtain ⟨ad593, e593, hx593_0⟩ := Kd.at_int HR1.out t590 p593 q593; cases e593; replace hx593_0 := keep_cell HK.out hx593_0 (by first | (rw [add_block]; exact hf1 _ rfl (by omega)) | exact hf1 _ rfl (by omega) | exact hf1 ad593 rfl (by omega)); replace p593 := eq_true p593; replace q593 := eq_true q593))
   go_ret
   exact ⟨by first | rfl | (simp [errW_none, errW_some] <;> rfl) | (simp [*, errW_none, errW_some] <;> rfl), zi, zj, zh⟩
  ·rw [if_neg c5] at H
   exact absurd H (by simp)
 ·rw [if_neg c4] at H
  exact absurd H (by simp)
end Go.Proofs.Ytmcldkobejhaeaa.My
/- Written by this session's program (wip/gen): a plain function with the same answers as the Go function, and the proof that the Go code comes to them. Asked: that the plain function has an answer. -/
namespace Go.Proofs.Ytmcldkobejhaeaa.My
open Go.RowKit Go.Proofs.YtmcldkobejhaeaaW.PrintWords Go.Proofs.YtmcldkobejhaeaaW.PrintLast Go.Proofs.YtmcldkobejhaeaaW.PrintMore
attribute [local go_sem] max2_int min2_int max_two min_two max_three min_three max_four min_four
set_option linter.unusedVariables false
set_option linter.unusedSimpArgs false
def spec_l1Cur_of.f (s0_0 : List Int) (s0_1 : Int) (s0_2 : Int) (l1 : List ByteArray) : Option (ByteArray × Int × Int) := (spec_l1Cur_pick.f s0_0 s0_1 s0_2 (l1.length : Int)).bind fun bt108 => (if 0 ≤ bt108.1 then (if bt108.1 < (l1.length : Int) then (some (rdOf ByteArray.empty l1 bt108.1, bt108.2.1, bt108.2.2)) else (none)) else (none))
set_option maxHeartbeats 8000000 in
set_option maxRecDepth 100000 in
theorem spec_l1Cur_of.calls (g : Nat) (s0_0 : List Int) (s0_1 : Int) (s0_2 : Int) (A1 : Option Addr) (c1 : Nat) (l1 : List ByteArray) (r1 : ByteArray) (r2 : Int) (r3 : Int) (w0 w : World) (hI : IsS87 w0 w g s0_0 s0_1 s0_2) (hB : Below w0.heap.size w0 w) (hr1 : Kd.C Kd.string w A1 l1.length l1) (hc1 : l1.length ≤ c1) (hf1 : ∀ ad, A1 = some ad → 0 < l1.length → ad.block ≠ g) (h : spec_l1Cur_of.f s0_0 s0_1 s0_2 l1 = some (r1, r2, r3)) :
  Calls Try.prog 72 #[.pointer (some ⟨g, 0, none⟩), .slice A1 l1.length c1] w fun e w' => e = .returned (.string r1) ∧ IsS87 w0 w' g s0_0 r2 r3 ∧ Below w0.heap.size w0 w' ∧ KeepBut w w' g none := by
 have HR1 := am hr1
 have HC1 := am hc1
 clear hr1 hc1
 have HI0 := am hI
 have HK := am (KeepBut.refl w g none)
 have HL := am hB.size
 clear hI
 have HW0 := am hB.size
 have HB := am hB
 clear hB
 have H : ((spec_l1Cur_pick.f s0_0 s0_1 s0_2 (l1.length : Int)).bind fun bt108 => (if 0 ≤ bt108.1 then (if bt108.1 < (l1.length : Int) then (some (rdOf ByteArray.empty l1 bt108.1, bt108.2.1, bt108.2.2)) else (none)) else (none))) = some (r1, r2, r3) := h
 clear h
 replace H := Option.bind_eq_some_iff.mp H
 obtain ⟨⟨t108, t109, t110⟩, A30, H⟩ := H
 replace H : (if 0 ≤ t108 then (if t108 < (l1.length : Int) then (some (rdOf ByteArray.empty l1 t108, t109, t110)) else (none)) else (none)) = some (r1, r2, r3) := H
 have A3 := am A30
 clear A30
 by_cases c4 : 0 ≤ t108
 ·rw [if_pos c4] at H
  have c4b0 : decide (0 ≤ t108) = true := decide_eq_true c4
  clear c4
  by_cases c5 : t108 < (l1.length : Int)
  ·rw [if_pos c5] at H
   have c5b0 : decide (t108 < (l1.length : Int)) = true := decide_eq_true c5
   clear c5
   simp only [Option.some.injEq, Prod.mk.injEq] at H
   obtain ⟨rfl, rfl, rfl⟩ := H
   go_enter Try.func72, Try.ntmps72
   go_wp2_with (first | ((with_reducible refine gateC (f := 62) rfl ?_); refine goesL_ (some 9) rfl rfl Try.func62 (by kernel_rfl) rfl #[.pointer (some ⟨g, 0, none⟩), .int .i64 (l1.length : Int)] rfl zm ?_; (with_reducible refine (spec_l1Cur_pick.calls g s0_0 s0_1 s0_2 (l1.length : Int) t108 t109 t110 w0 _ ?side1 ?side2 A3.out).mono ?_); (case side1 => exact zi); (case side2 => exact zj); rintro e w6 ⟨rfl, hi, hb, hk⟩; refine ⟨_, rfl, ?_⟩; have n0_ := am (KeepBut.trans zh hk (.inl rfl)); have n1_ := am (hb); have n2_ := am (hi); clear HK; clear HB; clear HI0; have HK := n0_; have HB := n1_; have HI0 := n2_; clear n0_ n1_ n2_; (try clear hb); (try clear hk); (try clear hi); have p111 : 0 ≤ (t108 : Int) := oa; have q111 : t108 < (l1.length : Int) := oa; obtain ⟨ad111, e111, hx111_0⟩ := Kd.at_string HR1.out t108 p111 q111; cases e111; replace hx111_0 := keep_cell HK.out hx111_0 (by first | (rw [add_block]; exact hf1 _ rfl (by omega)) | exact hf1 _ rfl (by omega) | exact hf1 ad111 rfl (by omega)); replace p111 := eq_true p111; replace q111 := eq_true q111))
   go_ret
   exact ⟨by first | rfl | (simp [errW_none, errW_some] <;> rfl) | (simp [*, errW_none, errW_some] <;> rfl), zi, zj, zh⟩
  ·rw [if_neg c5] at H
   exact absurd H (by simp)
 ·rw [if_neg c4] at H
  exact absurd H (by simp)
end Go.Proofs.Ytmcldkobejhaeaa.My