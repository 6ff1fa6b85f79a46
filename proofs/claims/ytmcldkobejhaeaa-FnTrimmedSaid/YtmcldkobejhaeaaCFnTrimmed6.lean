/- Part 6 of 7 of a proof of this sentence: The Go function loop.example/g00825/laws.FnTrimmed returns true for every input, and each argument reads afterwards as it read before. No condition. -/
import Derived.Lib.Strings
import Derived.Laws.Bits64b
import Derived.Lib.Bytealg
import Derived.Test.YtmcldkobejhaeaaCFnTrimmed5
/- Written by this session's program (wip/gen): a plain function with the same answers as the Go function, and the proof that the Go code comes to them. Asked: that the plain function has an answer. -/
namespace Go.Proofs.Ytmcldkobejhaeaa.My
open Go.RowKit Go.Proofs.YtmcldkobejhaeaaW.PrintWords Go.Proofs.YtmcldkobejhaeaaW.PrintLast Go.Proofs.YtmcldkobejhaeaaW.PrintMore
attribute [local go_sem] max2_int min2_int max_two min_two max_three min_three max_four min_four
set_option linter.unusedVariables false
set_option linter.unusedSimpArgs false
def spec_l2Trim.l0 : Nat → List ByteArray → List (S106) → List (S106) → Int → Int → Option ((List (S106)))
 | 0, _, _, _, _, _ => none
 | k + 1, x0, x5, x12, x13, x14 => if x14 < x13 then (if 0 ≤ x14 then (if x14 < (x12.length : Int) then (if 0 ≤ ((rd_T106 x12 x14).f0) then (if ((rd_T106 x12 x14).f0) ≤ (wrap64 (((rd_T106 x12 x14).f0) + ((rd_T106 x12 x14).f1))) then (if (wrap64 (((rd_T106 x12 x14).f0) + ((rd_T106 x12 x14).f1))) ≤ (x0.length : Int) then ((spec_l1Ahead.f k ((x0.take ((wrap64 (((rd_T106 x12 x14).f0) + ((rd_T106 x12 x14).f1))) : Int).toNat).drop (((rd_T106 x12 x14).f0) : Int).toNat) ((rd_T106 x12 x14).f2)).bind fun t730 => ((spec_l1Behind.f k ((x0.take ((wrap64 (((rd_T106 x12 x14).f0) + ((rd_T106 x12 x14).f1))) : Int).toNat).drop (((rd_T106 x12 x14).f0) : Int).toNat) ((rd_T106 x12 x14).f2)).bind fun t731 => (if 0 ≤ t730 then (if t730 ≤ (wrap64 ((((rd_T106 x12 x14).f2).length : Int) - t731)) then (if (wrap64 ((((rd_T106 x12 x14).f2).length : Int) - t731)) ≤ (((rd_T106 x12 x14).f2).length : Int) then ((spec_l1OwnT.f ((((rd_T106 x12 x14).f2).take ((wrap64 ((((rd_T106 x12 x14).f2).length : Int) - t731)) : Int).toNat).drop (t730 : Int).toNat)).bind fun t733 => (if (wrap64 ((wrap64 ((wrap64 (((rd_T106 x12 x14).f1) - t730)) - t731)) + (t733.length : Int))) > 0 then (if x5.length < 3518437208883 then (spec_l2Trim.l0 k x0 (x5 ++ [(⟨wrap64 (((rd_T106 x12 x14).f0) + t730), wrap64 ((wrap64 (((rd_T106 x12 x14).f1) - t730)) - t731), t733⟩ : S106)]) x12 x13 (wrap64 (x14 + 1))) else (none)) else (spec_l2Trim.l0 k x0 x5 x12 x13 (wrap64 (x14 + 1))))) else (none)) else (none)) else (none)))) else (none)) else (none)) else (none)) else (none)) else (none)) else (some x5)
def spec_l2Trim.f (k : Nat) (l0 : List ByteArray) (l1 : List (S106)) : Option ((List (S106))) := spec_l2Trim.l0 k l0 ([] : List (S106)) l1 (l1.length : Int) 0
def spec_l2Trim.T8 : Bool × List (List Nat × List Nat) := (true, [([], []), ([0], [0]), ([], []), ([1, 2], [1, 2]), ([], []), ([4], [4]), ([], []), ([5, 6], [5, 6]), ([], []), ([7, 8], [7, 8]), ([], []), ([10], [10]), ([], []), ([], []), ([13], [13]), ([14], [14]), ([], []), ([15, 16], [15, 16]), ([11, 12, 17], [11, 12, 17]), ([18], [18]), ([3, 9, 19], [3, 9, 19]), ([], []), ([21, 20, 19, 0, 1, 2, 3, 4, 5, 6, 7, 8, 9, 10, 11, 12, 13, 14, 15, 16, 17, 18, 19, 20, 21], [20, 21])])
def spec_l2Trim.B8 : List Nat := [0, 1, 0, 7, 0, 16, 0, 112, 0, 496, 0, 1024, 0, 0, 8192, 24576, 0, 122880, 261120, 523264, 1048575, 0, 4194303]
theorem spec_l2Trim.tab8 : rtab .any (opsOf Try.f89 8) = spec_l2Trim.T8 := by kernel_rfl
theorem spec_l2Trim.bits8 : waitsOk spec_l2Trim.T8.2 spec_l2Trim.B8 = true := by kernel_rfl
set_option maxHeartbeats 8000000 in
set_option maxRecDepth 100000 in
theorem spec_l2Trim.calls (k : Nat) (A0 : Option Addr) (c0 : Nat) (l0 : List ByteArray) (A1 : Option Addr) (c1 : Nat) (l1 : List (S106)) (r : List (S106)) (w : World) (hr0 : Kd.C Kd.string w A0 l0.length l0) (hc0 : l0.length ≤ c0) (hr1 : Kd.C k106 w A1 l1.length l1) (hc1 : l1.length ≤ c1) (h : spec_l2Trim.f k l0 l1 = some r) :
  Calls Try.prog 89 #[.slice A0 l0.length c0, .slice A1 l1.length c1] w fun e w' => ∃ v0_ : Value, e = .returned (v0_) ∧ Kd.S k106 106 w' w.heap.size (fun _ => True) v0_ r ∧ Below w.heap.size w w' := by
 have hu106 := Try.underlying106
 have HR0 := am hr0
 have HC0 := am hc0
 clear hr0 hc0
 have HR1 := am hr1
 have HC1 := am hc1
 clear hr1 hc1
 have HB := am (Below.refl w.heap.size w)
 have H : (spec_l2Trim.l0 k l0 ([] : List (S106)) l1 (l1.length : Int) 0) = some r := h
 clear h
 have H' := am H
 clear H
 go_enter Try.func89, Try.ntmps89
 go_wp2
 go_loopg [5, 14] k (fun kq v5 v14 w' => ∃ (x5_1 : List (S106)) (x14_1 : Int), v14 = .int .i64 x14_1 ∧ Aside0 (spec_l2Trim.l0 kq l0 x5_1 l1 (l1.length : Int) x14_1 = some r) ∧ Aside0 (kq ≤ k) ∧ Aside0 (Kd.S k106 106 w' w.heap.size (fun _ => True) v5 x5_1) ∧ Aside0 (Below w.heap.size w w'))
 case atStart => exact ⟨(([] : List (S106))), (0), zf, H', ⟨Nat.le_refl _⟩, ⟨by first | exact Kd.S_nil _ _ _ _ _ | exact Kd.Q_nil _ _ _ _ _ | exact Kd.R_nil _ _ _ _ _⟩, ⟨by repeat (first | (with_reducible first | exact HB.out | apply below_alloc | apply pw_below_drewN | apply below_drew1) | exact HB.out)⟩⟩
 case round =>
  clear H'
  try clear c1
  try clear p2
  obtain ⟨x5_1, x14_1, rfl, HA, HK1, HO_5, HB⟩ := hrel
  cases gk with
  | zero => exact absurd HA.out (by simp [spec_l2Trim.l0])
  | succ k1 =>
   have H := HA.out
   clear HA
   simp only [spec_l2Trim.l0] at H
   by_cases c3 : x14_1 < (l1.length : Int)
   ·rw [if_pos c3] at H
    have c3b0 : decide (x14_1 < (l1.length : Int)) = true := decide_eq_true c3
    clear c3
    by_cases c4 : 0 ≤ x14_1
    ·rw [if_pos c4] at H
     have c4b0 : decide (0 ≤ x14_1) = true := decide_eq_true c4
     clear c4
     by_cases c5 : x14_1 < (l1.length : Int)
     ·rw [if_pos c5] at H
      have c5b0 : decide (x14_1 < (l1.length : Int)) = true := decide_eq_true c5
      clear c5
      by_cases c6 : 0 ≤ ((rd_T106 l1 x14_1).f0)
      ·rw [if_pos c6] at H
       have c6b0 := eq_true c6
       have c6b1 : decide (0 ≤ ((rd_T106 l1 x14_1).f0)) = true := decide_eq_true c6
       clear c6
       by_cases c7 : ((rd_T106 l1 x14_1).f0) ≤ (wrap64 (((rd_T106 l1 x14_1).f0) + ((rd_T106 l1 x14_1).f1)))
       ·rw [if_pos c7] at H
        have c7b0 := eq_true c7
        have c7b1 : decide (((rd_T106 l1 x14_1).f0) ≤ (wrap64 (((rd_T106 l1 x14_1).f0) + ((rd_T106 l1 x14_1).f1)))) = true := decide_eq_true c7
        by_cases c8 : (wrap64 (((rd_T106 l1 x14_1).f0) + ((rd_T106 l1 x14_1).f1))) ≤ (l0.length : Int)
        ·rw [if_pos c8] at H
         have c8b0 := eq_true c8
         have c8b1 : decide ((wrap64 (((rd_T106 l1 x14_1).f0) + ((rd_T106 l1 x14_1).f1))) ≤ (l0.length : Int)) = true := decide_eq_true c8
         replace H := Option.bind_eq_some_iff.mp H
         obtain ⟨t730, A90, H⟩ := H
         replace H : ((spec_l1Behind.f k1 ((l0.take ((wrap64 (((rd_T106 l1 x14_1).f0) + ((rd_T106 l1 x14_1).f1))) : Int).toNat).drop (((rd_T106 l1 x14_1).f0) : Int).toNat) ((rd_T106 l1 x14_1).f2)).bind fun t731 => (if 0 ≤ t730 then (if t730 ≤ (wrap64 ((((rd_T106 l1 x14_1).f2).length : Int) - t731)) then (if (wrap64 ((((rd_T106 l1 x14_1).f2).length : Int) - t731)) ≤ (((rd_T106 l1 x14_1).f2).length : Int) then ((spec_l1OwnT.f ((((rd_T106 l1 x14_1).f2).take ((wrap64 ((((rd_T106 l1 x14_1).f2).length : Int) - t731)) : Int).toNat).drop (t730 : Int).toNat)).bind fun t733 => (if (wrap64 ((wrap64 ((wrap64 (((rd_T106 l1 x14_1).f1) - t730)) - t731)) + (t733.length : Int))) > 0 then (if x5_1.length < 3518437208883 then (spec_l2Trim.l0 k1 l0 (x5_1 ++ [(⟨wrap64 (((rd_T106 l1 x14_1).f0) + t730), wrap64 ((wrap64 (((rd_T106 l1 x14_1).f1) - t730)) - t731), t733⟩ : S106)]) l1 (l1.length : Int) (wrap64 (x14_1 + 1))) else (none)) else (spec_l2Trim.l0 k1 l0 x5_1 l1 (l1.length : Int) (wrap64 (x14_1 + 1))))) else (none)) else (none)) else (none))) = some r := H
         have A9 := am A90
         clear A90
         replace H := Option.bind_eq_some_iff.mp H
         obtain ⟨t731, A100, H⟩ := H
         replace H : (if 0 ≤ t730 then (if t730 ≤ (wrap64 ((((rd_T106 l1 x14_1).f2).length : Int) - t731)) then (if (wrap64 ((((rd_T106 l1 x14_1).f2).length : Int) - t731)) ≤ (((rd_T106 l1 x14_1).f2).length : Int) then ((spec_l1OwnT.f ((((rd_T106 l1 x14_1).f2).take ((wrap64 ((((rd_T106 l1 x14_1).f2).length : Int) - t731)) : Int).toNat).drop (t730 : Int).toNat)).bind fun t733 => (if (wrap64 ((wrap64 ((wrap64 (((rd_T106 l1 x14_1).f1) - t730)) - t731)) + (t733.length : Int))) > 0 then (if x5_1.length < 3518437208883 then (spec_l2Trim.l0 k1 l0 (x5_1 ++ [(⟨wrap64 (((rd_T106 l1 x14_1).f0) + t730), wrap64 ((wrap64 (((rd_T106 l1 x14_1).f1) - t730)) - t731), t733⟩ : S106)]) l1 (l1.length : Int) (wrap64 (x14_1 + 1))) else (none)) else (spec_l2Trim.l0 k1 l0 x5_1 l1 (l1.length : Int) (wrap64 (x14_1 + 1))))) else (none)) else (none)) else (none)) = some r := H
         have A10 := am A100
         clear A100
         by_cases c11 : 0 ≤ t730
         ·rw [if_pos c11] at H
          have c11b0 := eq_true c11
          have c11b1 : decide (0 ≤ t730) = true := decide_eq_true c11
          clear c11
          by_cases c12 : t730 ≤ (wrap64 ((((rd_T106 l1 x14_1).f2).length : Int) - t731))
          ·rw [if_pos c12] at H
           have c12b0 := eq_true c12
           have c12b1 : decide (t730 ≤ (wrap64 ((((rd_T106 l1 x14_1).f2).length : Int) - t731))) = true := decide_eq_true c12
           clear c12
           by_cases c13 : (wrap64 ((((rd_T106 l1 x14_1).f2).length : Int) - t731)) ≤ (((rd_T106 l1 x14_1).f2).length : Int)
           ·rw [if_pos c13] at H
            have c13b0 := eq_true c13
            have c13b1 : decide ((wrap64 ((((rd_T106 l1 x14_1).f2).length : Int) - t731)) ≤ (((rd_T106 l1 x14_1).f2).length : Int)) = true := decide_eq_true c13
            clear c13
            replace H := Option.bind_eq_some_iff.mp H
            obtain ⟨t733, A140, H⟩ := H
            replace H : (if (wrap64 ((wrap64 ((wrap64 (((rd_T106 l1 x14_1).f1) - t730)) - t731)) + (t733.length : Int))) > 0 then (if x5_1.length < 3518437208883 then (spec_l2Trim.l0 k1 l0 (x5_1 ++ [(⟨wrap64 (((rd_T106 l1 x14_1).f0) + t730), wrap64 ((wrap64 (((rd_T106 l1 x14_1).f1) - t730)) - t731), t733⟩ : S106)]) l1 (l1.length : Int) (wrap64 (x14_1 + 1))) else (none)) else (spec_l2Trim.l0 k1 l0 x5_1 l1 (l1.length : Int) (wrap64 (x14_1 + 1)))) = some r := H
            have A14 := am A140
            clear A140
            by_cases c15 : (wrap64 ((wrap64 ((wrap64 (((rd_T106 l1 x14_1).f1) - t730)) - t731)) + (t733.length : Int))) > 0
            ·rw [if_pos c15] at H
             have c15b0 : decide (0 < (wrap64 ((wrap64 ((wrap64 (((rd_T106 l1 x14_1).f1) - t730)) - t731)) + (t733.length : Int)))) = true := decide_eq_true c15
             clear c15
             by_cases c16 : x5_1.length < 3518437208883
             ·rw [if_pos c16] at H
              have LMc16 := am c16
              clear c16
              obtain ⟨y737, hy737⟩ : ∃ y_ : List (S106), y_ = (x5_1 ++ [(⟨wrap64 (((rd_T106 l1 x14_1).f0) + t730), wrap64 ((wrap64 (((rd_T106 l1 x14_1).f1) - t730)) - t731), t733⟩ : S106)]) := ⟨_, rfl⟩
              replace H : (spec_l2Trim.l0 k1 l0 y737 l1 (l1.length : Int) (wrap64 (x14_1 + 1))) = some r := by first | (rw [hy737]; with_reducible exact H) | (have H2_ := (Option.bind_some _ _).symm.trans H; rw [hy737]; with_reducible exact H2_) | (have H2_ := (Option.bind_some _ _).symm.trans H; with_reducible exact H2_) | with_reducible exact H | (rw [hy737]; exact H) | exact H
              have Ny737 := am hy737
              clear hy737
              have H' := am H
              clear H
              have p727 : 0 ≤ (x14_1 : Int) := oa
              have q727 : x14_1 < (l1.length : Int) := oa
              obtain ⟨ad727, A727_2, c727_2, e727, hx727_0, hx727_1, hx727_2, hl727_2, hi727_2⟩ := at_T106 HR1.out x14_1 p727 q727
              cases e727
              replace hx727_0 := (HB.out.cell (World.block_lt_of_cell? w _ hx727_0)).trans hx727_0
              replace hx727_1 := (HB.out.cell (World.block_lt_of_cell? w _ hx727_1)).trans hx727_1
              replace hx727_2 := (HB.out.cell (World.block_lt_of_cell? w _ hx727_2)).trans hx727_2
              have HR727_2 := am hi727_2
              have HC727_2 := am hl727_2
              clear hi727_2 hl727_2
              replace p727 := eq_true p727
              replace q727 := eq_true q727
              try go_wp2_with (first | ((with_reducible refine gate_dst (N := 7) rfl ?_); refine box_event ?hg (N := 7) ?hd (cs := #[.int .i64 0, .int .i64 0, .slice none 0 0]) (t := 106) ?hr ?_; (case hd => rfl); (case hg => rfl); (case hr => first | (go_simp; done) | (go_simp; rfl)); intro gb728 hg w17 hbox hb; have n0_ := am (Kd.S_below (Kd.S_elderB (zs HO_5.out) gb728 (Nat.le_of_eq hg.symm)) hb); have n1_ := am (below_step zb hb); have n2_ := am (hbox); have n3_ := am ((by rw [hg]; exact (below_size zb) : w.heap.size ≤ gb728)); have n4_ := am ((by rw [hg]; exact (below_size zb) : w.heap.size ≤ gb728)); clear HO_5; clear HB; have HO_5 := n0_; have HB := n1_; have BK728 := n2_; have GW728 := n3_; have GE728 := n4_; clear n0_ n1_ n2_ n3_ n4_; clear hb hbox hg; have hcz18_0 : w17.cell? ⟨gb728, 0, none⟩ = some (.int .i64 0) := (blk_cell BK728.out 0).trans rfl; have hcz18_1 : w17.cell? ⟨gb728, 1, none⟩ = some (.int .i64 0) := (blk_cell BK728.out 1).trans rfl; have hcz18_2 : w17.cell? ⟨gb728, 2, none⟩ = some (.slice none 0 0) := (blk_cell BK728.out 2).trans rfl; have hfz18_0 := blk_frozen BK728.out 0; have hfz18_1 := blk_frozen BK728.out 1; have hfz18_2 := blk_frozen BK728.out 2; obtain ⟨i019, hi019, _, hsz19, _⟩ := info_parts info9; obtain ⟨A19, hcut19, hA19, hC19⟩ := print_mid_of (P := Try.prog) Value.string (⟨#[]⟩ : ByteArray) 24 9 .i64 .i64 Try.underlying24 hi019 hsz19 A0 c0 l0 ((rd_T106 l1 x14_1).f0) (wrap64 (((rd_T106 l1 x14_1).f0) + ((rd_T106 l1 x14_1).f1))) oa (by first | omega | exact oa) oa HC0.out; have HR729 := am (Kd.C_of_reads (h1 := fun _ => rfl) (hA19 _ (Kd.reads_of_C HR0.out))); have HC729 := am hC19; clear hA19 hC19 hi019 hsz19) | ((with_reducible refine gateC (f := 134) rfl ?_); refine goesL_ (some 30) rfl rfl Try.func134 (by kernel_rfl) rfl #[.slice A19 ((l0.take ((wrap64 (((rd_T106 l1 x14_1).f0) + ((rd_T106 l1 x14_1).f1))) : Int).toNat).drop (((rd_T106 l1 x14_1).f0) : Int).toNat).length (c0 - ((rd_T106 l1 x14_1).f0).toNat), .slice A727_2 ((rd_T106 l1 x14_1).f2).length c727_2] rfl (by (try simp only [List.map_toArray, List.map_cons, List.map_nil]); first | done | (rw [show ((l0.take ((wrap64 (((rd_T106 l1 x14_1).f0) + ((rd_T106 l1 x14_1).f1))) : Int).toNat).drop (((rd_T106 l1 x14_1).f0) : Int).toNat).length = ((wrap64 (((rd_T106 l1 x14_1).f0) + ((rd_T106 l1 x14_1).f1))).toNat - ((rd_T106 l1 x14_1).f0).toNat) from (by rw [List.length_drop, List.length_take]; have h_ : ((wrap64 (((rd_T106 l1 x14_1).f0) + ((rd_T106 l1 x14_1).f1))) : Int) ≤ (l0.length : Int) := oa; omega)] <;> rfl) | rfl | (simp only [List.length_drop, List.length_take]; rfl)) ?_; (with_reducible refine (spec_l1Ahead.calls k1 _ _ ((l0.take ((wrap64 (((rd_T106 l1 x14_1).f0) + ((rd_T106 l1 x14_1).f1))) : Int).toNat).drop (((rd_T106 l1 x14_1).f0) : Int).toNat) _ _ ((rd_T106 l1 x14_1).f2) t730 _ ?side1 ?side2 ?side3 ?side4 A9.out).mono ?_); (case side1 => exact Kd.C_below HR729.out (by repeat (first | (with_reducible first | exact HB.out | apply below_alloc | apply pw_below_drewN | apply below_drew1 | refine below_set ?_ GE728.out) | exact HB.out))); (case side2 => exact HC729.out); (case side3 => exact Kd.C_below HR727_2.out (by repeat (first | (with_reducible first | exact HB.out | apply below_alloc | apply pw_below_drewN | apply below_drew1 | refine below_set ?_ GE728.out) | exact HB.out))); (case side4 => exact HC727_2.out); rintro e w' ⟨rfl, ⟨nd, rfl⟩⟩; refine ⟨_, rfl, ?_⟩) | ((with_reducible refine gateC (f := 135) rfl ?_); refine goesL_ (some 34) rfl rfl Try.func135 (by kernel_rfl) rfl #[.slice A19 ((l0.take ((wrap64 (((rd_T106 l1 x14_1).f0) + ((rd_T106 l1 x14_1).f1))) : Int).toNat).drop (((rd_T106 l1 x14_1).f0) : Int).toNat).length (c0 - ((rd_T106 l1 x14_1).f0).toNat), .slice A727_2 ((rd_T106 l1 x14_1).f2).length c727_2] rfl (by (try simp only [List.map_toArray, List.map_cons, List.map_nil]); first | done | (rw [show ((l0.take ((wrap64 (((rd_T106 l1 x14_1).f0) + ((rd_T106 l1 x14_1).f1))) : Int).toNat).drop (((rd_T106 l1 x14_1).f0) : Int).toNat).length = ((wrap64 (((rd_T106 l1 x14_1).f0) + ((rd_T106 l1 x14_1).f1))).toNat - ((rd_T106 l1 x14_1).f0).toNat) from (by rw [List.length_drop, List.length_take]; have h_ : ((wrap64 (((rd_T106 l1 x14_1).f0) + ((rd_T106 l1 x14_1).f1))) : Int) ≤ (l0.length : Int) := oa; omega)] <;> rfl) | rfl | (simp only [List.length_drop, List.length_take]; rfl)) ?_; (with_reducible refine (spec_l1Behind.calls k1 _ _ ((l0.take ((wrap64 (((rd_T106 l1 x14_1).f0) + ((rd_T106 l1 x14_1).f1))) : Int).toNat).drop (((rd_T106 l1 x14_1).f0) : Int).toNat) _ _ ((rd_T106 l1 x14_1).f2) t731 _ ?side1 ?side2 ?side3 ?side4 A10.out).mono ?_); (case side1 => exact Kd.C_below HR729.out (by repeat (first | (with_reducible first | exact HB.out | apply below_alloc | apply pw_below_drewN | apply below_drew1 | refine below_set ?_ GE728.out) | exact HB.out))); (case side2 => exact HC729.out); (case side3 => exact Kd.C_below HR727_2.out (by repeat (first | (with_reducible first | exact HB.out | apply below_alloc | apply pw_below_drewN | apply below_drew1 | refine below_set ?_ GE728.out) | exact HB.out))); (case side4 => exact HC727_2.out); rintro e w' ⟨rfl, ⟨nd, rfl⟩⟩; refine ⟨_, rfl, ?_⟩))
              have n0_ : Aside0 (Kd.S k106 106 (((w17.setCell ⟨gb728, 0, none⟩ (.int .i64 ((rd_T106 l1 x14_1).f0))).setCell ⟨gb728, 1, none⟩ (.int .i64 ((rd_T106 l1 x14_1).f1))).setCell ⟨gb728, 2, none⟩ (.slice A727_2 ((rd_T106 l1 x14_1).f2).length c727_2)) w.heap.size (fun k_ => k_ ≠ gb728) u5 x5_1) := ⟨by (with_reducible repeat (first | apply Kd.S_alloc | apply Kd.S_drewN | apply Kd.S_drew)); exact Kd.S_mono (Kd.S_far (p := ⟨gb728, 2, none⟩) (Kd.S_far (p := ⟨gb728, 1, none⟩) (Kd.S_far (p := ⟨gb728, 0, none⟩) (Kd.S_mono HO_5.out (fun k_ hk => (⟨hk, hk.2⟩ : _ ∧ k_ ≠ gb728))) (fun _ hk => hk.2) (.int .i64 ((rd_T106 l1 x14_1).f0))) (fun _ hk => hk.2) (.int .i64 ((rd_T106 l1 x14_1).f1))) (fun _ hk => hk.2) (.slice A727_2 ((rd_T106 l1 x14_1).f2).length c727_2)) (fun _ hk => hk.1.2)⟩
              have n1_ : Aside0 ((((w17.setCell ⟨gb728, 0, none⟩ (.int .i64 ((rd_T106 l1 x14_1).f0))).setCell ⟨gb728, 1, none⟩ (.int .i64 ((rd_T106 l1 x14_1).f1))).setCell ⟨gb728, 2, none⟩ (.slice A727_2 ((rd_T106 l1 x14_1).f2).length c727_2)).heap[gb728]? = some (.cells #[.int .i64 ((rd_T106 l1 x14_1).f0), .int .i64 ((rd_T106 l1 x14_1).f1), .slice A727_2 ((rd_T106 l1 x14_1).f2).length c727_2] 106 (0, 0))) := ⟨by (with_reducible repeat (first | refine blk_drewN ?_ _ | refine blk_drew ?_ | refine blk_alloc ?_ _)); refine blk_put (cs := #[.int .i64 ((rd_T106 l1 x14_1).f0), .int .i64 ((rd_T106 l1 x14_1).f1), .slice none 0 0]) ?_ 2 _ rfl; (with_reducible repeat (first | refine blk_drewN ?_ _ | refine blk_drew ?_ | refine blk_alloc ?_ _)); refine blk_put (cs := #[.int .i64 ((rd_T106 l1 x14_1).f0), .int .i64 0, .slice none 0 0]) ?_ 1 _ rfl; (with_reducible repeat (first | refine blk_drewN ?_ _ | refine blk_drew ?_ | refine blk_alloc ?_ _)); refine blk_put (cs := #[.int .i64 0, .int .i64 0, .slice none 0 0]) ?_ 0 _ rfl; (with_reducible repeat (first | refine blk_drewN ?_ _ | refine blk_drew ?_ | refine blk_alloc ?_ _)); exact BK728.out⟩
              have n2_ : Aside0 (Below w.heap.size w (((w17.setCell ⟨gb728, 0, none⟩ (.int .i64 ((rd_T106 l1 x14_1).f0))).setCell ⟨gb728, 1, none⟩ (.int .i64 ((rd_T106 l1 x14_1).f1))).setCell ⟨gb728, 2, none⟩ (.slice A727_2 ((rd_T106 l1 x14_1).f2).length c727_2))) := ⟨by repeat (first | (with_reducible first | exact HB.out | apply below_alloc | apply pw_below_drewN | apply below_drew1 | refine below_set ?_ GE728.out) | exact HB.out)⟩
              (try clear HO_5)
              (try clear BK728)
              (try clear HB)
              (try simp only [show ∀ (w_ : World) (n_ : Nat) (p_ : Addr) (v_ : Value), (w_.drewN n_).setCell p_ v_ = (w_.setCell p_ v_).drewN n_ from fun _ _ _ _ => rfl])
              generalize (((w17.setCell ⟨gb728, 0, none⟩ (.int .i64 ((rd_T106 l1 x14_1).f0))).setCell ⟨gb728, 1, none⟩ (.int .i64 ((rd_T106 l1 x14_1).f1))).setCell ⟨gb728, 2, none⟩ (.slice A727_2 ((rd_T106 l1 x14_1).f2).length c727_2)) = w20 at n0_ n1_ n2_ ⊢
              have HO_5 := n0_
              have BK728 := n1_
              have HB := n2_
              clear n0_ n1_ n2_
              (try (rw [drewN_self w20]; generalize hq_ : World.drewN w20 _ = w20; have n0_ : Aside0 (Kd.S k106 106 w20 w.heap.size (fun k_ => k_ ≠ gb728) u5 x5_1) := ⟨by rw [← hq_]; exact (zs HO_5.out)⟩; have n1_ : Aside0 (w20.heap[gb728]? = some (.cells #[.int .i64 ((rd_T106 l1 x14_1).f0), .int .i64 ((rd_T106 l1 x14_1).f1), .slice A727_2 ((rd_T106 l1 x14_1).f2).length c727_2] 106 (0, 0))) := ⟨by rw [← hq_]; exact (zk BK728.out)⟩; have n2_ : Aside0 (Below w.heap.size w w20) := ⟨by rw [← hq_]; exact (by repeat (first | (with_reducible first | exact HB.out | apply below_alloc | apply pw_below_drewN | apply below_drew1 | refine below_set ?_ GE728.out) | exact HB.out))⟩; clear HO_5 BK728 HB hq_; have HO_5 := n0_; have BK728 := n1_; have HB := n2_; clear n0_ n1_ n2_))
              have n0_ := am (Kd.S_drew HO_5.out)
              have n1_ := am (blk_drew BK728.out)
              have n2_ := am (below_drew1 HB.out)
              clear HO_5
              clear BK728
              clear HB
              have HO_5 := n0_
              have BK728 := n1_
              have HB := n2_
              clear n0_ n1_ n2_
              obtain ⟨i022, hi022, _, hsz22, _⟩ := info_parts info9
              obtain ⟨A22, hcut22, hA22, hC22⟩ := print_mid_of (P := Try.prog) Value.string (⟨#[]⟩ : ByteArray) 24 9 .i64 .i64 Try.underlying24 hi022 hsz22 A727_2 c727_2 ((rd_T106 l1 x14_1).f2) t730 (wrap64 ((((rd_T106 l1 x14_1).f2).length : Int) - t731)) oa (by first | omega | exact oa) oa HC727_2.out
              have HR732 := am (Kd.C_of_reads (h1 := fun _ => rfl) (hA22 _ (Kd.reads_of_C HR727_2.out)))
              have HC732 := am hC22
              clear hA22 hC22 hi022 hsz22
              refine start_ (n := 23) (S := fun w' => w'.cell? ⟨gb728, 0, none⟩ = some (.int .i64 ((rd_T106 l1 x14_1).f0)) ∧ w'.cell? ⟨gb728, 1, none⟩ = some (.int .i64 ((rd_T106 l1 x14_1).f1)) ∧ w'.cell? ⟨gb728, 2, none⟩ = some (.slice A727_2 ((rd_T106 l1 x14_1).f2).length c727_2)) (ds := []) #[O,O,O,O,O,O,O,O,O,O,O,O,O,O,O,O,O,O,O,O,O,O,O] (by kernel_rfl) rfl rfl ⟨(blk_cell BK728.out 0).trans rfl, (blk_cell BK728.out 1).trans rfl, (blk_cell BK728.out 2).trans rfl⟩ (fun hHeld => ?_); refine with_tabW spec_l2Trim.tab8 spec_l2Trim.bits8 (fun HT_ HW_ => ?_)
              generalize w20.drew = w21 at HO_5 BK728 HB HR732 hHeld ⊢
              refine pure_ (i := 0) (N := some 35) (v := ?_) (a' := ?_) #[Y,O,O,O,O,O,O,O,O,O,O,O,O,O,O,O,O,O,O,O,O,O,O] rfl rfl zx (fun _ _ _ h => h) (Or.inl ⟨by rfl, ?_⟩) ?_ ?_
              rotate_left; (intro w'; go_simp; with_reducible rfl); rotate_left; (simp only [Act.put,qa,qb,qc,i64_w,i32_w]; rfl)
              refine pure_ (i := 2) (N := some 37) (v := ?_) (a' := ?_) #[Y,O,Y,O,O,O,O,O,O,O,O,O,O,O,O,O,O,O,O,O,O,O,O] rfl rfl zx (fun _ _ _ h => h) (Or.inl ⟨by rfl, ?_⟩) ?_ ?_
              rotate_left; (intro w'; go_simp; with_reducible rfl); rotate_left; (simp only [Act.put,qa,qb,qc,i64_w,i32_w]; rfl)
              refine pure_ (i := 4) (N := some 39) (v := ?_) (a' := ?_) #[Y,O,Y,O,Y,O,O,O,O,O,O,O,O,O,O,O,O,O,O,O,O,O,O] rfl rfl zx (fun _ _ _ h => h) (Or.inl ⟨by rfl, ?_⟩) ?_ ?_
              rotate_left; (intro w'; go_simp; with_reducible rfl); rotate_left; (simp only [Act.put,qa,qb,qc,i64_w,i32_w]; rfl)
              refine pure_ (i := 6) (N := some 41) (v := ?_) (a' := ?_) #[Y,O,Y,O,Y,O,Y,O,O,O,O,O,O,O,O,O,O,O,O,O,O,O,O] rfl rfl zx (fun _ _ _ h => h) (Or.inl ⟨by rfl, ?_⟩) ?_ ?_
              rotate_left; (intro w'; go_simp; with_reducible rfl); rotate_left; (simp only [Act.put,qa,qb,qc,i64_w,i32_w]; rfl)
              refine pure_ (i := 8) (N := some 43) (v := ?_) (a' := ?_) #[Y,O,Y,O,Y,O,Y,O,Y,O,O,O,O,O,O,O,O,O,O,O,O,O,O] rfl rfl zx (fun _ _ _ h => h) (Or.inl ⟨by rfl, ?_⟩) ?_ ?_
              rotate_left; (intro w'; go_simp; with_reducible rfl); rotate_left; (simp only [Act.put,qa,qb,qc,i64_w,i32_w]; rfl)
              refine pure_ (i := 10) (N := some 45) (v := ?_) (a' := ?_) #[Y,O,Y,O,Y,O,Y,O,Y,O,Y,O,O,O,O,O,O,O,O,O,O,O,O] rfl rfl zx (fun _ _ _ h => h) (Or.inl ⟨by rfl, ?_⟩) ?_ ?_
              rotate_left; (intro w'; go_simp; with_reducible rfl); rotate_left; (simp only [Act.put,qa,qb,qc,i64_w,i32_w]; rfl)
              refine pure_ (i := 12) (N := some 47) (v := ?_) (a' := ?_) #[Y,O,Y,O,Y,O,Y,O,Y,O,Y,O,Y,O,O,O,O,O,O,O,O,O,O] rfl rfl zx (fun _ _ _ h => h) (Or.inl ⟨by rfl, ?_⟩) ?_ ?_
              rotate_left; (intro w'; go_simp; with_reducible rfl); rotate_left; (simp only [Act.put,qa,qb,qc,i64_w,i32_w]; rfl)
              refine pure_ (i := 13) (N := some 48) (v := ?_) (a' := ?_) #[Y,O,Y,O,Y,O,Y,O,Y,O,Y,O,Y,Y,O,O,O,O,O,O,O,O,O] rfl rfl zx (fun _ _ _ h => h) (Or.inl ⟨by rfl, ?_⟩) ?_ ?_
              rotate_left; (intro w'; go_simp; with_reducible rfl); rotate_left; (simp only [Act.put,qa,qb,qc,i64_w,i32_w]; rfl)
              refine pure_ (i := 16) (N := some 51) (v := ?_) (a' := ?_) #[Y,O,Y,O,Y,O,Y,O,Y,O,Y,O,Y,Y,O,O,Y,O,O,O,O,O,O] rfl rfl zx (fun _ _ _ h => h) (Or.inl ⟨by rfl, ?_⟩) ?_ ?_
              rotate_left; (intro w'; go_simp; with_reducible rfl); rotate_left; (simp only [Act.put,qa,qb,qc,i64_w,i32_w]; rfl)
              refine take_ (i := 1) (N := some 36) (v := ?_) (a' := ?_) #[Y,Y,Y,O,Y,O,Y,O,Y,O,Y,O,Y,Y,O,O,Y,O,O,O,O,O,O] rfl rfl (take_ofW HT_.out HW_.out (by kernel_rfl)) (fun _ _ _ h => h) (Or.inl ⟨by rfl, ?_⟩) hHeld ?_ ?_
              rotate_left; (rintro w' ⟨s0, s1, s2⟩; go_simp; with_reducible rfl); rotate_left; (simp only [Act.put,qa,qb,qc,i64_w,i32_w]; rfl)
              refine pure_ (i := 3) (N := some 38) (v := ?_) (a' := ?_) #[Y,Y,Y,Y,Y,O,Y,O,Y,O,Y,O,Y,Y,O,O,Y,O,O,O,O,O,O] rfl rfl zx (fun _ _ _ h => h) (Or.inl ⟨by rfl, ?_⟩) ?_ ?_
              rotate_left; (intro w'; go_simp; with_reducible rfl); rotate_left; (simp only [Act.put,qa,qb,qc,i64_w,i32_w]; rfl)
              refine take_ (i := 5) (N := some 40) (v := ?_) (a' := ?_) #[Y,Y,Y,Y,Y,Y,Y,O,Y,O,Y,O,Y,Y,O,O,Y,O,O,O,O,O,O] rfl rfl (take_ofW HT_.out HW_.out (by kernel_rfl)) (fun _ _ _ h => h) (Or.inl ⟨by rfl, ?_⟩) hHeld ?_ ?_
              rotate_left; (rintro w' ⟨s0, s1, s2⟩; go_simp; with_reducible rfl); rotate_left; (simp only [Act.put,qa,qb,qc,i64_w,i32_w]; rfl)
              refine pure_ (i := 7) (N := some 42) (v := ?_) (a' := ?_) #[Y,Y,Y,Y,Y,Y,Y,Y,Y,O,Y,O,Y,Y,O,O,Y,O,O,O,O,O,O] rfl rfl zx (fun _ _ _ h => h) (Or.inl ⟨by rfl, ?_⟩) ?_ ?_
              rotate_left; (intro w'; go_simp; with_reducible rfl); rotate_left; (simp only [Act.put,qa,qb,qc,i64_w,i32_w]; rfl)
              refine pure_ (i := 9) (N := some 44) (v := ?_) (a' := ?_) #[Y,Y,Y,Y,Y,Y,Y,Y,Y,Y,Y,O,Y,Y,O,O,Y,O,O,O,O,O,O] rfl rfl zx (fun _ _ _ h => h) (Or.inl ⟨by rfl, ?_⟩) ?_ ?_
              rotate_left; (intro w'; go_simp; with_reducible rfl); rotate_left; (simp only [Act.put,qa,qb,qc,i64_w,i32_w]; rfl)
              refine take_ (i := 11) (N := some 46) (v := ?_) (a' := ?_) #[Y,Y,Y,Y,Y,Y,Y,Y,Y,Y,Y,Y,Y,Y,O,O,Y,O,O,O,O,O,O] rfl rfl (take_ofW HT_.out HW_.out (by kernel_rfl)) (fun _ _ _ h => h) (Or.inl ⟨by rfl, ?_⟩) hHeld ?_ ?_
              rotate_left; (rintro w' ⟨s0, s1, s2⟩; go_simp; with_reducible rfl); rotate_left; (simp only [Act.put,qa,qb,qc,i64_w,i32_w]; rfl)
              refine take_ (i := 14) (N := some 49) (v := ?_) (a' := ?_) #[Y,Y,Y,Y,Y,Y,Y,Y,Y,Y,Y,Y,Y,Y,Y,O,Y,O,O,O,O,O,O] rfl rfl (take_ofW HT_.out HW_.out (by kernel_rfl)) (fun _ _ _ h => h) (Or.inl ⟨by rfl, ?_⟩) hHeld ?_ ?_
              rotate_left; (rintro w' ⟨s0, s1, s2⟩; go_simp; with_reducible rfl); rotate_left; (simp only [Act.put,qa,qb,qc,i64_w,i32_w]; rfl)
              refine pure_ (i := 15) (N := some 50) (v := ?_) (a' := ?_) #[Y,Y,Y,Y,Y,Y,Y,Y,Y,Y,Y,Y,Y,Y,Y,Y,Y,O,O,O,O,O,O] rfl rfl zx (fun _ _ _ h => h) (Or.inl ⟨by rfl, ?_⟩) ?_ ?_
              rotate_left; (intro w'; go_simp; with_reducible rfl); rotate_left; (simp only [Act.put,qa,qb,qc,i64_w,i32_w]; rfl)
              refine pure_ (i := 17) (N := some 52) (v := ?_) (a' := ?_) #[Y,Y,Y,Y,Y,Y,Y,Y,Y,Y,Y,Y,Y,Y,Y,Y,Y,Y,O,O,O,O,O] rfl rfl zx (fun _ _ _ h => h) (Or.inl ⟨by rfl, ?_⟩) ?_ ?_
              rotate_left; (intro w'; go_simp; with_reducible rfl); rotate_left; (simp only [Act.put,qa,qb,qc,i64_w,i32_w]; rfl)
              refine pure_ (i := 18) (N := some 53) (v := ?_) (a' := ?_) #[Y,Y,Y,Y,Y,Y,Y,Y,Y,Y,Y,Y,Y,Y,Y,Y,Y,Y,Y,O,O,O,O] rfl rfl zx (fun _ _ _ h => h) (Or.inl ⟨by rfl, ?_⟩) ?_ ?_
              rotate_left; (intro w'; go_simp; with_reducible rfl); rotate_left; (simp only [Act.put,qa,qb,qc,i64_w,i32_w]; rfl)
              refine join_ (σ := Value × Nat) 1 #[Y,Y,Y,Y,Y,Y,Y,Y,Y,Y,Y,Y,Y,Y,Y,Y,Y,Y,Y,Y,Y,Y,O] (fun s_ => [(54, s_.1), (11, .pointer (some ⟨s_.2, 0, none⟩)), (55, .agg #[.int .i64 (wrap64 (((rd_T106 l1 x14_1).f0) + t730)), .int .i64 (wrap64 ((wrap64 (((rd_T106 l1 x14_1).f1) - t730)) - t731)), s_.1])]) (fun s_ w' => (w'.cell? ⟨gb728, 0, none⟩ = some (.int .i64 ((rd_T106 l1 x14_1).f0)) ∧ w'.cell? ⟨gb728, 1, none⟩ = some (.int .i64 ((rd_T106 l1 x14_1).f1)) ∧ w'.cell? ⟨gb728, 2, none⟩ = some (.slice A727_2 ((rd_T106 l1 x14_1).f2).length c727_2)) ∧ (Kd.R Kd.string 9 w' w.heap.size (fun _ => True) s_.1 t733) ∧ (Kd.S k106 106 w' w.heap.size (fun k_ => some k_ ≠ (s_.1 : Value).ownBlock ∧ k_ ≠ gb728 ∧ k_ ≠ s_.2) u5 x5_1) ∧ (w'.heap[gb728]? = some (.cells #[.int .i64 ((rd_T106 l1 x14_1).f0), .int .i64 ((rd_T106 l1 x14_1).f1), .slice A727_2 ((rd_T106 l1 x14_1).f2).length c727_2] 106 (0, 0))) ∧ (w'.heap[s_.2]? = some (.cells #[.int .i64 0, .int .i64 0, .slice none 0 0] 106 (0, 0))) ∧ (w.heap.size ≤ s_.2) ∧ (w.heap.size ≤ s_.2) ∧ (gb728 ≠ s_.2) ∧ (s_.2 ≠ gb728) ∧ (Below w.heap.size w w')) ?_ ?_
              rotate_left
              ·intro hCont
               refine two_ (i := 19) (j := 21) (Ni := some 54) (Nj := some 11) #[Y,Y,Y,Y,Y,Y,Y,Y,Y,Y,Y,Y,Y,Y,Y,Y,Y,Y,Y,Y,O,O,O] #[Y,Y,Y,Y,Y,Y,Y,Y,Y,Y,Y,Y,Y,Y,Y,Y,Y,Y,Y,O,O,Y,O] rfl rfl rfl rfl (two_of HT_.out (by kernel_rfl)) (by decide) (by decide) (fun K hK => ?_) (fun K hK => ?_)
               ·skip
                refine goes_ Try.func68 (by kernel_rfl) rfl #[.slice A22 ((((rd_T106 l1 x14_1).f2).take ((wrap64 ((((rd_T106 l1 x14_1).f2).length : Int) - t731)) : Int).toNat).drop (t730 : Int).toNat).length (c727_2 - t730.toNat)] (by rfl) rfl rfl (by (try simp only [List.map_toArray, List.map_cons, List.map_nil]); first | done | (rw [show ((((rd_T106 l1 x14_1).f2).take ((wrap64 ((((rd_T106 l1 x14_1).f2).length : Int) - t731)) : Int).toNat).drop (t730 : Int).toNat).length = ((wrap64 ((((rd_T106 l1 x14_1).f2).length : Int) - t731)).toNat - t730.toNat) from (by rw [List.length_drop, List.length_take]; have h_ : ((wrap64 ((((rd_T106 l1 x14_1).f2).length : Int) - t731)) : Int) ≤ (((rd_T106 l1 x14_1).f2).length : Int) := oa; omega)] <;> rfl) | rfl | (simp only [List.length_drop, List.length_take]; rfl)) ?_
                with_reducible refine (spec_l1OwnT.calls _ _ ((((rd_T106 l1 x14_1).f2).take ((wrap64 ((((rd_T106 l1 x14_1).f2).length : Int) - t731)) : Int).toNat).drop (t730 : Int).toNat) t733 _ ?side1 ?side2 A14.out).mono ?_
                (case side1 => exact zq (Kd.C_below HR732.out HB.out))
                (case side2 => exact HC732.out)
                rintro e w23 ⟨v734, rfl, ho0, hb⟩
                refine ⟨_, rfl, ?_⟩
                have n0_ := am (Kd.S_elder' (zs HO_5.out) (Kd.R_base ho0) hb)
                have n1_ := am (Kd.R_lower ho0 (below_size (by repeat (first | (with_reducible first | exact HB.out | apply below_alloc | apply pw_below_drewN | apply below_drew1 | refine below_set ?_ GE728.out) | exact HB.out))))
                have n2_ := am (blk_below (g := gb728) (o := .cells #[.int .i64 ((rd_T106 l1 x14_1).f0), .int .i64 ((rd_T106 l1 x14_1).f1), .slice A727_2 ((rd_T106 l1 x14_1).f2).length c727_2] 106 (0, 0)) (zk BK728.out) hb)
                have n3_ := am (below_step (by repeat (first | (with_reducible first | exact HB.out | apply below_alloc | apply pw_below_drewN | apply below_drew1 | refine below_set ?_ GE728.out) | exact HB.out)) hb)
                clear HO_5
                clear BK728
                clear HB
                have HO_5 := n0_
                have HO735 := n1_
                have BK728 := n2_
                have HB := n3_
                clear n0_ n1_ n2_ n3_
                (try clear hb)
                (try clear hb2)
                (try clear hk)
                (try clear hi)
                (try clear ho0)
                obtain ⟨Ao24, co24, eo24⟩ := Kd.R_slice HO735.out
                (first | subst eo24 | (injection eo24 with f1_ f2_ f3_; have f4_ := f1_.symm; have f5_ := f3_.symm; clear f1_ f2_ f3_; subst f4_; subst f5_))
                refine hK.out _ _ ⟨(blk_cell BK728.out 0).trans rfl, (blk_cell BK728.out 1).trans rfl, (blk_cell BK728.out 2).trans rfl⟩ (fun hHeld => ?_)
                clear hK K
                refine norm_ (a' := ?_) ?_ ?_
                rotate_left
                ·show Act.put _ (some 54) _ = _
                 simp only [Act.put,qa,qb,qc,i64_w,i32_w]
                 rfl
                refine pure_ (i := 20) (N := some 55) (v := ?_) (a' := ?_) #[Y,Y,Y,Y,Y,Y,Y,Y,Y,Y,Y,Y,Y,Y,Y,Y,Y,Y,Y,Y,Y,O,O] rfl rfl zx (fun _ _ _ h => h) (Or.inl ⟨by rfl, ?_⟩) ?_ ?_
                rotate_left; (intro w'; go_simp; with_reducible rfl); rotate_left; (simp only [Act.put,qa,qb,qc,i64_w,i32_w]; rfl)
                refine one_ (i := 21) (N := some 11) #[Y,Y,Y,Y,Y,Y,Y,Y,Y,Y,Y,Y,Y,Y,Y,Y,Y,Y,Y,Y,Y,Y,O] rfl rfl (one_of HT_.out (by kernel_rfl)) (by decide) (fun K hK => ?_)
                refine box_step ?hg (N := 11) ?hd (cs := #[.int .i64 0, .int .i64 0, .slice none 0 0]) (t := 106) ?hr ?_; (case hd => rfl); (case hg => rfl); (case hr => first | (go_simp; done) | (go_simp; rfl))
                intro gb736 hg w25 hbox hb
                have n0_ := am (Kd.S_below (Kd.S_elderB (zs HO_5.out) gb736 (Nat.le_of_eq hg.symm)) hb)
                have n1_ := am (Kd.R_below (zr HO735.out) hb)
                have n2_ := am (blk_below (g := gb728) (o := .cells #[.int .i64 ((rd_T106 l1 x14_1).f0), .int .i64 ((rd_T106 l1 x14_1).f1), .slice A727_2 ((rd_T106 l1 x14_1).f2).length c727_2] 106 (0, 0)) (zk BK728.out) hb)
                have n3_ := am (below_step (by repeat (first | (with_reducible first | exact HB.out | apply below_alloc | apply pw_below_drewN | apply below_drew1 | refine below_set ?_ GE728.out) | exact HB.out)) hb)
                have n4_ := am (hbox)
                have n5_ := am ((by rw [hg]; exact (below_size (by repeat (first | (with_reducible first | exact HB.out | apply below_alloc | apply pw_below_drewN | apply below_drew1 | refine below_set ?_ GE728.out) | exact HB.out))) : w.heap.size ≤ gb736))
                have n6_ := am ((by rw [hg]; exact (below_size (by repeat (first | (with_reducible first | exact HB.out | apply below_alloc | apply pw_below_drewN | apply below_drew1 | refine below_set ?_ GE728.out) | exact HB.out))) : w.heap.size ≤ gb736))
                have n7_ := am ((by rw [hg]; exact Nat.ne_of_lt (blk_lt (g := gb728) (o := .cells #[.int .i64 ((rd_T106 l1 x14_1).f0), .int .i64 ((rd_T106 l1 x14_1).f1), .slice A727_2 ((rd_T106 l1 x14_1).f2).length c727_2] 106 (0, 0)) (zk BK728.out)) : gb728 ≠ gb736))
                have n8_ := am ((by rw [hg]; exact Nat.ne_of_gt (blk_lt (g := gb728) (o := .cells #[.int .i64 ((rd_T106 l1 x14_1).f0), .int .i64 ((rd_T106 l1 x14_1).f1), .slice A727_2 ((rd_T106 l1 x14_1).f2).length c727_2] 106 (0, 0)) (zk BK728.out)) : gb736 ≠ gb728))
                clear HO_5
                clear HO735
                clear BK728
                clear HB
                have HO_5 := n0_
                have HO735 := n1_
                have BK728 := n2_
                have HB := n3_
                have BK736 := n4_
                have GW736 := n5_
                have GE736 := n6_
                have NB728_736 := n7_
                have NB736_728 := n8_
                clear n0_ n1_ n2_ n3_ n4_ n5_ n6_ n7_ n8_
                clear hb hbox hg
                refine hK.out _ _ ⟨(blk_cell BK728.out 0).trans rfl, (blk_cell BK728.out 1).trans rfl, (blk_cell BK728.out 2).trans rfl⟩ (fun hHeld => ?_)
                clear hK K
                refine norm_ (a' := ?_) ?_ ?_
                rotate_left
                ·show Act.put _ (some 11) _ = _
                 simp only [Act.put,qa,qb,qc,i64_w,i32_w]
                 rfl
                exact norm_ (by simp only [putAll, Act.put, List.setIfInBounds_toArray, List.set_cons_zero, List.set_cons_succ]) (hCont (.slice Ao24 t733.length co24, gb736) _ ⟨hHeld, (zr HO735.out), (by (with_reducible repeat (first | apply Kd.S_alloc | apply Kd.S_drewN | apply Kd.S_drew)); exact Kd.S_mono HO_5.out (fun _ hk => ⟨hk.1.2, ⟨hk.1.1, hk.2⟩⟩)), (zk BK728.out), (zk BK736.out), GW736.out, GE736.out, NB728_736.out, NB736_728.out, (by repeat (first | (with_reducible first | exact HB.out | apply below_alloc | apply pw_below_drewN | apply below_drew1 | refine below_set ?_ GE728.out | refine below_set ?_ GE736.out) | exact HB.out))⟩)
               ·skip
                refine box_step ?hg (N := 11) ?hd (cs := #[.int .i64 0, .int .i64 0, .slice none 0 0]) (t := 106) ?hr ?_; (case hd => rfl); (case hg => rfl); (case hr => first | (go_simp; done) | (go_simp; rfl))
                intro gb736 hg w23 hbox hb
                have n0_ := am (Kd.S_below (Kd.S_elderB (zs HO_5.out) gb736 (Nat.le_of_eq hg.symm)) hb)
                have n1_ := am (blk_below (g := gb728) (o := .cells #[.int .i64 ((rd_T106 l1 x14_1).f0), .int .i64 ((rd_T106 l1 x14_1).f1), .slice A727_2 ((rd_T106 l1 x14_1).f2).length c727_2] 106 (0, 0)) (zk BK728.out) hb)
                have n2_ := am (below_step (by repeat (first | (with_reducible first | exact HB.out | apply below_alloc | apply pw_below_drewN | apply below_drew1 | refine below_set ?_ GE728.out) | exact HB.out)) hb)
                have n3_ := am (hbox)
                have n4_ := am ((by rw [hg]; exact (below_size (by repeat (first | (with_reducible first | exact HB.out | apply below_alloc | apply pw_below_drewN | apply below_drew1 | refine below_set ?_ GE728.out) | exact HB.out))) : w.heap.size ≤ gb736))
                have n5_ := am ((by rw [hg]; exact (below_size (by repeat (first | (with_reducible first | exact HB.out | apply below_alloc | apply pw_below_drewN | apply below_drew1 | refine below_set ?_ GE728.out) | exact HB.out))) : w.heap.size ≤ gb736))
                have n6_ := am ((by rw [hg]; exact Nat.ne_of_lt (blk_lt (g := gb728) (o := .cells #[.int .i64 ((rd_T106 l1 x14_1).f0), .int .i64 ((rd_T106 l1 x14_1).f1), .slice A727_2 ((rd_T106 l1 x14_1).f2).length c727_2] 106 (0, 0)) (zk BK728.out)) : gb728 ≠ gb736))
                have n7_ := am ((by rw [hg]; exact Nat.ne_of_gt (blk_lt (g := gb728) (o := .cells #[.int .i64 ((rd_T106 l1 x14_1).f0), .int .i64 ((rd_T106 l1 x14_1).f1), .slice A727_2 ((rd_T106 l1 x14_1).f2).length c727_2] 106 (0, 0)) (zk BK728.out)) : gb736 ≠ gb728))
                clear HO_5
                clear BK728
                clear HB
                have HO_5 := n0_
                have BK728 := n1_
                have HB := n2_
                have BK736 := n3_
                have GW736 := n4_
                have GE736 := n5_
                have NB728_736 := n6_
                have NB736_728 := n7_
                clear n0_ n1_ n2_ n3_ n4_ n5_ n6_ n7_
                clear hb hbox hg
                refine hK.out _ _ ⟨(blk_cell BK728.out 0).trans rfl, (blk_cell BK728.out 1).trans rfl, (blk_cell BK728.out 2).trans rfl⟩ (fun hHeld => ?_)
                clear hK K
                refine norm_ (a' := ?_) ?_ ?_
                rotate_left
                ·show Act.put _ (some 11) _ = _
                 simp only [Act.put,qa,qb,qc,i64_w,i32_w]
                 rfl
                refine one_ (i := 19) (N := some 54) #[Y,Y,Y,Y,Y,Y,Y,Y,Y,Y,Y,Y,Y,Y,Y,Y,Y,Y,Y,Y,O,Y,O] rfl rfl (one_of HT_.out (by kernel_rfl)) (by decide) (fun K hK => ?_)
                refine goes_ Try.func68 (by kernel_rfl) rfl #[.slice A22 ((((rd_T106 l1 x14_1).f2).take ((wrap64 ((((rd_T106 l1 x14_1).f2).length : Int) - t731)) : Int).toNat).drop (t730 : Int).toNat).length (c727_2 - t730.toNat)] (by rfl) rfl rfl (by (try simp only [List.map_toArray, List.map_cons, List.map_nil]); first | done | (rw [show ((((rd_T106 l1 x14_1).f2).take ((wrap64 ((((rd_T106 l1 x14_1).f2).length : Int) - t731)) : Int).toNat).drop (t730 : Int).toNat).length = ((wrap64 ((((rd_T106 l1 x14_1).f2).length : Int) - t731)).toNat - t730.toNat) from (by rw [List.length_drop, List.length_take]; have h_ : ((wrap64 ((((rd_T106 l1 x14_1).f2).length : Int) - t731)) : Int) ≤ (((rd_T106 l1 x14_1).f2).length : Int) := oa; omega)] <;> rfl) | rfl | (simp only [List.length_drop, List.length_take]; rfl)) ?_
                with_reducible refine (spec_l1OwnT.calls _ _ ((((rd_T106 l1 x14_1).f2).take ((wrap64 ((((rd_T106 l1 x14_1).f2).length : Int) - t731)) : Int).toNat).drop (t730 : Int).toNat) t733 _ ?side1 ?side2 A14.out).mono ?_
                (case side1 => exact zq (Kd.C_below HR732.out HB.out))
                (case side2 => exact HC732.out)
                rintro e w24 ⟨v734, rfl, ho0, hb⟩
                refine ⟨_, rfl, ?_⟩
                have n0_ := am (Kd.S_elder' (zs HO_5.out) (Kd.R_base ho0) hb)
                have n1_ := am (Kd.R_lower ho0 (below_size (by repeat (first | (with_reducible first | exact HB.out | apply below_alloc | apply pw_below_drewN | apply below_drew1 | refine below_set ?_ GE728.out | refine below_set ?_ GE736.out) | exact HB.out))))
                have n2_ := am (blk_below (g := gb728) (o := .cells #[.int .i64 ((rd_T106 l1 x14_1).f0), .int .i64 ((rd_T106 l1 x14_1).f1), .slice A727_2 ((rd_T106 l1 x14_1).f2).length c727_2] 106 (0, 0)) (zk BK728.out) hb)
                have n3_ := am (blk_below (g := gb736) (o := .cells #[.int .i64 0, .int .i64 0, .slice none 0 0] 106 (0, 0)) (zk BK736.out) hb)
                have n4_ := am (below_step (by repeat (first | (with_reducible first | exact HB.out | apply below_alloc | apply pw_below_drewN | apply below_drew1 | refine below_set ?_ GE728.out | refine below_set ?_ GE736.out) | exact HB.out)) hb)
                clear HO_5
                clear BK728
                clear BK736
                clear HB
                have HO_5 := n0_
                have HO735 := n1_
                have BK728 := n2_
                have BK736 := n3_
                have HB := n4_
                clear n0_ n1_ n2_ n3_ n4_
                (try clear hb)
                (try clear hb2)
                (try clear hk)
                (try clear hi)
                (try clear ho0)
                obtain ⟨Ao25, co25, eo25⟩ := Kd.R_slice HO735.out
                (first | subst eo25 | (injection eo25 with f1_ f2_ f3_; have f4_ := f1_.symm; have f5_ := f3_.symm; clear f1_ f2_ f3_; subst f4_; subst f5_))
                refine hK.out _ _ ⟨(blk_cell BK728.out 0).trans rfl, (blk_cell BK728.out 1).trans rfl, (blk_cell BK728.out 2).trans rfl⟩ (fun hHeld => ?_)
                clear hK K
                refine norm_ (a' := ?_) ?_ ?_
                rotate_left
                ·show Act.put _ (some 54) _ = _
                 simp only [Act.put,qa,qb,qc,i64_w,i32_w]
                 rfl
                refine pure_ (i := 20) (N := some 55) (v := ?_) (a' := ?_) #[Y,Y,Y,Y,Y,Y,Y,Y,Y,Y,Y,Y,Y,Y,Y,Y,Y,Y,Y,Y,Y,Y,O] rfl rfl zx (fun _ _ _ h => h) (Or.inl ⟨by rfl, ?_⟩) ?_ ?_
                rotate_left; (intro w'; go_simp; with_reducible rfl); rotate_left; (simp only [Act.put,qa,qb,qc,i64_w,i32_w]; rfl)
                exact norm_ (by simp only [putAll, Act.put, List.setIfInBounds_toArray, List.set_cons_zero, List.set_cons_succ]) (hCont (.slice Ao25 t733.length co25, gb736) _ ⟨hHeld, (zr HO735.out), (by (with_reducible repeat (first | apply Kd.S_alloc | apply Kd.S_drewN | apply Kd.S_drew)); exact Kd.S_mono HO_5.out (fun _ hk => ⟨hk.2, ⟨hk.1.1, hk.1.2⟩⟩)), (zk BK728.out), (zk BK736.out), GW736.out, GE736.out, NB728_736.out, NB736_728.out, (by repeat (first | (with_reducible first | exact HB.out | apply below_alloc | apply pw_below_drewN | apply below_drew1 | refine below_set ?_ GE728.out | refine below_set ?_ GE736.out) | exact HB.out))⟩)
              rintro ⟨v734, gb736⟩ w26 ⟨hS_, h0_, h1_, h2_, h3_, h4_, h5_, h6_, h7_, h8_⟩
              have n0_ : Aside0 (Kd.R Kd.string 9 w26 w.heap.size (fun _ => True) v734 t733) := ⟨h0_⟩
              have n1_ : Aside0 (Kd.S k106 106 w26 w.heap.size (fun k_ => some k_ ≠ (v734 : Value).ownBlock ∧ k_ ≠ gb728 ∧ k_ ≠ gb736) u5 x5_1) := ⟨h1_⟩
              have n2_ : Aside0 (w26.heap[gb728]? = some (.cells #[.int .i64 ((rd_T106 l1 x14_1).f0), .int .i64 ((rd_T106 l1 x14_1).f1), .slice A727_2 ((rd_T106 l1 x14_1).f2).length c727_2] 106 (0, 0))) := ⟨h2_⟩
              have n3_ : Aside0 (w26.heap[gb736]? = some (.cells #[.int .i64 0, .int .i64 0, .slice none 0 0] 106 (0, 0))) := ⟨h3_⟩
              have n4_ : Aside0 (w.heap.size ≤ gb736) := ⟨h4_⟩
              have n5_ : Aside0 (w.heap.size ≤ gb736) := ⟨h5_⟩
              have n6_ : Aside0 (gb728 ≠ gb736) := ⟨h6_⟩
              have n7_ : Aside0 (gb736 ≠ gb728) := ⟨h7_⟩
              have n8_ : Aside0 (Below w.heap.size w w26) := ⟨h8_⟩
              clear HO_5
              clear BK728
              clear HB
              clear h0_ h1_ h2_ h3_ h4_ h5_ h6_ h7_ h8_
              have HO735 := n0_
              have HO_5 := n1_
              have BK728 := n2_
              have BK736 := n3_
              have GW736 := n4_
              have GE736 := n5_
              have NB728_736 := n6_
              have NB736_728 := n7_
              have HB := n8_
              clear n0_ n1_ n2_ n3_ n4_ n5_ n6_ n7_ n8_
              have hHeld : w26.cell? ⟨gb728, 0, none⟩ = some (.int .i64 ((rd_T106 l1 x14_1).f0)) ∧ w26.cell? ⟨gb728, 1, none⟩ = some (.int .i64 ((rd_T106 l1 x14_1).f1)) ∧ w26.cell? ⟨gb728, 2, none⟩ = some (.slice A727_2 ((rd_T106 l1 x14_1).f2).length c727_2) := hS_
              obtain ⟨Ao27, co27, eo27⟩ := Kd.R_slice HO735.out
              (first | subst eo27 | (injection eo27 with f1_ f2_ f3_; have f4_ := f1_.symm; have f5_ := f3_.symm; clear f1_ f2_ f3_; subst f4_; subst f5_))
              refine norm_ (a' := ?_) ?_ ?_
              rotate_left
              ·simp only [putAll, Act.put, List.setIfInBounds_toArray, List.set_cons_zero, List.set_cons_succ]
               rfl
              refine one_ (i := 22) (N := none) #[Y,Y,Y,Y,Y,Y,Y,Y,Y,Y,Y,Y,Y,Y,Y,Y,Y,Y,Y,Y,Y,Y,Y] rfl rfl (one_of HT_.out (by kernel_rfl)) (by decide) (fun K hK => ?_)
              have hs28 : w26.cell? ⟨gb736, 0, none⟩ = some (.int .i64 0) := (blk_cell BK736.out 0).trans rfl
              have hfs28 := blk_frozen BK736.out 0
              have hns28_0 := NB728_736.out
              have hms28_0 := NB736_728.out
              have hs29 : w26.cell? ⟨gb736, 1, none⟩ = some (.int .i64 0) := (blk_cell BK736.out 1).trans rfl
              have hfs29 := blk_frozen BK736.out 1
              have hns29_0 := NB728_736.out
              have hms29_0 := NB736_728.out
              have hs30 : w26.cell? ⟨gb736, 2, none⟩ = some (.slice none 0 0) := (blk_cell BK736.out 2).trans rfl
              have hfs30 := blk_frozen BK736.out 2
              have hns30_0 := NB728_736.out
              have hms30_0 := NB736_728.out
              refine skip_ (w1 := ?_) (by rfl) rfl ?_ ?_
              rotate_left
              ·go_simp
               rfl
              refine hK.out _ _ ⟨((cell_far (p := ⟨gb736, _, none⟩) NB728_736.out _).trans (((cell_far (p := ⟨gb736, _, none⟩) NB728_736.out _).trans (((cell_far (p := ⟨gb736, _, none⟩) NB728_736.out _).trans (hHeld.1)))))), ((cell_far (p := ⟨gb736, _, none⟩) NB728_736.out _).trans (((cell_far (p := ⟨gb736, _, none⟩) NB728_736.out _).trans (((cell_far (p := ⟨gb736, _, none⟩) NB728_736.out _).trans (hHeld.2.1)))))), ((cell_far (p := ⟨gb736, _, none⟩) NB728_736.out _).trans (((cell_far (p := ⟨gb736, _, none⟩) NB728_736.out _).trans (((cell_far (p := ⟨gb736, _, none⟩) NB728_736.out _).trans (hHeld.2.2))))))⟩ (fun hHeld => ?_)
              clear hK K
              refine done_ (done_of HT_.out (by kernel_rfl)) ?_
              have n0_ : Aside0 (Kd.S k106 106 (((w26.setCell ⟨gb736, 0, none⟩ (.int .i64 (wrap64 (((rd_T106 l1 x14_1).f0) + t730)))).setCell ⟨gb736, 1, none⟩ (.int .i64 (wrap64 ((wrap64 (((rd_T106 l1 x14_1).f1) - t730)) - t731)))).setCell ⟨gb736, 2, none⟩ (.slice Ao27 t733.length co27)) w.heap.size (fun k_ => some k_ ≠ (.slice Ao27 t733.length co27 : Value).ownBlock ∧ k_ ≠ gb728 ∧ k_ ≠ gb736) u5 x5_1) := ⟨by (with_reducible repeat (first | apply Kd.S_alloc | apply Kd.S_drewN | apply Kd.S_drew)); exact Kd.S_mono (Kd.S_far (p := ⟨gb736, 2, none⟩) (Kd.S_far (p := ⟨gb736, 1, none⟩) (Kd.S_far (p := ⟨gb736, 0, none⟩) (Kd.S_mono HO_5.out (fun k_ hk => (⟨hk, hk.2.2⟩ : _ ∧ k_ ≠ gb736))) (fun _ hk => hk.2) (.int .i64 (wrap64 (((rd_T106 l1 x14_1).f0) + t730)))) (fun _ hk => hk.2) (.int .i64 (wrap64 ((wrap64 (((rd_T106 l1 x14_1).f1) - t730)) - t731)))) (fun _ hk => hk.2) (.slice Ao27 t733.length co27)) (fun _ hk => ⟨hk.1.1, ⟨hk.1.2.1, hk.1.2.2⟩⟩)⟩
              have n1_ : Aside0 (Kd.R Kd.string 9 (((w26.setCell ⟨gb736, 0, none⟩ (.int .i64 (wrap64 (((rd_T106 l1 x14_1).f0) + t730)))).setCell ⟨gb736, 1, none⟩ (.int .i64 (wrap64 ((wrap64 (((rd_T106 l1 x14_1).f1) - t730)) - t731)))).setCell ⟨gb736, 2, none⟩ (.slice Ao27 t733.length co27)) w.heap.size (fun _ => True) (.slice Ao27 t733.length co27) t733) := ⟨by (with_reducible repeat (first | apply Kd.R_alloc | apply Kd.R_drewN | apply Kd.R_drew)); exact Kd.R_mono (Kd.R_far (p := ⟨gb736, 2, none⟩) (Kd.R_far (p := ⟨gb736, 1, none⟩) (Kd.R_far (p := ⟨gb736, 0, none⟩) (Kd.R_types HO735.out BK736.out (by decide)) (fun _ hk => hk.2) (.int .i64 (wrap64 (((rd_T106 l1 x14_1).f0) + t730)))) (fun _ hk => hk.2) (.int .i64 (wrap64 ((wrap64 (((rd_T106 l1 x14_1).f1) - t730)) - t731)))) (fun _ hk => hk.2) (.slice Ao27 t733.length co27)) (fun _ hk => trivial)⟩
              have n2_ : Aside0 ((((w26.setCell ⟨gb736, 0, none⟩ (.int .i64 (wrap64 (((rd_T106 l1 x14_1).f0) + t730)))).setCell ⟨gb736, 1, none⟩ (.int .i64 (wrap64 ((wrap64 (((rd_T106 l1 x14_1).f1) - t730)) - t731)))).setCell ⟨gb736, 2, none⟩ (.slice Ao27 t733.length co27)).heap[gb728]? = some (.cells #[.int .i64 ((rd_T106 l1 x14_1).f0), .int .i64 ((rd_T106 l1 x14_1).f1), .slice A727_2 ((rd_T106 l1 x14_1).f2).length c727_2] 106 (0, 0))) := ⟨by (with_reducible repeat (first | refine blk_drewN ?_ _ | refine blk_drew ?_ | refine blk_alloc ?_ _)); refine blk_far ?_ NB728_736.out _; (with_reducible repeat (first | refine blk_drewN ?_ _ | refine blk_drew ?_ | refine blk_alloc ?_ _)); refine blk_far ?_ NB728_736.out _; (with_reducible repeat (first | refine blk_drewN ?_ _ | refine blk_drew ?_ | refine blk_alloc ?_ _)); refine blk_far ?_ NB728_736.out _; (with_reducible repeat (first | refine blk_drewN ?_ _ | refine blk_drew ?_ | refine blk_alloc ?_ _)); exact BK728.out⟩
              have n3_ : Aside0 ((((w26.setCell ⟨gb736, 0, none⟩ (.int .i64 (wrap64 (((rd_T106 l1 x14_1).f0) + t730)))).setCell ⟨gb736, 1, none⟩ (.int .i64 (wrap64 ((wrap64 (((rd_T106 l1 x14_1).f1) - t730)) - t731)))).setCell ⟨gb736, 2, none⟩ (.slice Ao27 t733.length co27)).heap[gb736]? = some (.cells #[.int .i64 (wrap64 (((rd_T106 l1 x14_1).f0) + t730)), .int .i64 (wrap64 ((wrap64 (((rd_T106 l1 x14_1).f1) - t730)) - t731)), .slice Ao27 t733.length co27] 106 (0, 0))) := ⟨by (with_reducible repeat (first | refine blk_drewN ?_ _ | refine blk_drew ?_ | refine blk_alloc ?_ _)); refine blk_put (cs := #[.int .i64 (wrap64 (((rd_T106 l1 x14_1).f0) + t730)), .int .i64 (wrap64 ((wrap64 (((rd_T106 l1 x14_1).f1) - t730)) - t731)), .slice none 0 0]) ?_ 2 _ rfl; (with_reducible repeat (first | refine blk_drewN ?_ _ | refine blk_drew ?_ | refine blk_alloc ?_ _)); refine blk_put (cs := #[.int .i64 (wrap64 (((rd_T106 l1 x14_1).f0) + t730)), .int .i64 0, .slice none 0 0]) ?_ 1 _ rfl; (with_reducible repeat (first | refine blk_drewN ?_ _ | refine blk_drew ?_ | refine blk_alloc ?_ _)); refine blk_put (cs := #[.int .i64 0, .int .i64 0, .slice none 0 0]) ?_ 0 _ rfl; (with_reducible repeat (first | refine blk_drewN ?_ _ | refine blk_drew ?_ | refine blk_alloc ?_ _)); exact BK736.out⟩
              have n4_ : Aside0 (Below w.heap.size w (((w26.setCell ⟨gb736, 0, none⟩ (.int .i64 (wrap64 (((rd_T106 l1 x14_1).f0) + t730)))).setCell ⟨gb736, 1, none⟩ (.int .i64 (wrap64 ((wrap64 (((rd_T106 l1 x14_1).f1) - t730)) - t731)))).setCell ⟨gb736, 2, none⟩ (.slice Ao27 t733.length co27))) := ⟨by repeat (first | (with_reducible first | exact HB.out | apply below_alloc | apply pw_below_drewN | apply below_drew1 | refine below_set ?_ GE728.out | refine below_set ?_ GE736.out) | exact HB.out)⟩
              (try clear HO_5)
              (try clear HO735)
              (try clear BK728)
              (try clear BK736)
              (try clear HB)
              (try simp only [show ∀ (w_ : World) (n_ : Nat) (p_ : Addr) (v_ : Value), (w_.drewN n_).setCell p_ v_ = (w_.setCell p_ v_).drewN n_ from fun _ _ _ _ => rfl])
              generalize (((w26.setCell ⟨gb736, 0, none⟩ (.int .i64 (wrap64 (((rd_T106 l1 x14_1).f0) + t730)))).setCell ⟨gb736, 1, none⟩ (.int .i64 (wrap64 ((wrap64 (((rd_T106 l1 x14_1).f1) - t730)) - t731)))).setCell ⟨gb736, 2, none⟩ (.slice Ao27 t733.length co27)) = w31 at n0_ n1_ n2_ n3_ n4_ ⊢
              have HO_5 := n0_
              have HO735 := n1_
              have BK728 := n2_
              have BK736 := n3_
              have HB := n4_
              clear n0_ n1_ n2_ n3_ n4_
              have hnb32 := NB736_728.out
              have hnc32 := NB728_736.out
              have hcz33_0 : w31.cell? ⟨gb736, 0, none⟩ = some (.int .i64 (wrap64 (((rd_T106 l1 x14_1).f0) + t730))) := (blk_cell BK736.out 0).trans rfl
              have hcz33_1 : w31.cell? ⟨gb736, 1, none⟩ = some (.int .i64 (wrap64 ((wrap64 (((rd_T106 l1 x14_1).f1) - t730)) - t731))) := (blk_cell BK736.out 1).trans rfl
              have hcz33_2 : w31.cell? ⟨gb736, 2, none⟩ = some (.slice Ao27 t733.length co27) := (blk_cell BK736.out 2).trans rfl
              have hfz33_0 := blk_frozen BK736.out 0
              have hfz33_1 := blk_frozen BK736.out 1
              have hfz33_2 := blk_frozen BK736.out 2
              try go_wp2_with (first | ((with_reducible refine gateB (b := .append) (xs := #[.tmp 63, .tmp 65]) rfl ?_); at_builtin; refine Kd.S_append k106 (w0 := w) w.heap.size rfl (.tmp 63) (.tmp 65) 42 106 (.agg #[(.int .i64 0), (.int .i64 0), (.slice none 0 0)]) 40 rfl Try.underlying42 info106 rfl (by decide) (by omega) u5 x5_1 (⟨wrap64 (((rd_T106 l1 x14_1).f0) + t730), wrap64 ((wrap64 (((rd_T106 l1 x14_1).f1) - t730)) - t731), t733⟩ : S106) [.int .i64 (wrap64 (((rd_T106 l1 x14_1).f0) + t730)), .int .i64 (wrap64 ((wrap64 (((rd_T106 l1 x14_1).f1) - t730)) - t731)), .slice Ao27 t733.length co27] (fun k_ => k_ ≠ gb728 ∧ k_ ≠ gb736) (fun k_ => some k_ = (.slice Ao27 t733.length co27 : Value).ownBlock) rfl rfl ?aP (fun k_ hk_ => ((Kd.R_mono (ok' := fun k_ => ((fun k_ => k_ ≠ gb728 ∧ k_ ≠ gb736)) k_ ∧ some k_ ≠ (u5 : Value).ownBlock) (Kd.R_types (Kd.R_types (Kd.R_apart' (HO735.out) (Kd.S_typed HO_5.out) (by decide)) BK728.out (by decide)) BK736.out (by decide)) (fun k_ hk => ⟨⟨hk.1.2, hk.2⟩, hk.1.1.2⟩))).1 k_ hk_.symm) ?aF ?aO ?aB ?aS ?aL ?_; (case aP => exact k106_mkM _ _ _ (⟨wrap64 (((rd_T106 l1 x14_1).f0) + t730), wrap64 ((wrap64 (((rd_T106 l1 x14_1).f1) - t730)) - t731), t733⟩ : S106) (Kd.R_mono (Kd.R_tight rfl (Kd.R_mono (ok' := fun k_ => ((fun k_ => k_ ≠ gb728 ∧ k_ ≠ gb736)) k_ ∧ some k_ ≠ (u5 : Value).ownBlock) (Kd.R_types (Kd.R_types (Kd.R_apart' (HO735.out) (Kd.S_typed HO_5.out) (by decide)) BK728.out (by decide)) BK736.out (by decide)) (fun k_ hk => ⟨⟨hk.1.2, hk.2⟩, hk.1.1.2⟩))) (fun _ h_ => h_))); (case aB => exact (by repeat (first | (with_reducible first | exact HB.out | apply below_alloc | apply pw_below_drewN | apply below_drew1 | refine below_set ?_ GE728.out | refine below_set ?_ GE736.out) | exact HB.out))); (case aF => exact (fun k_ hk => ⟨Kd.freshB (g := gb728) (o := .cells #[.int .i64 ((rd_T106 l1 x14_1).f0), .int .i64 ((rd_T106 l1 x14_1).f1), .slice A727_2 ((rd_T106 l1 x14_1).f2).length c727_2] 106 (0, 0)) (zk BK728.out) k_ hk, Kd.freshB (g := gb736) (o := .cells #[.int .i64 (wrap64 (((rd_T106 l1 x14_1).f0) + t730)), .int .i64 (wrap64 ((wrap64 (((rd_T106 l1 x14_1).f1) - t730)) - t731)), .slice Ao27 t733.length co27] 106 (0, 0)) (zk BK736.out) k_ hk⟩)); (case aO => exact (by (with_reducible repeat (first | apply Kd.S_alloc | apply Kd.S_drewN | apply Kd.S_drew)); exact Kd.S_mono HO_5.out (fun k_ hk => ⟨⟨hk.2.1, hk.2.2⟩, fun e_ => hk.1 e_⟩))); (case aS => exact (below_size (by repeat (first | (with_reducible first | exact HB.out | apply below_alloc | apply pw_below_drewN | apply below_drew1 | refine below_set ?_ GE728.out | refine below_set ?_ GE736.out) | exact HB.out)))); (case aL => have := LMc16.out; omega); intro v738 w34 ho hb hg hat; rw [← Ny737.out] at ho; have n0_ := am (blk_grown (g := gb728) (o := .cells #[.int .i64 ((rd_T106 l1 x14_1).f0), .int .i64 ((rd_T106 l1 x14_1).f1), .slice A727_2 ((rd_T106 l1 x14_1).f2).length c727_2] 106 (0, 0)) (zk BK728.out) hg (Kd.S_away HO_5.out (fun _ hk => hk.2.1))); have n1_ := am (blk_grown (g := gb736) (o := .cells #[.int .i64 (wrap64 (((rd_T106 l1 x14_1).f0) + t730)), .int .i64 (wrap64 ((wrap64 (((rd_T106 l1 x14_1).f1) - t730)) - t731)), .slice Ao27 t733.length co27] 106 (0, 0)) (zk BK736.out) hg (Kd.S_away HO_5.out (fun _ hk => hk.2.2))); have n2_ := am (hb); have n3_ := am (ho); clear BK728; clear BK736; clear HB; clear HO_5; clear HO735; have BK728 := n0_; have BK736 := n1_; have HB := n2_; have HO739 := n3_; clear n0_ n1_ n2_ n3_; clear ho hb hg hat))
              go_roundg k1
              case measure => have := HK1.out; omega
              case rel => exact ⟨(y737), (wrap64 (x14_1 + 1)), zf, H', ⟨by have := HK1.out; omega⟩, ⟨by (with_reducible repeat (first | apply Kd.S_alloc | apply Kd.S_drewN | apply Kd.S_drew)); exact Kd.S_mono HO739.out (fun _ hk => trivial)⟩, ⟨by repeat (first | (with_reducible first | exact HB.out | apply below_alloc | apply pw_below_drewN | apply below_drew1 | refine below_set ?_ GE728.out | refine below_set ?_ GE736.out) | exact HB.out)⟩⟩
             ·rw [if_neg c16] at H
              exact absurd H (by simp)
            ·rw [if_neg c15] at H
             have c15b0 : decide (0 < (wrap64 ((wrap64 ((wrap64 (((rd_T106 l1 x14_1).f1) - t730)) - t731)) + (t733.length : Int)))) = false := decide_eq_false c15
             clear c15
             have H' := am H
             clear H
             have p727 : 0 ≤ (x14_1 : Int) := oa
             have q727 : x14_1 < (l1.length : Int) := oa
             obtain ⟨ad727, A727_2, c727_2, e727, hx727_0, hx727_1, hx727_2, hl727_2, hi727_2⟩ := at_T106 HR1.out x14_1 p727 q727
             cases e727
             replace hx727_0 := (HB.out.cell (World.block_lt_of_cell? w _ hx727_0)).trans hx727_0
             replace hx727_1 := (HB.out.cell (World.block_lt_of_cell? w _ hx727_1)).trans hx727_1
             replace hx727_2 := (HB.out.cell (World.block_lt_of_cell? w _ hx727_2)).trans hx727_2
             have HR727_2 := am hi727_2
             have HC727_2 := am hl727_2
             clear hi727_2 hl727_2
             replace p727 := eq_true p727
             replace q727 := eq_true q727
             try go_wp2_with (first | ((with_reducible refine gate_dst (N := 7) rfl ?_); refine box_event ?hg (N := 7) ?hd (cs := #[.int .i64 0, .int .i64 0, .slice none 0 0]) (t := 106) ?hr ?_; (case hd => rfl); (case hg => rfl); (case hr => first | (go_simp; done) | (go_simp; rfl)); intro gb728 hg w35 hbox hb; have n0_ := am (Kd.S_below (Kd.S_elderB (zs HO_5.out) gb728 (Nat.le_of_eq hg.symm)) hb); have n1_ := am (below_step zb hb); have n2_ := am (hbox); have n3_ := am ((by rw [hg]; exact (below_size zb) : w.heap.size ≤ gb728)); have n4_ := am ((by rw [hg]; exact (below_size zb) : w.heap.size ≤ gb728)); clear HO_5; clear HB; have HO_5 := n0_; have HB := n1_; have BK728 := n2_; have GW728 := n3_; have GE728 := n4_; clear n0_ n1_ n2_ n3_ n4_; clear hb hbox hg; have hcz36_0 : w35.cell? ⟨gb728, 0, none⟩ = some (.int .i64 0) := (blk_cell BK728.out 0).trans rfl; have hcz36_1 : w35.cell? ⟨gb728, 1, none⟩ = some (.int .i64 0) := (blk_cell BK728.out 1).trans rfl; have hcz36_2 : w35.cell? ⟨gb728, 2, none⟩ = some (.slice none 0 0) := (blk_cell BK728.out 2).trans rfl; have hfz36_0 := blk_frozen BK728.out 0; have hfz36_1 := blk_frozen BK728.out 1; have hfz36_2 := blk_frozen BK728.out 2; obtain ⟨i037, hi037, _, hsz37, _⟩ := info_parts info9; obtain ⟨A37, hcut37, hA37, hC37⟩ := print_mid_of (P := Try.prog) Value.string (⟨#[]⟩ : ByteArray) 24 9 .i64 .i64 Try.underlying24 hi037 hsz37 A0 c0 l0 ((rd_T106 l1 x14_1).f0) (wrap64 (((rd_T106 l1 x14_1).f0) + ((rd_T106 l1 x14_1).f1))) oa (by first | omega | exact oa) oa HC0.out; have HR729 := am (Kd.C_of_reads (h1 := fun _ => rfl) (hA37 _ (Kd.reads_of_C HR0.out))); have HC729 := am hC37; clear hA37 hC37 hi037 hsz37) | ((with_reducible refine gateC (f := 134) rfl ?_); refine goesL_ (some 30) rfl rfl Try.func134 (by kernel_rfl) rfl #[.slice A37 ((l0.take ((wrap64 (((rd_T106 l1 x14_1).f0) + ((rd_T106 l1 x14_1).f1))) : Int).toNat).drop (((rd_T106 l1 x14_1).f0) : Int).toNat).length (c0 - ((rd_T106 l1 x14_1).f0).toNat), .slice A727_2 ((rd_T106 l1 x14_1).f2).length c727_2] rfl (by (try simp only [List.map_toArray, List.map_cons, List.map_nil]); first | done | (rw [show ((l0.take ((wrap64 (((rd_T106 l1 x14_1).f0) + ((rd_T106 l1 x14_1).f1))) : Int).toNat).drop (((rd_T106 l1 x14_1).f0) : Int).toNat).length = ((wrap64 (((rd_T106 l1 x14_1).f0) + ((rd_T106 l1 x14_1).f1))).toNat - ((rd_T106 l1 x14_1).f0).toNat) from (by rw [List.length_drop, List.length_take]; have h_ : ((wrap64 (((rd_T106 l1 x14_1).f0) + ((rd_T106 l1 x14_1).f1))) : Int) ≤ (l0.length : Int) := oa; omega)] <;> rfl) | rfl | (simp only [List.length_drop, List.length_take]; rfl)) ?_; (with_reducible refine (spec_l1Ahead.calls k1 _ _ ((l0.take ((wrap64 (((rd_T106 l1 x14_1).f0) + ((rd_T106 l1 x14_1).f1))) : Int).toNat).drop (((rd_T106 l1 x14_1).f0) : Int).toNat) _ _ ((rd_T106 l1 x14_1).f2) t730 _ ?side1 ?side2 ?side3 ?side4 A9.out).mono ?_); (case side1 => exact Kd.C_below HR729.out (by repeat (first | (with_reducible first | exact HB.out | apply below_alloc | apply pw_below_drewN | apply below_drew1 | refine below_set ?_ GE728.out) | exact HB.out))); (case side2 => exact HC729.out); (case side3 => exact Kd.C_below HR727_2.out (by repeat (first | (with_reducible first | exact HB.out | apply below_alloc | apply pw_below_drewN | apply below_drew1 | refine below_set ?_ GE728.out) | exact HB.out))); (case side4 => exact HC727_2.out); rintro e w' ⟨rfl, ⟨nd, rfl⟩⟩; refine ⟨_, rfl, ?_⟩) | ((with_reducible refine gateC (f := 135) rfl ?_); refine goesL_ (some 34) rfl rfl Try.func135 (by kernel_rfl) rfl #[.slice A37 ((l0.take ((wrap64 (((rd_T106 l1 x14_1).f0) + ((rd_T106 l1 x14_1).f1))) : Int).toNat).drop (((rd_T106 l1 x14_1).f0) : Int).toNat).length (c0 - ((rd_T106 l1 x14_1).f0).toNat), .slice A727_2 ((rd_T106 l1 x14_1).f2).length c727_2] rfl (by (try simp only [List.map_toArray, List.map_cons, List.map_nil]); first | done | (rw [show ((l0.take ((wrap64 (((rd_T106 l1 x14_1).f0) + ((rd_T106 l1 x14_1).f1))) : Int).toNat).drop (((rd_T106 l1 x14_1).f0) : Int).toNat).length = ((wrap64 (((rd_T106 l1 x14_1).f0) + ((rd_T106 l1 x14_1).f1))).toNat - ((rd_T106 l1 x14_1).f0).toNat) from (by rw [List.length_drop, List.length_take]; have h_ : ((wrap64 (((rd_T106 l1 x14_1).f0) + ((rd_T106 l1 x14_1).f1))) : Int) ≤ (l0.length : Int) := oa; omega)] <;> rfl) | rfl | (simp only [List.length_drop, List.length_take]; rfl)) ?_; (with_reducible refine (spec_l1Behind.calls k1 _ _ ((l0.take ((wrap64 (((rd_T106 l1 x14_1).f0) + ((rd_T106 l1 x14_1).f1))) : Int).toNat).drop (((rd_T106 l1 x14_1).f0) : Int).toNat) _ _ ((rd_T106 l1 x14_1).f2) t731 _ ?side1 ?side2 ?side3 ?side4 A10.out).mono ?_); (case side1 => exact Kd.C_below HR729.out (by repeat (first | (with_reducible first | exact HB.out | apply below_alloc | apply pw_below_drewN | apply below_drew1 | refine below_set ?_ GE728.out) | exact HB.out))); (case side2 => exact HC729.out); (case side3 => exact Kd.C_below HR727_2.out (by repeat (first | (with_reducible first | exact HB.out | apply below_alloc | apply pw_below_drewN | apply below_drew1 | refine below_set ?_ GE728.out) | exact HB.out))); (case side4 => exact HC727_2.out); rintro e w' ⟨rfl, ⟨nd, rfl⟩⟩; refine ⟨_, rfl, ?_⟩))
             have n0_ : Aside0 (Kd.S k106 106 (((w35.setCell ⟨gb728, 0, none⟩ (.int .i64 ((rd_T106 l1 x14_1).f0))).setCell ⟨gb728, 1, none⟩ (.int .i64 ((rd_T106 l1 x14_1).f1))).setCell ⟨gb728, 2, none⟩ (.slice A727_2 ((rd_T106 l1 x14_1).f2).length c727_2)) w.heap.size (fun k_ => k_ ≠ gb728) u5 x5_1) := ⟨by (with_reducible repeat (first | apply Kd.S_alloc | apply Kd.S_drewN | apply Kd.S_drew)); exact Kd.S_mono (Kd.S_far (p := ⟨gb728, 2, none⟩) (Kd.S_far (p := ⟨gb728, 1, none⟩) (Kd.S_far (p := ⟨gb728, 0, none⟩) (Kd.S_mono HO_5.out (fun k_ hk => (⟨hk, hk.2⟩ : _ ∧ k_ ≠ gb728))) (fun _ hk => hk.2) (.int .i64 ((rd_T106 l1 x14_1).f0))) (fun _ hk => hk.2) (.int .i64 ((rd_T106 l1 x14_1).f1))) (fun _ hk => hk.2) (.slice A727_2 ((rd_T106 l1 x14_1).f2).length c727_2)) (fun _ hk => hk.1.2)⟩
             have n1_ : Aside0 ((((w35.setCell ⟨gb728, 0, none⟩ (.int .i64 ((rd_T106 l1 x14_1).f0))).setCell ⟨gb728, 1, none⟩ (.int .i64 ((rd_T106 l1 x14_1).f1))).setCell ⟨gb728, 2, none⟩ (.slice A727_2 ((rd_T106 l1 x14_1).f2).length c727_2)).heap[gb728]? = some (.cells #[.int .i64 ((rd_T106 l1 x14_1).f0), .int .i64 ((rd_T106 l1 x14_1).f1), .slice A727_2 ((rd_T106 l1 x14_1).f2).length c727_2] 106 (0, 0))) := ⟨by (with_reducible repeat (first | refine blk_drewN ?_ _ | refine blk_drew ?_ | refine blk_alloc ?_ _)); refine blk_put (cs := #[.int .i64 ((rd_T106 l1 x14_1).f0), .int .i64 ((rd_T106 l1 x14_1).f1), .slice none 0 0]) ?_ 2 _ rfl; (with_reducible repeat (first | refine blk_drewN ?_ _ | refine blk_drew ?_ | refine blk_alloc ?_ _)); refine blk_put (cs := #[.int .i64 ((rd_T106 l1 x14_1).f0), .int .i64 0, .slice none 0 0]) ?_ 1 _ rfl; (with_reducible repeat (first | refine blk_drewN ?_ _ | refine blk_drew ?_ | refine blk_alloc ?_ _)); refine blk_put (cs := #[.int .i64 0, .int .i64 0, .slice none 0 0]) ?_ 0 _ rfl; (with_reducible repeat (first | refine blk_drewN ?_ _ | refine blk_drew ?_ | refine blk_alloc ?_ _)); exact BK728.out⟩
             have n2_ : Aside0 (Below w.heap.size w (((w35.setCell ⟨gb728, 0, none⟩ (.int .i64 ((rd_T106 l1 x14_1).f0))).setCell ⟨gb728, 1, none⟩ (.int .i64 ((rd_T106 l1 x14_1).f1))).setCell ⟨gb728, 2, none⟩ (.slice A727_2 ((rd_T106 l1 x14_1).f2).length c727_2))) := ⟨by repeat (first | (with_reducible first | exact HB.out | apply below_alloc | apply pw_below_drewN | apply below_drew1 | refine below_set ?_ GE728.out) | exact HB.out)⟩
             (try clear HO_5)
             (try clear BK728)
             (try clear HB)
             (try simp only [show ∀ (w_ : World) (n_ : Nat) (p_ : Addr) (v_ : Value), (w_.drewN n_).setCell p_ v_ = (w_.setCell p_ v_).drewN n_ from fun _ _ _ _ => rfl])
             generalize (((w35.setCell ⟨gb728, 0, none⟩ (.int .i64 ((rd_T106 l1 x14_1).f0))).setCell ⟨gb728, 1, none⟩ (.int .i64 ((rd_T106 l1 x14_1).f1))).setCell ⟨gb728, 2, none⟩ (.slice A727_2 ((rd_T106 l1 x14_1).f2).length c727_2)) = w38 at n0_ n1_ n2_ ⊢
             have HO_5 := n0_
             have BK728 := n1_
             have HB := n2_
             clear n0_ n1_ n2_
             (try (rw [drewN_self w38]; generalize hq_ : World.drewN w38 _ = w38; have n0_ : Aside0 (Kd.S k106 106 w38 w.heap.size (fun k_ => k_ ≠ gb728) u5 x5_1) := ⟨by rw [← hq_]; exact (zs HO_5.out)⟩; have n1_ : Aside0 (w38.heap[gb728]? = some (.cells #[.int .i64 ((rd_T106 l1 x14_1).f0), .int .i64 ((rd_T106 l1 x14_1).f1), .slice A727_2 ((rd_T106 l1 x14_1).f2).length c727_2] 106 (0, 0))) := ⟨by rw [← hq_]; exact (zk BK728.out)⟩; have n2_ : Aside0 (Below w.heap.size w w38) := ⟨by rw [← hq_]; exact (by repeat (first | (with_reducible first | exact HB.out | apply below_alloc | apply pw_below_drewN | apply below_drew1 | refine below_set ?_ GE728.out) | exact HB.out))⟩; clear HO_5 BK728 HB hq_; have HO_5 := n0_; have BK728 := n1_; have HB := n2_; clear n0_ n1_ n2_))
             have n0_ := am (Kd.S_drew HO_5.out)
             have n1_ := am (blk_drew BK728.out)
             have n2_ := am (below_drew1 HB.out)
             clear HO_5
             clear BK728
             clear HB
             have HO_5 := n0_
             have BK728 := n1_
             have HB := n2_
             clear n0_ n1_ n2_
             obtain ⟨i040, hi040, _, hsz40, _⟩ := info_parts info9
             obtain ⟨A40, hcut40, hA40, hC40⟩ := print_mid_of (P := Try.prog) Value.string (⟨#[]⟩ : ByteArray) 24 9 .i64 .i64 Try.underlying24 hi040 hsz40 A727_2 c727_2 ((rd_T106 l1 x14_1).f2) t730 (wrap64 ((((rd_T106 l1 x14_1).f2).length : Int) - t731)) oa (by first | omega | exact oa) oa HC727_2.out
             have HR732 := am (Kd.C_of_reads (h1 := fun _ => rfl) (hA40 _ (Kd.reads_of_C HR727_2.out)))
             have HC732 := am hC40
             clear hA40 hC40 hi040 hsz40
             refine start_ (n := 23) (S := fun w' => w'.cell? ⟨gb728, 0, none⟩ = some (.int .i64 ((rd_T106 l1 x14_1).f0)) ∧ w'.cell? ⟨gb728, 1, none⟩ = some (.int .i64 ((rd_T106 l1 x14_1).f1)) ∧ w'.cell? ⟨gb728, 2, none⟩ = some (.slice A727_2 ((rd_T106 l1 x14_1).f2).length c727_2)) (ds := []) #[O,O,O,O,O,O,O,O,O,O,O,O,O,O,O,O,O,O,O,O,O,O,O] (by kernel_rfl) rfl rfl ⟨(blk_cell BK728.out 0).trans rfl, (blk_cell BK728.out 1).trans rfl, (blk_cell BK728.out 2).trans rfl⟩ (fun hHeld => ?_); refine with_tabW spec_l2Trim.tab8 spec_l2Trim.bits8 (fun HT_ HW_ => ?_)
             generalize w38.drew = w39 at HO_5 BK728 HB HR732 hHeld ⊢
             refine pure_ (i := 0) (N := some 35) (v := ?_) (a' := ?_) #[Y,O,O,O,O,O,O,O,O,O,O,O,O,O,O,O,O,O,O,O,O,O,O] rfl rfl zx (fun _ _ _ h => h) (Or.inl ⟨by rfl, ?_⟩) ?_ ?_
             rotate_left; (intro w'; go_simp; with_reducible rfl); rotate_left; (simp only [Act.put,qa,qb,qc,i64_w,i32_w]; rfl)
             refine pure_ (i := 2) (N := some 37) (v := ?_) (a' := ?_) #[Y,O,Y,O,O,O,O,O,O,O,O,O,O,O,O,O,O,O,O,O,O,O,O] rfl rfl zx (fun _ _ _ h => h) (Or.inl ⟨by rfl, ?_⟩) ?_ ?_
             rotate_left; (intro w'; go_simp; with_reducible rfl); rotate_left; (simp only [Act.put,qa,qb,qc,i64_w,i32_w]; rfl)
             refine pure_ (i := 4) (N := some 39) (v := ?_) (a' := ?_) #[Y,O,Y,O,Y,O,O,O,O,O,O,O,O,O,O,O,O,O,O,O,O,O,O] rfl rfl zx (fun _ _ _ h => h) (Or.inl ⟨by rfl, ?_⟩) ?_ ?_
             rotate_left; (intro w'; go_simp; with_reducible rfl); rotate_left; (simp only [Act.put,qa,qb,qc,i64_w,i32_w]; rfl)
             refine pure_ (i := 6) (N := some 41) (v := ?_) (a' := ?_) #[Y,O,Y,O,Y,O,Y,O,O,O,O,O,O,O,O,O,O,O,O,O,O,O,O] rfl rfl zx (fun _ _ _ h => h) (Or.inl ⟨by rfl, ?_⟩) ?_ ?_
             rotate_left; (intro w'; go_simp; with_reducible rfl); rotate_left; (simp only [Act.put,qa,qb,qc,i64_w,i32_w]; rfl)
             refine pure_ (i := 8) (N := some 43) (v := ?_) (a' := ?_) #[Y,O,Y,O,Y,O,Y,O,Y,O,O,O,O,O,O,O,O,O,O,O,O,O,O] rfl rfl zx (fun _ _ _ h => h) (Or.inl ⟨by rfl, ?_⟩) ?_ ?_
             rotate_left; (intro w'; go_simp; with_reducible rfl); rotate_left; (simp only [Act.put,qa,qb,qc,i64_w,i32_w]; rfl)
             refine pure_ (i := 10) (N := some 45) (v := ?_) (a' := ?_) #[Y,O,Y,O,Y,O,Y,O,Y,O,Y,O,O,O,O,O,O,O,O,O,O,O,O] rfl rfl zx (fun _ _ _ h => h) (Or.inl ⟨by rfl, ?_⟩) ?_ ?_
             rotate_left; (intro w'; go_simp; with_reducible rfl); rotate_left; (simp only [Act.put,qa,qb,qc,i64_w,i32_w]; rfl)
             refine pure_ (i := 12) (N := some 47) (v := ?_) (a' := ?_) #[Y,O,Y,O,Y,O,Y,O,Y,O,Y,O,Y,O,O,O,O,O,O,O,O,O,O] rfl rfl zx (fun _ _ _ h => h) (Or.inl ⟨by rfl, ?_⟩) ?_ ?_
             rotate_left; (intro w'; go_simp; with_reducible rfl); rotate_left; (simp only [Act.put,qa,qb,qc,i64_w,i32_w]; rfl)
             refine pure_ (i := 13) (N := some 48) (v := ?_) (a' := ?_) #[Y,O,Y,O,Y,O,Y,O,Y,O,Y,O,Y,Y,O,O,O,O,O,O,O,O,O] rfl rfl zx (fun _ _ _ h => h) (Or.inl ⟨by rfl, ?_⟩) ?_ ?_
             rotate_left; (intro w'; go_simp; with_reducible rfl); rotate_left; (simp only [Act.put,qa,qb,qc,i64_w,i32_w]; rfl)
             refine pure_ (i := 16) (N := some 51) (v := ?_) (a' := ?_) #[Y,O,Y,O,Y,O,Y,O,Y,O,Y,O,Y,Y,O,O,Y,O,O,O,O,O,O] rfl rfl zx (fun _ _ _ h => h) (Or.inl ⟨by rfl, ?_⟩) ?_ ?_
             rotate_left; (intro w'; go_simp; with_reducible rfl); rotate_left; (simp only [Act.put,qa,qb,qc,i64_w,i32_w]; rfl)
             refine take_ (i := 1) (N := some 36) (v := ?_) (a' := ?_) #[Y,Y,Y,O,Y,O,Y,O,Y,O,Y,O,Y,Y,O,O,Y,O,O,O,O,O,O] rfl rfl (take_ofW HT_.out HW_.out (by kernel_rfl)) (fun _ _ _ h => h) (Or.inl ⟨by rfl, ?_⟩) hHeld ?_ ?_
             rotate_left; (rintro w' ⟨s0, s1, s2⟩; go_simp; with_reducible rfl); rotate_left; (simp only [Act.put,qa,qb,qc,i64_w,i32_w]; rfl)
             refine pure_ (i := 3) (N := some 38) (v := ?_) (a' := ?_) #[Y,Y,Y,Y,Y,O,Y,O,Y,O,Y,O,Y,Y,O,O,Y,O,O,O,O,O,O] rfl rfl zx (fun _ _ _ h => h) (Or.inl ⟨by rfl, ?_⟩) ?_ ?_
             rotate_left; (intro w'; go_simp; with_reducible rfl); rotate_left; (simp only [Act.put,qa,qb,qc,i64_w,i32_w]; rfl)
             refine take_ (i := 5) (N := some 40) (v := ?_) (a' := ?_) #[Y,Y,Y,Y,Y,Y,Y,O,Y,O,Y,O,Y,Y,O,O,Y,O,O,O,O,O,O] rfl rfl (take_ofW HT_.out HW_.out (by kernel_rfl)) (fun _ _ _ h => h) (Or.inl ⟨by rfl, ?_⟩) hHeld ?_ ?_
             rotate_left; (rintro w' ⟨s0, s1, s2⟩; go_simp; with_reducible rfl); rotate_left; (simp only [Act.put,qa,qb,qc,i64_w,i32_w]; rfl)
             refine pure_ (i := 7) (N := some 42) (v := ?_) (a' := ?_) #[Y,Y,Y,Y,Y,Y,Y,Y,Y,O,Y,O,Y,Y,O,O,Y,O,O,O,O,O,O] rfl rfl zx (fun _ _ _ h => h) (Or.inl ⟨by rfl, ?_⟩) ?_ ?_
             rotate_left; (intro w'; go_simp; with_reducible rfl); rotate_left; (simp only [Act.put,qa,qb,qc,i64_w,i32_w]; rfl)
             refine pure_ (i := 9) (N := some 44) (v := ?_) (a' := ?_) #[Y,Y,Y,Y,Y,Y,Y,Y,Y,Y,Y,O,Y,Y,O,O,Y,O,O,O,O,O,O] rfl rfl zx (fun _ _ _ h => h) (Or.inl ⟨by rfl, ?_⟩) ?_ ?_
             rotate_left; (intro w'; go_simp; with_reducible rfl); rotate_left; (simp only [Act.put,qa,qb,qc,i64_w,i32_w]; rfl)
             refine take_ (i := 11) (N := some 46) (v := ?_) (a' := ?_) #[Y,Y,Y,Y,Y,Y,Y,Y,Y,Y,Y,Y,Y,Y,O,O,Y,O,O,O,O,O,O] rfl rfl (take_ofW HT_.out HW_.out (by kernel_rfl)) (fun _ _ _ h => h) (Or.inl ⟨by rfl, ?_⟩) hHeld ?_ ?_
             rotate_left; (rintro w' ⟨s0, s1, s2⟩; go_simp; with_reducible rfl); rotate_left; (simp only [Act.put,qa,qb,qc,i64_w,i32_w]; rfl)
             refine take_ (i := 14) (N := some 49) (v := ?_) (a' := ?_) #[Y,Y,Y,Y,Y,Y,Y,Y,Y,Y,Y,Y,Y,Y,Y,O,Y,O,O,O,O,O,O] rfl rfl (take_ofW HT_.out HW_.out (by kernel_rfl)) (fun _ _ _ h => h) (Or.inl ⟨by rfl, ?_⟩) hHeld ?_ ?_
             rotate_left; (rintro w' ⟨s0, s1, s2⟩; go_simp; with_reducible rfl); rotate_left; (simp only [Act.put,qa,qb,qc,i64_w,i32_w]; rfl)
             refine pure_ (i := 15) (N := some 50) (v := ?_) (a' := ?_) #[Y,Y,Y,Y,Y,Y,Y,Y,Y,Y,Y,Y,Y,Y,Y,Y,Y,O,O,O,O,O,O] rfl rfl zx (fun _ _ _ h => h) (Or.inl ⟨by rfl, ?_⟩) ?_ ?_
             rotate_left; (intro w'; go_simp; with_reducible rfl); rotate_left; (simp only [Act.put,qa,qb,qc,i64_w,i32_w]; rfl)
             refine pure_ (i := 17) (N := some 52) (v := ?_) (a' := ?_) #[Y,Y,Y,Y,Y,Y,Y,Y,Y,Y,Y,Y,Y,Y,Y,Y,Y,Y,O,O,O,O,O] rfl rfl zx (fun _ _ _ h => h) (Or.inl ⟨by rfl, ?_⟩) ?_ ?_
             rotate_left; (intro w'; go_simp; with_reducible rfl); rotate_left; (simp only [Act.put,qa,qb,qc,i64_w,i32_w]; rfl)
             refine pure_ (i := 18) (N := some 53) (v := ?_) (a' := ?_) #[Y,Y,Y,Y,Y,Y,Y,Y,Y,Y,Y,Y,Y,Y,Y,Y,Y,Y,Y,O,O,O,O] rfl rfl zx (fun _ _ _ h => h) (Or.inl ⟨by rfl, ?_⟩) ?_ ?_
             rotate_left; (intro w'; go_simp; with_reducible rfl); rotate_left; (simp only [Act.put,qa,qb,qc,i64_w,i32_w]; rfl)
             refine join_ (σ := Value × Nat) 1 #[Y,Y,Y,Y,Y,Y,Y,Y,Y,Y,Y,Y,Y,Y,Y,Y,Y,Y,Y,Y,Y,Y,O] (fun s_ => [(54, s_.1), (11, .pointer (some ⟨s_.2, 0, none⟩)), (55, .agg #[.int .i64 (wrap64 (((rd_T106 l1 x14_1).f0) + t730)), .int .i64 (wrap64 ((wrap64 (((rd_T106 l1 x14_1).f1) - t730)) - t731)), s_.1])]) (fun s_ w' => (w'.cell? ⟨gb728, 0, none⟩ = some (.int .i64 ((rd_T106 l1 x14_1).f0)) ∧ w'.cell? ⟨gb728, 1, none⟩ = some (.int .i64 ((rd_T106 l1 x14_1).f1)) ∧ w'.cell? ⟨gb728, 2, none⟩ = some (.slice A727_2 ((rd_T106 l1 x14_1).f2).length c727_2)) ∧ (Kd.R Kd.string 9 w' w.heap.size (fun _ => True) s_.1 t733) ∧ (Kd.S k106 106 w' w.heap.size (fun k_ => some k_ ≠ (s_.1 : Value).ownBlock ∧ k_ ≠ gb728 ∧ k_ ≠ s_.2) u5 x5_1) ∧ (w'.heap[gb728]? = some (.cells #[.int .i64 ((rd_T106 l1 x14_1).f0), .int .i64 ((rd_T106 l1 x14_1).f1), .slice A727_2 ((rd_T106 l1 x14_1).f2).length c727_2] 106 (0, 0))) ∧ (w'.heap[s_.2]? = some (.cells #[.int .i64 0, .int .i64 0, .slice none 0 0] 106 (0, 0))) ∧ (w.heap.size ≤ s_.2) ∧ (w.heap.size ≤ s_.2) ∧ (gb728 ≠ s_.2) ∧ (s_.2 ≠ gb728) ∧ (Below w.heap.size w w')) ?_ ?_
             rotate_left
             ·intro hCont
              refine two_ (i := 19) (j := 21) (Ni := some 54) (Nj := some 11) #[Y,Y,Y,Y,Y,Y,Y,Y,Y,Y,Y,Y,Y,Y,Y,Y,Y,Y,Y,Y,O,O,O] #[Y,Y,Y,Y,Y,Y,Y,Y,Y,Y,Y,Y,Y,Y,Y,Y,Y,Y,Y,O,O,Y,O] rfl rfl rfl rfl (two_of HT_.out (by kernel_rfl)) (by decide) (by decide) (fun K hK => ?_) (fun K hK => ?_)
              ·skip
               refine goes_ Try.func68 (by kernel_rfl) rfl #[.slice A40 ((((rd_T106 l1 x14_1).f2).take ((wrap64 ((((rd_T106 l1 x14_1).f2).length : Int) - t731)) : Int).toNat).drop (t730 : Int).toNat).length (c727_2 - t730.toNat)] (by rfl) rfl rfl (by (try simp only [List.map_toArray, List.map_cons, List.map_nil]); first | done | (rw [show ((((rd_T106 l1 x14_1).f2).take ((wrap64 ((((rd_T106 l1 x14_1).f2).length : Int) - t731)) : Int).toNat).drop (t730 : Int).toNat).length = ((wrap64 ((((rd_T106 l1 x14_1).f2).length : Int) - t731)).toNat - t730.toNat) from (by rw [List.length_drop, List.length_take]; have h_ : ((wrap64 ((((rd_T106 l1 x14_1).f2).length : Int) - t731)) : Int) ≤ (((rd_T106 l1 x14_1).f2).length : Int) := oa; omega)] <;> rfl) | rfl | (simp only [List.length_drop, List.length_take]; rfl)) ?_
               with_reducible refine (spec_l1OwnT.calls _ _ ((((rd_T106 l1 x14_1).f2).take ((wrap64 ((((rd_T106 l1 x14_1).f2).length : Int) - t731)) : Int).toNat).drop (t730 : Int).toNat) t733 _ ?side1 ?side2 A14.out).mono ?_
               (case side1 => exact zq (Kd.C_below HR732.out HB.out))
               (case side2 => exact HC732.out)
               rintro e w41 ⟨v734, rfl, ho0, hb⟩
               refine ⟨_, rfl, ?_⟩
               have n0_ := am (Kd.S_elder' (zs HO_5.out) (Kd.R_base ho0) hb)
               have n1_ := am (Kd.R_lower ho0 (below_size (by repeat (first | (with_reducible first | exact HB.out | apply below_alloc | apply pw_below_drewN | apply below_drew1 | refine below_set ?_ GE728.out) | exact HB.out))))
               have n2_ := am (blk_below (g := gb728) (o := .cells #[.int .i64 ((rd_T106 l1 x14_1).f0), .int .i64 ((rd_T106 l1 x14_1).f1), .slice A727_2 ((rd_T106 l1 x14_1).f2).length c727_2] 106 (0, 0)) (zk BK728.out) hb)
               have n3_ := am (below_step (by repeat (first | (with_reducible first | exact HB.out | apply below_alloc | apply pw_below_drewN | apply below_drew1 | refine below_set ?_ GE728.out) | exact HB.out)) hb)
               clear HO_5
               clear BK728
               clear HB
               have HO_5 := n0_
               have HO735 := n1_
               have BK728 := n2_
               have HB := n3_
               clear n0_ n1_ n2_ n3_
               (try clear hb)
               (try clear hb2)
               (try clear hk)
               (try clear hi)
               (try clear ho0)
               obtain ⟨Ao42, co42, eo42⟩ := Kd.R_slice HO735.out
               (first | subst eo42 | (injection eo42 with f1_ f2_ f3_; have f4_ := f1_.symm; have f5_ := f3_.symm; clear f1_ f2_ f3_; subst f4_; subst f5_))
               refine hK.out _ _ ⟨(blk_cell BK728.out 0).trans rfl, (blk_cell BK728.out 1).trans rfl, (blk_cell BK728.out 2).trans rfl⟩ (fun hHeld => ?_)
               clear hK K
               refine norm_ (a' := ?_) ?_ ?_
               rotate_left
               ·show Act.put _ (some 54) _ = _
                simp only [Act.put,qa,qb,qc,i64_w,i32_w]
                rfl
               refine pure_ (i := 20) (N := some 55) (v := ?_) (a' := ?_) #[Y,Y,Y,Y,Y,Y,Y,Y,Y,Y,Y,Y,Y,Y,Y,Y,Y,Y,Y,Y,Y,O,O] rfl rfl zx (fun _ _ _ h => h) (Or.inl ⟨by rfl, ?_⟩) ?_ ?_
               rotate_left; (intro w'; go_simp; with_reducible rfl); rotate_left; (simp only [Act.put,qa,qb,qc,i64_w,i32_w]; rfl)
               refine one_ (i := 21) (N := some 11) #[Y,Y,Y,Y,Y,Y,Y,Y,Y,Y,Y,Y,Y,Y,Y,Y,Y,Y,Y,Y,Y,Y,O] rfl rfl (one_of HT_.out (by kernel_rfl)) (by decide) (fun K hK => ?_)
               refine box_step ?hg (N := 11) ?hd (cs := #[.int .i64 0, .int .i64 0, .slice none 0 0]) (t := 106) ?hr ?_; (case hd => rfl); (case hg => rfl); (case hr => first | (go_simp; done) | (go_simp; rfl))
               intro gb736 hg w43 hbox hb
               have n0_ := am (Kd.S_below (Kd.S_elderB (zs HO_5.out) gb736 (Nat.le_of_eq hg.symm)) hb)
               have n1_ := am (Kd.R_below (zr HO735.out) hb)
               have n2_ := am (blk_below (g := gb728) (o := .cells #[.int .i64 ((rd_T106 l1 x14_1).f0), .int .i64 ((rd_T106 l1 x14_1).f1), .slice A727_2 ((rd_T106 l1 x14_1).f2).length c727_2] 106 (0, 0)) (zk BK728.out) hb)
               have n3_ := am (below_step (by repeat (first | (with_reducible first | exact HB.out | apply below_alloc | apply pw_below_drewN | apply below_drew1 | refine below_set ?_ GE728.out) | exact HB.out)) hb)
               have n4_ := am (hbox)
               have n5_ := am ((by rw [hg]; exact (below_size (by repeat (first | (with_reducible first | exact HB.out | apply below_alloc | apply pw_below_drewN | apply below_drew1 | refine below_set ?_ GE728.out) | exact HB.out))) : w.heap.size ≤ gb736))
               have n6_ := am ((by rw [hg]; exact (below_size (by repeat (first | (with_reducible first | exact HB.out | apply below_alloc | apply pw_below_drewN | apply below_drew1 | refine below_set ?_ GE728.out) | exact HB.out))) : w.heap.size ≤ gb736))
               have n7_ := am ((by rw [hg]; exact Nat.ne_of_lt (blk_lt (g := gb728) (o := .cells #[.int .i64 ((rd_T106 l1 x14_1).f0), .int .i64 ((rd_T106 l1 x14_1).f1), .slice A727_2 ((rd_T106 l1 x14_1).f2).length c727_2] 106 (0, 0)) (zk BK728.out)) : gb728 ≠ gb736))
               have n8_ := am ((by rw [hg]; exact Nat.ne_of_gt (blk_lt (g := gb728) (o := .cells #[.int .i64 ((rd_T106 l1 x14_1).f0), .int .i64 ((rd_T106 l1 x14_1).f1), .slice A727_2 ((rd_T106 l1 x14_1).f2).length c727_2] 106 (0, 0)) (zk BK728.out)) : gb736 ≠ gb728))
               clear HO_5
               clear HO735
               clear BK728
               clear HB
               have HO_5 := n0_
               have HO735 := n1_
               have BK728 := n2_
               have HB := n3_
               have BK736 := n4_
               have GW736 := n5_
               have GE736 := n6_
               have NB728_736 := n7_
               have NB736_728 := n8_
               clear n0_ n1_ n2_ n3_ n4_ n5_ n6_ n7_ n8_
               clear hb hbox hg
               refine hK.out _ _ ⟨(blk_cell BK728.out 0).trans rfl, (blk_cell BK728.out 1).trans rfl, (blk_cell BK728.out 2).trans rfl⟩ (fun hHeld => ?_)
               clear hK K
               refine norm_ (a' := ?_) ?_ ?_
               rotate_left
               ·show Act.put _ (some 11) _ = _
                simp only [Act.put,qa,qb,qc,i64_w,i32_w]
                rfl
               exact norm_ (by simp only [putAll, Act.put, List.setIfInBounds_toArray, List.set_cons_zero, List.set_cons_succ]) (hCont (.slice Ao42 t733.length co42, gb736) _ ⟨hHeld, (zr HO735.out), (by (with_reducible repeat (first | apply Kd.S_alloc | apply Kd.S_drewN | apply Kd.S_drew)); exact Kd.S_mono HO_5.out (fun _ hk => ⟨hk.1.2, ⟨hk.1.1, hk.2⟩⟩)), (zk BK728.out), (zk BK736.out), GW736.out, GE736.out, NB728_736.out, NB736_728.out, (by repeat (first | (with_reducible first | exact HB.out | apply below_alloc | apply pw_below_drewN | apply below_drew1 | refine below_set ?_ GE728.out | refine below_set ?_ GE736.out) | exact HB.out))⟩)
              ·skip
               refine box_step ?hg (N := 11) ?hd (cs := #[.int .i64 0, .int .i64 0, .slice none 0 0]) (t := 106) ?hr ?_; (case hd => rfl); (case hg => rfl); (case hr => first | (go_simp; done) | (go_simp; rfl))
               intro gb736 hg w41 hbox hb
               have n0_ := am (Kd.S_below (Kd.S_elderB (zs HO_5.out) gb736 (Nat.le_of_eq hg.symm)) hb)
               have n1_ := am (blk_below (g := gb728) (o := .cells #[.int .i64 ((rd_T106 l1 x14_1).f0), .int .i64 ((rd_T106 l1 x14_1).f1), .slice A727_2 ((rd_T106 l1 x14_1).f2).length c727_2] 106 (0, 0)) (zk BK728.out) hb)
               have n2_ := am (below_step (by repeat (first | (with_reducible first | exact HB.out | apply below_alloc | apply pw_below_drewN | apply below_drew1 | refine below_set ?_ GE728.out) | exact HB.out)) hb)
               have n3_ := am (hbox)
               have n4_ := am ((by rw [hg]; exact (below_size (by repeat (first | (with_reducible first | exact HB.out | apply below_alloc | apply pw_below_drewN | apply below_drew1 | refine below_set ?_ GE728.out) | exact HB.out))) : w.heap.size ≤ gb736))
               have n5_ := am ((by rw [hg]; exact (below_size (by repeat (first | (with_reducible first | exact HB.out | apply below_alloc | apply pw_below_drewN | apply below_drew1 | refine below_set ?_ GE728.out) | exact HB.out))) : w.heap.size ≤ gb736))
               have n6_ := am ((by rw [hg]; exact Nat.ne_of_lt (blk_lt (g := gb728) (o := .cells #[.int .i64 ((rd_T106 l1 x14_1).f0), .int .i64 ((rd_T106 l1 x14_1).f1), .slice A727_2 ((rd_T106 l1 x14_1).f2).length c727_2] 106 (0, 0)) (zk BK728.out)) : gb728 ≠ gb736))
               have n7_ := am ((by rw [hg]; exact Nat.ne_of_gt (blk_lt (g := gb728) (o := .cells #[.int .i64 ((rd_T106 l1 x14_1).f0), .int .i64 ((rd_T106 l1 x14_1).f1), .slice A727_2 ((rd_T106 l1 x14_1).f2).length c727_2] 106 (0, 0)) (zk BK728.out)) : gb736 ≠ gb728))
               clear HO_5
               clear BK728
               clear HB
               have HO_5 := n0_
               have BK728 := n1_
               have HB := n2_
               have BK736 := n3_
               have GW736 := n4_
               have GE736 := n5_
               have NB728_736 := n6_
               have NB736_728 := n7_
               clear n0_ n1_ n2_ n3_ n4_ n5_ n6_ n7_
               clear hb hbox hg
               refine hK.out _ _ ⟨(blk_cell BK728.out 0).trans rfl, (blk_cell BK728.out 1).trans rfl, (blk_cell BK728.out 2).trans rfl⟩ (fun hHeld => ?_)
               clear hK K
               refine norm_ (a' := ?_) ?_ ?_
               rotate_left
               ·show Act.put _ (some 11) _ = _
                simp only [Act.put,qa,qb,qc,i64_w,i32_w]
                rfl
               refine one_ (i := 19) (N := some 54) #[Y,Y,Y,Y,Y,Y,Y,Y,Y,Y,Y,Y,Y,Y,Y,Y,Y,Y,Y,Y,O,Y,O] rfl rfl (one_of HT_.out (by kernel_rfl)) (by decide) (fun K hK => ?_)
               refine goes_ Try.func68 (by kernel_rfl) rfl #[.slice A40 ((((rd_T106 l1 x14_1).f2).take ((wrap64 ((((rd_T106 l1 x14_1).f2).length : Int) - t731)) : Int).toNat).drop (t730 : Int).toNat).length (c727_2 - t730.toNat)] (by rfl) rfl rfl (by (try simp only [List.map_toArray, List.map_cons, List.map_nil]); first | done | (rw [show ((((rd_T106 l1 x14_1).f2).take ((wrap64 ((((rd_T106 l1 x14_1).f2).length : Int) - t731)) : Int).toNat).drop (t730 : Int).toNat).length = ((wrap64 ((((rd_T106 l1 x14_1).f2).length : Int) - t731)).toNat - t730.toNat) from (by rw [List.length_drop, List.length_take]; have h_ : ((wrap64 ((((rd_T106 l1 x14_1).f2).length : Int) - t731)) : Int) ≤ (((rd_T106 l1 x14_1).f2).length : Int) := oa; omega)] <;> rfl) | rfl | (simp only [List.length_drop, List.length_take]; rfl)) ?_
               with_reducible refine (spec_l1OwnT.calls _ _ ((((rd_T106 l1 x14_1).f2).take ((wrap64 ((((rd_T106 l1 x14_1).f2).length : Int) - t731)) : Int).toNat).drop (t730 : Int).toNat) t733 _ ?side1 ?side2 A14.out).mono ?_
               (case side1 => exact zq (Kd.C_below HR732.out HB.out))
               (case side2 => exact HC732.out)
               rintro e w42 ⟨v734, rfl, ho0, hb⟩
               refine ⟨_, rfl, ?_⟩
               have n0_ := am (Kd.S_elder' (zs HO_5.out) (Kd.R_base ho0) hb)
               have n1_ := am (Kd.R_lower ho0 (below_size (by repeat (first | (with_reducible first | exact HB.out | apply below_alloc | apply pw_below_drewN | apply below_drew1 | refine below_set ?_ GE728.out | refine below_set ?_ GE736.out) | exact HB.out))))
               have n2_ := am (blk_below (g := gb728) (o := .cells #[.int .i64 ((rd_T106 l1 x14_1).f0), .int .i64 ((rd_T106 l1 x14_1).f1), .slice A727_2 ((rd_T106 l1 x14_1).f2).length c727_2] 106 (0, 0)) (zk BK728.out) hb)
               have n3_ := am (blk_below (g := gb736) (o := .cells #[.int .i64 0, .int .i64 0, .slice none 0 0] 106 (0, 0)) (zk BK736.out) hb)
               have n4_ := am (below_step (by repeat (first | (with_reducible first | exact HB.out | apply below_alloc | apply pw_below_drewN | apply below_drew1 | refine below_set ?_ GE728.out | refine below_set ?_ GE736.out) | exact HB.out)) hb)
               clear HO_5
               clear BK728
               clear BK736
               clear HB
               have HO_5 := n0_
               have HO735 := n1_
               have BK728 := n2_
               have BK736 := n3_
               have HB := n4_
               clear n0_ n1_ n2_ n3_ n4_
               (try clear hb)
               (try clear hb2)
               (try clear hk)
               (try clear hi)
               (try clear ho0)
               obtain ⟨Ao43, co43, eo43⟩ := Kd.R_slice HO735.out
               (first | subst eo43 | (injection eo43 with f1_ f2_ f3_; have f4_ := f1_.symm; have f5_ := f3_.symm; clear f1_ f2_ f3_; subst f4_; subst f5_))
               refine hK.out _ _ ⟨(blk_cell BK728.out 0).trans rfl, (blk_cell BK728.out 1).trans rfl, (blk_cell BK728.out 2).trans rfl⟩ (fun hHeld => ?_)
               clear hK K
               refine norm_ (a' := ?_) ?_ ?_
               rotate_left
               ·show Act.put _ (some 54) _ = _
                simp only [Act.put,qa,qb,qc,i64_w,i32_w]
                rfl
               refine pure_ (i := 20) (N := some 55) (v := ?_) (a' := ?_) #[Y,Y,Y,Y,Y,Y,Y,Y,Y,Y,Y,Y,Y,Y,Y,Y,Y,Y,Y,Y,Y,Y,O] rfl rfl zx (fun _ _ _ h => h) (Or.inl ⟨by rfl, ?_⟩) ?_ ?_
               rotate_left; (intro w'; go_simp; with_reducible rfl); rotate_left; (simp only [Act.put,qa,qb,qc,i64_w,i32_w]; rfl)
               exact norm_ (by simp only [putAll, Act.put, List.setIfInBounds_toArray, List.set_cons_zero, List.set_cons_succ]) (hCont (.slice Ao43 t733.length co43, gb736) _ ⟨hHeld, (zr HO735.out), (by (with_reducible repeat (first | apply Kd.S_alloc | apply Kd.S_drewN | apply Kd.S_drew)); exact Kd.S_mono HO_5.out (fun _ hk => ⟨hk.2, ⟨hk.1.1, hk.1.2⟩⟩)), (zk BK728.out), (zk BK736.out), GW736.out, GE736.out, NB728_736.out, NB736_728.out, (by repeat (first | (with_reducible first | exact HB.out | apply below_alloc | apply pw_below_drewN | apply below_drew1 | refine below_set ?_ GE728.out | refine below_set ?_ GE736.out) | exact HB.out))⟩)
             rintro ⟨v734, gb736⟩ w44 ⟨hS_, h0_, h1_, h2_, h3_, h4_, h5_, h6_, h7_, h8_⟩
             have n0_ : Aside0 (Kd.R Kd.string 9 w44 w.heap.size (fun _ => True) v734 t733) := ⟨h0_⟩
             have n1_ : Aside0 (Kd.S k106 106 w44 w.heap.size (fun k_ => some k_ ≠ (v734 : Value).ownBlock ∧ k_ ≠ gb728 ∧ k_ ≠ gb736) u5 x5_1) := ⟨h1_⟩
             have n2_ : Aside0 (w44.heap[gb728]? = some (.cells #[.int .i64 ((rd_T106 l1 x14_1).f0), .int .i64 ((rd_T106 l1 x14_1).f1), .slice A727_2 ((rd_T106 l1 x14_1).f2).length c727_2] 106 (0, 0))) := ⟨h2_⟩
             have n3_ : Aside0 (w44.heap[gb736]? = some (.cells #[.int .i64 0, .int .i64 0, .slice none 0 0] 106 (0, 0))) := ⟨h3_⟩
             have n4_ : Aside0 (w.heap.size ≤ gb736) := ⟨h4_⟩
             have n5_ : Aside0 (w.heap.size ≤ gb736) := ⟨h5_⟩
             have n6_ : Aside0 (gb728 ≠ gb736) := ⟨h6_⟩
             have n7_ : Aside0 (gb736 ≠ gb728) := ⟨h7_⟩
             have n8_ : Aside0 (Below w.heap.size w w44) := ⟨h8_⟩
             clear HO_5
             clear BK728
             clear HB
             clear h0_ h1_ h2_ h3_ h4_ h5_ h6_ h7_ h8_
             have HO735 := n0_
             have HO_5 := n1_
             have BK728 := n2_
             have BK736 := n3_
             have GW736 := n4_
             have GE736 := n5_
             have NB728_736 := n6_
             have NB736_728 := n7_
             have HB := n8_
             clear n0_ n1_ n2_ n3_ n4_ n5_ n6_ n7_ n8_
             have hHeld : w44.cell? ⟨gb728, 0, none⟩ = some (.int .i64 ((rd_T106 l1 x14_1).f0)) ∧ w44.cell? ⟨gb728, 1, none⟩ = some (.int .i64 ((rd_T106 l1 x14_1).f1)) ∧ w44.cell? ⟨gb728, 2, none⟩ = some (.slice A727_2 ((rd_T106 l1 x14_1).f2).length c727_2) := hS_
             obtain ⟨Ao45, co45, eo45⟩ := Kd.R_slice HO735.out
             (first | subst eo45 | (injection eo45 with f1_ f2_ f3_; have f4_ := f1_.symm; have f5_ := f3_.symm; clear f1_ f2_ f3_; subst f4_; subst f5_))
             refine norm_ (a' := ?_) ?_ ?_
             rotate_left
             ·simp only [putAll, Act.put, List.setIfInBounds_toArray, List.set_cons_zero, List.set_cons_succ]
              rfl
             refine one_ (i := 22) (N := none) #[Y,Y,Y,Y,Y,Y,Y,Y,Y,Y,Y,Y,Y,Y,Y,Y,Y,Y,Y,Y,Y,Y,Y] rfl rfl (one_of HT_.out (by kernel_rfl)) (by decide) (fun K hK => ?_)
             have hs46 : w44.cell? ⟨gb736, 0, none⟩ = some (.int .i64 0) := (blk_cell BK736.out 0).trans rfl
             have hfs46 := blk_frozen BK736.out 0
             have hns46_0 := NB728_736.out
             have hms46_0 := NB736_728.out
             have hs47 : w44.cell? ⟨gb736, 1, none⟩ = some (.int .i64 0) := (blk_cell BK736.out 1).trans rfl
             have hfs47 := blk_frozen BK736.out 1
             have hns47_0 := NB728_736.out
             have hms47_0 := NB736_728.out
             have hs48 : w44.cell? ⟨gb736, 2, none⟩ = some (.slice none 0 0) := (blk_cell BK736.out 2).trans rfl
             have hfs48 := blk_frozen BK736.out 2
             have hns48_0 := NB728_736.out
             have hms48_0 := NB736_728.out
             refine skip_ (w1 := ?_) (by rfl) rfl ?_ ?_
             rotate_left
             ·go_simp
              rfl
             refine hK.out _ _ ⟨((cell_far (p := ⟨gb736, _, none⟩) NB728_736.out _).trans (((cell_far (p := ⟨gb736, _, none⟩) NB728_736.out _).trans (((cell_far (p := ⟨gb736, _, none⟩) NB728_736.out _).trans (hHeld.1)))))), ((cell_far (p := ⟨gb736, _, none⟩) NB728_736.out _).trans (((cell_far (p := ⟨gb736, _, none⟩) NB728_736.out _).trans (((cell_far (p := ⟨gb736, _, none⟩) NB728_736.out _).trans (hHeld.2.1)))))), ((cell_far (p := ⟨gb736, _, none⟩) NB728_736.out _).trans (((cell_far (p := ⟨gb736, _, none⟩) NB728_736.out _).trans (((cell_far (p := ⟨gb736, _, none⟩) NB728_736.out _).trans (hHeld.2.2))))))⟩ (fun hHeld => ?_)
             clear hK K
             refine done_ (done_of HT_.out (by kernel_rfl)) ?_
             have hnb49 := NB736_728.out
             have hnc49 := NB728_736.out
             have hcz50_0 : w44.cell? ⟨gb736, 0, none⟩ = some (.int .i64 0) := (blk_cell BK736.out 0).trans rfl
             have hcz50_1 : w44.cell? ⟨gb736, 1, none⟩ = some (.int .i64 0) := (blk_cell BK736.out 1).trans rfl
             have hcz50_2 : w44.cell? ⟨gb736, 2, none⟩ = some (.slice none 0 0) := (blk_cell BK736.out 2).trans rfl
             have hfz50_0 := blk_frozen BK736.out 0
             have hfz50_1 := blk_frozen BK736.out 1
             have hfz50_2 := blk_frozen BK736.out 2
             try go_wp2
             go_roundg k1
             case measure => have := HK1.out; omega
             case rel => exact ⟨(x5_1), (wrap64 (x14_1 + 1)), zf, H', ⟨by have := HK1.out; omega⟩, ⟨by (with_reducible repeat (first | apply Kd.S_alloc | apply Kd.S_drewN | apply Kd.S_drew)); exact Kd.S_mono (Kd.S_far (p := ⟨gb736, 2, none⟩) (Kd.S_far (p := ⟨gb736, 1, none⟩) (Kd.S_far (p := ⟨gb736, 0, none⟩) (Kd.S_mono HO_5.out (fun k_ hk => (⟨hk, hk.2.2⟩ : _ ∧ k_ ≠ gb736))) (fun _ hk => hk.2) (.int .i64 (wrap64 (((rd_T106 l1 x14_1).f0) + t730)))) (fun _ hk => hk.2) (.int .i64 (wrap64 ((wrap64 (((rd_T106 l1 x14_1).f1) - t730)) - t731)))) (fun _ hk => hk.2) (.slice Ao45 t733.length co45)) (fun _ hk => trivial)⟩, ⟨by repeat (first | (with_reducible first | exact HB.out | apply below_alloc | apply pw_below_drewN | apply below_drew1 | refine below_set ?_ GE728.out | refine below_set ?_ GE736.out) | exact HB.out)⟩⟩
           ·rw [if_neg c13] at H
            exact absurd H (by simp)
          ·rw [if_neg c12] at H
           exact absurd H (by simp)
         ·rw [if_neg c11] at H
          exact absurd H (by simp)
        ·rw [if_neg c8] at H
         exact absurd H (by simp)
       ·rw [if_neg c7] at H
        exact absurd H (by simp)
      ·rw [if_neg c6] at H
       exact absurd H (by simp)
     ·rw [if_neg c5] at H
      exact absurd H (by simp)
    ·rw [if_neg c4] at H
     exact absurd H (by simp)
   ·rw [if_neg c3] at H
    have c3b0 : decide (x14_1 < (l1.length : Int)) = false := decide_eq_false c3
    clear c3
    obtain rfl := Option.some.inj H
    go_wp2
    go_ret
    exact ⟨_, by first | rfl | (simp [errW_none, errW_some] <;> rfl) | (simp [*, errW_none, errW_some] <;> rfl), by (with_reducible repeat (first | apply Kd.S_alloc | apply Kd.S_drewN | apply Kd.S_drew)); exact HO_5.out, by repeat (first | (with_reducible first | exact HB.out | apply below_alloc | apply pw_below_drewN | apply below_drew1) | exact HB.out)⟩
end Go.Proofs.Ytmcldkobejhaeaa.My
/- Written by this session's program (wip/gen): a plain function with the same answers as the Go function, and the proof that the Go code comes to them. Asked: that the plain function has an answer. -/
namespace Go.Proofs.Ytmcldkobejhaeaa.My
open Go.RowKit Go.Proofs.YtmcldkobejhaeaaW.PrintWords Go.Proofs.YtmcldkobejhaeaaW.PrintLast Go.Proofs.YtmcldkobejhaeaaW.PrintMore
attribute [local go_sem] max2_int min2_int max_two min_two max_three min_three max_four min_four
set_option linter.unusedVariables false
set_option linter.unusedSimpArgs false
def spec_TrimHunks.f (k : Nat) (l0 : List ByteArray) (l1 : List (S106)) : Option ((List (S106)) × Bool) := (spec_Patch.f k l0 l1).bind fun bt740 => (if bt740.2 = true then ((spec_l2Trim.f k l0 l1).bind fun t744 => (some (t744, true))) else (some (([] : List (S106)), false)))
set_option maxHeartbeats 8000000 in
set_option maxRecDepth 100000 in
theorem spec_TrimHunks.calls (k : Nat) (A0 : Option Addr) (c0 : Nat) (l0 : List ByteArray) (A1 : Option Addr) (c1 : Nat) (l1 : List (S106)) (r1 : List (S106)) (r2 : Bool) (w : World) (hr0 : Kd.C Kd.string w A0 l0.length l0) (hc0 : l0.length ≤ c0) (hr1 : Kd.C k106 w A1 l1.length l1) (hc1 : l1.length ≤ c1) (h : spec_TrimHunks.f k l0 l1 = some (r1, r2)) :
  Calls Try.prog 30 #[.slice A0 l0.length c0, .slice A1 l1.length c1] w fun e w' => ∃ v0_ : Value, e = .returned (.tuple #[v0_, .bool r2]) ∧ Kd.S k106 106 w' w.heap.size (fun _ => True) v0_ r1 ∧ Below w.heap.size w w' := by
 have HR0 := am hr0
 have HC0 := am hc0
 clear hr0 hc0
 have HR1 := am hr1
 have HC1 := am hc1
 clear hr1 hc1
 have HB := am (Below.refl w.heap.size w)
 have H : ((spec_Patch.f k l0 l1).bind fun bt740 => (if bt740.2 = true then ((spec_l2Trim.f k l0 l1).bind fun t744 => (some (t744, true))) else (some (([] : List (S106)), false)))) = some (r1, r2) := h
 clear h
 replace H := Option.bind_eq_some_iff.mp H
 obtain ⟨⟨t740, t741⟩, A30, H⟩ := H
 replace H : (if t741 = true then ((spec_l2Trim.f k l0 l1).bind fun t744 => (some (t744, true))) else (some (([] : List (S106)), false))) = some (r1, r2) := H
 have A3 := am A30
 clear A30
 by_cases c4 : t741 = true
 ·subst c4
  have H1 : ((spec_l2Trim.f k l0 l1).bind fun t744 => (some (t744, true))) = some (r1, r2) := by rw [if_pos rfl] at H; exact H
  clear H
  have H := H1
  clear H1
  replace H := Option.bind_eq_some_iff.mp H
  obtain ⟨t744, A50, H⟩ := H
  replace H : (some (t744, true)) = some (r1, r2) := H
  have A5 := am A50
  clear A50
  simp only [Option.some.injEq, Prod.mk.injEq] at H
  obtain ⟨rfl, rfl⟩ := H
  go_enter Try.func30, Try.ntmps30
  go_wp2_with (first | ((with_reducible refine gateC (f := 88) rfl ?_); refine goesL_ (some 11) rfl rfl Try.func88 (by kernel_rfl) rfl #[.slice A0 l0.length c0, .slice A1 l1.length c1] rfl zm ?_; (with_reducible refine (spec_Patch.calls k _ _ l0 _ _ l1 t740 true _ ?side1 ?side2 ?side3 ?side4 A3.out).mono ?_); (case side1 => exact zq HR0.out); (case side2 => exact HC0.out); (case side3 => exact zq HR1.out); (case side4 => exact HC1.out); rintro e w6 ⟨v742, rfl, ho0, hb⟩; refine ⟨_, rfl, ?_⟩; have n0_ := am (Kd.R_lower ho0 (below_size zb)); have n1_ := am (below_step zb hb); clear HB; have HO743 := n0_; have HB := n1_; clear n0_ n1_; (try clear hb); (try clear ho0)) | ((with_reducible refine gateC (f := 89) rfl ?_); refine goesL_ (some 18) rfl rfl Try.func89 (by kernel_rfl) rfl #[.slice A0 l0.length c0, .slice A1 l1.length c1] rfl zm ?_; (with_reducible refine (spec_l2Trim.calls k _ _ l0 _ _ l1 t744 _ ?side1 ?side2 ?side3 ?side4 A5.out).mono ?_); (case side1 => exact zq (Kd.C_below HR0.out HB.out)); (case side2 => exact HC0.out); (case side3 => exact zq (Kd.C_below HR1.out HB.out)); (case side4 => exact HC1.out); rintro e w7 ⟨v745, rfl, ho0, hb⟩; refine ⟨_, rfl, ?_⟩; have n0_ := am (Kd.R_below (zr HO743.out) hb); have n1_ := am (Kd.S_lower (Kd.S_new' ho0 (Kd.R_lt (zr HO743.out))) (below_size zb)); have n2_ := am (below_step zb hb); clear HO743; clear HB; have HO743 := n0_; have HO746 := n1_; have HB := n2_; clear n0_ n1_ n2_; (try clear hb); (try clear ho0)))
  go_ret2
  exact ⟨_, by first | rfl | (simp [errW_none, errW_some] <;> rfl) | (simp [*, errW_none, errW_some] <;> rfl), by (with_reducible repeat (first | apply Kd.S_alloc | apply Kd.S_drewN | apply Kd.S_drew)); exact Kd.S_mono HO746.out (fun _ hk => trivial), by repeat (first | (with_reducible first | exact HB.out | apply below_alloc | apply pw_below_drewN | apply below_drew1) | exact HB.out)⟩
 ·replace c4 := Bool.eq_false_iff.mpr c4
  subst c4
  have H1 : (some (([] : List (S106)), false)) = some (r1, r2) := by rw [if_neg (show ¬ (false = true) by decide)] at H; exact H
  clear H
  have H := H1
  clear H1
  simp only [Option.some.injEq, Prod.mk.injEq] at H
  obtain ⟨rfl, rfl⟩ := H
  go_enter Try.func30, Try.ntmps30
  go_wp2_with (first | ((with_reducible refine gateC (f := 88) rfl ?_); refine goesL_ (some 11) rfl rfl Try.func88 (by kernel_rfl) rfl #[.slice A0 l0.length c0, .slice A1 l1.length c1] rfl zm ?_; (with_reducible refine (spec_Patch.calls k _ _ l0 _ _ l1 t740 false _ ?side1 ?side2 ?side3 ?side4 A3.out).mono ?_); (case side1 => exact zq HR0.out); (case side2 => exact HC0.out); (case side3 => exact zq HR1.out); (case side4 => exact HC1.out); rintro e w8 ⟨v742, rfl, ho0, hb⟩; refine ⟨_, rfl, ?_⟩; have n0_ := am (Kd.R_lower ho0 (below_size zb)); have n1_ := am (below_step zb hb); clear HB; have HO743 := n0_; have HB := n1_; clear n0_ n1_; (try clear hb); (try clear ho0)))
  go_ret2
  exact ⟨_, by first | rfl | (simp [errW_none, errW_some] <;> rfl) | (simp [*, errW_none, errW_some] <;> rfl), by first | exact Kd.S_nil _ _ _ _ _ | exact Kd.Q_nil _ _ _ _ _ | exact Kd.R_nil _ _ _ _ _, by repeat (first | (with_reducible first | exact HB.out | apply below_alloc | apply pw_below_drewN | apply below_drew1) | exact HB.out)⟩
end Go.Proofs.Ytmcldkobejhaeaa.My
/- Written by this session's program (wip/gen): a plain function with the same answers as the Go function, and the proof that the Go code comes to them. Asked: that the plain function has an answer. -/
namespace Go.Proofs.Ytmcldkobejhaeaa.My
open Go.RowKit Go.Proofs.YtmcldkobejhaeaaW.PrintWords Go.Proofs.YtmcldkobejhaeaaW.PrintLast Go.Proofs.YtmcldkobejhaeaaW.PrintMore
attribute [local go_sem] max2_int min2_int max_two min_two max_three min_three max_four min_four
set_option linter.unusedVariables false
set_option linter.unusedSimpArgs false
mutual
def laws_FnTrimmed.j0 : Nat → List Int → List ByteArray → List (S106) → List (S106) → Bool → Bool → Option (Bool)
 | 0, _, _, _, _, _, _ => none
 | k + 1, x1, x5, x6, x7, x8, x58 => if x58 = true then (some false) else (if x8 = true then ((impl_Patch.f k x5 x6).bind fun bt786 => ((impl_Patch.f k x5 x7).bind fun bt790 => ((impl_TrimHunks.f k x5 x7).bind fun bt794 => ((impl_CountHunks.f k x7).bind fun bt798 => ((impl_CountHunks.f k x6).bind fun bt801 => (if bt786.2 = true then (if bt790.2 = true then ((laws_sameTexts.f k bt786.1 bt790.1).bind fun t804 => (if t804 = true then (if bt794.2 = true then ((laws_sameHunks.f k bt794.1 x7).bind fun t805 => (if t805 = true then (if bt798.2.2 = true then (if bt801.2.2 = true then (if bt798.1 > bt801.1 then (laws_FnTrimmed.j1 k x1 true) else (if bt798.2.1 > bt801.2.1 then (laws_FnTrimmed.j1 k x1 true) else (laws_FnTrimmed.j1 k x1 ((wrap64 (bt801.1 - bt798.1)) != (wrap64 (bt801.2.1 - bt798.2.1)))))) else (laws_FnTrimmed.j1 k x1 true)) else (laws_FnTrimmed.j1 k x1 true)) else (laws_FnTrimmed.j1 k x1 true))) else (laws_FnTrimmed.j1 k x1 true)) else (laws_FnTrimmed.j1 k x1 true))) else (laws_FnTrimmed.j1 k x1 true)) else (laws_FnTrimmed.j1 k x1 true))))))) else ((spec_DrawPlaceOf.f k x1).bind fun bt815 => ((impl_PlaceOf.f k bt815.1 bt815.2.1 bt815.2.2).bind fun bt820 => ((spec_PlaceOf.f k bt815.1 bt815.2.1 bt815.2.2).bind fun bt822 => (if (bt820.2 == bt822.2) = true then (some (bt820.1 == bt822.1)) else (some false))))))
def laws_FnTrimmed.j1 : Nat → List Int → Bool → Option (Bool)
 | 0, _, _ => none
 | k + 1, x1, x138 => if x138 = true then (some false) else ((spec_DrawPlaceOf.f k x1).bind fun bt806 => ((impl_PlaceOf.f k bt806.1 bt806.2.1 bt806.2.2).bind fun bt811 => ((spec_PlaceOf.f k bt806.1 bt806.2.1 bt806.2.2).bind fun bt813 => (if (bt811.2 == bt813.2) = true then (some (bt811.1 == bt813.1)) else (some false)))))
end
def laws_FnTrimmed.f (k : Nat) (l0 : List Int) (l1 : List Int) : Option (Bool) := (laws_big.f l0 l1).bind fun t770 => (if t770 = true then (some true) else ((spec_DrawTrimHunks.f k l0).bind fun bt771 => ((impl_TrimHunks.f k bt771.1 bt771.2).bind fun bt777 => ((spec_TrimHunks.f k bt771.1 bt771.2).bind fun bt781 => (if (bt777.2 != bt781.2) = true then (laws_FnTrimmed.j0 k l1 bt771.1 bt771.2 bt777.1 bt777.2 true) else ((laws_sameHunks.f k bt777.1 bt781.1).bind fun t785 => (laws_FnTrimmed.j0 k l1 bt771.1 bt771.2 bt777.1 bt777.2 (!t785))))))))
set_option maxHeartbeats 8000000 in
set_option maxRecDepth 100000 in
theorem laws_FnTrimmed.calls (k : Nat) (A0 : Option Addr) (c0 : Nat) (l0 : List Int) (A1 : Option Addr) (c1 : Nat) (l1 : List Int) (r : Bool) (w : World) (hr0 : Kd.C (Kd.int .u8) w A0 l0.length l0) (hc0 : l0.length ≤ c0) (hr1 : Kd.C (Kd.int .u8) w A1 l1.length l1) (hc1 : l1.length ≤ c1) (h : laws_FnTrimmed.f k l0 l1 = some r) (hr_ : r = true) :
  Calls Try.prog 5 #[.slice A0 l0.length c0, .slice A1 l1.length c1] w fun e w' => e = .returned (.bool r) ∧ Below w.heap.size w w' := by
 have HR_ := am hr_
 clear hr_
 have HR0 := am hr0
 have HC0 := am hc0
 clear hr0 hc0
 have HR1 := am hr1
 have HC1 := am hc1
 clear hr1 hc1
 have HB := am (Below.refl w.heap.size w)
 have H : ((laws_big.f l0 l1).bind fun t770 => (if t770 = true then (some true) else ((spec_DrawTrimHunks.f k l0).bind fun bt771 => ((impl_TrimHunks.f k bt771.1 bt771.2).bind fun bt777 => ((spec_TrimHunks.f k bt771.1 bt771.2).bind fun bt781 => (if (bt777.2 != bt781.2) = true then (laws_FnTrimmed.j0 k l1 bt771.1 bt771.2 bt777.1 bt777.2 true) else ((laws_sameHunks.f k bt777.1 bt781.1).bind fun t785 => (laws_FnTrimmed.j0 k l1 bt771.1 bt771.2 bt777.1 bt777.2 (!t785))))))))) = some r := h
 clear h
 replace H := Option.bind_eq_some_iff.mp H
 obtain ⟨t770, A30, H⟩ := H
 replace H : (if t770 = true then (some true) else ((spec_DrawTrimHunks.f k l0).bind fun bt771 => ((impl_TrimHunks.f k bt771.1 bt771.2).bind fun bt777 => ((spec_TrimHunks.f k bt771.1 bt771.2).bind fun bt781 => (if (bt777.2 != bt781.2) = true then (laws_FnTrimmed.j0 k l1 bt771.1 bt771.2 bt777.1 bt777.2 true) else ((laws_sameHunks.f k bt777.1 bt781.1).bind fun t785 => (laws_FnTrimmed.j0 k l1 bt771.1 bt771.2 bt777.1 bt777.2 (!t785)))))))) = some r := H
 have A3 := am A30
 clear A30
 by_cases c4 : t770 = true
 ·as_aux_lemma =>
    subst c4
    have H1 : (some true) = some r := by rw [if_pos rfl] at H; exact H
    clear H
    have H := H1
    clear H1
    first
    | exact absurd (show false = true from (Option.some.inj H).trans HR_.out) Bool.false_ne_true
    | obtain rfl := Option.some.inj H
      go_enter Try.func5, Try.ntmps5
      go_wp2_with (first | ((with_reducible refine gateC (f := 9) rfl ?_); refine goesL_ (some 32) rfl rfl Try.func9 (by kernel_rfl) rfl #[.slice A0 l0.length c0, .slice A1 l1.length c1] rfl zm ?_; (with_reducible refine (laws_big.calls _ _ l0 _ _ l1 true _ ?side1 ?side2 ?side3 ?side4 A3.out).mono ?_); (case side1 => exact zq HR0.out); (case side2 => exact HC0.out); (case side3 => exact zq HR1.out); (case side4 => exact HC1.out); rintro e w' ⟨rfl, ⟨nd, rfl⟩⟩; refine ⟨_, rfl, ?_⟩))
      go_ret
      exact ⟨by first | rfl | (simp [errW_none, errW_some] <;> rfl) | (simp [*, errW_none, errW_some] <;> rfl), by repeat (first | (with_reducible first | exact HB.out | apply below_alloc | apply pw_below_drewN | apply below_drew1) | exact HB.out)⟩
 ·as_aux_lemma =>
    replace c4 := Bool.eq_false_iff.mpr c4
    subst c4
    have H1 : ((spec_DrawTrimHunks.f k l0).bind fun bt771 => ((impl_TrimHunks.f k bt771.1 bt771.2).bind fun bt777 => ((spec_TrimHunks.f k bt771.1 bt771.2).bind fun bt781 => (if (bt777.2 != bt781.2) = true then (laws_FnTrimmed.j0 k l1 bt771.1 bt771.2 bt777.1 bt777.2 true) else ((laws_sameHunks.f k bt777.1 bt781.1).bind fun t785 => (laws_FnTrimmed.j0 k l1 bt771.1 bt771.2 bt777.1 bt777.2 (!t785))))))) = some r := by rw [if_neg (show ¬ (false = true) by decide)] at H; exact H
    clear H
    have H := H1
    clear H1
    replace H := Option.bind_eq_some_iff.mp H
    obtain ⟨⟨t771, t772⟩, A50, H⟩ := H
    replace H : ((impl_TrimHunks.f k t771 t772).bind fun bt777 => ((spec_TrimHunks.f k t771 t772).bind fun bt781 => (if (bt777.2 != bt781.2) = true then (laws_FnTrimmed.j0 k l1 t771 t772 bt777.1 bt777.2 true) else ((laws_sameHunks.f k bt777.1 bt781.1).bind fun t785 => (laws_FnTrimmed.j0 k l1 t771 t772 bt777.1 bt777.2 (!t785)))))) = some r := H
    have A5 := am A50
    clear A50
    replace H := Option.bind_eq_some_iff.mp H
    obtain ⟨⟨t777, t778⟩, A60, H⟩ := H
    replace H : ((spec_TrimHunks.f k t771 t772).bind fun bt781 => (if (t778 != bt781.2) = true then (laws_FnTrimmed.j0 k l1 t771 t772 t777 t778 true) else ((laws_sameHunks.f k t777 bt781.1).bind fun t785 => (laws_FnTrimmed.j0 k l1 t771 t772 t777 t778 (!t785))))) = some r := H
    have A6 := am A60
    clear A60
    replace H := Option.bind_eq_some_iff.mp H
    obtain ⟨⟨t781, t782⟩, A70, H⟩ := H
    replace H : (if (t778 != t782) = true then (laws_FnTrimmed.j0 k l1 t771 t772 t777 t778 true) else ((laws_sameHunks.f k t777 t781).bind fun t785 => (laws_FnTrimmed.j0 k l1 t771 t772 t777 t778 (!t785)))) = some r := H
    have A7 := am A70
    clear A70
    have HC8 := am H
    clear H
    go_enter Try.func5, Try.ntmps5
    go_upto_region 6 with (first | ((with_reducible refine gateC (f := 9) rfl ?_); refine goesL_ (some 32) rfl rfl Try.func9 (by kernel_rfl) rfl #[.slice A0 l0.length c0, .slice A1 l1.length c1] rfl zm ?_; (with_reducible refine (laws_big.calls _ _ l0 _ _ l1 false _ ?side1 ?side2 ?side3 ?side4 A3.out).mono ?_); (case side1 => exact zq HR0.out); (case side2 => exact HC0.out); (case side3 => exact zq HR1.out); (case side4 => exact HC1.out); rintro e w' ⟨rfl, ⟨nd, rfl⟩⟩; refine ⟨_, rfl, ?_⟩) | ((with_reducible refine gateC (f := 28) rfl ?_); refine goesL_ (some 35) rfl rfl Try.func28 (by kernel_rfl) rfl #[.slice A0 l0.length c0] rfl zm ?_; (with_reducible refine (spec_DrawTrimHunks.calls k _ _ l0 t771 t772 _ ?side1 ?side2 A5.out).mono ?_); (case side1 => exact zq HR0.out); (case side2 => exact HC0.out); rintro e w9 ⟨v773, v775, rfl, ho0, ho1, hb⟩; refine ⟨_, rfl, ?_⟩; have n0_ := am (Kd.R_lower ho0 (below_size zb)); have n1_ := am (Kd.N_lower (Kd.N_mono (ok' := fun k_ => some k_ ≠ (v773 : Value).ownBlock) (Kd.N_bound ho1) (fun k_ hk_ => hk_.1)) (below_size zb)); have n2_ := am (below_step zb hb); clear HB; have HO774 := n0_; have HO776 := n1_; have HB := n2_; clear n0_ n1_ n2_; (try clear hb); (try clear ho0); (try clear ho1); obtain ⟨Ao10, co10, eo10⟩ := Kd.R_slice HO774.out; subst eo10; obtain ⟨Ao11, co11, eo11⟩ := Kd.N_slice HO776.out; subst eo11) | ((with_reducible refine gateC (f := 29) rfl ?_); refine goesL_ (some 41) rfl rfl Try.func29 (by kernel_rfl) rfl #[.slice Ao10 t771.length co10, .slice Ao11 t772.length co11] rfl zm ?_; (with_reducible refine (impl_TrimHunks.calls k _ _ t771 _ _ t772 t777 t778 _ ?side1 ?side2 ?side3 ?side4 A6.out).mono ?_); (case side1 => repeat (first | exact (Kd.R_reads' HO774.out).2.2 | (with_reducible refine Kd.C_alloc ?_ _) | (with_reducible refine Kd.C_drewN ?_ _) | (with_reducible refine Kd.C_drew ?_))); (case side2 => exact (Kd.R_reads' HO774.out).2.1); (case side3 => repeat (first | exact (Kd.N_reads' HO776.out).2.2 | (with_reducible refine Kd.C_alloc ?_ _) | (with_reducible refine Kd.C_drewN ?_ _) | (with_reducible refine Kd.C_drew ?_))); (case side4 => exact (Kd.N_reads' HO776.out).2.1); rintro e w12 ⟨v779, rfl, ho0, hb⟩; refine ⟨_, rfl, ?_⟩; have n0_ := am (Kd.R_below (zr HO774.out) hb); have n1_ := am (Kd.N_elder' (zN HO776.out) (Kd.S_base ho0) hb); have n2_ := am (Kd.N_lower (Kd.N_mono (ok' := fun k_ => some k_ ≠ (.slice Ao10 t771.length co10 : Value).ownBlock ∧ some k_ ≠ (.slice Ao11 t772.length co11 : Value).ownBlock) (Kd.S_N (Kd.S_bound ho0)) (fun k_ hk_ => ⟨(Kd.fresh' (Kd.R_lt (zr HO774.out)) k_ hk_.2.1), (Kd.fresh' (Kd.N_lt (zN HO776.out)) k_ hk_.2.1)⟩)) (below_size zb)); have n3_ := am (below_step zb hb); clear HO774; clear HO776; clear HB; have HO774 := n0_; have HO776 := n1_; have HO780 := n2_; have HB := n3_; clear n0_ n1_ n2_ n3_; (try clear hb); (try clear ho0)) | ((with_reducible refine gateC (f := 30) rfl ?_); refine goesL_ (some 47) rfl rfl Try.func30 (by kernel_rfl) rfl #[.slice Ao10 t771.length co10, .slice Ao11 t772.length co11] rfl zm ?_; (with_reducible refine (spec_TrimHunks.calls k _ _ t771 _ _ t772 t781 t782 _ ?side1 ?side2 ?side3 ?side4 A7.out).mono ?_); (case side1 => repeat (first | exact (Kd.R_reads' HO774.out).2.2 | (with_reducible refine Kd.C_alloc ?_ _) | (with_reducible refine Kd.C_drewN ?_ _) | (with_reducible refine Kd.C_drew ?_))); (case side2 => exact (Kd.R_reads' HO774.out).2.1); (case side3 => repeat (first | exact (Kd.N_reads' HO776.out).2.2 | (with_reducible refine Kd.C_alloc ?_ _) | (with_reducible refine Kd.C_drewN ?_ _) | (with_reducible refine Kd.C_drew ?_))); (case side4 => exact (Kd.N_reads' HO776.out).2.1); rintro e w13 ⟨v783, rfl, ho0, hb⟩; refine ⟨_, rfl, ?_⟩; have n0_ := am (Kd.R_below (zr HO774.out) hb); have n1_ := am (Kd.N_elder' (zN HO776.out) (Kd.S_base ho0) hb); have n2_ := am (Kd.N_elder' (zN HO780.out) (Kd.S_base ho0) hb); have n3_ := am (Kd.N_lower (Kd.N_mono (ok' := fun k_ => some k_ ≠ (.slice Ao10 t771.length co10 : Value).ownBlock ∧ some k_ ≠ (.slice Ao11 t772.length co11 : Value).ownBlock ∧ some k_ ≠ (v779 : Value).ownBlock) (Kd.S_N (Kd.S_bound ho0)) (fun k_ hk_ => ⟨(Kd.fresh' (Kd.R_lt (zr HO774.out)) k_ hk_.2.1), (Kd.fresh' (Kd.N_lt (zN HO776.out)) k_ hk_.2.1), (Kd.fresh' (Kd.N_lt (zN HO780.out)) k_ hk_.2.1)⟩)) (below_size zb)); have n4_ := am (below_step zb hb); clear HO774; clear HO776; clear HO780; clear HB; have HO774 := n0_; have HO776 := n1_; have HO780 := n2_; have HO784 := n3_; have HB := n4_; clear n0_ n1_ n2_ n3_ n4_; (try clear hb); (try clear ho0)))
    (try simp only [Act.put, List.setIfInBounds_toArray, List.set_cons_zero, List.set_cons_succ])
    go_cut [58] (fun v58 wc => ∃ (kq : Nat) (x58_7 : Bool), v58 = .bool x58_7 ∧ Aside0 (laws_FnTrimmed.j0 kq l1 t771 t772 t777 t778 x58_7 = some r) ∧ Aside0 (kq ≤ k) ∧ Aside0 (Kd.R Kd.string 9 wc w.heap.size (fun _ => True) (.slice Ao10 t771.length co10) t771) ∧ Aside0 (Kd.N k106 106 wc w.heap.size (fun k_ => some k_ ≠ ((.slice Ao10 t771.length co10) : Value).ownBlock ∧ some k_ ≠ (v779 : Value).ownBlock) (.slice Ao11 t772.length co11) t772) ∧ Aside0 (Kd.N k106 106 wc w.heap.size (fun k_ => some k_ ≠ ((.slice Ao10 t771.length co10) : Value).ownBlock ∧ some k_ ≠ ((.slice Ao11 t772.length co11) : Value).ownBlock) v779 t777) ∧ Aside0 (Below w.heap.size w wc))
    case first =>
     have H := HC8.out
     clear HC8
     by_cases c14 : (t778 != t782) = true
     ·as_aux_lemma =>
        rw [if_pos c14] at H
        have c14b0 : (t778 != t782) = true := c14
        (try (have c14b1 : decide (t778 = t782) = false := by simpa using c14))
        (try (have c14b2 : (t778 == t782) = false := by simpa using c14))
        (try (have c14b3 : ¬ (t778 = t782) := by simpa using c14))
        clear c14
        (first | rw [c14b0] | (simp only [i64_w, i32_w]; rw [c14b0]) | skip)
        have H' := am H
        clear H
        go_wp2
        go_meet
        case rel => exact ⟨_, (true), zf, H', ⟨by first | omega | exact Nat.le_refl _⟩, ⟨by (with_reducible repeat (first | apply Kd.R_alloc | apply Kd.R_drewN | apply Kd.R_drew)); exact HO774.out⟩, ⟨by (with_reducible repeat (first | apply Kd.N_alloc | apply Kd.N_drewN | apply Kd.N_drew)); exact Kd.N_mono HO776.out (fun _ hk => ⟨hk.1.1, hk.1.2⟩)⟩, ⟨by (with_reducible repeat (first | apply Kd.N_alloc | apply Kd.N_drewN | apply Kd.N_drew)); exact Kd.N_mono HO780.out (fun _ hk => ⟨hk.1.1, hk.1.2⟩)⟩, ⟨by repeat (first | (with_reducible first | exact HB.out | apply below_alloc | apply pw_below_drewN | apply below_drew1) | exact HB.out)⟩⟩
     ·as_aux_lemma =>
        rw [if_neg c14] at H
        have c14b0 : (t778 != t782) = false := by simpa using c14
        (try (have c14b1 : decide (t778 = t782) = true := by simpa using c14))
        (try (have c14b2 : (t778 == t782) = true := by simpa using c14))
        clear c14
        (first | rw [c14b0] | (simp only [i64_w, i32_w]; rw [c14b0]) | skip)
        replace H := Option.bind_eq_some_iff.mp H
        obtain ⟨t785, A150, H⟩ := H
        replace H : (laws_FnTrimmed.j0 k l1 t771 t772 t777 t778 (!t785)) = some r := H
        have A15 := am A150
        clear A150
        have H' := am H
        clear H
        obtain ⟨Ao16, co16, eo16⟩ := Kd.N_slice HO780.out
        subst eo16
        obtain ⟨Ao17, co17, eo17⟩ := Kd.N_slice HO784.out
        subst eo17
        go_wp2_with (first | (go_at_call 31; (with_reducible refine (laws_sameHunks.calls k _ _ t777 _ _ t781 t785 _ ?side1 ?side2 ?side3 ?side4 A15.out).mono ?_); (case side1 => repeat (first | exact (Kd.N_reads' HO780.out).2.2 | (with_reducible refine Kd.C_alloc ?_ _) | (with_reducible refine Kd.C_drewN ?_ _) | (with_reducible refine Kd.C_drew ?_))); (case side2 => exact (Kd.N_reads' HO780.out).2.1); (case side3 => repeat (first | exact (Kd.N_reads' HO784.out).2.2 | (with_reducible refine Kd.C_alloc ?_ _) | (with_reducible refine Kd.C_drewN ?_ _) | (with_reducible refine Kd.C_drew ?_))); (case side4 => exact (Kd.N_reads' HO784.out).2.1); rintro e w18 ⟨rfl, hb⟩; have n0_ := am (Kd.R_below (zr HO774.out) hb); have n1_ := am (Kd.N_below (zN HO776.out) hb); have n2_ := am (Kd.N_below (zN HO780.out) hb); have n3_ := am (Kd.N_below (zN HO784.out) hb); have n4_ := am (below_step zb hb); clear HO774; clear HO776; clear HO780; clear HO784; clear HB; have HO774 := n0_; have HO776 := n1_; have HO780 := n2_; have HO784 := n3_; have HB := n4_; clear n0_ n1_ n2_ n3_ n4_; (try clear hb)))
        go_meet
        case rel => exact ⟨_, (!t785), zf, H', ⟨by first | omega | exact Nat.le_refl _⟩, ⟨by (with_reducible repeat (first | apply Kd.R_alloc | apply Kd.R_drewN | apply Kd.R_drew)); exact HO774.out⟩, ⟨by (with_reducible repeat (first | apply Kd.N_alloc | apply Kd.N_drewN | apply Kd.N_drew)); exact Kd.N_mono HO776.out (fun _ hk => ⟨hk.1.1, hk.1.2⟩)⟩, ⟨by (with_reducible repeat (first | apply Kd.N_alloc | apply Kd.N_drewN | apply Kd.N_drew)); exact Kd.N_mono HO780.out (fun _ hk => ⟨hk.1.1, hk.1.2⟩)⟩, ⟨by repeat (first | (with_reducible first | exact HB.out | apply below_alloc | apply pw_below_drewN | apply below_drew1) | exact HB.out)⟩⟩
    case rest =>
     clear HC8
     try clear c1
     try clear c2
     try clear p2
     try clear c3
     try clear c4
     try clear c5
     try clear c9
     try clear c14
     try clear c14b0
     try clear c14b1
     try clear c14b2
     obtain ⟨kq, x58_7, rfl, HA, HJ7, HO_5, HO_6, HO_7, HB⟩ := hcut
     cases kq with
     | zero => exact absurd HA.out (by simp [laws_FnTrimmed.j0])
     | succ kj7 =>
      have H := HA.out
      clear HA
      simp only [laws_FnTrimmed.j0] at H
      by_cases c19 : x58_7 = true
      ·as_aux_lemma =>
         subst c19
         have H1 : (some false) = some r := by rw [if_pos rfl] at H; exact H
         clear H
         have H := H1
         clear H1
         first
         | exact absurd (show false = true from (Option.some.inj H).trans HR_.out) Bool.false_ne_true
         | obtain rfl := Option.some.inj H
           go_wp2
           go_ret
           exact ⟨by first | rfl | (simp [errW_none, errW_some] <;> rfl) | (simp [*, errW_none, errW_some] <;> rfl), by repeat (first | (with_reducible first | exact HB.out | apply below_alloc | apply pw_below_drewN | apply below_drew1) | exact HB.out)⟩
      ·as_aux_lemma =>
         replace c19 := Bool.eq_false_iff.mpr c19
         subst c19
         have H1 : (if t778 = true then ((impl_Patch.f kj7 t771 t772).bind fun bt786 => ((impl_Patch.f kj7 t771 t777).bind fun bt790 => ((impl_TrimHunks.f kj7 t771 t777).bind fun bt794 => ((impl_CountHunks.f kj7 t777).bind fun bt798 => ((impl_CountHunks.f kj7 t772).bind fun bt801 => (if bt786.2 = true then (if bt790.2 = true then ((laws_sameTexts.f kj7 bt786.1 bt790.1).bind fun t804 => (if t804 = true then (if bt794.2 = true then ((laws_sameHunks.f kj7 bt794.1 t777).bind fun t805 => (if t805 = true then (if bt798.2.2 = true then (if bt801.2.2 = true then (if bt798.1 > bt801.1 then (laws_FnTrimmed.j1 kj7 l1 true) else (if bt798.2.1 > bt801.2.1 then (laws_FnTrimmed.j1 kj7 l1 true) else (laws_FnTrimmed.j1 kj7 l1 ((wrap64 (bt801.1 - bt798.1)) != (wrap64 (bt801.2.1 - bt798.2.1)))))) else (laws_FnTrimmed.j1 kj7 l1 true)) else (laws_FnTrimmed.j1 kj7 l1 true)) else (laws_FnTrimmed.j1 kj7 l1 true))) else (laws_FnTrimmed.j1 kj7 l1 true)) else (laws_FnTrimmed.j1 kj7 l1 true))) else (laws_FnTrimmed.j1 kj7 l1 true)) else (laws_FnTrimmed.j1 kj7 l1 true))))))) else ((spec_DrawPlaceOf.f kj7 l1).bind fun bt815 => ((impl_PlaceOf.f kj7 bt815.1 bt815.2.1 bt815.2.2).bind fun bt820 => ((spec_PlaceOf.f kj7 bt815.1 bt815.2.1 bt815.2.2).bind fun bt822 => (if (bt820.2 == bt822.2) = true then (some (bt820.1 == bt822.1)) else (some false)))))) = some r := by rw [if_neg (show ¬ (false = true) by decide)] at H; exact H
         clear H
         have H := H1
         clear H1
         by_cases c20 : t778 = true
         ·as_aux_lemma =>
            subst c20
            have H1 : ((impl_Patch.f kj7 t771 t772).bind fun bt786 => ((impl_Patch.f kj7 t771 t777).bind fun bt790 => ((impl_TrimHunks.f kj7 t771 t777).bind fun bt794 => ((impl_CountHunks.f kj7 t777).bind fun bt798 => ((impl_CountHunks.f kj7 t772).bind fun bt801 => (if bt786.2 = true then (if bt790.2 = true then ((laws_sameTexts.f kj7 bt786.1 bt790.1).bind fun t804 => (if t804 = true then (if bt794.2 = true then ((laws_sameHunks.f kj7 bt794.1 t777).bind fun t805 => (if t805 = true then (if bt798.2.2 = true then (if bt801.2.2 = true then (if bt798.1 > bt801.1 then (laws_FnTrimmed.j1 kj7 l1 true) else (if bt798.2.1 > bt801.2.1 then (laws_FnTrimmed.j1 kj7 l1 true) else (laws_FnTrimmed.j1 kj7 l1 ((wrap64 (bt801.1 - bt798.1)) != (wrap64 (bt801.2.1 - bt798.2.1)))))) else (laws_FnTrimmed.j1 kj7 l1 true)) else (laws_FnTrimmed.j1 kj7 l1 true)) else (laws_FnTrimmed.j1 kj7 l1 true))) else (laws_FnTrimmed.j1 kj7 l1 true)) else (laws_FnTrimmed.j1 kj7 l1 true))) else (laws_FnTrimmed.j1 kj7 l1 true)) else (laws_FnTrimmed.j1 kj7 l1 true))))))) = some r := by rw [if_pos rfl] at H; exact H
            clear H
            have H := H1
            clear H1
            replace H := Option.bind_eq_some_iff.mp H
            obtain ⟨⟨t786, t787⟩, A210, H⟩ := H
            replace H : ((impl_Patch.f kj7 t771 t777).bind fun bt790 => ((impl_TrimHunks.f kj7 t771 t777).bind fun bt794 => ((impl_CountHunks.f kj7 t777).bind fun bt798 => ((impl_CountHunks.f kj7 t772).bind fun bt801 => (if t787 = true then (if bt790.2 = true then ((laws_sameTexts.f kj7 t786 bt790.1).bind fun t804 => (if t804 = true then (if bt794.2 = true then ((laws_sameHunks.f kj7 bt794.1 t777).bind fun t805 => (if t805 = true then (if bt798.2.2 = true then (if bt801.2.2 = true then (if bt798.1 > bt801.1 then (laws_FnTrimmed.j1 kj7 l1 true) else (if bt798.2.1 > bt801.2.1 then (laws_FnTrimmed.j1 kj7 l1 true) else (laws_FnTrimmed.j1 kj7 l1 ((wrap64 (bt801.1 - bt798.1)) != (wrap64 (bt801.2.1 - bt798.2.1)))))) else (laws_FnTrimmed.j1 kj7 l1 true)) else (laws_FnTrimmed.j1 kj7 l1 true)) else (laws_FnTrimmed.j1 kj7 l1 true))) else (laws_FnTrimmed.j1 kj7 l1 true)) else (laws_FnTrimmed.j1 kj7 l1 true))) else (laws_FnTrimmed.j1 kj7 l1 true)) else (laws_FnTrimmed.j1 kj7 l1 true)))))) = some r := H
            have A21 := am A210
            clear A210
            replace H := Option.bind_eq_some_iff.mp H
            obtain ⟨⟨t790, t791⟩, A220, H⟩ := H
            replace H : ((impl_TrimHunks.f kj7 t771 t777).bind fun bt794 => ((impl_CountHunks.f kj7 t777).bind fun bt798 => ((impl_CountHunks.f kj7 t772).bind fun bt801 => (if t787 = true then (if t791 = true then ((laws_sameTexts.f kj7 t786 t790).bind fun t804 => (if t804 = true then (if bt794.2 = true then ((laws_sameHunks.f kj7 bt794.1 t777).bind fun t805 => (if t805 = true then (if bt798.2.2 = true then (if bt801.2.2 = true then (if bt798.1 > bt801.1 then (laws_FnTrimmed.j1 kj7 l1 true) else (if bt798.2.1 > bt801.2.1 then (laws_FnTrimmed.j1 kj7 l1 true) else (laws_FnTrimmed.j1 kj7 l1 ((wrap64 (bt801.1 - bt798.1)) != (wrap64 (bt801.2.1 - bt798.2.1)))))) else (laws_FnTrimmed.j1 kj7 l1 true)) else (laws_FnTrimmed.j1 kj7 l1 true)) else (laws_FnTrimmed.j1 kj7 l1 true))) else (laws_FnTrimmed.j1 kj7 l1 true)) else (laws_FnTrimmed.j1 kj7 l1 true))) else (laws_FnTrimmed.j1 kj7 l1 true)) else (laws_FnTrimmed.j1 kj7 l1 true))))) = some r := H
            have A22 := am A220
            clear A220
            replace H := Option.bind_eq_some_iff.mp H
            obtain ⟨⟨t794, t795⟩, A230, H⟩ := H
            replace H : ((impl_CountHunks.f kj7 t777).bind fun bt798 => ((impl_CountHunks.f kj7 t772).bind fun bt801 => (if t787 = true then (if t791 = true then ((laws_sameTexts.f kj7 t786 t790).bind fun t804 => (if t804 = true then (if t795 = true then ((laws_sameHunks.f kj7 t794 t777).bind fun t805 => (if t805 = true then (if bt798.2.2 = true then (if bt801.2.2 = true then (if bt798.1 > bt801.1 then (laws_FnTrimmed.j1 kj7 l1 true) else (if bt798.2.1 > bt801.2.1 then (laws_FnTrimmed.j1 kj7 l1 true) else (laws_FnTrimmed.j1 kj7 l1 ((wrap64 (bt801.1 - bt798.1)) != (wrap64 (bt801.2.1 - bt798.2.1)))))) else (laws_FnTrimmed.j1 kj7 l1 true)) else (laws_FnTrimmed.j1 kj7 l1 true)) else (laws_FnTrimmed.j1 kj7 l1 true))) else (laws_FnTrimmed.j1 kj7 l1 true)) else (laws_FnTrimmed.j1 kj7 l1 true))) else (laws_FnTrimmed.j1 kj7 l1 true)) else (laws_FnTrimmed.j1 kj7 l1 true)))) = some r := H
            have A23 := am A230
            clear A230
            replace H := Option.bind_eq_some_iff.mp H
            obtain ⟨⟨t798, t799, t800⟩, A240, H⟩ := H
            replace H : ((impl_CountHunks.f kj7 t772).bind fun bt801 => (if t787 = true then (if t791 = true then ((laws_sameTexts.f kj7 t786 t790).bind fun t804 => (if t804 = true then (if t795 = true then ((laws_sameHunks.f kj7 t794 t777).bind fun t805 => (if t805 = true then (if t800 = true then (if bt801.2.2 = true then (if t798 > bt801.1 then (laws_FnTrimmed.j1 kj7 l1 true) else (if t799 > bt801.2.1 then (laws_FnTrimmed.j1 kj7 l1 true) else (laws_FnTrimmed.j1 kj7 l1 ((wrap64 (bt801.1 - t798)) != (wrap64 (bt801.2.1 - t799)))))) else (laws_FnTrimmed.j1 kj7 l1 true)) else (laws_FnTrimmed.j1 kj7 l1 true)) else (laws_FnTrimmed.j1 kj7 l1 true))) else (laws_FnTrimmed.j1 kj7 l1 true)) else (laws_FnTrimmed.j1 kj7 l1 true))) else (laws_FnTrimmed.j1 kj7 l1 true)) else (laws_FnTrimmed.j1 kj7 l1 true))) = some r := H
            have A24 := am A240
            clear A240
            replace H := Option.bind_eq_some_iff.mp H
            obtain ⟨⟨t801, t802, t803⟩, A250, H⟩ := H
            replace H : (if t787 = true then (if t791 = true then ((laws_sameTexts.f kj7 t786 t790).bind fun t804 => (if t804 = true then (if t795 = true then ((laws_sameHunks.f kj7 t794 t777).bind fun t805 => (if t805 = true then (if t800 = true then (if t803 = true then (if t798 > t801 then (laws_FnTrimmed.j1 kj7 l1 true) else (if t799 > t802 then (laws_FnTrimmed.j1 kj7 l1 true) else (laws_FnTrimmed.j1 kj7 l1 ((wrap64 (t801 - t798)) != (wrap64 (t802 - t799)))))) else (laws_FnTrimmed.j1 kj7 l1 true)) else (laws_FnTrimmed.j1 kj7 l1 true)) else (laws_FnTrimmed.j1 kj7 l1 true))) else (laws_FnTrimmed.j1 kj7 l1 true)) else (laws_FnTrimmed.j1 kj7 l1 true))) else (laws_FnTrimmed.j1 kj7 l1 true)) else (laws_FnTrimmed.j1 kj7 l1 true)) = some r := H
            have A25 := am A250
            clear A250
            have HC26 := am H
            clear H
            go_upto_region 14 with (first | ((with_reducible refine gateC (f := 32) rfl ?_); refine goesL_ (some 63) rfl rfl Try.func32 (by kernel_rfl) rfl #[.slice Ao10 t771.length co10, .slice Ao11 t772.length co11] rfl zm ?_; (with_reducible refine (impl_Patch.calls kj7 _ _ t771 _ _ t772 t786 t787 _ ?side1 ?side2 ?side3 ?side4 A21.out).mono ?_); (case side1 => repeat (first | exact (Kd.R_reads' HO_5.out).2.2 | (with_reducible refine Kd.C_alloc ?_ _) | (with_reducible refine Kd.C_drewN ?_ _) | (with_reducible refine Kd.C_drew ?_))); (case side2 => exact (Kd.R_reads' HO_5.out).2.1); (case side3 => repeat (first | exact (Kd.N_reads' HO_6.out).2.2 | (with_reducible refine Kd.C_alloc ?_ _) | (with_reducible refine Kd.C_drewN ?_ _) | (with_reducible refine Kd.C_drew ?_))); (case side4 => exact (Kd.N_reads' HO_6.out).2.1); rintro e w27 ⟨v788, rfl, ho0, hb⟩; refine ⟨_, rfl, ?_⟩; have n0_ := am (Kd.R_elder' (zr HO_5.out) (Kd.R_base ho0) hb); have n1_ := am (Kd.N_elder' (zN HO_6.out) (Kd.R_base ho0) hb); have n2_ := am (Kd.N_elder' (zN HO_7.out) (Kd.R_base ho0) hb); have n3_ := am (Kd.R_lower (Kd.R_new' ho0 (Kd.R_lt (zr HO_5.out))) (below_size zb)); have n4_ := am (below_step zb hb); clear HO_5; clear HO_6; clear HO_7; clear HB; have HO_5 := n0_; have HO_6 := n1_; have HO_7 := n2_; have HO789 := n3_; have HB := n4_; clear n0_ n1_ n2_ n3_ n4_; (try clear hb); (try clear ho0); obtain ⟨Ao28, co28, eo28⟩ := Kd.N_slice HO_7.out; subst eo28) | ((with_reducible refine gateC (f := 32) rfl ?_); refine goesL_ (some 69) rfl rfl Try.func32 (by kernel_rfl) rfl #[.slice Ao10 t771.length co10, .slice Ao28 t777.length co28] rfl zm ?_; (with_reducible refine (impl_Patch.calls kj7 _ _ t771 _ _ t777 t790 t791 _ ?side1 ?side2 ?side3 ?side4 A22.out).mono ?_); (case side1 => repeat (first | exact (Kd.R_reads' HO_5.out).2.2 | (with_reducible refine Kd.C_alloc ?_ _) | (with_reducible refine Kd.C_drewN ?_ _) | (with_reducible refine Kd.C_drew ?_))); (case side2 => exact (Kd.R_reads' HO_5.out).2.1); (case side3 => repeat (first | exact (Kd.N_reads' HO_7.out).2.2 | (with_reducible refine Kd.C_alloc ?_ _) | (with_reducible refine Kd.C_drewN ?_ _) | (with_reducible refine Kd.C_drew ?_))); (case side4 => exact (Kd.N_reads' HO_7.out).2.1); rintro e w29 ⟨v792, rfl, ho0, hb⟩; refine ⟨_, rfl, ?_⟩; have n0_ := am (Kd.R_elder' (zr HO_5.out) (Kd.R_base ho0) hb); have n1_ := am (Kd.N_elder' (zN HO_6.out) (Kd.R_base ho0) hb); have n2_ := am (Kd.N_elder' (zN HO_7.out) (Kd.R_base ho0) hb); have n3_ := am (Kd.R_elder' (zr HO789.out) (Kd.R_base ho0) hb); have n4_ := am (Kd.R_lower (Kd.R_new' (Kd.R_new' ho0 (Kd.R_lt (zr HO_5.out))) (Kd.R_lt (zr HO789.out))) (below_size zb)); have n5_ := am (below_step zb hb); clear HO_5; clear HO_6; clear HO_7; clear HO789; clear HB; have HO_5 := n0_; have HO_6 := n1_; have HO_7 := n2_; have HO789 := n3_; have HO793 := n4_; have HB := n5_; clear n0_ n1_ n2_ n3_ n4_ n5_; (try clear hb); (try clear ho0)) | ((with_reducible refine gateC (f := 29) rfl ?_); refine goesL_ (some 75) rfl rfl Try.func29 (by kernel_rfl) rfl #[.slice Ao10 t771.length co10, .slice Ao28 t777.length co28] rfl zm ?_; (with_reducible refine (impl_TrimHunks.calls kj7 _ _ t771 _ _ t777 t794 t795 _ ?side1 ?side2 ?side3 ?side4 A23.out).mono ?_); (case side1 => repeat (first | exact (Kd.R_reads' HO_5.out).2.2 | (with_reducible refine Kd.C_alloc ?_ _) | (with_reducible refine Kd.C_drewN ?_ _) | (with_reducible refine Kd.C_drew ?_))); (case side2 => exact (Kd.R_reads' HO_5.out).2.1); (case side3 => repeat (first | exact (Kd.N_reads' HO_7.out).2.2 | (with_reducible refine Kd.C_alloc ?_ _) | (with_reducible refine Kd.C_drewN ?_ _) | (with_reducible refine Kd.C_drew ?_))); (case side4 => exact (Kd.N_reads' HO_7.out).2.1); rintro e w30 ⟨v796, rfl, ho0, hb⟩; refine ⟨_, rfl, ?_⟩; have n0_ := am (Kd.R_below (zr HO_5.out) hb); have n1_ := am (Kd.N_elder' (zN HO_6.out) (Kd.S_base ho0) hb); have n2_ := am (Kd.N_elder' (zN HO_7.out) (Kd.S_base ho0) hb); have n3_ := am (Kd.R_below (zr HO789.out) hb); have n4_ := am (Kd.R_below (zr HO793.out) hb); have n5_ := am (Kd.N_lower (Kd.N_mono (ok' := fun k_ => some k_ ≠ (.slice Ao10 t771.length co10 : Value).ownBlock ∧ some k_ ≠ (.slice Ao11 t772.length co11 : Value).ownBlock ∧ some k_ ≠ (.slice Ao28 t777.length co28 : Value).ownBlock ∧ some k_ ≠ (v788 : Value).ownBlock ∧ some k_ ≠ (v792 : Value).ownBlock) (Kd.S_N (Kd.S_bound ho0)) (fun k_ hk_ => ⟨(Kd.fresh' (Kd.R_lt (zr HO_5.out)) k_ hk_.2.1), (Kd.fresh' (Kd.N_lt (zN HO_6.out)) k_ hk_.2.1), (Kd.fresh' (Kd.N_lt (zN HO_7.out)) k_ hk_.2.1), (Kd.fresh' (Kd.R_lt (zr HO789.out)) k_ hk_.2.1), (Kd.fresh' (Kd.R_lt (zr HO793.out)) k_ hk_.2.1)⟩)) (below_size zb)); have n6_ := am (below_step zb hb); clear HO_5; clear HO_6; clear HO_7; clear HO789; clear HO793; clear HB; have HO_5 := n0_; have HO_6 := n1_; have HO_7 := n2_; have HO789 := n3_; have HO793 := n4_; have HO797 := n5_; have HB := n6_; clear n0_ n1_ n2_ n3_ n4_ n5_ n6_; (try clear hb); (try clear ho0)) | ((with_reducible refine gateC (f := 33) rfl ?_); refine goesL_ (some 80) rfl rfl Try.func33 (by kernel_rfl) rfl #[.slice Ao28 t777.length co28] rfl zm ?_; (with_reducible refine (impl_CountHunks.calls kj7 _ _ t777 t798 t799 t800 _ ?side1 ?side2 A24.out).mono ?_); (case side1 => repeat (first | exact (Kd.N_reads' HO_7.out).2.2 | (with_reducible refine Kd.C_alloc ?_ _) | (with_reducible refine Kd.C_drewN ?_ _) | (with_reducible refine Kd.C_drew ?_))); (case side2 => exact (Kd.N_reads' HO_7.out).2.1); rintro e w31 ⟨rfl, hb⟩; refine ⟨_, rfl, ?_⟩; have n0_ := am (Kd.R_below (zr HO_5.out) hb); have n1_ := am (Kd.N_below (zN HO_6.out) hb); have n2_ := am (Kd.N_below (zN HO_7.out) hb); have n3_ := am (Kd.R_below (zr HO789.out) hb); have n4_ := am (Kd.R_below (zr HO793.out) hb); have n5_ := am (Kd.N_below (zN HO797.out) hb); have n6_ := am (below_step zb hb); clear HO_5; clear HO_6; clear HO_7; clear HO789; clear HO793; clear HO797; clear HB; have HO_5 := n0_; have HO_6 := n1_; have HO_7 := n2_; have HO789 := n3_; have HO793 := n4_; have HO797 := n5_; have HB := n6_; clear n0_ n1_ n2_ n3_ n4_ n5_ n6_; (try clear hb)) | ((with_reducible refine gateC (f := 33) rfl ?_); refine goesL_ (some 86) rfl rfl Try.func33 (by kernel_rfl) rfl #[.slice Ao11 t772.length co11] rfl zm ?_; (with_reducible refine (impl_CountHunks.calls kj7 _ _ t772 t801 t802 t803 _ ?side1 ?side2 A25.out).mono ?_); (case side1 => repeat (first | exact (Kd.N_reads' HO_6.out).2.2 | (with_reducible refine Kd.C_alloc ?_ _) | (with_reducible refine Kd.C_drewN ?_ _) | (with_reducible refine Kd.C_drew ?_))); (case side2 => exact (Kd.N_reads' HO_6.out).2.1); rintro e w32 ⟨rfl, hb⟩; refine ⟨_, rfl, ?_⟩; have n0_ := am (Kd.R_below (zr HO_5.out) hb); have n1_ := am (Kd.N_below (zN HO_6.out) hb); have n2_ := am (Kd.N_below (zN HO_7.out) hb); have n3_ := am (Kd.R_below (zr HO789.out) hb); have n4_ := am (Kd.R_below (zr HO793.out) hb); have n5_ := am (Kd.N_below (zN HO797.out) hb); have n6_ := am (below_step zb hb); clear HO_5; clear HO_6; clear HO_7; clear HO789; clear HO793; clear HO797; clear HB; have HO_5 := n0_; have HO_6 := n1_; have HO_7 := n2_; have HO789 := n3_; have HO793 := n4_; have HO797 := n5_; have HB := n6_; clear n0_ n1_ n2_ n3_ n4_ n5_ n6_; (try clear hb)))
            (try simp only [Act.put, List.setIfInBounds_toArray, List.set_cons_zero, List.set_cons_succ])
            go_cut [138] (fun v138 wc => ∃ (kq : Nat) (x138_25 : Bool), v138 = .bool x138_25 ∧ Aside0 (laws_FnTrimmed.j1 kq l1 x138_25 = some r) ∧ Aside0 (kq ≤ kj7) ∧ Aside0 (Below w.heap.size w wc))
            case first =>
             have H := HC26.out
             clear HC26
             by_cases c33 : t787 = true
             ·as_aux_lemma =>
                subst c33
                have H1 : (if t791 = true then ((laws_sameTexts.f kj7 t786 t790).bind fun t804 => (if t804 = true then (if t795 = true then ((laws_sameHunks.f kj7 t794 t777).bind fun t805 => (if t805 = true then (if t800 = true then (if t803 = true then (if t798 > t801 then (laws_FnTrimmed.j1 kj7 l1 true) else (if t799 > t802 then (laws_FnTrimmed.j1 kj7 l1 true) else (laws_FnTrimmed.j1 kj7 l1 ((wrap64 (t801 - t798)) != (wrap64 (t802 - t799)))))) else (laws_FnTrimmed.j1 kj7 l1 true)) else (laws_FnTrimmed.j1 kj7 l1 true)) else (laws_FnTrimmed.j1 kj7 l1 true))) else (laws_FnTrimmed.j1 kj7 l1 true)) else (laws_FnTrimmed.j1 kj7 l1 true))) else (laws_FnTrimmed.j1 kj7 l1 true)) = some r := by rw [if_pos rfl] at H; exact H
                clear H
                have H := H1
                clear H1
                by_cases c34 : t791 = true
                ·as_aux_lemma =>
                   subst c34
                   have H1 : ((laws_sameTexts.f kj7 t786 t790).bind fun t804 => (if t804 = true then (if t795 = true then ((laws_sameHunks.f kj7 t794 t777).bind fun t805 => (if t805 = true then (if t800 = true then (if t803 = true then (if t798 > t801 then (laws_FnTrimmed.j1 kj7 l1 true) else (if t799 > t802 then (laws_FnTrimmed.j1 kj7 l1 true) else (laws_FnTrimmed.j1 kj7 l1 ((wrap64 (t801 - t798)) != (wrap64 (t802 - t799)))))) else (laws_FnTrimmed.j1 kj7 l1 true)) else (laws_FnTrimmed.j1 kj7 l1 true)) else (laws_FnTrimmed.j1 kj7 l1 true))) else (laws_FnTrimmed.j1 kj7 l1 true)) else (laws_FnTrimmed.j1 kj7 l1 true))) = some r := by rw [if_pos rfl] at H; exact H
                   clear H
                   have H := H1
                   clear H1
                   replace H := Option.bind_eq_some_iff.mp H
                   obtain ⟨t804, A350, H⟩ := H
                   replace H : (if t804 = true then (if t795 = true then ((laws_sameHunks.f kj7 t794 t777).bind fun t805 => (if t805 = true then (if t800 = true then (if t803 = true then (if t798 > t801 then (laws_FnTrimmed.j1 kj7 l1 true) else (if t799 > t802 then (laws_FnTrimmed.j1 kj7 l1 true) else (laws_FnTrimmed.j1 kj7 l1 ((wrap64 (t801 - t798)) != (wrap64 (t802 - t799)))))) else (laws_FnTrimmed.j1 kj7 l1 true)) else (laws_FnTrimmed.j1 kj7 l1 true)) else (laws_FnTrimmed.j1 kj7 l1 true))) else (laws_FnTrimmed.j1 kj7 l1 true)) else (laws_FnTrimmed.j1 kj7 l1 true)) = some r := H
                   have A35 := am A350
                   clear A350
                   by_cases c36 : t804 = true
                   ·as_aux_lemma =>
                      subst c36
                      have H1 : (if t795 = true then ((laws_sameHunks.f kj7 t794 t777).bind fun t805 => (if t805 = true then (if t800 = true then (if t803 = true then (if t798 > t801 then (laws_FnTrimmed.j1 kj7 l1 true) else (if t799 > t802 then (laws_FnTrimmed.j1 kj7 l1 true) else (laws_FnTrimmed.j1 kj7 l1 ((wrap64 (t801 - t798)) != (wrap64 (t802 - t799)))))) else (laws_FnTrimmed.j1 kj7 l1 true)) else (laws_FnTrimmed.j1 kj7 l1 true)) else (laws_FnTrimmed.j1 kj7 l1 true))) else (laws_FnTrimmed.j1 kj7 l1 true)) = some r := by rw [if_pos rfl] at H; exact H
                      clear H
                      have H := H1
                      clear H1
                      by_cases c37 : t795 = true
                      ·as_aux_lemma =>
                         subst c37
                         have H1 : ((laws_sameHunks.f kj7 t794 t777).bind fun t805 => (if t805 = true then (if t800 = true then (if t803 = true then (if t798 > t801 then (laws_FnTrimmed.j1 kj7 l1 true) else (if t799 > t802 then (laws_FnTrimmed.j1 kj7 l1 true) else (laws_FnTrimmed.j1 kj7 l1 ((wrap64 (t801 - t798)) != (wrap64 (t802 - t799)))))) else (laws_FnTrimmed.j1 kj7 l1 true)) else (laws_FnTrimmed.j1 kj7 l1 true)) else (laws_FnTrimmed.j1 kj7 l1 true))) = some r := by rw [if_pos rfl] at H; exact H
                         clear H
                         have H := H1
                         clear H1
                         replace H := Option.bind_eq_some_iff.mp H
                         obtain ⟨t805, A380, H⟩ := H
                         replace H : (if t805 = true then (if t800 = true then (if t803 = true then (if t798 > t801 then (laws_FnTrimmed.j1 kj7 l1 true) else (if t799 > t802 then (laws_FnTrimmed.j1 kj7 l1 true) else (laws_FnTrimmed.j1 kj7 l1 ((wrap64 (t801 - t798)) != (wrap64 (t802 - t799)))))) else (laws_FnTrimmed.j1 kj7 l1 true)) else (laws_FnTrimmed.j1 kj7 l1 true)) else (laws_FnTrimmed.j1 kj7 l1 true)) = some r := H
                         have A38 := am A380
                         clear A380
                         by_cases c39 : t805 = true
                         ·as_aux_lemma =>
                            subst c39
                            have H1 : (if t800 = true then (if t803 = true then (if t798 > t801 then (laws_FnTrimmed.j1 kj7 l1 true) else (if t799 > t802 then (laws_FnTrimmed.j1 kj7 l1 true) else (laws_FnTrimmed.j1 kj7 l1 ((wrap64 (t801 - t798)) != (wrap64 (t802 - t799)))))) else (laws_FnTrimmed.j1 kj7 l1 true)) else (laws_FnTrimmed.j1 kj7 l1 true)) = some r := by rw [if_pos rfl] at H; exact H
                            clear H
                            have H := H1
                            clear H1
                            by_cases c40 : t800 = true
                            ·as_aux_lemma =>
                               subst c40
                               have H1 : (if t803 = true then (if t798 > t801 then (laws_FnTrimmed.j1 kj7 l1 true) else (if t799 > t802 then (laws_FnTrimmed.j1 kj7 l1 true) else (laws_FnTrimmed.j1 kj7 l1 ((wrap64 (t801 - t798)) != (wrap64 (t802 - t799)))))) else (laws_FnTrimmed.j1 kj7 l1 true)) = some r := by rw [if_pos rfl] at H; exact H
                               clear H
                               have H := H1
                               clear H1
                               by_cases c41 : t803 = true
                               ·as_aux_lemma =>
                                  subst c41
                                  have H1 : (if t798 > t801 then (laws_FnTrimmed.j1 kj7 l1 true) else (if t799 > t802 then (laws_FnTrimmed.j1 kj7 l1 true) else (laws_FnTrimmed.j1 kj7 l1 ((wrap64 (t801 - t798)) != (wrap64 (t802 - t799)))))) = some r := by rw [if_pos rfl] at H; exact H
                                  clear H
                                  have H := H1
                                  clear H1
                                  by_cases c42 : t798 > t801
                                  ·as_aux_lemma =>
                                     rw [if_pos c42] at H
                                     have c42b0 : decide (t801 < t798) = true := decide_eq_true c42
                                     clear c42
                                     (first | rw [c42b0] | (simp only [i64_w, i32_w]; rw [c42b0]) | skip)
                                     have H' := am H
                                     clear H
                                     obtain ⟨Ao43, co43, eo43⟩ := Kd.R_slice HO789.out
                                     subst eo43
                                     obtain ⟨Ao44, co44, eo44⟩ := Kd.R_slice HO793.out
                                     subst eo44
                                     go_wp2_with (first | (go_at_call 13; (with_reducible refine (laws_sameTexts.calls kj7 _ _ t786 _ _ t790 true _ ?side1 ?side2 ?side3 ?side4 A35.out).mono ?_); (case side1 => repeat (first | exact (Kd.R_reads' HO789.out).2.2 | (with_reducible refine Kd.C_alloc ?_ _) | (with_reducible refine Kd.C_drewN ?_ _) | (with_reducible refine Kd.C_drew ?_))); (case side2 => exact (Kd.R_reads' HO789.out).2.1); (case side3 => repeat (first | exact (Kd.R_reads' HO793.out).2.2 | (with_reducible refine Kd.C_alloc ?_ _) | (with_reducible refine Kd.C_drewN ?_ _) | (with_reducible refine Kd.C_drew ?_))); (case side4 => exact (Kd.R_reads' HO793.out).2.1); rintro e w' ⟨rfl, ⟨nd, rfl⟩⟩; obtain ⟨Ao45, co45, eo45⟩ := Kd.N_slice HO797.out; subst eo45) | (go_at_call 31; (with_reducible refine (laws_sameHunks.calls kj7 _ _ t794 _ _ t777 true _ ?side1 ?side2 ?side3 ?side4 A38.out).mono ?_); (case side1 => repeat (first | exact (Kd.N_reads' HO797.out).2.2 | (with_reducible refine Kd.C_alloc ?_ _) | (with_reducible refine Kd.C_drewN ?_ _) | (with_reducible refine Kd.C_drew ?_))); (case side2 => exact (Kd.N_reads' HO797.out).2.1); (case side3 => repeat (first | exact (Kd.N_reads' HO_7.out).2.2 | (with_reducible refine Kd.C_alloc ?_ _) | (with_reducible refine Kd.C_drewN ?_ _) | (with_reducible refine Kd.C_drew ?_))); (case side4 => exact (Kd.N_reads' HO_7.out).2.1); rintro e w46 ⟨rfl, hb⟩; have n0_ := am (Kd.R_below (zr HO_5.out) hb); have n1_ := am (Kd.N_below (zN HO_6.out) hb); have n2_ := am (Kd.N_below (zN HO_7.out) hb); have n3_ := am (Kd.R_below (zr HO789.out) hb); have n4_ := am (Kd.R_below (zr HO793.out) hb); have n5_ := am (Kd.N_below (zN HO797.out) hb); have n6_ := am (below_step zb hb); clear HO_5; clear HO_6; clear HO_7; clear HO789; clear HO793; clear HO797; clear HB; have HO_5 := n0_; have HO_6 := n1_; have HO_7 := n2_; have HO789 := n3_; have HO793 := n4_; have HO797 := n5_; have HB := n6_; clear n0_ n1_ n2_ n3_ n4_ n5_ n6_; (try clear hb)))
                                     go_meet
                                     case rel => exact ⟨_, (true), zf, H', ⟨by have := HJ7.out; first | omega | exact Nat.le_refl _⟩, ⟨by repeat (first | (with_reducible first | exact HB.out | apply below_alloc | apply pw_below_drewN | apply below_drew1) | exact HB.out)⟩⟩
                                  ·as_aux_lemma =>
                                     rw [if_neg c42] at H
                                     have c42b0 : decide (t801 < t798) = false := decide_eq_false c42
                                     clear c42
                                     (first | rw [c42b0] | (simp only [i64_w, i32_w]; rw [c42b0]) | skip)
                                     by_cases c47 : t799 > t802
                                     ·as_aux_lemma =>
                                        rw [if_pos c47] at H
                                        have c47b0 : decide (t802 < t799) = true := decide_eq_true c47
                                        clear c47
                                        have H' := am H
                                        clear H
                                        obtain ⟨Ao48, co48, eo48⟩ := Kd.R_slice HO789.out
                                        subst eo48
                                        obtain ⟨Ao49, co49, eo49⟩ := Kd.R_slice HO793.out
                                        subst eo49
                                        go_wp2_with (first | (go_at_call 13; (with_reducible refine (laws_sameTexts.calls kj7 _ _ t786 _ _ t790 true _ ?side1 ?side2 ?side3 ?side4 A35.out).mono ?_); (case side1 => repeat (first | exact (Kd.R_reads' HO789.out).2.2 | (with_reducible refine Kd.C_alloc ?_ _) | (with_reducible refine Kd.C_drewN ?_ _) | (with_reducible refine Kd.C_drew ?_))); (case side2 => exact (Kd.R_reads' HO789.out).2.1); (case side3 => repeat (first | exact (Kd.R_reads' HO793.out).2.2 | (with_reducible refine Kd.C_alloc ?_ _) | (with_reducible refine Kd.C_drewN ?_ _) | (with_reducible refine Kd.C_drew ?_))); (case side4 => exact (Kd.R_reads' HO793.out).2.1); rintro e w' ⟨rfl, ⟨nd, rfl⟩⟩; obtain ⟨Ao50, co50, eo50⟩ := Kd.N_slice HO797.out; subst eo50) | (go_at_call 31; (with_reducible refine (laws_sameHunks.calls kj7 _ _ t794 _ _ t777 true _ ?side1 ?side2 ?side3 ?side4 A38.out).mono ?_); (case side1 => repeat (first | exact (Kd.N_reads' HO797.out).2.2 | (with_reducible refine Kd.C_alloc ?_ _) | (with_reducible refine Kd.C_drewN ?_ _) | (with_reducible refine Kd.C_drew ?_))); (case side2 => exact (Kd.N_reads' HO797.out).2.1); (case side3 => repeat (first | exact (Kd.N_reads' HO_7.out).2.2 | (with_reducible refine Kd.C_alloc ?_ _) | (with_reducible refine Kd.C_drewN ?_ _) | (with_reducible refine Kd.C_drew ?_))); (case side4 => exact (Kd.N_reads' HO_7.out).2.1); rintro e w51 ⟨rfl, hb⟩; have n0_ := am (Kd.R_below (zr HO_5.out) hb); have n1_ := am (Kd.N_below (zN HO_6.out) hb); have n2_ := am (Kd.N_below (zN HO_7.out) hb); have n3_ := am (Kd.R_below (zr HO789.out) hb); have n4_ := am (Kd.R_below (zr HO793.out) hb); have n5_ := am (Kd.N_below (zN HO797.out) hb); have n6_ := am (below_step zb hb); clear HO_5; clear HO_6; clear HO_7; clear HO789; clear HO793; clear HO797; clear HB; have HO_5 := n0_; have HO_6 := n1_; have HO_7 := n2_; have HO789 := n3_; have HO793 := n4_; have HO797 := n5_; have HB := n6_; clear n0_ n1_ n2_ n3_ n4_ n5_ n6_; (try clear hb)))
                                        go_meet
                                        case rel => exact ⟨_, (true), zf, H', ⟨by have := HJ7.out; first | omega | exact Nat.le_refl _⟩, ⟨by repeat (first | (with_reducible first | exact HB.out | apply below_alloc | apply pw_below_drewN | apply below_drew1) | exact HB.out)⟩⟩
                                     ·as_aux_lemma =>
                                        rw [if_neg c47] at H
                                        have c47b0 : decide (t802 < t799) = false := decide_eq_false c47
                                        clear c47
                                        have H' := am H
                                        clear H
                                        obtain ⟨Ao52, co52, eo52⟩ := Kd.R_slice HO789.out
                                        subst eo52
                                        obtain ⟨Ao53, co53, eo53⟩ := Kd.R_slice HO793.out
                                        subst eo53
                                        go_wp2_with (first | (go_at_call 13; (with_reducible refine (laws_sameTexts.calls kj7 _ _ t786 _ _ t790 true _ ?side1 ?side2 ?side3 ?side4 A35.out).mono ?_); (case side1 => repeat (first | exact (Kd.R_reads' HO789.out).2.2 | (with_reducible refine Kd.C_alloc ?_ _) | (with_reducible refine Kd.C_drewN ?_ _) | (with_reducible refine Kd.C_drew ?_))); (case side2 => exact (Kd.R_reads' HO789.out).2.1); (case side3 => repeat (first | exact (Kd.R_reads' HO793.out).2.2 | (with_reducible refine Kd.C_alloc ?_ _) | (with_reducible refine Kd.C_drewN ?_ _) | (with_reducible refine Kd.C_drew ?_))); (case side4 => exact (Kd.R_reads' HO793.out).2.1); rintro e w' ⟨rfl, ⟨nd, rfl⟩⟩; obtain ⟨Ao54, co54, eo54⟩ := Kd.N_slice HO797.out; subst eo54) | (go_at_call 31; (with_reducible refine (laws_sameHunks.calls kj7 _ _ t794 _ _ t777 true _ ?side1 ?side2 ?side3 ?side4 A38.out).mono ?_); (case side1 => repeat (first | exact (Kd.N_reads' HO797.out).2.2 | (with_reducible refine Kd.C_alloc ?_ _) | (with_reducible refine Kd.C_drewN ?_ _) | (with_reducible refine Kd.C_drew ?_))); (case side2 => exact (Kd.N_reads' HO797.out).2.1); (case side3 => repeat (first | exact (Kd.N_reads' HO_7.out).2.2 | (with_reducible refine Kd.C_alloc ?_ _) | (with_reducible refine Kd.C_drewN ?_ _) | (with_reducible refine Kd.C_drew ?_))); (case side4 => exact (Kd.N_reads' HO_7.out).2.1); rintro e w55 ⟨rfl, hb⟩; have n0_ := am (Kd.R_below (zr HO_5.out) hb); have n1_ := am (Kd.N_below (zN HO_6.out) hb); have n2_ := am (Kd.N_below (zN HO_7.out) hb); have n3_ := am (Kd.R_below (zr HO789.out) hb); have n4_ := am (Kd.R_below (zr HO793.out) hb); have n5_ := am (Kd.N_below (zN HO797.out) hb); have n6_ := am (below_step zb hb); clear HO_5; clear HO_6; clear HO_7; clear HO789; clear HO793; clear HO797; clear HB; have HO_5 := n0_; have HO_6 := n1_; have HO_7 := n2_; have HO789 := n3_; have HO793 := n4_; have HO797 := n5_; have HB := n6_; clear n0_ n1_ n2_ n3_ n4_ n5_ n6_; (try clear hb)))
                                        go_meet
                                        case rel => exact ⟨_, (((wrap64 (t801 - t798)) != (wrap64 (t802 - t799)))), zf, H', ⟨by have := HJ7.out; first | omega | exact Nat.le_refl _⟩, ⟨by repeat (first | (with_reducible first | exact HB.out | apply below_alloc | apply pw_below_drewN | apply below_drew1) | exact HB.out)⟩⟩
                               ·as_aux_lemma =>
                                  replace c41 := Bool.eq_false_iff.mpr c41
                                  subst c41
                                  have H1 : (laws_FnTrimmed.j1 kj7 l1 true) = some r := by rw [if_neg (show ¬ (false = true) by decide)] at H; exact H
                                  clear H
                                  have H := H1
                                  clear H1
                                  have H' := am H
                                  clear H
                                  obtain ⟨Ao56, co56, eo56⟩ := Kd.R_slice HO789.out
                                  subst eo56
                                  obtain ⟨Ao57, co57, eo57⟩ := Kd.R_slice HO793.out
                                  subst eo57
                                  go_wp2_with (first | (go_at_call 13; (with_reducible refine (laws_sameTexts.calls kj7 _ _ t786 _ _ t790 true _ ?side1 ?side2 ?side3 ?side4 A35.out).mono ?_); (case side1 => repeat (first | exact (Kd.R_reads' HO789.out).2.2 | (with_reducible refine Kd.C_alloc ?_ _) | (with_reducible refine Kd.C_drewN ?_ _) | (with_reducible refine Kd.C_drew ?_))); (case side2 => exact (Kd.R_reads' HO789.out).2.1); (case side3 => repeat (first | exact (Kd.R_reads' HO793.out).2.2 | (with_reducible refine Kd.C_alloc ?_ _) | (with_reducible refine Kd.C_drewN ?_ _) | (with_reducible refine Kd.C_drew ?_))); (case side4 => exact (Kd.R_reads' HO793.out).2.1); rintro e w' ⟨rfl, ⟨nd, rfl⟩⟩; obtain ⟨Ao58, co58, eo58⟩ := Kd.N_slice HO797.out; subst eo58) | (go_at_call 31; (with_reducible refine (laws_sameHunks.calls kj7 _ _ t794 _ _ t777 true _ ?side1 ?side2 ?side3 ?side4 A38.out).mono ?_); (case side1 => repeat (first | exact (Kd.N_reads' HO797.out).2.2 | (with_reducible refine Kd.C_alloc ?_ _) | (with_reducible refine Kd.C_drewN ?_ _) | (with_reducible refine Kd.C_drew ?_))); (case side2 => exact (Kd.N_reads' HO797.out).2.1); (case side3 => repeat (first | exact (Kd.N_reads' HO_7.out).2.2 | (with_reducible refine Kd.C_alloc ?_ _) | (with_reducible refine Kd.C_drewN ?_ _) | (with_reducible refine Kd.C_drew ?_))); (case side4 => exact (Kd.N_reads' HO_7.out).2.1); rintro e w59 ⟨rfl, hb⟩; have n0_ := am (Kd.R_below (zr HO_5.out) hb); have n1_ := am (Kd.N_below (zN HO_6.out) hb); have n2_ := am (Kd.N_below (zN HO_7.out) hb); have n3_ := am (Kd.R_below (zr HO789.out) hb); have n4_ := am (Kd.R_below (zr HO793.out) hb); have n5_ := am (Kd.N_below (zN HO797.out) hb); have n6_ := am (below_step zb hb); clear HO_5; clear HO_6; clear HO_7; clear HO789; clear HO793; clear HO797; clear HB; have HO_5 := n0_; have HO_6 := n1_; have HO_7 := n2_; have HO789 := n3_; have HO793 := n4_; have HO797 := n5_; have HB := n6_; clear n0_ n1_ n2_ n3_ n4_ n5_ n6_; (try clear hb)))
                                  go_meet
                                  case rel => exact ⟨_, (true), zf, H', ⟨by have := HJ7.out; first | omega | exact Nat.le_refl _⟩, ⟨by repeat (first | (with_reducible first | exact HB.out | apply below_alloc | apply pw_below_drewN | apply below_drew1) | exact HB.out)⟩⟩
                            ·as_aux_lemma =>
                               replace c40 := Bool.eq_false_iff.mpr c40
                               subst c40
                               have H1 : (laws_FnTrimmed.j1 kj7 l1 true) = some r := by rw [if_neg (show ¬ (false = true) by decide)] at H; exact H
                               clear H
                               have H := H1
                               clear H1
                               have H' := am H
                               clear H
                               obtain ⟨Ao60, co60, eo60⟩ := Kd.R_slice HO789.out
                               subst eo60
                               obtain ⟨Ao61, co61, eo61⟩ := Kd.R_slice HO793.out
                               subst eo61
                               go_wp2_with (first | (go_at_call 13; (with_reducible refine (laws_sameTexts.calls kj7 _ _ t786 _ _ t790 true _ ?side1 ?side2 ?side3 ?side4 A35.out).mono ?_); (case side1 => repeat (first | exact (Kd.R_reads' HO789.out).2.2 | (with_reducible refine Kd.C_alloc ?_ _) | (with_reducible refine Kd.C_drewN ?_ _) | (with_reducible refine Kd.C_drew ?_))); (case side2 => exact (Kd.R_reads' HO789.out).2.1); (case side3 => repeat (first | exact (Kd.R_reads' HO793.out).2.2 | (with_reducible refine Kd.C_alloc ?_ _) | (with_reducible refine Kd.C_drewN ?_ _) | (with_reducible refine Kd.C_drew ?_))); (case side4 => exact (Kd.R_reads' HO793.out).2.1); rintro e w' ⟨rfl, ⟨nd, rfl⟩⟩; obtain ⟨Ao62, co62, eo62⟩ := Kd.N_slice HO797.out; subst eo62) | (go_at_call 31; (with_reducible refine (laws_sameHunks.calls kj7 _ _ t794 _ _ t777 true _ ?side1 ?side2 ?side3 ?side4 A38.out).mono ?_); (case side1 => repeat (first | exact (Kd.N_reads' HO797.out).2.2 | (with_reducible refine Kd.C_alloc ?_ _) | (with_reducible refine Kd.C_drewN ?_ _) | (with_reducible refine Kd.C_drew ?_))); (case side2 => exact (Kd.N_reads' HO797.out).2.1); (case side3 => repeat (first | exact (Kd.N_reads' HO_7.out).2.2 | (with_reducible refine Kd.C_alloc ?_ _) | (with_reducible refine Kd.C_drewN ?_ _) | (with_reducible refine Kd.C_drew ?_))); (case side4 => exact (Kd.N_reads' HO_7.out).2.1); rintro e w63 ⟨rfl, hb⟩; have n0_ := am (Kd.R_below (zr HO_5.out) hb); have n1_ := am (Kd.N_below (zN HO_6.out) hb); have n2_ := am (Kd.N_below (zN HO_7.out) hb); have n3_ := am (Kd.R_below (zr HO789.out) hb); have n4_ := am (Kd.R_below (zr HO793.out) hb); have n5_ := am (Kd.N_below (zN HO797.out) hb); have n6_ := am (below_step zb hb); clear HO_5; clear HO_6; clear HO_7; clear HO789; clear HO793; clear HO797; clear HB; have HO_5 := n0_; have HO_6 := n1_; have HO_7 := n2_; have HO789 := n3_; have HO793 := n4_; have HO797 := n5_; have HB := n6_; clear n0_ n1_ n2_ n3_ n4_ n5_ n6_; (try clear hb)))
                               go_meet
                               case rel => exact ⟨_, (true), zf, H', ⟨by have := HJ7.out; first | omega | exact Nat.le_refl _⟩, ⟨by repeat (first | (with_reducible first | exact HB.out | apply below_alloc | apply pw_below_drewN | apply below_drew1) | exact HB.out)⟩⟩
                         ·as_aux_lemma =>
                            replace c39 := Bool.eq_false_iff.mpr c39
                            subst c39
                            have H1 : (laws_FnTrimmed.j1 kj7 l1 true) = some r := by rw [if_neg (show ¬ (false = true) by decide)] at H; exact H
                            clear H
                            have H := H1
                            clear H1
                            have H' := am H
                            clear H
                            obtain ⟨Ao64, co64, eo64⟩ := Kd.R_slice HO789.out
                            subst eo64
                            obtain ⟨Ao65, co65, eo65⟩ := Kd.R_slice HO793.out
                            subst eo65
                            go_wp2_with (first | (go_at_call 13; (with_reducible refine (laws_sameTexts.calls kj7 _ _ t786 _ _ t790 true _ ?side1 ?side2 ?side3 ?side4 A35.out).mono ?_); (case side1 => repeat (first | exact (Kd.R_reads' HO789.out).2.2 | (with_reducible refine Kd.C_alloc ?_ _) | (with_reducible refine Kd.C_drewN ?_ _) | (with_reducible refine Kd.C_drew ?_))); (case side2 => exact (Kd.R_reads' HO789.out).2.1); (case side3 => repeat (first | exact (Kd.R_reads' HO793.out).2.2 | (with_reducible refine Kd.C_alloc ?_ _) | (with_reducible refine Kd.C_drewN ?_ _) | (with_reducible refine Kd.C_drew ?_))); (case side4 => exact (Kd.R_reads' HO793.out).2.1); rintro e w' ⟨rfl, ⟨nd, rfl⟩⟩; obtain ⟨Ao66, co66, eo66⟩ := Kd.N_slice HO797.out; subst eo66) | (go_at_call 31; (with_reducible refine (laws_sameHunks.calls kj7 _ _ t794 _ _ t777 false _ ?side1 ?side2 ?side3 ?side4 A38.out).mono ?_); (case side1 => repeat (first | exact (Kd.N_reads' HO797.out).2.2 | (with_reducible refine Kd.C_alloc ?_ _) | (with_reducible refine Kd.C_drewN ?_ _) | (with_reducible refine Kd.C_drew ?_))); (case side2 => exact (Kd.N_reads' HO797.out).2.1); (case side3 => repeat (first | exact (Kd.N_reads' HO_7.out).2.2 | (with_reducible refine Kd.C_alloc ?_ _) | (with_reducible refine Kd.C_drewN ?_ _) | (with_reducible refine Kd.C_drew ?_))); (case side4 => exact (Kd.N_reads' HO_7.out).2.1); rintro e w67 ⟨rfl, hb⟩; have n0_ := am (Kd.R_below (zr HO_5.out) hb); have n1_ := am (Kd.N_below (zN HO_6.out) hb); have n2_ := am (Kd.N_below (zN HO_7.out) hb); have n3_ := am (Kd.R_below (zr HO789.out) hb); have n4_ := am (Kd.R_below (zr HO793.out) hb); have n5_ := am (Kd.N_below (zN HO797.out) hb); have n6_ := am (below_step zb hb); clear HO_5; clear HO_6; clear HO_7; clear HO789; clear HO793; clear HO797; clear HB; have HO_5 := n0_; have HO_6 := n1_; have HO_7 := n2_; have HO789 := n3_; have HO793 := n4_; have HO797 := n5_; have HB := n6_; clear n0_ n1_ n2_ n3_ n4_ n5_ n6_; (try clear hb)))
                            go_meet
                            case rel => exact ⟨_, (true), zf, H', ⟨by have := HJ7.out; first | omega | exact Nat.le_refl _⟩, ⟨by repeat (first | (with_reducible first | exact HB.out | apply below_alloc | apply pw_below_drewN | apply below_drew1) | exact HB.out)⟩⟩
                      ·as_aux_lemma =>
                         replace c37 := Bool.eq_false_iff.mpr c37
                         subst c37
                         have H1 : (laws_FnTrimmed.j1 kj7 l1 true) = some r := by rw [if_neg (show ¬ (false = true) by decide)] at H; exact H
                         clear H
                         have H := H1
                         clear H1
                         have H' := am H
                         clear H
                         obtain ⟨Ao68, co68, eo68⟩ := Kd.R_slice HO789.out
                         subst eo68
                         obtain ⟨Ao69, co69, eo69⟩ := Kd.R_slice HO793.out
                         subst eo69
                         go_wp2_with (first | (go_at_call 13; (with_reducible refine (laws_sameTexts.calls kj7 _ _ t786 _ _ t790 true _ ?side1 ?side2 ?side3 ?side4 A35.out).mono ?_); (case side1 => repeat (first | exact (Kd.R_reads' HO789.out).2.2 | (with_reducible refine Kd.C_alloc ?_ _) | (with_reducible refine Kd.C_drewN ?_ _) | (with_reducible refine Kd.C_drew ?_))); (case side2 => exact (Kd.R_reads' HO789.out).2.1); (case side3 => repeat (first | exact (Kd.R_reads' HO793.out).2.2 | (with_reducible refine Kd.C_alloc ?_ _) | (with_reducible refine Kd.C_drewN ?_ _) | (with_reducible refine Kd.C_drew ?_))); (case side4 => exact (Kd.R_reads' HO793.out).2.1); rintro e w' ⟨rfl, ⟨nd, rfl⟩⟩))
                         go_meet
                         case rel => exact ⟨_, (true), zf, H', ⟨by have := HJ7.out; first | omega | exact Nat.le_refl _⟩, ⟨by repeat (first | (with_reducible first | exact HB.out | apply below_alloc | apply pw_below_drewN | apply below_drew1) | exact HB.out)⟩⟩
                   ·as_aux_lemma =>
                      replace c36 := Bool.eq_false_iff.mpr c36
                      subst c36
                      have H1 : (laws_FnTrimmed.j1 kj7 l1 true) = some r := by rw [if_neg (show ¬ (false = true) by decide)] at H; exact H
                      clear H
                      have H := H1
                      clear H1
                      have H' := am H
                      clear H
                      obtain ⟨Ao70, co70, eo70⟩ := Kd.R_slice HO789.out
                      subst eo70
                      obtain ⟨Ao71, co71, eo71⟩ := Kd.R_slice HO793.out
                      subst eo71
                      go_wp2_with (first | (go_at_call 13; (with_reducible refine (laws_sameTexts.calls kj7 _ _ t786 _ _ t790 false _ ?side1 ?side2 ?side3 ?side4 A35.out).mono ?_); (case side1 => repeat (first | exact (Kd.R_reads' HO789.out).2.2 | (with_reducible refine Kd.C_alloc ?_ _) | (with_reducible refine Kd.C_drewN ?_ _) | (with_reducible refine Kd.C_drew ?_))); (case side2 => exact (Kd.R_reads' HO789.out).2.1); (case side3 => repeat (first | exact (Kd.R_reads' HO793.out).2.2 | (with_reducible refine Kd.C_alloc ?_ _) | (with_reducible refine Kd.C_drewN ?_ _) | (with_reducible refine Kd.C_drew ?_))); (case side4 => exact (Kd.R_reads' HO793.out).2.1); rintro e w' ⟨rfl, ⟨nd, rfl⟩⟩))
                      go_meet
                      case rel => exact ⟨_, (true), zf, H', ⟨by have := HJ7.out; first | omega | exact Nat.le_refl _⟩, ⟨by repeat (first | (with_reducible first | exact HB.out | apply below_alloc | apply pw_below_drewN | apply below_drew1) | exact HB.out)⟩⟩
                ·as_aux_lemma =>
                   replace c34 := Bool.eq_false_iff.mpr c34
                   subst c34
                   have H1 : (laws_FnTrimmed.j1 kj7 l1 true) = some r := by rw [if_neg (show ¬ (false = true) by decide)] at H; exact H
                   clear H
                   have H := H1
                   clear H1
                   have H' := am H
                   clear H
                   go_wp2
                   go_meet
                   case rel => exact ⟨_, (true), zf, H', ⟨by have := HJ7.out; first | omega | exact Nat.le_refl _⟩, ⟨by repeat (first | (with_reducible first | exact HB.out | apply below_alloc | apply pw_below_drewN | apply below_drew1) | exact HB.out)⟩⟩
             ·as_aux_lemma =>
                replace c33 := Bool.eq_false_iff.mpr c33
                subst c33
                have H1 : (laws_FnTrimmed.j1 kj7 l1 true) = some r := by rw [if_neg (show ¬ (false = true) by decide)] at H; exact H
                clear H
                have H := H1
                clear H1
                have H' := am H
                clear H
                go_wp2
                go_meet
                case rel => exact ⟨_, (true), zf, H', ⟨by have := HJ7.out; first | omega | exact Nat.le_refl _⟩, ⟨by repeat (first | (with_reducible first | exact HB.out | apply below_alloc | apply pw_below_drewN | apply below_drew1) | exact HB.out)⟩⟩
            case rest =>
             clear HC26
             try clear c1
             try clear c2
             try clear p2
             try clear c3
             try clear c4
             try clear c5
             try clear p6
             try clear c9
             try clear c14
             try clear c14b0
             try clear c14b1
             try clear c14b2
             try clear c19
             try clear c20
             try clear c28
             try clear c29
             try clear c30
             try clear c32
             try clear c33
             try clear c34
             try clear c36
             try clear c37
             try clear c39
             try clear c40
             try clear c41
             try clear c42
             try clear c42b0
             try clear c47
             try clear c47b0
             try clear p64
             try clear p2
             obtain ⟨kq, x138_25, rfl, HA, HJ25, HB⟩ := hcut
             cases kq with
             | zero => exact absurd HA.out (by simp [laws_FnTrimmed.j1])
             | succ kj25 =>
              have H := HA.out
              clear HA
              simp only [laws_FnTrimmed.j1] at H
              by_cases c72 : x138_25 = true
              ·as_aux_lemma =>
                 subst c72
                 have H1 : (some false) = some r := by rw [if_pos rfl] at H; exact H
                 clear H
                 have H := H1
                 clear H1
                 first
                 | exact absurd (show false = true from (Option.some.inj H).trans HR_.out) Bool.false_ne_true
                 | obtain rfl := Option.some.inj H
                   go_wp2
                   go_ret
                   exact ⟨by first | rfl | (simp [errW_none, errW_some] <;> rfl) | (simp [*, errW_none, errW_some] <;> rfl), by repeat (first | (with_reducible first | exact HB.out | apply below_alloc | apply pw_below_drewN | apply below_drew1) | exact HB.out)⟩
              ·as_aux_lemma =>
                 replace c72 := Bool.eq_false_iff.mpr c72
                 subst c72
                 have H1 : ((spec_DrawPlaceOf.f kj25 l1).bind fun bt806 => ((impl_PlaceOf.f kj25 bt806.1 bt806.2.1 bt806.2.2).bind fun bt811 => ((spec_PlaceOf.f kj25 bt806.1 bt806.2.1 bt806.2.2).bind fun bt813 => (if (bt811.2 == bt813.2) = true then (some (bt811.1 == bt813.1)) else (some false))))) = some r := by rw [if_neg (show ¬ (false = true) by decide)] at H; exact H
                 clear H
                 have H := H1
                 clear H1
                 replace H := Option.bind_eq_some_iff.mp H
                 obtain ⟨⟨t806, t807, t808⟩, A730, H⟩ := H
                 replace H : ((impl_PlaceOf.f kj25 t806 t807 t808).bind fun bt811 => ((spec_PlaceOf.f kj25 t806 t807 t808).bind fun bt813 => (if (bt811.2 == bt813.2) = true then (some (bt811.1 == bt813.1)) else (some false)))) = some r := H
                 have A73 := am A730
                 clear A730
                 replace H := Option.bind_eq_some_iff.mp H
                 obtain ⟨⟨t811, t812⟩, A740, H⟩ := H
                 replace H : ((spec_PlaceOf.f kj25 t806 t807 t808).bind fun bt813 => (if (t812 == bt813.2) = true then (some (t811 == bt813.1)) else (some false))) = some r := H
                 have A74 := am A740
                 clear A740
                 replace H := Option.bind_eq_some_iff.mp H
                 obtain ⟨⟨t813, t814⟩, A750, H⟩ := H
                 replace H : (if (t812 == t814) = true then (some (t811 == t813)) else (some false)) = some r := H
                 have A75 := am A750
                 clear A750
                 by_cases c76 : (t812 == t814) = true
                 ·as_aux_lemma =>
                    rw [if_pos c76] at H
                    have c76b0 : (t812 == t814) = true := c76
                    (try (have c76b1 : decide (t812 = t814) = true := by simpa using c76))
                    (try (have c76b2 : (t812 == t814) = true := by simpa using c76))
                    clear c76
                    first
                    | exact absurd (show false = true from (Option.some.inj H).trans HR_.out) Bool.false_ne_true
                    | obtain rfl := Option.some.inj H
                      go_wp2_with (first | ((with_reducible refine gateC (f := 34) rfl ?_); refine goesL_ (some 141) rfl rfl Try.func34 (by kernel_rfl) rfl #[.slice A1 l1.length c1] rfl zm ?_; (with_reducible refine (spec_DrawPlaceOf.calls kj25 _ _ l1 t806 t807 t808 _ ?side1 ?side2 A73.out).mono ?_); (case side1 => exact zq (Kd.C_below HR1.out HB.out)); (case side2 => exact HC1.out); rintro e w77 ⟨v809, rfl, ho0, hb⟩; refine ⟨_, rfl, ?_⟩; have n0_ := am (Kd.N_lower (Kd.N_mono (ok' := fun k_ => True) (Kd.S_N (Kd.S_bound ho0)) (fun k_ hk_ => trivial)) (below_size zb)); have n1_ := am (below_step zb hb); clear HB; have HO810 := n0_; have HB := n1_; clear n0_ n1_; (try clear hb); (try clear ho0); obtain ⟨Ao78, co78, eo78⟩ := Kd.N_slice HO810.out; subst eo78) | ((with_reducible refine gateC (f := 35) rfl ?_); refine goesL_ (some 149) rfl rfl Try.func35 (by kernel_rfl) rfl #[.slice Ao78 t806.length co78, .int .i64 t807, .int .i64 t808] rfl zm ?_; (with_reducible refine (impl_PlaceOf.calls kj25 _ _ t806 t807 t808 t811 t812 _ ?side1 ?side2 A74.out).mono ?_); (case side1 => repeat (first | exact (Kd.N_reads' HO810.out).2.2 | (with_reducible refine Kd.C_alloc ?_ _) | (with_reducible refine Kd.C_drewN ?_ _) | (with_reducible refine Kd.C_drew ?_))); (case side2 => exact (Kd.N_reads' HO810.out).2.1); rintro e w79 ⟨rfl, hb⟩; refine ⟨_, rfl, ?_⟩; have n0_ := am (Kd.N_below (zN HO810.out) hb); have n1_ := am (below_step zb hb); clear HO810; clear HB; have HO810 := n0_; have HB := n1_; clear n0_ n1_; (try clear hb)) | ((with_reducible refine gateC (f := 36) rfl ?_); refine goesL_ (some 156) rfl rfl Try.func36 (by kernel_rfl) rfl #[.slice Ao78 t806.length co78, .int .i64 t807, .int .i64 t808] rfl zm ?_; (with_reducible refine (spec_PlaceOf.calls kj25 _ _ t806 t807 t808 t813 t814 _ ?side1 ?side2 A75.out).mono ?_); (case side1 => repeat (first | exact (Kd.N_reads' HO810.out).2.2 | (with_reducible refine Kd.C_alloc ?_ _) | (with_reducible refine Kd.C_drewN ?_ _) | (with_reducible refine Kd.C_drew ?_))); (case side2 => exact (Kd.N_reads' HO810.out).2.1); rintro e w80 ⟨rfl, hb⟩; refine ⟨_, rfl, ?_⟩; have n0_ := am (Kd.N_below (zN HO810.out) hb); have n1_ := am (below_step zb hb); clear HO810; clear HB; have HO810 := n0_; have HB := n1_; clear n0_ n1_; (try clear hb)))
                      go_ret
                      exact ⟨by first | rfl | (simp [errW_none, errW_some] <;> rfl) | (simp [*, errW_none, errW_some] <;> rfl), by repeat (first | (with_reducible first | exact HB.out | apply below_alloc | apply pw_below_drewN | apply below_drew1) | exact HB.out)⟩
                 ·as_aux_lemma =>
                    rw [if_neg c76] at H
                    have c76b0 : (t812 == t814) = false := by simpa using c76
                    (try (have c76b1 : decide (t812 = t814) = false := by simpa using c76))
                    (try (have c76b2 : (t812 == t814) = false := by simpa using c76))
                    (try (have c76b3 : ¬ (t812 = t814) := by simpa using c76))
                    clear c76
                    first
                    | exact absurd (show false = true from (Option.some.inj H).trans HR_.out) Bool.false_ne_true
                    | obtain rfl := Option.some.inj H
                      go_wp2_with (first | ((with_reducible refine gateC (f := 34) rfl ?_); refine goesL_ (some 141) rfl rfl Try.func34 (by kernel_rfl) rfl #[.slice A1 l1.length c1] rfl zm ?_; (with_reducible refine (spec_DrawPlaceOf.calls kj25 _ _ l1 t806 t807 t808 _ ?side1 ?side2 A73.out).mono ?_); (case side1 => exact zq (Kd.C_below HR1.out HB.out)); (case side2 => exact HC1.out); rintro e w81 ⟨v809, rfl, ho0, hb⟩; refine ⟨_, rfl, ?_⟩; have n0_ := am (Kd.N_lower (Kd.N_mono (ok' := fun k_ => True) (Kd.S_N (Kd.S_bound ho0)) (fun k_ hk_ => trivial)) (below_size zb)); have n1_ := am (below_step zb hb); clear HB; have HO810 := n0_; have HB := n1_; clear n0_ n1_; (try clear hb); (try clear ho0); obtain ⟨Ao82, co82, eo82⟩ := Kd.N_slice HO810.out; subst eo82) | ((with_reducible refine gateC (f := 35) rfl ?_); refine goesL_ (some 149) rfl rfl Try.func35 (by kernel_rfl) rfl #[.slice Ao82 t806.length co82, .int .i64 t807, .int .i64 t808] rfl zm ?_; (with_reducible refine (impl_PlaceOf.calls kj25 _ _ t806 t807 t808 t811 t812 _ ?side1 ?side2 A74.out).mono ?_); (case side1 => repeat (first | exact (Kd.N_reads' HO810.out).2.2 | (with_reducible refine Kd.C_alloc ?_ _) | (with_reducible refine Kd.C_drewN ?_ _) | (with_reducible refine Kd.C_drew ?_))); (case side2 => exact (Kd.N_reads' HO810.out).2.1); rintro e w83 ⟨rfl, hb⟩; refine ⟨_, rfl, ?_⟩; have n0_ := am (Kd.N_below (zN HO810.out) hb); have n1_ := am (below_step zb hb); clear HO810; clear HB; have HO810 := n0_; have HB := n1_; clear n0_ n1_; (try clear hb)) | ((with_reducible refine gateC (f := 36) rfl ?_); refine goesL_ (some 156) rfl rfl Try.func36 (by kernel_rfl) rfl #[.slice Ao82 t806.length co82, .int .i64 t807, .int .i64 t808] rfl zm ?_; (with_reducible refine (spec_PlaceOf.calls kj25 _ _ t806 t807 t808 t813 t814 _ ?side1 ?side2 A75.out).mono ?_); (case side1 => repeat (first | exact (Kd.N_reads' HO810.out).2.2 | (with_reducible refine Kd.C_alloc ?_ _) | (with_reducible refine Kd.C_drewN ?_ _) | (with_reducible refine Kd.C_drew ?_))); (case side2 => exact (Kd.N_reads' HO810.out).2.1); rintro e w84 ⟨rfl, hb⟩; refine ⟨_, rfl, ?_⟩; have n0_ := am (Kd.N_below (zN HO810.out) hb); have n1_ := am (below_step zb hb); clear HO810; clear HB; have HO810 := n0_; have HB := n1_; clear n0_ n1_; (try clear hb)))
                      go_ret
                      exact ⟨by first | rfl | (simp [errW_none, errW_some] <;> rfl) | (simp [*, errW_none, errW_some] <;> rfl), by repeat (first | (with_reducible first | exact HB.out | apply below_alloc | apply pw_below_drewN | apply below_drew1) | exact HB.out)⟩
         ·as_aux_lemma =>
            replace c20 := Bool.eq_false_iff.mpr c20
            subst c20
            have H1 : ((spec_DrawPlaceOf.f kj7 l1).bind fun bt815 => ((impl_PlaceOf.f kj7 bt815.1 bt815.2.1 bt815.2.2).bind fun bt820 => ((spec_PlaceOf.f kj7 bt815.1 bt815.2.1 bt815.2.2).bind fun bt822 => (if (bt820.2 == bt822.2) = true then (some (bt820.1 == bt822.1)) else (some false))))) = some r := by rw [if_neg (show ¬ (false = true) by decide)] at H; exact H
            clear H
            have H := H1
            clear H1
            replace H := Option.bind_eq_some_iff.mp H
            obtain ⟨⟨t815, t816, t817⟩, A850, H⟩ := H
            replace H : ((impl_PlaceOf.f kj7 t815 t816 t817).bind fun bt820 => ((spec_PlaceOf.f kj7 t815 t816 t817).bind fun bt822 => (if (bt820.2 == bt822.2) = true then (some (bt820.1 == bt822.1)) else (some false)))) = some r := H
            have A85 := am A850
            clear A850
            replace H := Option.bind_eq_some_iff.mp H
            obtain ⟨⟨t820, t821⟩, A860, H⟩ := H
            replace H : ((spec_PlaceOf.f kj7 t815 t816 t817).bind fun bt822 => (if (t821 == bt822.2) = true then (some (t820 == bt822.1)) else (some false))) = some r := H
            have A86 := am A860
            clear A860
            replace H := Option.bind_eq_some_iff.mp H
            obtain ⟨⟨t822, t823⟩, A870, H⟩ := H
            replace H : (if (t821 == t823) = true then (some (t820 == t822)) else (some false)) = some r := H
            have A87 := am A870
            clear A870
            by_cases c88 : (t821 == t823) = true
            ·as_aux_lemma =>
               rw [if_pos c88] at H
               have c88b0 : (t821 == t823) = true := c88
               (try (have c88b1 : decide (t821 = t823) = true := by simpa using c88))
               (try (have c88b2 : (t821 == t823) = true := by simpa using c88))
               clear c88
               first
               | exact absurd (show false = true from (Option.some.inj H).trans HR_.out) Bool.false_ne_true
               | obtain rfl := Option.some.inj H
                 go_wp2_with (first | ((with_reducible refine gateC (f := 34) rfl ?_); refine goesL_ (some 141) rfl rfl Try.func34 (by kernel_rfl) rfl #[.slice A1 l1.length c1] rfl zm ?_; (with_reducible refine (spec_DrawPlaceOf.calls kj7 _ _ l1 t815 t816 t817 _ ?side1 ?side2 A85.out).mono ?_); (case side1 => exact zq (Kd.C_below HR1.out HB.out)); (case side2 => exact HC1.out); rintro e w89 ⟨v818, rfl, ho0, hb⟩; refine ⟨_, rfl, ?_⟩; have n0_ := am (Kd.R_below (zr HO_5.out) hb); have n1_ := am (Kd.N_elder' (zN HO_6.out) (Kd.S_base ho0) hb); have n2_ := am (Kd.N_elder' (zN HO_7.out) (Kd.S_base ho0) hb); have n3_ := am (Kd.N_lower (Kd.N_mono (ok' := fun k_ => some k_ ≠ (.slice Ao10 t771.length co10 : Value).ownBlock ∧ some k_ ≠ (.slice Ao11 t772.length co11 : Value).ownBlock ∧ some k_ ≠ (v779 : Value).ownBlock) (Kd.S_N (Kd.S_bound ho0)) (fun k_ hk_ => ⟨(Kd.fresh' (Kd.R_lt (zr HO_5.out)) k_ hk_.2.1), (Kd.fresh' (Kd.N_lt (zN HO_6.out)) k_ hk_.2.1), (Kd.fresh' (Kd.N_lt (zN HO_7.out)) k_ hk_.2.1)⟩)) (below_size zb)); have n4_ := am (below_step zb hb); clear HO_5; clear HO_6; clear HO_7; clear HB; have HO_5 := n0_; have HO_6 := n1_; have HO_7 := n2_; have HO819 := n3_; have HB := n4_; clear n0_ n1_ n2_ n3_ n4_; (try clear hb); (try clear ho0); obtain ⟨Ao90, co90, eo90⟩ := Kd.N_slice HO819.out; subst eo90) | ((with_reducible refine gateC (f := 35) rfl ?_); refine goesL_ (some 149) rfl rfl Try.func35 (by kernel_rfl) rfl #[.slice Ao90 t815.length co90, .int .i64 t816, .int .i64 t817] rfl zm ?_; (with_reducible refine (impl_PlaceOf.calls kj7 _ _ t815 t816 t817 t820 t821 _ ?side1 ?side2 A86.out).mono ?_); (case side1 => repeat (first | exact (Kd.N_reads' HO819.out).2.2 | (with_reducible refine Kd.C_alloc ?_ _) | (with_reducible refine Kd.C_drewN ?_ _) | (with_reducible refine Kd.C_drew ?_))); (case side2 => exact (Kd.N_reads' HO819.out).2.1); rintro e w91 ⟨rfl, hb⟩; refine ⟨_, rfl, ?_⟩; have n0_ := am (Kd.R_below (zr HO_5.out) hb); have n1_ := am (Kd.N_below (zN HO_6.out) hb); have n2_ := am (Kd.N_below (zN HO_7.out) hb); have n3_ := am (Kd.N_below (zN HO819.out) hb); have n4_ := am (below_step zb hb); clear HO_5; clear HO_6; clear HO_7; clear HO819; clear HB; have HO_5 := n0_; have HO_6 := n1_; have HO_7 := n2_; have HO819 := n3_; have HB := n4_; clear n0_ n1_ n2_ n3_ n4_; (try clear hb)) | ((with_reducible refine gateC (f := 36) rfl ?_); refine goesL_ (some 156) rfl rfl Try.func36 (by kernel_rfl) rfl #[.slice Ao90 t815.length co90, .int .i64 t816, .int .i64 t817] rfl zm ?_; (with_reducible refine (spec_PlaceOf.calls kj7 _ _ t815 t816 t817 t822 t823 _ ?side1 ?side2 A87.out).mono ?_); (case side1 => repeat (first | exact (Kd.N_reads' HO819.out).2.2 | (with_reducible refine Kd.C_alloc ?_ _) | (with_reducible refine Kd.C_drewN ?_ _) | (with_reducible refine Kd.C_drew ?_))); (case side2 => exact (Kd.N_reads' HO819.out).2.1); rintro e w92 ⟨rfl, hb⟩; refine ⟨_, rfl, ?_⟩; have n0_ := am (Kd.R_below (zr HO_5.out) hb); have n1_ := am (Kd.N_below (zN HO_6.out) hb); have n2_ := am (Kd.N_below (zN HO_7.out) hb); have n3_ := am (Kd.N_below (zN HO819.out) hb); have n4_ := am (below_step zb hb); clear HO_5; clear HO_6; clear HO_7; clear HO819; clear HB; have HO_5 := n0_; have HO_6 := n1_; have HO_7 := n2_; have HO819 := n3_; have HB := n4_; clear n0_ n1_ n2_ n3_ n4_; (try clear hb)))
                 go_ret
                 exact ⟨by first | rfl | (simp [errW_none, errW_some] <;> rfl) | (simp [*, errW_none, errW_some] <;> rfl), by repeat (first | (with_reducible first | exact HB.out | apply below_alloc | apply pw_below_drewN | apply below_drew1) | exact HB.out)⟩
            ·as_aux_lemma =>
               rw [if_neg c88] at H
               have c88b0 : (t821 == t823) = false := by simpa using c88
               (try (have c88b1 : decide (t821 = t823) = false := by simpa using c88))
               (try (have c88b2 : (t821 == t823) = false := by simpa using c88))
               (try (have c88b3 : ¬ (t821 = t823) := by simpa using c88))
               clear c88
               first
               | exact absurd (show false = true from (Option.some.inj H).trans HR_.out) Bool.false_ne_true
               | obtain rfl := Option.some.inj H
                 go_wp2_with (first | ((with_reducible refine gateC (f := 34) rfl ?_); refine goesL_ (some 141) rfl rfl Try.func34 (by kernel_rfl) rfl #[.slice A1 l1.length c1] rfl zm ?_; (with_reducible refine (spec_DrawPlaceOf.calls kj7 _ _ l1 t815 t816 t817 _ ?side1 ?side2 A85.out).mono ?_); (case side1 => exact zq (Kd.C_below HR1.out HB.out)); (case side2 => exact HC1.out); rintro e w93 ⟨v818, rfl, ho0, hb⟩; refine ⟨_, rfl, ?_⟩; have n0_ := am (Kd.R_below (zr HO_5.out) hb); have n1_ := am (Kd.N_elder' (zN HO_6.out) (Kd.S_base ho0) hb); have n2_ := am (Kd.N_elder' (zN HO_7.out) (Kd.S_base ho0) hb); have n3_ := am (Kd.N_lower (Kd.N_mono (ok' := fun k_ => some k_ ≠ (.slice Ao10 t771.length co10 : Value).ownBlock ∧ some k_ ≠ (.slice Ao11 t772.length co11 : Value).ownBlock ∧ some k_ ≠ (v779 : Value).ownBlock) (Kd.S_N (Kd.S_bound ho0)) (fun k_ hk_ => ⟨(Kd.fresh' (Kd.R_lt (zr HO_5.out)) k_ hk_.2.1), (Kd.fresh' (Kd.N_lt (zN HO_6.out)) k_ hk_.2.1), (Kd.fresh' (Kd.N_lt (zN HO_7.out)) k_ hk_.2.1)⟩)) (below_size zb)); have n4_ := am (below_step zb hb); clear HO_5; clear HO_6; clear HO_7; clear HB; have HO_5 := n0_; have HO_6 := n1_; have HO_7 := n2_; have HO819 := n3_; have HB := n4_; clear n0_ n1_ n2_ n3_ n4_; (try clear hb); (try clear ho0); obtain ⟨Ao94, co94, eo94⟩ := Kd.N_slice HO819.out; subst eo94) | ((with_reducible refine gateC (f := 35) rfl ?_); refine goesL_ (some 149) rfl rfl Try.func35 (by kernel_rfl) rfl #[.slice Ao94 t815.length co94, .int .i64 t816, .int .i64 t817] rfl zm ?_; (with_reducible refine (impl_PlaceOf.calls kj7 _ _ t815 t816 t817 t820 t821 _ ?side1 ?side2 A86.out).mono ?_); (case side1 => repeat (first | exact (Kd.N_reads' HO819.out).2.2 | (with_reducible refine Kd.C_alloc ?_ _) | (with_reducible refine Kd.C_drewN ?_ _) | (with_reducible refine Kd.C_drew ?_))); (case side2 => exact (Kd.N_reads' HO819.out).2.1); rintro e w95 ⟨rfl, hb⟩; refine ⟨_, rfl, ?_⟩; have n0_ := am (Kd.R_below (zr HO_5.out) hb); have n1_ := am (Kd.N_below (zN HO_6.out) hb); have n2_ := am (Kd.N_below (zN HO_7.out) hb); have n3_ := am (Kd.N_below (zN HO819.out) hb); have n4_ := am (below_step zb hb); clear HO_5; clear HO_6; clear HO_7; clear HO819; clear HB; have HO_5 := n0_; have HO_6 := n1_; have HO_7 := n2_; have HO819 := n3_; have HB := n4_; clear n0_ n1_ n2_ n3_ n4_; (try clear hb)) | ((with_reducible refine gateC (f := 36) rfl ?_); refine goesL_ (some 156) rfl rfl Try.func36 (by kernel_rfl) rfl #[.slice Ao94 t815.length co94, .int .i64 t816, .int .i64 t817] rfl zm ?_; (with_reducible refine (spec_PlaceOf.calls kj7 _ _ t815 t816 t817 t822 t823 _ ?side1 ?side2 A87.out).mono ?_); (case side1 => repeat (first | exact (Kd.N_reads' HO819.out).2.2 | (with_reducible refine Kd.C_alloc ?_ _) | (with_reducible refine Kd.C_drewN ?_ _) | (with_reducible refine Kd.C_drew ?_))); (case side2 => exact (Kd.N_reads' HO819.out).2.1); rintro e w96 ⟨rfl, hb⟩; refine ⟨_, rfl, ?_⟩; have n0_ := am (Kd.R_below (zr HO_5.out) hb); have n1_ := am (Kd.N_below (zN HO_6.out) hb); have n2_ := am (Kd.N_below (zN HO_7.out) hb); have n3_ := am (Kd.N_below (zN HO819.out) hb); have n4_ := am (below_step zb hb); clear HO_5; clear HO_6; clear HO_7; clear HO819; clear HB; have HO_5 := n0_; have HO_6 := n1_; have HO_7 := n2_; have HO819 := n3_; have HB := n4_; clear n0_ n1_ n2_ n3_ n4_; (try clear hb)))
                 go_ret
                 exact ⟨by first | rfl | (simp [errW_none, errW_some] <;> rfl) | (simp [*, errW_none, errW_some] <;> rfl), by repeat (first | (with_reducible first | exact HB.out | apply below_alloc | apply pw_below_drewN | apply below_drew1) | exact HB.out)⟩
end Go.Proofs.Ytmcldkobejhaeaa.My
/- Written by this session's program (wip/gen): the law's pure statement. -/
namespace Go.Proofs.Ytmcldkobejhaeaa.My
open Go.RowKit Go.Proofs.YtmcldkobejhaeaaW.PrintWords Go.Proofs.YtmcldkobejhaeaaW.PrintLast Go.Proofs.YtmcldkobejhaeaaW.PrintMore
attribute [local go_sem] max2_int min2_int max_two min_two max_three min_three max_four min_four
set_option linter.unusedVariables false
set_option linter.unusedSimpArgs false
def laws_FnTrimmed.Pure : Prop := ∀ (l0 : List Int) (l1 : List Int), (WL Wu8) l0 → (WL Wu8) l1 → ∃ k, laws_FnTrimmed.f k l0 l1 = some true
end Go.Proofs.Ytmcldkobejhaeaa.My
/- Plain Lean, no program in sight: what holds from some number of rounds on, whole numbers that do not wrap, lists by an index. -/
namespace Go.Proofs.Ytmcldkobejhaeaa.Pl
open Go.RowKit Go.Proofs.YtmcldkobejhaeaaW.PrintWords Go.Proofs.YtmcldkobejhaeaaW.PrintLast
set_option linter.unusedVariables false
set_option linter.unusedSimpArgs false
section
variable {α β : Type}
theorem ev_pos {c : Prop} [Decidable c] {g g' : Nat → Option α} {r : α} (hc : c) (h : Ev g r) : Ev (fun k => if c then g k else g' k) r :=
  Ev.congr (fun _ => if_pos hc) h
theorem ev_neg {c : Prop} [Decidable c] {g g' : Nat → Option α} {r : α} (hc : ¬ c) (h : Ev g' r) : Ev (fun k => if c then g k else g' k) r :=
  Ev.congr (fun _ => if_neg hc) h
theorem ev_ite {c : Prop} [Decidable c] {g g' : Nat → Option α} {r : α} (h : c → Ev g r) (h' : ¬ c → Ev g' r) : Ev (fun k => if c then g k else g' k) r := by
  by_cases hc : c
  · exact ev_pos hc (h hc)
  · exact ev_neg hc (h' hc)
theorem ev_some {r r' : α} (h : r = r') : Ev (fun _ => some r) r' := h ▸ Ev.now r
theorem ev_const {o : Option α} {r : α} (h : o = some r) : Ev (fun _ => o) r := ⟨0, fun _ _ => h⟩
theorem ev_to {g : Nat → Option α} {r r' : α} (h : Ev g r) (e : r = r') : Ev g r' := e ▸ h
theorem ev_bind {g : Nat → Option α} {f : Nat → α → Option β} {a : α} {r : β} (h : Ev g a) (k : Ev (fun n => f n a) r) : Ev (fun n => (g n).bind fun t => f n t) r := Ev.bind h k
end
theorem wrap64_id {x : Int} (h : -9223372036854775808 ≤ x) (h' : x ≤ 9223372036854775807) : wrap64 x = x := by
  unfold wrap64
  omega
theorem wrap_succ (i : Nat) (h : i < 9223372036854775807) : wrap64 ((i : Int) + 1) = ((i + 1 : Nat) : Int) := by
  rw [wrap64_id (by omega) (by omega)]
  omega
theorem wrap_pred (n : Nat) (h0 : 0 < n) (h : n ≤ 9223372036854775807) : wrap64 ((n : Int) - 1) = ((n - 1 : Nat) : Int) := by
  rw [wrap64_id (by omega) (by omega)]
  omega
theorem wrap_sub (n m : Nat) (h0 : m ≤ n) (h : n ≤ 9223372036854775807) : wrap64 ((n : Int) - (m : Int)) = ((n - m : Nat) : Int) := by
  rw [wrap64_id (by omega) (by omega)]
  omega
theorem getD_lt {α : Type} (xs : List α) (d : α) (i : Nat) (h : i < xs.length) : xs.getD i d = xs[i] := by
  simp [List.getD_eq_getElem?_getD, List.getElem?_eq_getElem h]
theorem rdOf_lt {α : Type} (d : α) (xs : List α) (i : Nat) (h : i < xs.length) : rdOf d xs (i : Int) = xs[i] := getD_lt xs d i h
theorem ba_ext {a b : ByteArray} (h : a.toList = b.toList) : a = b := by
  rw [Lib.toList_data, Lib.toList_data] at h
  cases a with | mk a => cases b with | mk b =>
  cases a with | mk a => cases b with | mk b =>
  simp_all
theorem drop_cons {α : Type} (xs : List α) (i : Nat) (h : i < xs.length) : xs.drop i = xs[i] :: xs.drop (i + 1) := List.drop_eq_getElem_cons h
theorem bt_nat (s : ByteArray) (i : Nat) (h : i < s.size) : bt s (i : Int) = ((s.data.toList[i]'(by rw [data_length]; exact h)).toNat : Int) := by
  unfold bt
  rw [dif_pos (by simpa using h)]
  simp [ByteArray.getElem_eq_getElem_data]
theorem u8_eq {b c : UInt8} (h : (b.toNat : Int) = (c.toNat : Int)) : b = c := UInt8.toNat_inj.1 (by omega)
theorem u8_ne {b c : UInt8} (h : ¬ (b.toNat : Int) = (c.toNat : Int)) : ¬ c = b := fun e => h (by rw [e])
end Go.Proofs.Ytmcldkobejhaeaa.Pl
/- Plain Lean: the reader of choices: what it hands out is small. Asked: a reader that stands below 2^61. -/
namespace Go.Proofs.Ytmcldkobejhaeaa.Pl
open Go.RowKit Go.Proofs.YtmcldkobejhaeaaW.PrintWords Go.Proofs.YtmcldkobejhaeaaW.PrintLast Go.Proofs.Ytmcldkobejhaeaa.My
set_option linter.unusedVariables false
set_option linter.unusedSimpArgs false
def Bytes8 (c : List Int) : Prop := (c.length : Int) ≤ 9223372036854775807 ∧ ∀ x ∈ c, 0 ≤ x ∧ x ≤ 255
theorem u64_wrap_nat (x : Int) : ∃ n : Nat, IntKind.u64.wrap x = (n : Int) ∧ n < 18446744073709551616 := by
  have h : IntKind.u64.wrap x = x % 18446744073709551616 := rfl
  exact ⟨(IntKind.u64.wrap x).toNat, by rw [h]; omega, by rw [h]; omega⟩
theorem low_byte (x : Int) : 0 ≤ wrap64 (Go.bits .and .u64 (IntKind.u64.wrap x / 1099511627776) 255) ∧ wrap64 (Go.bits .and .u64 (IntKind.u64.wrap x / 1099511627776) 255) ≤ 255 := by
  obtain ⟨n, e, hn⟩ := u64_wrap_nat x
  have e2 : IntKind.u64.wrap x / 1099511627776 = ((n / 1099511627776 : Nat) : Int) := by rw [e]; omega
  rw [e2, show (255 : Int) = ((255 : Nat) : Int) from rfl, bits_and_u64_nat _ _ (by omega) (by decide)]
  have h3 : n / 1099511627776 &&& 255 = n / 1099511627776 % 256 := Nat.and_two_pow_sub_one_eq_mod (n := 8) _
  rw [h3, wrap64_id (by omega) (by omega)]
  omega
def At (B a : Int) : Prop := 0 ≤ a ∧ a ≤ B
theorem next_some (c : List Int) (hc : Bytes8 c) (a s : Int) (ha : At 2305843009213693952 a) : ∃ b s2, spec_l1Cur_next.f c a s = some (b, a + 1, s2) ∧ 0 ≤ b ∧ b ≤ 255 := by
  obtain ⟨h0, h1⟩ := ha
  unfold spec_l1Cur_next.f
  have e1 : wrap64 (a + 1) = a + 1 := wrap64_id (by omega) (by omega)
  rw [e1]
  by_cases h : a < (c.length : Int)
  · rw [if_pos h, if_pos h0, if_pos (by omega)]
    have hm : rd c a ∈ c := by
      have e2 : rd c a = c[a.toNat]'(by omega) := by
        have := getD_lt c 0 a.toNat (by omega)
        exact this
      rw [e2]
      exact List.getElem_mem _
    have hb := hc.2 _ hm
    rw [wrap64_id (x := rd c a) (by omega) (by omega)]
    exact ⟨_, _, rfl, hb.1, hb.2⟩
  · rw [if_neg h]
    by_cases h2 : a + 1 ≤ (c.length : Int)
    · rw [if_pos h2]
      exact ⟨_, _, rfl, by decide, by decide⟩
    · rw [if_neg h2]
      have := low_byte ((IntKind.u64.wrap ((IntKind.u64.wrap (s * 6364136223846793005)) + 0)) + 1442695040888963407)
      exact ⟨_, _, rfl, this.1, this.2⟩
theorem tmod_range (x n : Int) (hx : 0 ≤ x) (hn : 0 < n) : 0 ≤ Int.tmod x n ∧ Int.tmod x n < n := by
  rw [Int.tmod_eq_emod_of_nonneg hx]
  exact ⟨Int.emod_nonneg _ (by omega), Int.emod_lt_of_pos _ hn⟩
theorem pick_some (c : List Int) (hc : Bytes8 c) (a s n : Int) (ha : At 2305843009213693951 a) : ∃ v a2 s2, spec_l1Cur_pick.f c a s n = some (v, a2, s2) ∧ 0 ≤ v ∧ (v = 0 ∨ v < n) ∧ v ≤ 65535 ∧ a ≤ a2 ∧ a2 ≤ a + 2 := by
  obtain ⟨h0, h1⟩ := ha
  unfold spec_l1Cur_pick.f
  by_cases h : n ≤ 1
  · rw [if_pos h]
    exact ⟨0, a, s, rfl, by omega, .inl rfl, by omega, by omega, by omega⟩
  · rw [if_neg h]
    obtain ⟨b, s2, e, hb0, hb1⟩ := next_some c hc a s ⟨h0, by omega⟩
    rw [e]
    simp only [Option.bind_some]
    by_cases h2 : n > 200
    · obtain ⟨b2, s3, e2, hc0, hc1⟩ := next_some c hc (a + 1) s2 ⟨by omega, by omega⟩
      rw [if_pos h2, e2]
      simp only [Option.bind_some]
      rw [if_neg (by omega), wrap64_id (x := b * 256) (by omega) (by omega), wrap64_id (by omega) (by omega)]
      have ht := tmod_range (b * 256 + b2) n (by omega) (by omega)
      refine ⟨_, _, _, rfl, ht.1, .inr ht.2, ?_, by omega, by omega⟩
      rw [Int.tmod_eq_emod_of_nonneg (by omega)]
      have h5 : (b * 256 + b2) % n ≤ b * 256 + b2 := by
        have h6 := Int.mul_ediv_add_emod (b * 256 + b2) n
        have h7 : 0 ≤ (b * 256 + b2) / n := Int.ediv_nonneg (by omega) (by omega)
        have h8 : 0 ≤ n * ((b * 256 + b2) / n) := Int.mul_nonneg (by omega) h7
        omega
      omega
    · rw [if_neg h2, if_neg (by omega)]
      have ht := tmod_range b n hb0 (by omega)
      exact ⟨_, _, _, rfl, ht.1, .inr ht.2, by omega, by omega, by omega⟩
end Go.Proofs.Ytmcldkobejhaeaa.Pl
/- Plain Lean: the reader of choices: yes or no, and one of a list of texts. Asked: a reader that stands below 2^61. -/
namespace Go.Proofs.Ytmcldkobejhaeaa.Pl
open Go.RowKit Go.Proofs.YtmcldkobejhaeaaW.PrintWords Go.Proofs.YtmcldkobejhaeaaW.PrintLast Go.Proofs.Ytmcldkobejhaeaa.My
set_option linter.unusedVariables false
theorem one_some (c : List Int) (hc : Bytes8 c) (a s n : Int) (ha : At 2305843009213693951 a) : ∃ v a2 s2, spec_l1Cur_one.f c a s n = some (v, a2, s2) ∧ a ≤ a2 ∧ a2 ≤ a + 2 := by
  unfold spec_l1Cur_one.f
  obtain ⟨v, a2, s2, e, h⟩ := pick_some c hc a s n ha
  rw [e]
  exact ⟨_, _, _, rfl, h.2.2.2.1, h.2.2.2.2⟩
theorem of_some (c : List Int) (hc : Bytes8 c) (a s : Int) (ha : At 2305843009213693951 a) (l : List ByteArray) (hl : 0 < l.length) : ∃ v a2 s2, spec_l1Cur_of.f c a s l = some (v, a2, s2) ∧ v ∈ l ∧ a ≤ a2 ∧ a2 ≤ a + 2 := by
  unfold spec_l1Cur_of.f
  obtain ⟨v, a2, s2, e, h⟩ := pick_some c hc a s (l.length : Int) ha
  rw [e]
  simp only [Option.bind_some]
  have hv : v < (l.length : Int) := by rcases h.2.1 with h | h <;> omega
  rw [if_pos h.1, if_pos hv]
  refine ⟨_, _, _, rfl, ?_, h.2.2.2.1, h.2.2.2.2⟩
  have e2 : rdOf ByteArray.empty l v = l[v.toNat]'(by omega) := getD_lt l _ v.toNat (by omega)
  rw [e2]
  exact List.getElem_mem _
end Go.Proofs.Ytmcldkobejhaeaa.Pl
/- Plain Lean: the reader of choices: lines and texts. Asked: a reader that stands below 10^15. -/
namespace Go.Proofs.Ytmcldkobejhaeaa.Pl
open Go.RowKit Go.Proofs.YtmcldkobejhaeaaW.PrintWords Go.Proofs.YtmcldkobejhaeaaW.PrintLast Go.Proofs.Ytmcldkobejhaeaa.My
set_option linter.unusedVariables false
set_option linter.unusedSimpArgs false
theorem at_of {a : Int} (h0 : 0 ≤ a) (h1 : a ≤ 1000000000001000) : At 2305843009213693951 a := ⟨h0, by omega⟩
theorem line_some (c : List Int) (hc : Bytes8 c) (a s : Int) (h0 : 0 ≤ a) (h1 : a ≤ 1000000000001000) : ∃ v a2 s2, spec_l1Cur_line.f c a s = some (v, a2, s2) ∧ v.size ≤ 7 ∧ a ≤ a2 ∧ a2 ≤ a + 2 := by
  unfold spec_l1Cur_line.f
  obtain ⟨v, a2, s2, e, hv, h⟩ := of_some c hc a s (at_of h0 h1) [(⟨#[97]⟩ : ByteArray), (⟨#[98]⟩ : ByteArray), (⟨#[99]⟩ : ByteArray), (⟨#[100]⟩ : ByteArray), (⟨#[]⟩ : ByteArray), (⟨#[46]⟩ : ByteArray), (⟨#[46, 46]⟩ : ByteArray), (⟨#[111, 110, 101, 32, 116, 119, 111]⟩ : ByteArray), (⟨#[43, 120]⟩ : ByteArray), (⟨#[45, 121]⟩ : ByteArray), (⟨#[92, 32, 122]⟩ : ByteArray), (⟨#[64, 64]⟩ : ByteArray)] (by simp)
  rw [e]
  refine ⟨v, a2, s2, rfl, ?_, h⟩
  simp only [List.mem_cons, List.not_mem_nil, or_false] at hv
  rcases hv with rfl | rfl | rfl | rfl | rfl | rfl | rfl | rfl | rfl | rfl | rfl | rfl <;> decide
def Sm1 (l : List ByteArray) : Prop := ∀ s ∈ l, 1 ≤ s.size ∧ s.size ≤ 8
def SmT (l : List ByteArray) : Prop := l.length ≤ 9 ∧ (∀ s ∈ l, s.size ≤ 8) ∧ ∀ x, l.getLast? = some x → 1 ≤ x.size
theorem sm1_snoc {l : List ByteArray} {x : ByteArray} (h : Sm1 l) (h1 : 1 ≤ x.size) (h2 : x.size ≤ 8) : Sm1 (l ++ [x]) := by
  intro s hs
  rcases List.mem_append.1 hs with hs | hs
  · exact h s hs
  · rw [List.mem_singleton.1 hs]; exact ⟨h1, h2⟩
theorem nl_size (v : ByteArray) (h : v.size ≤ 7) : 1 ≤ (v ++ (⟨#[10]⟩ : ByteArray)).size ∧ (v ++ (⟨#[10]⟩ : ByteArray)).size ≤ 8 := by
  rw [ByteArray.size_append, show (⟨#[10]⟩ : ByteArray).size = 1 from rfl]
  omega
theorem text_l0 (c : List Int) (hc : Bytes8 c) : ∀ (n : Nat) (acc : List ByteArray) (a s : Int), 0 ≤ a → a + 2 * n ≤ 1000000000000500 → acc.length + n ≤ 8 → Sm1 acc → ∃ r a2 s2, Ev (fun k => spec_l1Cur_text.l0 k acc (n : Int) c a s) (r, a2, s2) ∧ r.length ≤ 9 ∧ Sm1 r ∧ a ≤ a2 ∧ a2 ≤ a + 2 * n + 4 := by
  intro n
  induction n with
  | zero =>
    intro acc a s h0 h1 hl hs
    obtain ⟨v, a2, s2, e, h2⟩ := one_some c hc a s 5 (at_of h0 (by omega))
    cases v with
    | true =>
      obtain ⟨w, a3, s3, e2, hw, h3⟩ := of_some c hc a2 s2 (at_of (by omega) (by omega)) [(⟨#[97]⟩ : ByteArray), (⟨#[101, 110, 100]⟩ : ByteArray), (⟨#[46]⟩ : ByteArray)] (by simp)
      refine ⟨acc ++ [w], a3, s3, Ev.step (fun k => spec_l1Cur_text.l0.eq_2 ..) (ev_neg (by omega) ?_), by rw [List.length_append, List.length_singleton]; omega, ?_, by omega, by omega⟩
      · refine ev_bind (ev_const e) (ev_pos rfl (ev_bind (ev_const e2) (ev_pos (by omega) (ev_some rfl))))
      · simp only [List.mem_cons, List.not_mem_nil, or_false] at hw
        rcases hw with rfl | rfl | rfl <;> exact sm1_snoc hs (by decide) (by decide)
    | false =>
      refine ⟨acc, a2, s2, Ev.step (fun k => spec_l1Cur_text.l0.eq_2 ..) (ev_neg (by omega) ?_), by omega, hs, by omega, by omega⟩
      exact ev_bind (ev_const e) (ev_neg (by simp) (ev_some rfl))
  | succ n ih =>
    intro acc a s h0 h1 hl hs
    obtain ⟨v, a2, s2, e, h2⟩ := line_some c hc a s h0 (by omega)
    have hz := nl_size v h2.1
    obtain ⟨r, a3, s3, e3, h3⟩ := ih (acc ++ [v ++ (⟨#[10]⟩ : ByteArray)]) a2 s2 (by omega) (by omega) (by rw [List.length_append, List.length_singleton]; omega) (sm1_snoc hs hz.1 hz.2)
    refine ⟨r, a3, s3, Ev.step (fun k => spec_l1Cur_text.l0.eq_2 ..) (ev_pos (by omega) ?_), h3.1, h3.2.1, by omega, by omega⟩
    refine ev_bind (ev_const e) (ev_pos (by dsimp only; omega) (ev_pos (by omega) ?_))
    rw [wrap64_id (x := ((n + 1 : Nat) : Int) - 1) (by omega) (by omega), show ((n + 1 : Nat) : Int) - 1 = (n : Int) from by omega]
    exact e3
theorem text_some (c : List Int) (hc : Bytes8 c) (a s : Int) (h0 : 0 ≤ a) (h1 : a ≤ 1000000000000400) : ∃ r a2 s2, Ev (fun k => spec_l1Cur_text.f k c a s) (r, a2, s2) ∧ r.length ≤ 9 ∧ Sm1 r ∧ a ≤ a2 ∧ a2 ≤ a + 22 := by
  simp only [spec_l1Cur_text.f]
  obtain ⟨v, a2, s2, e, h2⟩ := pick_some c hc a s 9 (at_of h0 (by omega))
  have hv : v = ((v.toNat : Nat) : Int) := by omega
  have hn : v.toNat ≤ 8 := by rcases h2.2.1 with h | h <;> omega
  obtain ⟨r, a3, s3, e3, h3⟩ := text_l0 c hc v.toNat [] a2 s2 (by omega) (by omega) (by simpa using hn) (fun s hs => by cases hs)
  rw [← hv] at e3
  exact ⟨r, a3, s3, ev_bind (ev_const e) e3, h3.1, h3.2.1, by omega, by omega⟩
theorem smT_of {l : List ByteArray} (hl : l.length ≤ 9) (h : Sm1 l) : SmT l :=
  ⟨hl, fun s hs => (h s hs).2, fun x hx => (h x (List.mem_of_getLast? hx)).1⟩
theorem smT_set {l : List ByteArray} (hl : 1 < l.length) (h : SmT l) (v : ByteArray) (hv : v.size ≤ 8) : SmT (l.set 0 v) := by
  refine ⟨by rw [List.length_set]; exact h.1, fun s hs => ?_, fun x hx => h.2.2 x ?_⟩
  · rcases List.mem_or_eq_of_mem_set hs with hs | rfl
    · exact h.2.1 s hs
    · exact hv
  · rw [List.getLast?_eq_getElem?, List.length_set, List.getElem?_set_ne (by omega)] at hx
    rw [List.getLast?_eq_getElem?]
    exact hx
theorem anyText_some (c : List Int) (hc : Bytes8 c) (a s : Int) (h0 : 0 ≤ a) (h1 : a ≤ 1000000000000300) : ∃ r a2 s2, Ev (fun k => spec_l1Cur_anyText.f k c a s) (r, a2, s2) ∧ SmT r ∧ a ≤ a2 ∧ a2 ≤ a + 24 := by
  simp only [spec_l1Cur_anyText.f]
  obtain ⟨l, a2, s2, e, h2⟩ := text_some c hc a s h0 (by omega)
  have hT := smT_of h2.1 h2.2.1
  by_cases hl : (l.length : Int) > 1
  · obtain ⟨v, a3, s3, e3, h3⟩ := pick_some c hc a2 s2 25 (at_of (by omega) (by omega))
    have st : ∀ (w : ByteArray), w.size ≤ 8 → SmT (l.set (0 : Int).toNat w) := fun w hw => smT_set (by omega) hT w hw
    by_cases c0 : v = 0
    · exact ⟨_, a3, s3, ev_bind e (ev_pos hl (ev_bind (ev_const e3) (ev_pos c0 (ev_pos (by dsimp only; omega) (ev_some rfl))))), st _ (by decide), by omega, by omega⟩
    · by_cases c1 : v = 1
      · exact ⟨_, a3, s3, ev_bind e (ev_pos hl (ev_bind (ev_const e3) (ev_neg c0 (ev_pos c1 (ev_pos (by dsimp only; omega) (ev_some rfl)))))), st _ (by decide), by omega, by omega⟩
      · by_cases c2 : v = 2
        · exact ⟨_, a3, s3, ev_bind e (ev_pos hl (ev_bind (ev_const e3) (ev_neg c0 (ev_neg c1 (ev_pos c2 (ev_pos (by dsimp only; omega) (ev_some rfl))))))), st _ (by decide), by omega, by omega⟩
        · exact ⟨_, a3, s3, ev_bind e (ev_pos hl (ev_bind (ev_const e3) (ev_neg c0 (ev_neg c1 (ev_neg c2 (ev_some rfl)))))), hT, by omega, by omega⟩
  · exact ⟨l, a2, s2, ev_bind e (ev_neg hl (ev_some rfl)), hT, by omega, by omega⟩
end Go.Proofs.Ytmcldkobejhaeaa.Pl
/- Plain Lean: the reader of choices: one of a list of numbers. Asked: a reader that stands below 2^61. -/
namespace Go.Proofs.Ytmcldkobejhaeaa.Pl
open Go.RowKit Go.Proofs.YtmcldkobejhaeaaW.PrintWords Go.Proofs.YtmcldkobejhaeaaW.PrintLast Go.Proofs.Ytmcldkobejhaeaa.My
set_option linter.unusedVariables false
theorem among_some (c : List Int) (hc : Bytes8 c) (a s : Int) (ha : At 2305843009213693951 a) (l : List Int) (hl : 0 < l.length) : ∃ v a2 s2, spec_l1Cur_among.f c a s l = some (v, a2, s2) ∧ v ∈ l ∧ a ≤ a2 ∧ a2 ≤ a + 2 := by
  unfold spec_l1Cur_among.f
  obtain ⟨v, a2, s2, e, h⟩ := pick_some c hc a s (l.length : Int) ha
  rw [e]
  simp only [Option.bind_some]
  have hv : v < (l.length : Int) := by rcases h.2.1 with h | h <;> omega
  rw [if_pos h.1, if_pos hv]
  refine ⟨_, _, _, rfl, ?_, h.2.2.2.1, h.2.2.2.2⟩
  have e2 : rd l v = l[v.toNat]'(by omega) := getD_lt l 0 v.toNat (by omega)
  rw [e2]
  exact List.getElem_mem _
end Go.Proofs.Ytmcldkobejhaeaa.Pl
/- Plain Lean: whether a number lies between two. No condition. -/
namespace Go.Proofs.Ytmcldkobejhaeaa.Pl
open Go.RowKit Go.Proofs.YtmcldkobejhaeaaW.PrintWords Go.Proofs.YtmcldkobejhaeaaW.PrintLast Go.Proofs.Ytmcldkobejhaeaa.My
set_option linter.unusedVariables false
set_option linter.unusedSimpArgs false
def inB (n lo hi : Int) : Bool := decide (lo ≤ n) && decide (n ≤ hi)
theorem inB_iff (a b c : Int) : inB a b c = true ↔ b ≤ a ∧ a ≤ c := by
  unfold inB
  rw [Bool.and_eq_true, decide_eq_true_eq, decide_eq_true_eq]
theorem impl_in_eq (a b c : Int) : impl_in.f a b c = some (inB a b c) := by
  unfold impl_in.f inB
  by_cases h : b ≤ a
  · rw [if_pos h]; simp [h]
  · rw [if_neg (by omega)]; simp [h]
theorem spec_l1In_eq (a b c : Int) : spec_l1In.f a b c = some (inB a b c) := by
  unfold spec_l1In.f inB
  by_cases h : b ≤ a
  · rw [if_pos h]; simp [h]
  · rw [if_neg (by omega)]; simp [h]
end Go.Proofs.Ytmcldkobejhaeaa.Pl
/- Plain Lean: texts that fit. No condition. -/
namespace Go.Proofs.Ytmcldkobejhaeaa.Pl
open Go.RowKit Go.Proofs.YtmcldkobejhaeaaW.PrintWords Go.Proofs.YtmcldkobejhaeaaW.PrintLast
set_option linter.unusedVariables false
set_option linter.unusedSimpArgs false
def FitS (l : List ByteArray) : Prop := l.length ≤ 9223372036854775807 ∧ ∀ s ∈ l, s.size ≤ 9223372036854775807
end Go.Proofs.Ytmcldkobejhaeaa.Pl
/- Plain Lean: chapter 1: what a line and good lines are, for the program and the reference. Conditions: lengths and sizes below 2^63. -/
namespace Go.Proofs.Ytmcldkobejhaeaa.Pl
open Go.RowKit Go.Proofs.YtmcldkobejhaeaaW.PrintWords Go.Proofs.YtmcldkobejhaeaaW.PrintLast Go.Proofs.Ytmcldkobejhaeaa.My
set_option linter.unusedVariables false
set_option linter.unusedSimpArgs false
def isLn (s : ByteArray) : Bool := !(s.data.toList.dropLast.contains 10) && inB s.size 1 30
def ends (s : ByteArray) : Bool := s.data.toList.getLast? == some 10
def good (l : List ByteArray) : Bool := decide (l.length ≤ 40) && (l.all isLn && l.dropLast.all ends)
theorem toList_one (c : UInt8) : (⟨#[c]⟩ : ByteArray).toList = [c] := by rw [Lib.toList_data]
theorem size_one (c : UInt8) : (⟨#[c]⟩ : ByteArray).size = 1 := rfl
theorem bt_one (c : UInt8) : bt ⟨#[c]⟩ 0 = (c.toNat : Int) := rfl
theorem index_ev (s : ByteArray) (c : UInt8) : Ev (fun k => strings_Index.f k s ⟨#[c]⟩) (Lib.indexByte s.data.toList c) := by
  have hj : ∀ b : Bool, (b = true → Lib.indexByte s.data.toList c = 0) → Ev (fun k => stringslite_Index.j0 k s ⟨#[c]⟩ 1 b) (Lib.indexByte s.data.toList c) := by
    intro b hb
    refine Ev.step (fun k => stringslite_Index.j0.eq_2 ..) ?_
    refine ev_ite (fun h => ev_some (hb h).symm) (fun _ => ?_)
    refine ev_pos rfl (ev_pos (by rw [size_one]; decide) ?_)
    refine ev_const ?_
    rw [bt_one]
    simp [stringslite_IndexByte.f]
  have h2 : Ev (fun k => stringslite_Index.f k s ⟨#[c]⟩) (Lib.indexByte s.data.toList c) := by
    simp only [stringslite_Index.f]
    refine ev_neg (by rw [size_one]; decide) ?_
    refine hj _ (fun h => ?_)
    have e : s.data.toList = [c] := by
      have := beq_iff_eq.1 h
      rw [toList_one, Lib.toList_data] at this
      exact this.symm
    rw [e]
    simp [Lib.indexByte]
  simp only [strings_Index.f]
  exact ev_bind h2 (ev_some rfl)
theorem indexByte_nonneg (l : List UInt8) (c : UInt8) : decide (Lib.indexByte l c ≥ 0) = l.contains c := by
  induction l with
  | nil => simp [Lib.indexByte]
  | cons b l ih =>
    have hge := Lib.indexByte_ge l c
    unfold Lib.indexByte
    by_cases h : (b == c) = true
    · have : b = c := beq_iff_eq.1 h
      simp [this]
    · have hb : (b == c) = false := by simpa using h
      have hne : ¬ c = b := fun e => h (by simp [e])
      rw [List.contains_cons, ← ih]
      simp only [hb]
      by_cases h2 : Lib.indexByte l c = -1
      · simp [h2, hne]
      · have h3 : (Lib.indexByte l c == -1) = false := by simpa using h2
        simp only [h3]
        have : Lib.indexByte l c ≥ 0 := by omega
        simp [hne, this]
        omega
theorem contains_ev (s : ByteArray) (c : UInt8) : Ev (fun k => strings_Contains.f k s ⟨#[c]⟩) (s.data.toList.contains c) := by
  simp only [strings_Contains.f]
  exact ev_bind (index_ev s c) (ev_some (indexByte_nonneg _ _))
theorem extract_data (s : ByteArray) (a b : Nat) : (s.extract a b).data.toList = (s.data.toList.take b).drop a := by
  rw [ByteArray.data_extract, Array.toList_extract, List.extract_eq_take_drop, ← List.drop_take]
theorem isLine_ev (s : ByteArray) (hs : s.size ≤ 9223372036854775807) : Ev (fun k => impl_isLine.f k s) (isLn s) := by
  simp only [impl_isLine.f, impl_in_eq, Option.bind_some]
  refine ev_ite (fun h => ?_) (fun h => ev_some (by unfold isLn; simp at h; simp [h]))
  have h1 : 1 ≤ s.size ∧ s.size ≤ 30 := by
    simp [inB] at h
    omega
  rw [wrap_pred s.size (by omega) hs]
  refine ev_pos (by omega) (ev_pos (by omega) ?_)
  refine ev_bind (contains_ev _ 10) (ev_some ?_)
  rw [Int.toNat_natCast, extract_data, List.drop_zero, ← data_length, ← List.dropLast_eq_take]
  unfold isLn
  rw [h]
  simp
theorem l1Line_l0 (s : ByteArray) (hs : s.size ≤ 9223372036854775807) : ∀ d i, i + d = s.size - 1 → Ev (fun k => spec_l1Line.l0 k s (i : Int)) (!((s.data.toList.dropLast.drop i).contains 10) && inB s.size 1 30) := by
  intro d
  have hl : s.data.toList.length = s.size := data_length s
  induction d with
  | zero =>
    intro i hi
    refine Ev.step (fun k => spec_l1Line.l0.eq_2 ..) ?_
    refine ev_neg (by rw [wrap64_id (by omega) (by omega)]; omega) ?_
    refine ev_const ?_
    rw [spec_l1In_eq, List.drop_of_length_le (by rw [List.length_dropLast]; omega)]
    rfl
  | succ d ih =>
    intro i hi
    refine Ev.step (fun k => spec_l1Line.l0.eq_2 ..) ?_
    refine ev_pos (by rw [wrap64_id (by omega) (by omega)]; omega) (ev_pos (by omega) (ev_pos (by omega) ?_))
    have hd : s.data.toList.dropLast.drop i = s.data.toList[i] :: s.data.toList.dropLast.drop (i + 1) := by
      rw [List.drop_eq_getElem_cons (by rw [List.length_dropLast]; omega), List.getElem_dropLast]
    rw [hd, List.contains_cons, bt_nat s i (by omega)]
    refine ev_ite (fun h => ev_some ?_) (fun h => ?_)
    · have : s.data.toList[i] = 10 := u8_eq h
      rw [this]
      simp
    · rw [wrap_succ i (by omega)]
      refine ev_to (ih (i + 1) (by omega)) ?_
      have : ((10 : UInt8) == s.data.toList[i]) = false := by
        rw [beq_eq_false_iff_ne]
        exact u8_ne h
      rw [this, Bool.false_or]
theorem l1Line_ev (s : ByteArray) (hs : s.size ≤ 9223372036854775807) : Ev (fun k => spec_l1Line.f k s) (isLn s) := by
  simp only [spec_l1Line.f]
  exact l1Line_l0 s hs (s.size - 1) 0 (by omega)
theorem isLn_size {s : ByteArray} (h : isLn s = true) : 1 ≤ s.size ∧ s.size ≤ 30 := by
  simp [isLn, inB] at h
  omega
theorem ends_last {s : ByteArray} (h : 1 ≤ s.size) : ends s = (bt s ((s.size - 1 : Nat) : Int) == 10) := by
  have hl : s.data.toList.length = s.size := data_length s
  have hq : s.data.toList.getLast? = some (s.data.toList[s.size - 1]'(by omega)) := by
    rw [List.getLast?_eq_getElem?, List.getElem?_eq_getElem (by omega)]
    simp only [hl]
  unfold ends
  rw [bt_nat s _ (by omega), hq]
  rw [Bool.eq_iff_iff]
  simp only [beq_iff_eq, Option.some.injEq]
  constructor
  · intro e; rw [e]; rfl
  · intro e; exact u8_eq e
theorem l1Ends_eq (s : ByteArray) (h : 1 ≤ s.size) (hs : s.size ≤ 9223372036854775807) : spec_l1Ends.f s = some (ends s) := by
  unfold spec_l1Ends.f
  rw [wrap_pred s.size (by omega) hs, if_pos (by omega), if_pos (by omega), ends_last h]
theorem hasSuffix_eq (s : ByteArray) (c : UInt8) (hs : s.size ≤ 9223372036854775807) : strings_HasSuffix.f s ⟨#[c]⟩ = some (s.data.toList.getLast? == some c) := by
  have hl : s.data.toList.length = s.size := data_length s
  unfold strings_HasSuffix.f stringslite_HasSuffix.f
  rw [size_one]
  by_cases h : 1 ≤ s.size
  · rw [if_pos (by omega), show ((1 : Nat) : Int) = 1 from rfl, wrap_pred s.size (by omega) hs, if_pos (by omega), if_pos (by omega), Option.bind_some, toList_one, Lib.toList_data, Int.toNat_natCast, extract_data, ← hl, List.take_length]
    have e : s.data.toList.drop (s.data.toList.length - 1) = [s.data.toList[s.data.toList.length - 1]'(by omega)] := by
      rw [List.drop_eq_getElem_cons (by omega), List.drop_of_length_le (by omega)]
    rw [e, List.getLast?_eq_getElem?, List.getElem?_eq_getElem (by omega)]
    congr 1
    rw [Bool.eq_iff_iff]
    simp
  · rw [if_neg (by omega), Option.bind_some]
    have : s.data.toList = [] := List.eq_nil_of_length_eq_zero (by omega)
    simp [this]
theorem isEnded_eq (s : ByteArray) (hs : s.size ≤ 9223372036854775807) : impl_isEnded.f s = some (ends s) := by
  unfold impl_isEnded.f
  rw [hasSuffix_eq s 10 hs]
  rfl
theorem areLines_l0 (l : List ByteArray) (hf : FitS l) : ∀ d i, i + d = l.length → ∃ j : Int, Ev (fun k => slices_IndexFunc_string_string__impl_areLines_1.l0 k l (l.length : Int) (i : Int)) j ∧ decide (j ≥ 0) = !((l.drop i).all isLn) := by
  intro d
  induction d with
  | zero =>
    intro i hi
    refine ⟨-1, Ev.step (fun k => slices_IndexFunc_string_string__impl_areLines_1.l0.eq_2 ..) (ev_neg (by omega) (ev_some rfl)), ?_⟩
    rw [List.drop_of_length_le (by omega)]
    rfl
  | succ d ih =>
    intro i hi
    have hlt : i < l.length := by omega
    have hev : Ev (fun k => impl_areLines_1.f k (rdOf ByteArray.empty l (i : Int))) (!isLn l[i]) := by
      rw [rdOf_lt _ _ _ hlt]
      simp only [impl_areLines_1.f]
      exact ev_bind (isLine_ev _ (hf.2 _ (List.getElem_mem _))) (ev_some rfl)
    obtain ⟨j, hj, hjj⟩ := ih (i + 1) (by omega)
    rw [drop_cons l i hlt, List.all_cons]
    by_cases h : isLn l[i] = true
    · refine ⟨j, Ev.step (fun k => slices_IndexFunc_string_string__impl_areLines_1.l0.eq_2 ..) (ev_pos (by omega) (ev_pos (by omega) (ev_pos (by omega) (ev_bind hev (ev_neg (by simp [h]) ?_))))), by rw [hjj, h]; simp⟩
      rw [wrap_succ i (by have := hf.1; omega)]
      exact hj
    · refine ⟨(i : Int), Ev.step (fun k => slices_IndexFunc_string_string__impl_areLines_1.l0.eq_2 ..) (ev_pos (by omega) (ev_pos (by omega) (ev_pos (by omega) (ev_bind hev (ev_pos (by simp [h]) (ev_some rfl)))))), ?_⟩
      simp [h]
theorem areLines_ev (l : List ByteArray) (hf : FitS l) : Ev (fun k => impl_areLines.f k l) (decide (l.length ≤ 40) && l.all isLn) := by
  simp only [impl_areLines.f]
  refine ev_ite (fun h => ?_) (fun h => ev_some ?_)
  · obtain ⟨j, hj, hjj⟩ := areLines_l0 l hf l.length 0 (by omega)
    simp only [slices_ContainsFunc_string_string__impl_areLines_1.f, slices_IndexFunc_string_string__impl_areLines_1.f]
    refine ev_bind (ev_bind hj (ev_some rfl)) (ev_some ?_)
    have : l.length ≤ 40 := by omega
    rw [hjj]
    simp [this]
  · have : ¬ l.length ≤ 40 := by omega
    simp [this]
theorem goodLines_l0 (l : List ByteArray) (hf : FitS l) : ∀ d i, i + d = l.length → Ev (fun k => impl_goodLines.l0 k l l (l.length : Int) (i : Int)) ((l.dropLast.drop i).all ends) := by
  intro d
  have hL := hf.1
  induction d with
  | zero =>
    intro i hi
    refine Ev.step (fun k => impl_goodLines.l0.eq_2 ..) (ev_neg (by omega) (ev_some ?_))
    rw [List.drop_of_length_le (by rw [List.length_dropLast]; omega)]
    rfl
  | succ d ih =>
    intro i hi
    have hlt : i < l.length := by omega
    refine Ev.step (fun k => impl_goodLines.l0.eq_2 ..) (ev_pos (by omega) (ev_pos (by omega) (ev_pos (by omega) ?_)))
    rw [wrap_pred l.length (by omega) hL, rdOf_lt _ _ _ hlt, isEnded_eq _ (hf.2 _ (List.getElem_mem _)), wrap_succ i (by omega)]
    simp only [Option.bind_some]
    refine ev_ite (fun h => ?_) (fun h => ?_)
    · have hd : l.dropLast.drop i = l[i] :: l.dropLast.drop (i + 1) := by
        rw [List.drop_eq_getElem_cons (by rw [List.length_dropLast]; omega), List.getElem_dropLast]
      rw [hd, List.all_cons]
      refine ev_ite (fun h => ?_) (fun h => ev_some (by simp [h]))
      rw [h, Bool.true_and]
      exact ih (i + 1) (by omega)
    · have e1 : l.dropLast.drop i = [] := List.drop_of_length_le (by rw [List.length_dropLast]; omega)
      have e2 : l.dropLast.drop (i + 1) = [] := List.drop_of_length_le (by rw [List.length_dropLast]; omega)
      have := ih (i + 1) (by omega)
      rw [e2] at this
      rw [e1]
      exact this
theorem goodLines_ev (l : List ByteArray) (hf : FitS l) : Ev (fun k => impl_goodLines.f k l) (good l) := by
  simp only [impl_goodLines.f]
  refine ev_bind (areLines_ev l hf) (ev_ite (fun h => ?_) (fun h => ev_some ?_))
  · refine ev_to (goodLines_l0 l hf l.length 0 (by omega)) ?_
    rw [List.drop_zero]
    unfold good
    rw [← Bool.and_assoc, h, Bool.true_and]
  · unfold good
    rw [← Bool.and_assoc]
    simp at h
    simp
    intro h1 h2
    exact absurd (h h1) (by simpa using h2)
theorem l1Good_l0 (l : List ByteArray) (hf : FitS l) : ∀ d i, i + d = l.length → Ev (fun k => spec_l1Good.l0 k l l (l.length : Int) (i : Int)) ((l.drop i).all isLn && (l.dropLast.drop i).all ends && decide (l.length ≤ 40)) := by
  intro d
  have hL := hf.1
  induction d with
  | zero =>
    intro i hi
    refine Ev.step (fun k => spec_l1Good.l0.eq_2 ..) (ev_neg (by omega) (ev_some ?_))
    rw [List.drop_of_length_le (by omega), List.drop_of_length_le (by rw [List.length_dropLast]; omega)]
    simp
    omega
  | succ d ih =>
    intro i hi
    have hlt : i < l.length := by omega
    refine Ev.step (fun k => spec_l1Good.l0.eq_2 ..) (ev_pos (by omega) (ev_pos (by omega) (ev_pos (by omega) ?_)))
    simp only [rdOf_lt _ _ _ hlt]
    rw [wrap_pred l.length (by omega) hL, wrap_succ i (by omega), drop_cons l i hlt, List.all_cons]
    refine ev_bind (l1Line_ev _ (hf.2 _ (List.getElem_mem _))) (ev_ite (fun h => ?_) (fun h => ev_some (by simp [h])))
    rw [h, Bool.true_and, l1Ends_eq _ (isLn_size h).1 (hf.2 _ (List.getElem_mem _))]
    simp only [Option.bind_some]
    refine ev_ite (fun h => ?_) (fun h => ?_)
    · have hd : l.dropLast.drop i = l[i] :: l.dropLast.drop (i + 1) := by
        rw [List.drop_eq_getElem_cons (by rw [List.length_dropLast]; omega), List.getElem_dropLast]
      rw [hd, List.all_cons]
      refine ev_ite (fun h => ?_) (fun h => ev_some (by simp [h]))
      rw [h, Bool.true_and]
      exact ih (i + 1) (by omega)
    · have e1 : l.dropLast.drop i = [] := List.drop_of_length_le (by rw [List.length_dropLast]; omega)
      have e2 : l.dropLast.drop (i + 1) = [] := List.drop_of_length_le (by rw [List.length_dropLast]; omega)
      have := ih (i + 1) (by omega)
      rw [e2] at this
      rw [e1]
      exact this
theorem l1Good_ev (l : List ByteArray) (hf : FitS l) : Ev (fun k => spec_l1Good.f k l) (good l) := by
  simp only [spec_l1Good.f]
  refine ev_to (l1Good_l0 l hf l.length 0 (by omega)) ?_
  rw [List.drop_zero, List.drop_zero]
  unfold good
  rw [Bool.and_comm]
end Go.Proofs.Ytmcldkobejhaeaa.Pl
/- Plain Lean: hunks that fit. No condition. -/
namespace Go.Proofs.Ytmcldkobejhaeaa.Pl
open Go.RowKit Go.Proofs.YtmcldkobejhaeaaW.PrintWords Go.Proofs.YtmcldkobejhaeaaW.PrintLast Go.Proofs.Ytmcldkobejhaeaa.My
set_option linter.unusedVariables false
set_option linter.unusedSimpArgs false
abbrev IH := S106
theorem rdIH (l : List IH) (i : Nat) (h : i < l.length) : rd_T106 l (i : Int) = l[i] := getD_lt l _ i h
theorem ih_ext {x y : IH} (h0 : x.f0 = y.f0) (h1 : x.f1 = y.f1) (h2 : x.f2 = y.f2) : x = y := by
  cases x; cases y; simp_all
def FitI (l : List IH) : Prop := l.length ≤ 9223372036854775807 ∧ ∀ x ∈ l, (-9223372036854775808 ≤ x.f0 ∧ x.f0 ≤ 9223372036854775807) ∧ (-9223372036854775808 ≤ x.f1 ∧ x.f1 ≤ 9223372036854775807) ∧ FitS x.f2
instance : DecidableEq IH := fun x y => decidable_of_iff (x.f0 = y.f0 ∧ x.f1 = y.f1 ∧ x.f2 = y.f2) ⟨fun ⟨a, b, c⟩ => ih_ext a b c, fun h => by rw [h]; exact ⟨rfl, rfl, rfl⟩⟩
end Go.Proofs.Ytmcldkobejhaeaa.Pl
/- Plain Lean: the reader of choices: hunks over a text. Asked: a reader that stands below 10^15, a text of at most 40 lines whose last one is not empty. -/
namespace Go.Proofs.Ytmcldkobejhaeaa.Pl
open Go.RowKit Go.Proofs.YtmcldkobejhaeaaW.PrintWords Go.Proofs.YtmcldkobejhaeaaW.PrintLast Go.Proofs.Ytmcldkobejhaeaa.My
set_option linter.unusedVariables false
set_option linter.unusedSimpArgs false
def SmX (x : IH) : Prop := (-1 ≤ x.f0 ∧ x.f0 ≤ 100) ∧ (0 ≤ x.f1 ∧ x.f1 ≤ 100) ∧ x.f2.length ≤ 2 ∧ ∀ s ∈ x.f2, s.size ≤ 8
def SmH (h : List IH) : Prop := h.length ≤ 6 ∧ ∀ x ∈ h, SmX x
def SmA (h : List IH) : Prop := h.length ≤ 6 ∧ ∀ x ∈ h, (-1 ≤ x.f0 ∧ x.f0 ≤ 100) ∧ (0 ≤ x.f1 ∧ x.f1 ≤ 103) ∧ x.f2.length ≤ 3 ∧ ∀ s ∈ x.f2, s.size ≤ 8
theorem smA_of {h : List IH} (q : SmH h) : SmA h := ⟨q.1, fun x hx => by
  have := q.2 x hx
  exact ⟨this.1, ⟨this.2.1.1, by have := this.2.1.2; omega⟩, by have := this.2.2.1; omega, this.2.2.2⟩⟩
theorem whole_some (l : List ByteArray) (hl : l.length ≤ 100) (hs : ∀ s ∈ l, s.size ≤ 9223372036854775807) (hx : ∀ x, l.getLast? = some x → 1 ≤ x.size) : ∃ b, spec_l1Whole.f l = some b := by
  unfold spec_l1Whole.f
  by_cases h : l.length = 0
  · exact ⟨true, by rw [if_pos (by omega)]⟩
  · have hm := List.getElem_mem (l := l) (n := l.length - 1) (by omega)
    have h1 : 1 ≤ (l[l.length - 1]'(by omega)).size := hx _ (by rw [List.getLast?_eq_getElem?, List.getElem?_eq_getElem (by omega)])
    refine ⟨ends (l[l.length - 1]'(by omega)), ?_⟩
    rw [if_neg (by omega), wrap_pred l.length (by omega) (by omega), if_pos (by omega), if_pos (by omega), rdOf_lt _ _ _ (by omega), l1Ends_eq _ h1 (hs _ hm)]
    rfl
theorem smH_snoc {h : List IH} (q : SmH h) (hl : h.length < 6) {x : IH} (hx : SmX x) : SmH (h ++ [x]) := by
  refine ⟨by rw [List.length_append, List.length_singleton]; omega, fun y hy => ?_⟩
  rcases List.mem_append.1 hy with hy | hy
  · exact q.2 y hy
  · rw [List.mem_singleton.1 hy]; exact hx
section
variable (c : List Int) (hc : Bytes8 c) (l : List ByteArray)
include hc
theorem hunks_l1 (h : List IH) (i at_ gone : Int) : ∀ (n : Nat) (acc : List ByteArray) (a s : Int), 0 ≤ a → a + 2 * n ≤ 1000000000000500 → acc.length + n ≤ 2 → (∀ s ∈ acc, s.size ≤ 8) →
    ∃ acc' a2 s2, (acc'.length ≤ 2 ∧ (∀ s ∈ acc', s.size ≤ 8) ∧ a ≤ a2 ∧ a2 ≤ a + 2 * n) ∧ ∀ R, Ev (fun k => spec_l1Cur_hunks.l1 k l h i 0 c a2 s2 at_ gone acc') R → Ev (fun k => spec_l1Cur_hunks.l1 k l h i (n : Int) c a s at_ gone acc) R := by
  intro n
  induction n with
  | zero => intro acc a s h0 h1 hl hs; exact ⟨acc, a, s, ⟨by omega, hs, by omega, by omega⟩, fun R h => h⟩
  | succ n ih =>
    intro acc a s h0 h1 hl hs
    obtain ⟨v, a2, s2, e, h2⟩ := line_some c hc a s h0 (by omega)
    have hz := nl_size v h2.1
    obtain ⟨acc', a3, s3, h3, hR⟩ := ih (acc ++ [v ++ (⟨#[10]⟩ : ByteArray)]) a2 s2 (by omega) (by omega) (by rw [List.length_append, List.length_singleton]; omega) (fun s hs' => by
      rcases List.mem_append.1 hs' with hs' | hs'
      · exact hs s hs'
      · rw [List.mem_singleton.1 hs']; exact hz.2)
    refine ⟨acc', a3, s3, ⟨h3.1, h3.2.1, by omega, by omega⟩, fun R hr => ?_⟩
    refine Ev.step (fun k => spec_l1Cur_hunks.l1.eq_2 ..) (ev_pos (by omega) (ev_bind (ev_const e) (ev_pos (by dsimp only; omega) (ev_pos (by omega) ?_))))
    rw [wrap64_id (x := ((n + 1 : Nat) : Int) - 1) (by omega) (by omega), show ((n + 1 : Nat) : Int) - 1 = (n : Int) from by omega]
    exact hR R hr
theorem hunks_l0 (hl : l.length ≤ 40) (hsz : ∀ s ∈ l, s.size ≤ 9223372036854775807) (hx : ∀ x, l.getLast? = some x → 1 ≤ x.size) : ∀ (d i : Nat) (h : List IH) (a s : Int), l.length + 1 ≤ i + d → i ≤ 100 → SmH h → 0 ≤ a → a + 20 * d ≤ 1000000000000300 →
    ∃ r a2 s2, Ev (fun k => spec_l1Cur_hunks.l0 k l h (i : Int) c a s) (r, a2, s2) ∧ SmH r ∧ a ≤ a2 ∧ a2 ≤ a + 20 * d := by
  intro d
  induction d with
  | zero =>
    intro i h a s hi hi2 hh h0 h1
    exact ⟨h, a, s, Ev.step (fun k => spec_l1Cur_hunks.l0.eq_2 ..) (ev_neg (by omega) (Ev.step (fun k => spec_l1Cur_hunks.j1.eq_2 ..) (ev_neg (by simp) (ev_some rfl)))), hh, by omega, by omega⟩
  | succ d ih =>
    intro i h a s hi hi2 hh h0 h1
    by_cases c1 : i ≤ l.length
    · by_cases c2 : h.length < 6
      · have hd : decide ((h.length : Int) < 6) = true := decide_eq_true (by omega)
        -- how many lines go
        have hle : ∃ m : Int, spec_l1Least.f 3 (wrap64 ((l.length : Int) - (i : Int))) = some m ∧ 0 ≤ m ∧ m ≤ 3 ∧ (i : Int) + m ≤ l.length := by
          unfold spec_l1Least.f
          rw [wrap64_id (by omega) (by omega)]
          by_cases c3 : (3 : Int) < (l.length : Int) - i
          · exact ⟨3, by rw [if_pos c3], by omega, by omega, by omega⟩
          · exact ⟨_, by rw [if_neg c3], by omega, by omega, by omega⟩
        obtain ⟨m, em, m0, m3, ml⟩ := hle
        obtain ⟨g, a2, s2, eg, hg⟩ := pick_some c hc a s (wrap64 (m + 1)) (at_of h0 (by omega))
        have hgm : g ≤ m := by
          have := hg.2.1
          rw [wrap64_id (by omega) (by omega)] at this
          omega
        obtain ⟨n, a3, s3, en, hn⟩ := pick_some c hc a2 s2 3 (at_of (by omega) (by omega))
        have hn2 : n = ((n.toNat : Nat) : Int) := by omega
        have hn3 : n.toNat ≤ 2 := by rcases hn.2.1 with q | q <;> omega
        obtain ⟨acc, a4, s4, hacc, hR⟩ := hunks_l1 c hc l h (i : Int) (i : Int) g n.toNat [] a3 s3 (by omega) (by omega) (by simpa using hn3) (fun s hs => by cases hs)
        obtain ⟨p, a5, s5, ep, hp⟩ := pick_some c hc a4 s4 3 (at_of (by omega) (by omega))
        have hp3 : p ≤ 2 := by rcases hp.2.1 with q | q <;> omega
        have ew : wrap64 ((i : Int) + (wrap64 ((wrap64 (g + 1)) + p))) = (((i + (g.toNat + 1 + p.toNat)) : Nat) : Int) := by
          rw [wrap64_id (x := g + 1) (by omega) (by omega), wrap64_id (x := g + 1 + p) (by omega) (by omega), wrap64_id (by omega) (by omega)]
          omega
        have fin : ∀ h2, SmH h2 → ∃ r a2 s2, Ev (fun k => (spec_l1Cur_pick.f c a4 s4 3).bind fun bt => spec_l1Cur_hunks.l0 k l h2 (wrap64 ((i : Int) + (wrap64 ((wrap64 (g + 1)) + bt.1)))) c bt.2.1 bt.2.2) (r, a2, s2) ∧ SmH r ∧ a ≤ a2 ∧ a2 ≤ a + 20 * (d + 1 : Nat) := by
          intro h2 hh2
          obtain ⟨r, a6, s6, er, hr⟩ := ih (i + (g.toNat + 1 + p.toNat)) h2 a5 s5 (by omega) (by omega) hh2 (by omega) (by omega)
          refine ⟨r, a6, s6, ev_bind (ev_const ep) ?_, hr.1, by omega, by omega⟩
          dsimp only
          rw [ew]
          exact er
        have hX : SmX (⟨(i : Int), g, acc⟩ : IH) := ⟨⟨by dsimp only; omega, by dsimp only; omega⟩, ⟨by dsimp only; omega, by dsimp only; omega⟩, hacc.1, hacc.2.1⟩
        have hh3 := smH_snoc hh c2 hX
        have top : ∀ R, Ev (fun k => spec_l1Cur_hunks.l1 k l h (i : Int) 0 c a4 s4 (i : Int) g acc) R → Ev (fun k => spec_l1Cur_hunks.l0 k l h (i : Int) c a s) R := by
          intro R hr
          refine Ev.step (fun k => spec_l1Cur_hunks.l0.eq_2 ..) (ev_pos (by omega) ?_)
          rw [hd]
          refine Ev.step (fun k => spec_l1Cur_hunks.j1.eq_2 ..) (ev_pos rfl (ev_bind (ev_const em) (ev_bind (ev_const eg) (ev_bind (ev_const en) ?_))))
          dsimp only
          rw [hn2]
          exact hR R hr
        have e1 : wrap64 (g + (acc.length : Int)) = g + acc.length := by have := hacc.1; rw [wrap64_id (by omega) (by omega)]
        have e2 : wrap64 ((i : Int) + g) = i + g := by rw [wrap64_id (by omega) (by omega)]
        have hl6 : h.length < 3518437208883 := by omega
        by_cases c4 : g + (acc.length : Int) > 0
        · obtain ⟨r, a6, s6, er, hr⟩ := fin _ hh3
          by_cases c5 : (i : Int) + g < (l.length : Int)
          · exact ⟨r, a6, s6, top _ (Ev.step (fun k => spec_l1Cur_hunks.l1.eq_2 ..) (ev_neg (by omega) (ev_pos (by rw [e1]; exact c4) (ev_pos (by rw [e2]; exact c5) (ev_pos hl6 er))))), hr⟩
          · obtain ⟨b, eb⟩ := whole_some l (by omega) hsz hx
            cases b with
            | true => exact ⟨r, a6, s6, top _ (Ev.step (fun k => spec_l1Cur_hunks.l1.eq_2 ..) (ev_neg (by omega) (ev_pos (by rw [e1]; exact c4) (ev_neg (by rw [e2]; exact c5) (ev_bind (ev_const eb) (ev_pos rfl (ev_pos hl6 er))))))), hr⟩
            | false =>
              by_cases c6 : g > 0
              · exact ⟨r, a6, s6, top _ (Ev.step (fun k => spec_l1Cur_hunks.l1.eq_2 ..) (ev_neg (by omega) (ev_pos (by rw [e1]; exact c4) (ev_neg (by rw [e2]; exact c5) (ev_bind (ev_const eb) (ev_neg (by simp) (ev_pos c6 (ev_pos hl6 er)))))))), hr⟩
              · obtain ⟨r2, a7, s7, er2, hr2⟩ := fin _ hh
                exact ⟨r2, a7, s7, top _ (Ev.step (fun k => spec_l1Cur_hunks.l1.eq_2 ..) (ev_neg (by omega) (ev_pos (by rw [e1]; exact c4) (ev_neg (by rw [e2]; exact c5) (ev_bind (ev_const eb) (ev_neg (by simp) (ev_neg c6 er2))))))), hr2⟩
        · obtain ⟨r, a6, s6, er, hr⟩ := fin _ hh
          exact ⟨r, a6, s6, top _ (Ev.step (fun k => spec_l1Cur_hunks.l1.eq_2 ..) (ev_neg (by omega) (ev_neg (by rw [e1]; exact c4) er))), hr⟩
      · exact ⟨h, a, s, Ev.step (fun k => spec_l1Cur_hunks.l0.eq_2 ..) (ev_pos (by omega) (by
          rw [decide_eq_false (by omega)]
          exact Ev.step (fun k => spec_l1Cur_hunks.j1.eq_2 ..) (ev_neg (by simp) (ev_some rfl)))), hh, by omega, by omega⟩
    · exact ⟨h, a, s, Ev.step (fun k => spec_l1Cur_hunks.l0.eq_2 ..) (ev_neg (by omega) (Ev.step (fun k => spec_l1Cur_hunks.j1.eq_2 ..) (ev_neg (by simp) (ev_some rfl)))), hh, by omega, by omega⟩
theorem hunks_some (hl : l.length ≤ 40) (hsz : ∀ s ∈ l, s.size ≤ 9223372036854775807) (hx : ∀ x, l.getLast? = some x → 1 ≤ x.size) (a s : Int) (h0 : 0 ≤ a) (h1 : a ≤ 999999999999000) :
    ∃ r a2 s2, Ev (fun k => spec_l1Cur_hunks.f k c a s l) (r, a2, s2) ∧ SmH r ∧ a ≤ a2 ∧ a2 ≤ a + 830 := by
  simp only [spec_l1Cur_hunks.f]
  obtain ⟨v, a2, s2, e, h2⟩ := pick_some c hc a s 3 (at_of h0 (by omega))
  have hv : v = ((v.toNat : Nat) : Int) := by omega
  have hv3 : v ≤ 2 := by rcases h2.2.1 with q | q <;> omega
  obtain ⟨r, a3, s3, er, hr⟩ := hunks_l0 c hc l hl hsz hx 41 v.toNat [] a2 s2 (by omega) (by omega) ⟨Nat.zero_le _, fun x hx => by cases hx⟩ (by omega) (by omega)
  rw [← hv] at er
  exact ⟨r, a3, s3, ev_bind (ev_const e) er, hr.1, by omega, by omega⟩
omit hc in
theorem rdIHm (h : List IH) (k : Int) (h0 : 0 ≤ k) (h1 : k < (h.length : Int)) : rd_T106 h k ∈ h := by
  have e : rd_T106 h k = h[k.toNat]'(by omega) := getD_lt h _ k.toNat (by omega)
  rw [e]
  exact List.getElem_mem _
omit hc in
theorem smA_set {h : List IH} (q : SmH h) (k : Nat) (x : IH) (hx : (-1 ≤ x.f0 ∧ x.f0 ≤ 100) ∧ (0 ≤ x.f1 ∧ x.f1 ≤ 103) ∧ x.f2.length ≤ 3 ∧ ∀ s ∈ x.f2, s.size ≤ 8) : SmA (h.set k x) := by
  refine ⟨by rw [List.length_set]; exact q.1, fun y hy => ?_⟩
  rcases List.mem_or_eq_of_mem_set hy with hy | rfl
  · exact (smA_of q).2 y hy
  · exact hx
theorem anyHunks_some (hl : l.length ≤ 40) (hsz : ∀ s ∈ l, s.size ≤ 9223372036854775807) (hx : ∀ x, l.getLast? = some x → 1 ≤ x.size) (a s : Int) (h0 : 0 ≤ a) (h1 : a ≤ 999999999998000) :
    ∃ r a2 s2, Ev (fun k => spec_l1Cur_anyHunks.f k c a s l) (r, a2, s2) ∧ SmA r ∧ a ≤ a2 ∧ a2 ≤ a + 840 := by
  simp only [spec_l1Cur_anyHunks.f]
  obtain ⟨h, a2, s2, e, h2⟩ := hunks_some c hc l hl hsz hx a s h0 (by omega)
  by_cases c1 : (h.length : Int) > 0
  · obtain ⟨k, a3, s3, ek, hk⟩ := pick_some c hc a2 s2 (h.length : Int) (at_of (by omega) (by omega))
    have k1 : k < (h.length : Int) := by rcases hk.2.1 with q | q <;> omega
    have hm := h2.1.2 _ (rdIHm h k hk.1 k1)
    have hl6 := h2.1.1
    obtain ⟨v, a4, s4, ev, hv⟩ := pick_some c hc a3 s3 25 (at_of (by omega) (by omega))
    by_cases v0 : v = 0
    · obtain ⟨z, a5, s5, ez, hz, hz2⟩ := among_some c hc a4 s4 (at_of (by omega) (by omega)) [(-1), 40, 3] (by simp)
      refine ⟨_, a5, s5, ev_bind e (ev_pos c1 (ev_bind (ev_const ek) (ev_bind (ev_const ev) (ev_pos v0 (ev_bind (ev_const ez) (ev_pos hk.1 (ev_pos k1 (ev_some rfl)))))))), smA_set h2.1 _ _ ⟨?_, ⟨hm.2.1.1, by have := hm.2.1.2; dsimp only; omega⟩, by have := hm.2.2.1; dsimp only; omega, hm.2.2.2⟩, by omega, by omega⟩
      simp only [List.mem_cons, List.not_mem_nil, or_false] at hz
      dsimp only
      omega
    · by_cases v1 : v = 1
      · refine ⟨_, a4, s4, ev_bind e (ev_pos c1 (ev_bind (ev_const ek) (ev_bind (ev_const ev) (ev_neg v0 (ev_pos v1 (ev_pos hk.1 (ev_pos k1 (ev_some rfl)))))))), smA_set h2.1 _ _ ⟨hm.1, ?_, by have := hm.2.2.1; dsimp only; omega, hm.2.2.2⟩, by omega, by omega⟩
        have := hm.2.1
        dsimp only
        rw [wrap64_id (by omega) (by omega)]
        omega
      · by_cases v2 : v = 2
        · refine ⟨_, a4, s4, ev_bind e (ev_pos c1 (ev_bind (ev_const ek) (ev_bind (ev_const ev) (ev_neg v0 (ev_neg v1 (ev_pos v2 (ev_pos hk.1 (ev_pos k1 (ev_some rfl))))))))), smA_set h2.1 _ _ ⟨hm.1, ⟨hm.2.1.1, by have := hm.2.1.2; dsimp only; omega⟩, (show ([(⟨#[]⟩ : ByteArray)] : List ByteArray).length ≤ 3 by decide), fun s hs => ?_⟩, by omega, by omega⟩
          rw [List.mem_singleton.1 hs]
          decide
        · by_cases v3 : v = 3
          · refine ⟨_, a4, s4, ev_bind e (ev_pos c1 (ev_bind (ev_const ek) (ev_bind (ev_const ev) (ev_neg v0 (ev_neg v1 (ev_neg v2 (ev_pos v3 (ev_pos hk.1 (ev_pos k1 (ev_pos (by have := hm.2.2.1; dsimp only; omega) (ev_some rfl))))))))))), smA_set h2.1 _ _ ⟨hm.1, ⟨hm.2.1.1, by have := hm.2.1.2; dsimp only; omega⟩, by have := hm.2.2.1; dsimp only; rw [List.length_append, List.length_singleton]; omega, fun s hs => ?_⟩, by omega, by omega⟩
            rcases List.mem_append.1 hs with hs | hs
            · exact hm.2.2.2 s hs
            · rw [List.mem_singleton.1 hs]
              decide
          · exact ⟨h, a4, s4, ev_bind e (ev_pos c1 (ev_bind (ev_const ek) (ev_bind (ev_const ev) (ev_neg v0 (ev_neg v1 (ev_neg v2 (ev_neg v3 (ev_some rfl)))))))), smA_of h2.1, by omega, by omega⟩
  · exact ⟨h, a2, s2, ev_bind e (ev_neg c1 (ev_some rfl)), smA_of h2.1, by omega, by omega⟩
end
theorem hunked_some (c : List Int) (hc : Bytes8 c) (a s : Int) (h0 : 0 ≤ a) (h1 : a ≤ 999999999997000) :
    ∃ l h a2 s2, Ev (fun k => spec_l1Cur_hunked.f k c a s) (l, h, a2, s2) ∧ SmT l ∧ SmA h ∧ a ≤ a2 ∧ a2 ≤ a + 870 := by
  simp only [spec_l1Cur_hunked.f]
  obtain ⟨l, a2, s2, e, h2⟩ := anyText_some c hc a s h0 (by omega)
  obtain ⟨h, a3, s3, e3, h3⟩ := anyHunks_some c hc l (by have := h2.1.1; omega) (fun s hs => by have := h2.1.2.1 s hs; omega) h2.1.2.2 a2 s2 (by omega) (by omega)
  exact ⟨l, h, a3, s3, ev_bind e (ev_bind e3 (ev_some rfl)), h2.1, h3.1, by omega, by omega⟩
theorem fitS_smT {l : List ByteArray} (h : SmT l) : FitS l := ⟨by have := h.1; omega, fun s hs => by have := h.2.1 s hs; omega⟩
theorem fitI_smA {h : List IH} (q : SmA h) : FitI h := ⟨by have := q.1; omega, fun x hx => by
  have := q.2 x hx
  exact ⟨⟨by omega, by omega⟩, ⟨by omega, by omega⟩, by omega, fun s hs => by have := this.2.2.2 s hs; omega⟩⟩
end Go.Proofs.Ytmcldkobejhaeaa.Pl
/- Plain Lean: chapter 2: when hunks are good, for the program and the reference. Conditions: lengths and sizes below 2^63. -/
namespace Go.Proofs.Ytmcldkobejhaeaa.Pl
open Go.RowKit Go.Proofs.YtmcldkobejhaeaaW.PrintWords Go.Proofs.YtmcldkobejhaeaaW.PrintLast Go.Proofs.Ytmcldkobejhaeaa.My
set_option linter.unusedVariables false
set_option linter.unusedSimpArgs false
def hNum (n p : Int) (x : IH) : Prop := 0 ≤ x.f0 ∧ 0 ≤ x.f1 ∧ x.f0 + x.f1 ≤ n ∧ ¬ (x.f1 = 0 ∧ x.f2.length = 0) ∧ x.f2.length ≤ 40 ∧ p < x.f0
instance (n p : Int) (x : IH) : Decidable (hNum n p x) := by unfold hNum; infer_instance
def hOK (n p : Int) (x : IH) : Bool := decide (hNum n p x) && x.f2.all isLn
def chain (n : Int) : Int → List IH → Bool
  | _, [] => true
  | p, x :: t => hOK n p x && chain n (x.f0 + x.f1) t
def goodH (n : Int) (h : List IH) : Bool := inB n 0 40 && (decide (h.length ≤ 20) && chain n (-1) h)
def before (n : Int) (h : List IH) (i : Nat) (p : Int) : Prop := (i = 0 ∧ p = -1) ∨ ∃ (j : Nat) (hj : j < h.length), i = j + 1 ∧ p = h[j].f0 + h[j].f1 ∧ 0 ≤ h[j].f0 ∧ 0 ≤ h[j].f1 ∧ p ≤ n
theorem chain_cons (n p : Int) (h : List IH) (i : Nat) (hi : i < h.length) : chain n p (h.drop i) = (hOK n p h[i] && chain n (h[i].f0 + h[i].f1) (h.drop (i + 1))) := by
  rw [List.drop_eq_getElem_cons hi]
  rfl
theorem goodHunks_l0 (n : Int) (h : List IH) (hf : FitI h) (h0 : 0 ≤ n) (h1 : n ≤ 40) : ∀ d i p, i + d = h.length → before n h i p → Ev (fun k => impl_goodHunks.l0 k n h h (h.length : Int) (i : Int)) (chain n p (h.drop i)) := by
  intro d
  have hL := hf.1
  induction d with
  | zero =>
    intro i p hi hp
    refine Ev.step (fun k => impl_goodHunks.l0.eq_2 ..) (ev_neg (by omega) (ev_some ?_))
    rw [List.drop_of_length_le (by omega)]
    rfl
  | succ d ih =>
    intro i p hi hp
    have hlt : i < h.length := by omega
    obtain ⟨b0, b1, b2⟩ := hf.2 _ (List.getElem_mem hlt)
    refine Ev.step (fun k => impl_goodHunks.l0.eq_2 ..) ?_
    simp only [rdIH h i hlt, impl_in_eq, Option.bind_some, chain_cons n p h i hlt]
    generalize hx : h[i] = x at *
    have bad : ¬ (hNum n (-1) x ∧ x.f2.all isLn = true) → Ev (fun k => impl_goodHunks.j2 k n h (i : Int) h (h.length : Int) (i : Int) true x.f0 x.f1 x.f2) (hOK n p x && chain n (x.f0 + x.f1) (h.drop (i + 1))) := by
      intro hb
      refine Ev.step (fun k => impl_goodHunks.j2.eq_2 ..) (ev_pos rfl (ev_some ?_))
      have : hOK n p x = false := by
        rw [Bool.eq_false_iff]
        intro ht
        unfold hOK at ht
        rw [Bool.and_eq_true, decide_eq_true_eq] at ht
        obtain ⟨⟨q0, q1, q2, q3, q4, q5⟩, q6⟩ := ht
        exact hb ⟨⟨q0, q1, q2, q3, q4, by omega⟩, q6⟩
      rw [this]
      rfl
    have ok : hNum n (-1) x → x.f2.all isLn = true → Ev (fun k => impl_goodHunks.j2 k n h (i : Int) h (h.length : Int) (i : Int) false x.f0 x.f1 x.f2) (hOK n p x && chain n (x.f0 + x.f1) (h.drop (i + 1))) := by
      intro hb hl
      obtain ⟨q0, q1, q2, q3, q4, q5⟩ := hb
      have nx : before n h (i + 1) (x.f0 + x.f1) := .inr ⟨i, hlt, rfl, by rw [hx], by rw [hx]; exact q0, by rw [hx]; exact q1, q2⟩
      have go : p < x.f0 → Ev (fun k => impl_goodHunks.l0 k n h h (h.length : Int) (wrap64 ((i : Int) + 1))) (hOK n p x && chain n (x.f0 + x.f1) (h.drop (i + 1))) := by
        intro hp
        rw [wrap_succ i (by omega)]
        refine ev_to (ih (i + 1) _ (by omega) nx) ?_
        have : hOK n p x = true := by
          unfold hOK
          rw [Bool.and_eq_true, decide_eq_true_eq]
          exact ⟨⟨q0, q1, q2, q3, q4, hp⟩, hl⟩
        rw [this, Bool.true_and]
      refine Ev.step (fun k => impl_goodHunks.j2.eq_2 ..) (ev_neg (by simp) (ev_ite (fun hi0 => ?_) (fun hi0 => go ?_)))
      · rcases hp with ⟨e, _⟩ | ⟨j, hj, rfl, rfl, r0, r1, r2⟩
        · omega
        · have ew : wrap64 (((j + 1 : Nat) : Int) - 1) = (j : Int) := by rw [wrap64_id (by omega) (by omega)]; omega
          simp only [ew, rdIH h j hj]
          rw [wrap64_id (by omega) (by omega)]
          refine ev_pos (by omega) (ev_pos (by omega) (ev_ite (fun hc => ev_some ?_) (fun hc => go (by omega))))
          have : hOK n (h[j].f0 + h[j].f1) x = false := by
            rw [Bool.eq_false_iff]
            intro ht
            unfold hOK at ht
            rw [Bool.and_eq_true, decide_eq_true_eq] at ht
            have := ht.1.2.2.2.2.2
            omega
          rw [this]
          rfl
      · rcases hp with ⟨_, e⟩ | ⟨j, hj, e, _⟩ <;> omega
    refine ev_pos (by omega) (ev_pos (by omega) (ev_pos (by omega) (ev_ite (fun c0 => ?_) (fun c0 => bad (fun hb => c0 ?_)))))
    · rw [inB_iff] at c0
      rw [wrap64_id (by omega) (by omega)]
      refine ev_ite (fun c1 => ?_) (fun c1 => bad (fun hb => c1 ?_))
      · rw [inB_iff] at c1
        refine ev_bind (areLines_ev x.f2 b2) (ev_ite (fun c2 => ?_) (fun c2 => bad (fun hb => c2 ?_)))
        · rw [Bool.and_eq_true, decide_eq_true_eq] at c2
          refine ev_ite (fun c3 => ?_) (fun c3 => ok ⟨c0.1, c1.1, by omega, fun e => c3 e.1, c2.1, by omega⟩ c2.2)
          by_cases c4 : x.f2.length = 0
          · rw [show (((x.f2.length : Int) == 0) = true) from by rw [c4]; rfl]
            exact bad (fun hb => hb.1.2.2.2.1 ⟨c3, c4⟩)
          · rw [show (((x.f2.length : Int) == 0) = false) from by rw [beq_eq_false_iff_ne]; omega]
            exact ok ⟨c0.1, c1.1, by omega, fun e => c4 e.2, c2.1, by omega⟩ c2.2
        · rw [Bool.and_eq_true, decide_eq_true_eq]
          exact ⟨hb.1.2.2.2.2.1, hb.2⟩
      · rw [inB_iff]
        obtain ⟨⟨q0, q1, q2, q3, q4, q5⟩, q6⟩ := hb
        omega
    · rw [inB_iff]
      obtain ⟨⟨q0, q1, q2, q3, q4, q5⟩, q6⟩ := hb
      omega
theorem goodHunks_ev (n : Int) (h : List IH) (hf : FitI h) : Ev (fun k => impl_goodHunks.f k n h) (goodH n h) := by
  simp only [impl_goodHunks.f, impl_in_eq, Option.bind_some]
  unfold goodH
  refine ev_ite (fun c => ?_) (fun c => ?_)
  · rw [c, Bool.true_and]
    rw [inB_iff] at c
    refine Ev.step (fun k => impl_goodHunks.j0.eq_2 ..) (ev_ite (fun e => ev_some ?_) (fun e => ?_))
    · rw [decide_eq_true_eq] at e
      rw [decide_eq_false (by omega), Bool.false_and]
    · rw [decide_eq_true_eq] at e
      rw [decide_eq_true (by omega), Bool.true_and]
      exact goodHunks_l0 n h hf c.1 c.2 h.length 0 (-1) (by omega) (.inl ⟨rfl, rfl⟩)
  · refine Ev.step (fun k => impl_goodHunks.j0.eq_2 ..) (ev_pos rfl (ev_some ?_))
    rw [Bool.not_eq_true] at c
    rw [c, Bool.false_and]
end Go.Proofs.Ytmcldkobejhaeaa.Pl
/- Plain Lean: chapter 2: when hunks are good for the reference: as for the program. Conditions: lengths and sizes below 2^63. -/
namespace Go.Proofs.Ytmcldkobejhaeaa.Pl
open Go.RowKit Go.Proofs.YtmcldkobejhaeaaW.PrintWords Go.Proofs.YtmcldkobejhaeaaW.PrintLast Go.Proofs.Ytmcldkobejhaeaa.My
set_option linter.unusedVariables false
set_option linter.unusedSimpArgs false
theorem wrap_zero (a : Int) (m : Nat) (h0 : 0 ≤ a) (h1 : a ≤ 9223372036854775807) (h2 : m ≤ 9223372036854775807) : wrap64 (a + (m : Int)) = 0 ↔ a = 0 ∧ m = 0 := by
  unfold wrap64
  omega
theorem l2Hunks_l0 (n : Int) (h : List IH) (hf : FitI h) (hn0 : -9223372036854775808 ≤ n) (hn : n ≤ 9223372036854775807) : ∀ d i p, i + d = h.length → before n h i p → Ev (fun k => spec_l2Hunks.l0 k n h h (h.length : Int) (i : Int)) (chain n p (h.drop i) && (decide (h.length ≤ 20) && inB n 0 40)) := by
  intro d
  have hL := hf.1
  induction d with
  | zero =>
    intro i p hi hp
    refine Ev.step (fun k => spec_l2Hunks.l0.eq_2 ..) (ev_neg (by omega) ?_)
    rw [List.drop_of_length_le (by omega)]
    simp only [spec_l1In_eq, Option.bind_some]
    refine ev_ite (fun c => ev_some ?_) (fun c => ev_some ?_)
    · rw [decide_eq_true (by omega)]
      rfl
    · rw [decide_eq_false (by omega)]
      rfl
  | succ d ih =>
    intro i p hi hp
    have hlt : i < h.length := by omega
    obtain ⟨b0, b1, b2⟩ := hf.2 _ (List.getElem_mem hlt)
    refine Ev.step (fun k => spec_l2Hunks.l0.eq_2 ..) ?_
    simp only [rdIH h i hlt, chain_cons n p h i hlt]
    generalize hx : h[i] = x at *
    have no : ¬ (hNum n p x ∧ x.f2.all isLn = true) → hOK n p x = false := by
      intro hb
      rw [Bool.eq_false_iff]
      intro ht
      unfold hOK at ht
      rw [Bool.and_eq_true, decide_eq_true_eq] at ht
      exact hb ht
    have bad : ¬ hNum n p x → Ev (fun k => spec_l2Hunks.j1 k n h h (h.length : Int) (i : Int) true x.f0 x.f1 x.f2) (hOK n p x && chain n (x.f0 + x.f1) (h.drop (i + 1)) && (decide (h.length ≤ 20) && inB n 0 40)) := by
      intro hb
      refine Ev.step (fun k => spec_l2Hunks.j1.eq_2 ..) (ev_pos rfl (ev_some ?_))
      rw [no (fun c => hb c.1)]
      rfl
    have ok : hNum n p x → Ev (fun k => spec_l2Hunks.j1 k n h h (h.length : Int) (i : Int) false x.f0 x.f1 x.f2) (hOK n p x && chain n (x.f0 + x.f1) (h.drop (i + 1)) && (decide (h.length ≤ 20) && inB n 0 40)) := by
      intro hb
      have nx : before n h (i + 1) (x.f0 + x.f1) := .inr ⟨i, hlt, rfl, by rw [hx], by rw [hx]; exact hb.1, by rw [hx]; exact hb.2.1, hb.2.2.1⟩
      have lp : ∀ e r, r + e = x.f2.length → Ev (fun k => spec_l2Hunks.l1 k n h h (h.length : Int) (i : Int) x.f2 (x.f2.length : Int) (r : Int)) (((x.f2.drop r).all isLn && chain n (x.f0 + x.f1) (h.drop (i + 1))) && (decide (h.length ≤ 20) && inB n 0 40)) := by
        intro e
        have hT := b2.1
        induction e with
        | zero =>
          intro r hr
          refine Ev.step (fun k => spec_l2Hunks.l1.eq_2 ..) (ev_neg (by omega) ?_)
          rw [List.drop_of_length_le (l := x.f2) (by omega), wrap_succ i (by omega), List.all_nil, Bool.true_and]
          exact ih (i + 1) _ (by omega) nx
        | succ e ihe =>
          intro r hr
          have hrt : r < x.f2.length := by omega
          refine Ev.step (fun k => spec_l2Hunks.l1.eq_2 ..) (ev_pos (by omega) (ev_pos (by omega) (ev_pos (by omega) ?_)))
          rw [rdOf_lt _ _ _ hrt, drop_cons x.f2 r hrt, List.all_cons]
          refine ev_bind (l1Line_ev _ (b2.2 _ (List.getElem_mem hrt))) (ev_ite (fun c => ?_) (fun c => ev_some ?_))
          · rw [wrap_succ r (by omega), c, Bool.true_and]
            exact ihe (r + 1) (by omega)
          · rw [Bool.not_eq_true] at c
            rw [c]
            rfl
      refine Ev.step (fun k => spec_l2Hunks.j1.eq_2 ..) (ev_neg (by simp) (ev_to (lp x.f2.length 0 (by omega)) ?_))
      unfold hOK
      rw [decide_eq_true hb, Bool.true_and, List.drop_zero]
    refine ev_pos (by omega) (ev_pos (by omega) (ev_pos (by omega) (ev_ite (fun c => bad (fun hb => ?_)) (fun c0 => ev_ite (fun c => bad (fun hb => ?_)) (fun c1 => ev_ite (fun c => bad (fun hb => ?_)) (fun c2 => ?_))))))
    · have := hb.1
      omega
    · have := hb.2.1
      omega
    · obtain ⟨q0, q1, q2, q3, q4, q5⟩ := hb
      omega
    rw [wrap64_id (x := n - x.f1) (by omega) (by omega)]
    refine ev_ite (fun c => bad (fun hb => ?_)) (fun c3 => ev_ite (fun c => bad (fun hb => ?_)) (fun c4 => ev_ite (fun c => bad (fun hb => ?_)) (fun c5 => ?_)))
    · have := hb.2.2.1
      omega
    · rw [wrap_zero _ _ (by omega) (by omega) b2.1] at c
      exact hb.2.2.2.1 c
    · have := hb.2.2.2.2.1
      omega
    rw [wrap_zero _ _ (by omega) (by omega) b2.1] at c4
    rcases hp with ⟨rfl, rfl⟩ | ⟨j, hj, rfl, rfl, r0, r1, r2⟩
    · refine ev_neg (by omega) (ok ⟨by omega, by omega, by omega, c4, by omega, by omega⟩)
    · have ew : wrap64 (((j + 1 : Nat) : Int) - 1) = (j : Int) := by rw [wrap64_id (by omega) (by omega)]; omega
      simp only [ew, rdIH h j hj]
      rw [wrap64_id (x := h[j].f0 + h[j].f1) (by omega) (by omega)]
      refine ev_pos (by omega) (ev_pos (by omega) (ev_pos (by omega) ?_))
      by_cases c : x.f0 ≤ h[j].f0 + h[j].f1
      · rw [decide_eq_true c]
        refine bad (fun hb => ?_)
        have := hb.2.2.2.2.2
        omega
      · rw [decide_eq_false c]
        exact ok ⟨by omega, by omega, by omega, c4, by omega, by omega⟩
theorem l2Hunks_ev (n : Int) (h : List IH) (hf : FitI h) (hn0 : -9223372036854775808 ≤ n) (hn : n ≤ 9223372036854775807) : Ev (fun k => spec_l2Hunks.f k n h) (goodH n h) := by
  simp only [spec_l2Hunks.f]
  refine ev_to (l2Hunks_l0 n h hf hn0 hn h.length 0 (-1) (by omega) (.inl ⟨rfl, rfl⟩)) ?_
  unfold goodH
  rw [List.drop_zero]
  cases inB n 0 40 <;> cases chain n (-1) h <;> cases decide (h.length ≤ 20) <;> rfl
end Go.Proofs.Ytmcldkobejhaeaa.Pl
/- Plain Lean: chapter 2: good hunks' numbers are small. No condition. -/
namespace Go.Proofs.Ytmcldkobejhaeaa.Pl
open Go.RowKit Go.Proofs.YtmcldkobejhaeaaW.PrintWords Go.Proofs.YtmcldkobejhaeaaW.PrintLast Go.Proofs.Ytmcldkobejhaeaa.My
set_option linter.unusedVariables false
set_option linter.unusedSimpArgs false
def near (h : List IH) : Prop := ∀ x ∈ h, 0 ≤ x.f0 ∧ x.f0 ≤ 40 ∧ 0 ≤ x.f1 ∧ x.f1 ≤ 40 ∧ x.f2.length ≤ 40
theorem near_of_chain {n : Int} (hn : n ≤ 40) : ∀ (h : List IH) (p : Int), chain n p h = true → near h := by
  intro h
  induction h with
  | nil => intro p _ x hx; simp at hx
  | cons y t ih =>
    intro p hc x hx
    simp only [chain, Bool.and_eq_true, hOK, decide_eq_true_eq] at hc
    rcases List.mem_cons.1 hx with rfl | hx
    · obtain ⟨⟨⟨q0, q1, q2, q3, q4, q5⟩, _⟩, _⟩ := hc
      omega
    · exact ih _ hc.2 x hx
theorem near_of_good {n : Int} {h : List IH} (g : goodH n h = true) : near h ∧ h.length ≤ 20 ∧ 0 ≤ n ∧ n ≤ 40 := by
  unfold goodH at g
  rw [Bool.and_eq_true, Bool.and_eq_true, inB_iff, decide_eq_true_eq] at g
  exact ⟨near_of_chain g.1.2 h _ g.2.2, g.2.1, g.1.1, g.1.2⟩
end Go.Proofs.Ytmcldkobejhaeaa.Pl
/- Plain Lean: answers where both are good lines. No condition. -/
namespace Go.Proofs.Ytmcldkobejhaeaa.Pl
open Go.RowKit Go.Proofs.YtmcldkobejhaeaaW.PrintWords Go.Proofs.YtmcldkobejhaeaaW.PrintLast Go.Proofs.Ytmcldkobejhaeaa.My
set_option linter.unusedVariables false
set_option linter.unusedSimpArgs false
theorem good_len {l : List ByteArray} (h : good l = true) : l.length ≤ 40 := by
  unfold good at h
  rw [Bool.and_eq_true] at h
  exact of_decide_eq_true h.1
end Go.Proofs.Ytmcldkobejhaeaa.Pl
/- Plain Lean: chapter 2: hunks carried out, for the program and the reference. Conditions: lengths and sizes below 2^62. -/
namespace Go.Proofs.Ytmcldkobejhaeaa.Pl
open Go.RowKit Go.Proofs.YtmcldkobejhaeaaW.PrintWords Go.Proofs.YtmcldkobejhaeaaW.PrintLast Go.Proofs.Ytmcldkobejhaeaa.My
set_option linter.unusedVariables false
set_option linter.unusedSimpArgs false
def patchFrom (a : List ByteArray) : Nat → List IH → List ByteArray
  | p, [] => a.drop p
  | p, x :: t => (a.take x.f0.toNat).drop p ++ (x.f2 ++ patchFrom a (x.f0 + x.f1).toNat t)
theorem patchFrom_mem (a : List ByteArray) (s : ByteArray) : ∀ (h : List IH) (p : Nat), s ∈ patchFrom a p h → s ∈ a ∨ ∃ x ∈ h, s ∈ x.f2 := by
  intro h
  induction h with
  | nil => intro p hs; exact .inl (List.mem_of_mem_drop hs)
  | cons y t ih =>
    intro p hs
    simp only [patchFrom, List.mem_append] at hs
    rcases hs with hs | hs | hs
    · exact .inl (List.mem_of_mem_take (List.mem_of_mem_drop hs))
    · exact .inr ⟨y, List.mem_cons_self .., hs⟩
    · rcases ih _ hs with hs | ⟨x, hx, hs⟩
      · exact .inl hs
      · exact .inr ⟨x, List.mem_cons_of_mem _ hx, hs⟩
theorem patchFrom_len (a : List ByteArray) (ha : a.length ≤ 40) : ∀ (h : List IH) (p : Nat), near h → (patchFrom a p h).length ≤ 40 + 80 * h.length := by
  intro h
  induction h with
  | nil => intro p _; simp only [patchFrom, List.length_drop, List.length_nil]; omega
  | cons y t ih =>
    intro p hn
    have h1 := ih (y.f0 + y.f1).toNat (fun x hx => hn x (List.mem_cons_of_mem _ hx))
    have h2 := hn y (List.mem_cons_self ..)
    simp only [patchFrom, List.length_append, List.length_drop, List.length_take, List.length_cons]
    omega
theorem patchFrom_fit {a : List ByteArray} {h : List IH} (fa : FitS a) (fh : FitI h) (ha : a.length ≤ 40) (hn : near h) (hl : h.length ≤ 20) (p : Nat) : FitS (patchFrom a p h) := by
  have := patchFrom_len a ha h p hn
  refine ⟨by omega, fun s hs => ?_⟩
  rcases patchFrom_mem a s h p hs with hs | ⟨x, hx, hs⟩
  · exact fa.2 s hs
  · exact (fh.2 x hx).2.2.2 s hs
theorem patched_l0 (a : List ByteArray) (h : List IH) (hn : a.length ≤ 40) (hl : h.length ≤ 20) : ∀ d i (q : Int) (p : Nat) (acc : List ByteArray), i + d = h.length → chain a.length q (h.drop i) = true → (p : Int) ≤ q + 1 → p ≤ a.length → acc.length ≤ 40 * i + p →
    Ev (fun k => impl_patched.l0 k a acc (p : Int) h (h.length : Int) (i : Int)) (acc ++ patchFrom a p (h.drop i)) := by
  intro d
  induction d with
  | zero =>
    intro i q p acc hi hc hpq hp hacc
    refine Ev.step (fun k => impl_patched.l0.eq_2 ..) (ev_neg (by omega) (ev_pos (by omega) (ev_pos (by omega) (ev_pos ?_ (ev_some ?_)))))
    · rw [List.length_drop]
      omega
    · rw [List.drop_of_length_le (l := h) (by omega), Int.toNat_natCast]
      rfl
  | succ d ih =>
    intro i q p acc hi hc hpq hp hacc
    have hlt : i < h.length := by omega
    rw [List.drop_eq_getElem_cons hlt] at hc
    rw [List.drop_eq_getElem_cons hlt]
    simp only [chain, Bool.and_eq_true, hOK, decide_eq_true_eq] at hc
    obtain ⟨⟨⟨q0, q1, q2, q3, q4, q5⟩, _⟩, hc'⟩ := hc
    refine Ev.step (fun k => impl_patched.l0.eq_2 ..) ?_
    simp only [rdIH h i hlt, Option.bind_some]
    have e1 : wrap64 (h[i].f0 + h[i].f1) = (((h[i].f0 + h[i].f1).toNat : Nat) : Int) := by rw [wrap64_id (by omega) (by omega)]; omega
    rw [e1, wrap_succ i (by omega), Int.toNat_natCast]
    have e2 : ((a.take h[i].f0.toNat).drop p).length = h[i].f0.toNat - p := by rw [List.length_drop, List.length_take]; omega
    refine ev_pos (by omega) (ev_pos (by omega) (ev_pos (by omega) (ev_pos (by omega) (ev_pos (by omega) (ev_pos (by omega) (ev_pos (by rw [e2]; omega) (ev_pos (by rw [List.length_append, e2]; omega) ?_)))))))
    refine ev_to (ih (i + 1) _ _ _ (by omega) hc' (by omega) (by omega) (by rw [List.length_append, List.length_append, e2]; omega)) ?_
    simp only [patchFrom, List.append_assoc]
theorem l2Patch_l0 (a : List ByteArray) (h : List IH) (hn : a.length ≤ 40) (hl : h.length ≤ 20) : ∀ d i (q : Int) (p : Nat) (acc : List ByteArray), i + d = h.length → chain a.length q (h.drop i) = true → (p : Int) ≤ q + 1 → p ≤ a.length → acc.length ≤ 40 * i + p →
    Ev (fun k => spec_l2Patch.l0 k a acc (p : Int) h (h.length : Int) (i : Int)) (acc ++ patchFrom a p (h.drop i)) := by
  intro d
  induction d with
  | zero =>
    intro i q p acc hi hc hpq hp hacc
    refine Ev.step (fun k => spec_l2Patch.l0.eq_2 ..) (ev_neg (by omega) (ev_pos (by omega) (ev_pos (by omega) (ev_pos ?_ (ev_some ?_)))))
    · rw [List.length_drop]
      omega
    · rw [List.drop_of_length_le (l := h) (by omega), Int.toNat_natCast]
      rfl
  | succ d ih =>
    intro i q p acc hi hc hpq hp hacc
    have hlt : i < h.length := by omega
    rw [List.drop_eq_getElem_cons hlt] at hc
    rw [List.drop_eq_getElem_cons hlt]
    simp only [chain, Bool.and_eq_true, hOK, decide_eq_true_eq] at hc
    obtain ⟨⟨⟨q0, q1, q2, q3, q4, q5⟩, _⟩, hc'⟩ := hc
    refine Ev.step (fun k => spec_l2Patch.l0.eq_2 ..) ?_
    simp only [rdIH h i hlt, Option.bind_some]
    have e1 : wrap64 (h[i].f0 + h[i].f1) = (((h[i].f0 + h[i].f1).toNat : Nat) : Int) := by rw [wrap64_id (by omega) (by omega)]; omega
    rw [e1, wrap_succ i (by omega), Int.toNat_natCast]
    have e2 : ((a.take h[i].f0.toNat).drop p).length = h[i].f0.toNat - p := by rw [List.length_drop, List.length_take]; omega
    refine ev_pos (by omega) (ev_pos (by omega) (ev_pos (by omega) (ev_pos (by omega) (ev_pos (by omega) (ev_pos (by omega) (ev_pos (by rw [e2]; omega) (ev_pos (by rw [List.length_append, e2]; omega) ?_)))))))
    refine ev_to (ih (i + 1) _ _ _ (by omega) hc' (by omega) (by omega) (by rw [List.length_append, List.length_append, e2]; omega)) ?_
    simp only [patchFrom, List.append_assoc]
def asked (a : List ByteArray) (h : List IH) : Bool := good a && goodH a.length h
def patchH (a : List ByteArray) (h : List IH) : List ByteArray := patchFrom a 0 h
def patchR (a : List ByteArray) (h : List IH) : List ByteArray × Bool := if asked a h = true ∧ good (patchH a h) = true then (patchH a h, true) else ([], false)
theorem asked_of {a : List ByteArray} {h : List IH} (c : asked a h = true) : a.length ≤ 40 ∧ h.length ≤ 20 ∧ near h ∧ chain a.length (-1) h = true := by
  unfold asked at c
  rw [Bool.and_eq_true] at c
  obtain ⟨g1, g2, g3, g4⟩ := near_of_good c.2
  have := c.2
  unfold goodH at this
  rw [Bool.and_eq_true, Bool.and_eq_true] at this
  exact ⟨good_len c.1, g2, g1, this.2.2⟩
theorem patched_ev {a : List ByteArray} {h : List IH} (c : asked a h = true) : Ev (fun k => impl_patched.f k a h) (patchH a h) := by
  obtain ⟨c1, c2, c3, c4⟩ := asked_of c
  simp only [impl_patched.f]
  exact patched_l0 a h c1 c2 h.length 0 (-1) 0 [] (by omega) c4 (by omega) (by omega) (Nat.zero_le _)
theorem l2Patch_ev {a : List ByteArray} {h : List IH} (c : asked a h = true) : Ev (fun k => spec_l2Patch.f k a h) (patchH a h) := by
  obtain ⟨c1, c2, c3, c4⟩ := asked_of c
  simp only [spec_l2Patch.f]
  exact l2Patch_l0 a h c1 c2 h.length 0 (-1) 0 [] (by omega) c4 (by omega) (by omega) (Nat.zero_le _)
theorem l2Asked_ev (a : List ByteArray) (h : List IH) (fa : FitS a) (fh : FitI h) : Ev (fun k => spec_l2Asked.f k a h) (asked a h) := by
  simp only [spec_l2Asked.f]
  unfold asked
  have hL := fa.1
  refine ev_bind (l1Good_ev a fa) (ev_ite (fun c => ?_) (fun c => ev_some ?_))
  · rw [c, Bool.true_and]
    exact ev_bind (l2Hunks_ev _ h fh (by omega) (by omega)) (ev_some rfl)
  · rw [Bool.not_eq_true] at c
    rw [c, Bool.false_and]
theorem patchR_small (a : List ByteArray) (h : List IH) : (patchR a h).1.length ≤ 40 := by
  unfold patchR
  split
  · rename_i c
    exact good_len c.2
  · exact Nat.zero_le _
theorem impl_Patch_ev (a : List ByteArray) (h : List IH) (fa : FitS a) (fh : FitI h) : Ev (fun k => impl_Patch.f k a h) (patchR a h) := by
  simp only [impl_Patch.f]
  unfold patchR
  have fin : asked a h = false → Ev (fun k => impl_Patch.j0 k a h true) (if asked a h = true ∧ good (patchH a h) = true then (patchH a h, true) else (([] : List ByteArray), false)) := by
    intro c
    rw [if_neg (fun e => by rw [c] at e; cases e.1)]
    exact Ev.step (fun k => impl_Patch.j0.eq_2 ..) (ev_pos rfl (ev_some rfl))
  refine ev_bind (goodLines_ev a fa) (ev_ite (fun c => ?_) (fun c => ?_))
  · refine ev_bind (goodHunks_ev _ h fh) ?_
    cases g : goodH a.length h with
    | false =>
      refine fin ?_
      unfold asked
      rw [g, Bool.and_false]
    | true =>
      have ca : asked a h = true := by unfold asked; rw [c, g]; rfl
      obtain ⟨c1, c2, c3, c4⟩ := asked_of ca
      refine Ev.step (fun k => impl_Patch.j0.eq_2 ..) (ev_neg (by simp) (ev_bind (patched_ev ca) (ev_bind (goodLines_ev _ (patchFrom_fit fa fh c1 c3 c2 0)) (ev_ite (fun c5 => ev_some ?_) (fun c5 => ev_some ?_)))))
      · rw [if_pos ⟨ca, c5⟩]
      · rw [if_neg (fun e => c5 e.2)]
  · refine fin ?_
    unfold asked
    rw [Bool.not_eq_true] at c
    rw [c, Bool.false_and]
theorem spec_Patch_ev (a : List ByteArray) (h : List IH) (fa : FitS a) (fh : FitI h) : Ev (fun k => spec_Patch.f k a h) (patchR a h) := by
  simp only [spec_Patch.f]
  unfold patchR
  refine ev_bind (l2Asked_ev a h fa fh) (ev_ite (fun ca => ?_) (fun ca => ev_some ?_))
  · obtain ⟨c1, c2, c3, c4⟩ := asked_of ca
    refine ev_bind (l2Patch_ev ca) (ev_bind (l1Good_ev _ (patchFrom_fit fa fh c1 c3 c2 0)) (ev_ite (fun c5 => ev_some ?_) (fun c5 => ev_some ?_)))
    · rw [if_pos (show asked a h = true ∧ good (patchH a h) = true from ⟨ca, c5⟩)]
    · rw [if_neg (show ¬ (asked a h = true ∧ good (patchH a h) = true) from fun e => c5 e.2)]
  · rw [if_neg (show ¬ (asked a h = true ∧ good (patchH a h) = true) from fun e => ca e.1)]
theorem patchR_asked {a : List ByteArray} {h : List IH} (c : (patchR a h).2 = true) : asked a h = true := by
  unfold patchR at c
  split at c
  · rename_i e
    exact e.1
  · cases c
end Go.Proofs.Ytmcldkobejhaeaa.Pl
/- Plain Lean: a drawn text with hunks that are to be trimmed. No condition. -/
namespace Go.Proofs.Ytmcldkobejhaeaa.Pl
open Go.RowKit Go.Proofs.YtmcldkobejhaeaaW.PrintWords Go.Proofs.YtmcldkobejhaeaaW.PrintLast Go.Proofs.Ytmcldkobejhaeaa.My
set_option linter.unusedVariables false
set_option linter.unusedSimpArgs false
def TrX (l : List ByteArray) (m : Nat) (x : IH) : Prop := (-1 ≤ x.f0 ∧ x.f0 ≤ 100) ∧ (0 ≤ x.f1 ∧ x.f1 ≤ 103) ∧ x.f2.length ≤ m ∧ (∀ s ∈ x.f2, s.size ≤ 8) ∧ (0 < x.f1 → 0 ≤ x.f0 ∧ x.f0 < (l.length : Int))
def SmB (h : List IH) : Prop := h.length ≤ 6 ∧ ∀ x ∈ h, (-1 ≤ x.f0 ∧ x.f0 ≤ 100) ∧ (0 ≤ x.f1 ∧ x.f1 ≤ 103) ∧ x.f2.length ≤ 4 ∧ ∀ s ∈ x.f2, s.size ≤ 8
theorem smB_of {h : List IH} (q : SmA h) : SmB h := ⟨q.1, fun x hx => by
  have := q.2 x hx
  exact ⟨this.1, this.2.1, by have := this.2.2.1; omega, this.2.2.2⟩⟩
theorem fitI_smB {h : List IH} (q : SmB h) : FitI h := ⟨by have := q.1; omega, fun x hx => by
  have := q.2 x hx
  exact ⟨⟨by omega, by omega⟩, ⟨by omega, by omega⟩, by omega, fun s hs => by have := this.2.2.2 s hs; omega⟩⟩
theorem drawTrim_l0 (c : List Int) (l : List ByteArray) (hl : l.length ≤ 100) (hs : ∀ s ∈ l, s.size ≤ 8) (a s : Int) (n : Nat) (hn : n ≤ 6) : ∀ d i (h : List IH), h.length = n → i + d = n → (∀ x ∈ h, TrX l 4 x) → (∀ j (hj : j < h.length), i ≤ j → h[j].f2.length ≤ 3) →
    ∃ h2, Ev (fun k => spec_DrawTrimHunks.l0 k l h (n : Int) (i : Int) c a s) (l, h2, a, s) ∧ SmB h2 := by
  intro d
  induction d with
  | zero =>
    intro i h hh hi hx _
    exact ⟨h, Ev.step (fun k => spec_DrawTrimHunks.l0.eq_2 ..) (ev_neg (by omega) (ev_some rfl)), by omega, fun x hm => by
      have := hx x hm
      exact ⟨this.1, this.2.1, this.2.2.1, this.2.2.2.1⟩⟩
  | succ d ih =>
    intro i h hh hi hx h3
    have hlt : i < h.length := by omega
    have hX := hx _ (List.getElem_mem hlt)
    have hS := h3 i hlt (Nat.le_refl _)
    by_cases c1 : h[i].f1 > 0
    · obtain ⟨p1, p2⟩ := hX.2.2.2.2 c1
      have hrd : rdOf ByteArray.empty l h[i].f0 ∈ l := by
        have e : rdOf ByteArray.empty l h[i].f0 = l[h[i].f0.toNat]'(by omega) := getD_lt l _ _ (by omega)
        rw [e]
        exact List.getElem_mem _
      obtain ⟨h2, e2, q2⟩ := ih (i + 1) (h.set i ⟨h[i].f0, h[i].f1, [rdOf ByteArray.empty l h[i].f0] ++ h[i].f2⟩) (by rw [List.length_set]; exact hh) (by omega) (fun x hm => by
          rcases List.mem_or_eq_of_mem_set hm with hm | rfl
          · exact hx x hm
          · refine ⟨hX.1, hX.2.1, by simp only [List.length_append, List.length_singleton]; omega, fun z hz => ?_, fun _ => ⟨p1, p2⟩⟩
            rcases List.mem_append.1 hz with hz | hz
            · rw [List.mem_singleton.1 hz]; exact hs _ hrd
            · exact hX.2.2.2.1 z hz) (fun j hj hij => by
          rw [List.getElem_set_ne (by omega)]
          exact h3 j (by rwa [List.length_set] at hj) (by omega))
      refine ⟨h2, Ev.step (fun k => spec_DrawTrimHunks.l0.eq_2 ..) ?_, q2⟩
      rw [rdIH h i hlt, wrap_succ i (by omega), Int.toNat_natCast]
      exact ev_pos (by omega) (ev_pos (by omega) (ev_pos (by omega) (ev_pos c1 (ev_pos p1 (ev_pos p2 (ev_bind (ev_some rfl) (ev_pos (by simp only [List.length_singleton]; omega) e2)))))))
    · obtain ⟨h2, e2, q2⟩ := ih (i + 1) h hh (by omega) hx (fun j hj hij => h3 j hj (by omega))
      refine ⟨h2, Ev.step (fun k => spec_DrawTrimHunks.l0.eq_2 ..) ?_, q2⟩
      rw [rdIH h i hlt, wrap_succ i (by omega)]
      exact ev_pos (by omega) (ev_pos (by omega) (ev_pos (by omega) (ev_neg c1 e2)))
theorem chain_in {n : Int} : ∀ (h : List IH) (p : Int), chain n p h = true → ∀ x ∈ h, 0 < x.f1 → 0 ≤ x.f0 ∧ x.f0 < n
  | x :: t, p, hc, y, hy, h1 => by
    simp only [chain, hOK, Bool.and_eq_true, decide_eq_true_eq] at hc
    obtain ⟨⟨⟨c0, c1, c2, c4, c5, c3⟩, c6⟩, hc'⟩ := hc
    rcases List.mem_cons.1 hy with rfl | hy
    · exact ⟨c0, by omega⟩
    · exact chain_in t _ hc' y hy h1
theorem drawTrim_some (c : List Int) (hc : Bytes8 c) : ∃ l h, Ev (fun k => spec_DrawTrimHunks.f k c) (l, h) ∧ SmT l ∧ SmB h := by
  simp only [spec_DrawTrimHunks.f, spec_DrawTrimHunks.g]
  obtain ⟨l, h, a2, s2, e, hl, hh, h2⟩ := hunked_some c hc 0 0 (by omega) (by omega)
  have ea := l2Asked_ev l h (fitS_smT hl) (fitI_smA hh)
  by_cases c1 : asked l h = true
  · obtain ⟨v, a3, s3, e3, h3⟩ := one_some c hc a2 s2 2 (at_of (by omega) (by omega))
    cases v with
    | true =>
      obtain ⟨q1, q2, q3, q4⟩ := asked_of c1
      obtain ⟨h4, e4, b4⟩ := drawTrim_l0 c l (by omega) hl.2.1 a3 s3 h.length hh.1 h.length 0 h rfl (by omega) (fun x hx => by
        have := hh.2 x hx
        exact ⟨this.1, this.2.1, by have := this.2.2.1; omega, this.2.2.2, chain_in h _ q4 x hx⟩) (fun j hj _ => (hh.2 _ (List.getElem_mem hj)).2.2.1)
      exact ⟨l, h4, ev_bind (ev_bind e (ev_bind ea (ev_pos c1 (ev_bind (ev_const e3) (Ev.step (fun k => spec_DrawTrimHunks.j0.eq_2 ..) (ev_pos rfl e4)))))) (ev_some rfl), hl, b4⟩
    | false => exact ⟨l, h, ev_bind (ev_bind e (ev_bind ea (ev_pos c1 (ev_bind (ev_const e3) (Ev.step (fun k => spec_DrawTrimHunks.j0.eq_2 ..) (ev_neg (by simp) (ev_some rfl))))))) (ev_some rfl), hl, smB_of hh⟩
  · exact ⟨l, h, ev_bind (ev_bind e (ev_bind ea (ev_neg c1 (Ev.step (fun k => spec_DrawTrimHunks.j0.eq_2 ..) (ev_neg (by simp) (ev_some rfl)))))) (ev_some rfl), hl, smB_of hh⟩
end Go.Proofs.Ytmcldkobejhaeaa.Pl
/- Plain Lean: copies of lists of strings. Condition: lengths below 2^43. -/
namespace Go.Proofs.Ytmcldkobejhaeaa.Pl
open Go.RowKit Go.Proofs.YtmcldkobejhaeaaW.PrintWords Go.Proofs.YtmcldkobejhaeaaW.PrintLast Go.Proofs.Ytmcldkobejhaeaa.My
set_option linter.unusedVariables false
set_option linter.unusedSimpArgs false
theorem cloneT_eq (l : List ByteArray) (h : l.length < 8796093022208) : slices_Clone_string_string.f l = some l := by
  unfold slices_Clone_string_string.f
  simp [h]
theorem ownT_eq (l : List ByteArray) (h : l.length < 8796093022208) : spec_l1OwnT.f l = some l := by
  unfold spec_l1OwnT.f
  simp [h]
end Go.Proofs.Ytmcldkobejhaeaa.Pl
/- Plain Lean: how many lines are the same ahead and behind. Condition: lengths below 2^62. -/
namespace Go.Proofs.Ytmcldkobejhaeaa.Pl
open Go.RowKit Go.Proofs.YtmcldkobejhaeaaW.PrintWords Go.Proofs.YtmcldkobejhaeaaW.PrintLast Go.Proofs.YtmcldkobejhaeaaW.PrintMore Go.Proofs.Ytmcldkobejhaeaa.My
set_option linter.unusedVariables false
set_option linter.unusedSimpArgs false
def ahead : List ByteArray → List ByteArray → Nat
  | a :: s, b :: t => if a = b then ahead s t + 1 else 0
  | _, _ => 0
def behind (a b : List ByteArray) : Nat := min (ahead a.reverse b.reverse) (min a.length b.length - ahead a b)
theorem ahead_le (a b : List ByteArray) : ahead a b ≤ a.length ∧ ahead a b ≤ b.length := by
  induction a generalizing b with
  | nil => simp [ahead]
  | cons x a ih =>
    cases b with
    | nil => simp [ahead]
    | cons y b =>
      unfold ahead
      have := ih b
      split <;> simp <;> omega
theorem ahead_drop_of_ge (a b : List ByteArray) (i : Nat) (h : a.length ≤ i ∨ b.length ≤ i) : ahead (a.drop i) (b.drop i) = 0 := by
  have := ahead_le (a.drop i) (b.drop i)
  simp only [List.length_drop] at this
  omega
theorem ahead_drop (a b : List ByteArray) (i : Nat) (h1 : i < a.length) (h2 : i < b.length) : ahead (a.drop i) (b.drop i) = if a[i] = b[i] then ahead (a.drop (i + 1)) (b.drop (i + 1)) + 1 else 0 := by
  rw [drop_cons a i h1, drop_cons b i h2, ahead]
theorem sameAhead_l0 (a b : List ByteArray) (hL : a.length ≤ 4611686018427387904) (hL' : b.length ≤ 4611686018427387904) : ∀ d i, i + d = min a.length b.length → Ev (fun k => impl_sameAhead.l0 k a b (i : Int)) ((i + ahead (a.drop i) (b.drop i) : Nat) : Int) := by
  intro d
  induction d with
  | zero =>
    intro i hi
    refine Ev.step (fun k => impl_sameAhead.l0.eq_2 ..) ?_
    rw [ahead_drop_of_ge a b i (by omega)]
    exact ev_ite (fun h => ev_neg (by omega) (ev_some rfl)) (fun h => ev_neg (by omega) (ev_some rfl))
  | succ d ih =>
    intro i hi
    have h1 : i < a.length := by omega
    have h2 : i < b.length := by omega
    have hgo : Ev (fun k => if (rdOf ByteArray.empty a (i : Int)).toList = (rdOf ByteArray.empty b (i : Int)).toList then impl_sameAhead.l0 k a b (wrap64 ((i : Int) + 1)) else some (i : Int)) ((i + ahead (a.drop i) (b.drop i) : Nat) : Int) := by
      rw [rdOf_lt _ _ _ h1, rdOf_lt _ _ _ h2, ahead_drop a b i h1 h2]
      refine ev_ite (fun h => ?_) (fun h => ev_some ?_)
      · rw [if_pos (ba_ext h), wrap_succ i (by omega)]
        refine ev_to (ih (i + 1) (by omega)) ?_
        omega
      · rw [if_neg (fun e => h (by rw [e]))]
        rfl
    refine Ev.step (fun k => impl_sameAhead.l0.eq_2 ..) ?_
    refine ev_ite (fun h => ?_) (fun h => ?_)
    · exact ev_pos (by omega) (ev_pos (by omega) (ev_pos (by omega) hgo))
    · exact ev_pos (by omega) (ev_pos (by omega) (ev_pos (by omega) hgo))
theorem sameAhead_ev (a b : List ByteArray) (hL : a.length ≤ 4611686018427387904) (hL' : b.length ≤ 4611686018427387904) : Ev (fun k => impl_sameAhead.f k a b) ((ahead a b : Nat) : Int) := by
  simp only [impl_sameAhead.f]
  refine ev_to (sameAhead_l0 a b hL hL' (min a.length b.length) 0 (by omega)) ?_
  simp
theorem l1Ahead_l0 (a b : List ByteArray) (hL : a.length ≤ 4611686018427387904) : ∀ d i, i + d = a.length → Ev (fun k => spec_l1Ahead.l0 k a b (i : Int)) ((i + ahead (a.drop i) (b.drop i) : Nat) : Int) := by
  intro d
  induction d with
  | zero =>
    intro i hi
    refine Ev.step (fun k => spec_l1Ahead.l0.eq_2 ..) (ev_neg (by omega) (ev_some ?_))
    rw [ahead_drop_of_ge a b i (.inl (by omega))]
    rfl
  | succ d ih =>
    intro i hi
    refine Ev.step (fun k => spec_l1Ahead.l0.eq_2 ..) (ev_pos (by omega) ?_)
    refine ev_ite (fun h => ?_) (fun h => ev_some ?_)
    · refine ev_pos (by omega) ?_
      rw [rdOf_lt _ _ _ (by omega : i < a.length), rdOf_lt _ _ _ (by omega : i < b.length), ahead_drop a b i (by omega) (by omega)]
      refine ev_ite (fun h => ?_) (fun h => ev_some ?_)
      · rw [if_pos (ba_ext h), wrap_succ i (by omega)]
        refine ev_to (ih (i + 1) (by omega)) ?_
        omega
      · rw [if_neg (fun e => h (by rw [e]))]
        rfl
    · rw [ahead_drop_of_ge a b i (by omega)]
      rfl
theorem l1Ahead_ev (a b : List ByteArray) (hL : a.length ≤ 4611686018427387904) : Ev (fun k => spec_l1Ahead.f k a b) ((ahead a b : Nat) : Int) := by
  simp only [spec_l1Ahead.f]
  refine ev_to (l1Ahead_l0 a b hL a.length 0 (by omega)) ?_
  simp
theorem wrap_back (n i : Nat) (h : i < n) (hn : n ≤ 4611686018427387904) : wrap64 (wrap64 ((n : Int) - 1) - (i : Int)) = ((n - 1 - i : Nat) : Int) := by
  rw [wrap_pred n (by omega) (by omega), wrap_sub (n - 1) i (by omega) (by omega)]
theorem sameBehind_l0 (a b : List ByteArray) (hL : a.length ≤ 4611686018427387904) (hL' : b.length ≤ 4611686018427387904) (m : Nat) (hm : m ≤ min a.length b.length) : ∀ d i, i + d = m →
    Ev (fun k => impl_sameBehind.l0 k a b (i : Int) (m : Int)) ((i + min (ahead (a.reverse.drop i) (b.reverse.drop i)) (m - i) : Nat) : Int) := by
  intro d
  induction d with
  | zero =>
    intro i hi
    refine Ev.step (fun k => impl_sameBehind.l0.eq_2 ..) (ev_neg (by omega) (ev_some ?_))
    omega
  | succ d ih =>
    intro i hi
    refine Ev.step (fun k => impl_sameBehind.l0.eq_2 ..) (ev_pos (by omega) ?_)
    rw [wrap_back a.length i (by omega) hL, wrap_back b.length i (by omega) hL']
    refine ev_pos (by omega) (ev_pos (by omega) (ev_pos (by omega) (ev_pos (by omega) ?_)))
    rw [rdOf_lt _ _ _ (by omega : a.length - 1 - i < a.length), rdOf_lt _ _ _ (by omega : b.length - 1 - i < b.length), ahead_drop a.reverse b.reverse i (by simp; omega) (by simp; omega), List.getElem_reverse, List.getElem_reverse]
    refine ev_ite (fun h => ?_) (fun h => ev_some ?_)
    · rw [if_pos (ba_ext h), wrap_succ i (by omega)]
      refine ev_to (ih (i + 1) (by omega)) ?_
      omega
    · rw [if_neg (fun e => h (by rw [e]))]
      omega
theorem sameBehind_ev (a b : List ByteArray) (hL : a.length ≤ 4611686018427387904) (hL' : b.length ≤ 4611686018427387904) : Ev (fun k => impl_sameBehind.f k a b) ((behind a b : Nat) : Int) := by
  simp only [impl_sameBehind.f]
  have h := ahead_le a b
  have hgo : Ev (fun k => impl_sameBehind.l0 k a b 0 ((min a.length b.length - ahead a b : Nat) : Int)) ((behind a b : Nat) : Int) := by
    refine ev_to (sameBehind_l0 a b hL hL' (min a.length b.length - ahead a b) (by omega) _ 0 (Nat.zero_add _)) ?_
    simp [behind]
  refine ev_ite (fun hc => ev_bind (sameAhead_ev a b hL hL') ?_) (fun hc => ev_bind (sameAhead_ev a b hL hL') ?_)
  · rw [wrap_sub _ _ (by omega) (by omega), show b.length = min a.length b.length from by omega]
    exact hgo
  · rw [wrap_sub _ _ (by omega) (by omega), show a.length = min a.length b.length from by omega]
    exact hgo
theorem l1Behind_l0 (a b : List ByteArray) (hL : a.length ≤ 4611686018427387904) (hL' : b.length ≤ 4611686018427387904) (m : Nat) (hm : m ≤ min a.length b.length) : ∀ d i, i + d = m →
    Ev (fun k => spec_l1Behind.l0 k a b (m : Int) (i : Int)) ((i + min (ahead (a.reverse.drop i) (b.reverse.drop i)) (m - i) : Nat) : Int) := by
  intro d
  induction d with
  | zero =>
    intro i hi
    refine Ev.step (fun k => spec_l1Behind.l0.eq_2 ..) (ev_neg (by omega) (ev_some ?_))
    omega
  | succ d ih =>
    intro i hi
    refine Ev.step (fun k => spec_l1Behind.l0.eq_2 ..) (ev_pos (by omega) ?_)
    rw [wrap_back a.length i (by omega) hL, wrap_back b.length i (by omega) hL']
    refine ev_pos (by omega) (ev_pos (by omega) (ev_pos (by omega) (ev_pos (by omega) ?_)))
    rw [rdOf_lt _ _ _ (by omega : a.length - 1 - i < a.length), rdOf_lt _ _ _ (by omega : b.length - 1 - i < b.length), ahead_drop a.reverse b.reverse i (by simp; omega) (by simp; omega), List.getElem_reverse, List.getElem_reverse]
    refine ev_ite (fun h => ?_) (fun h => ev_some ?_)
    · rw [if_pos (ba_ext h), wrap_succ i (by omega)]
      refine ev_to (ih (i + 1) (by omega)) ?_
      omega
    · rw [if_neg (fun e => h (by rw [e]))]
      omega
theorem l1Least_eq (a b : Int) : spec_l1Least.f a b = some (min a b) := by
  unfold spec_l1Least.f
  split <;> simp <;> omega
theorem l1Behind_ev (a b : List ByteArray) (hL : a.length ≤ 4611686018427387904) (hL' : b.length ≤ 4611686018427387904) : Ev (fun k => spec_l1Behind.f k a b) ((behind a b : Nat) : Int) := by
  simp only [spec_l1Behind.f, l1Least_eq, Option.bind_some]
  refine ev_bind (l1Ahead_ev a b hL) ?_
  have h := ahead_le a b
  have e : min (a.length : Int) (b.length : Int) = ((min a.length b.length : Nat) : Int) := by omega
  rw [e, wrap_sub _ _ (by omega) (by omega)]
  refine ev_to (l1Behind_l0 a b hL hL' (min a.length b.length - ahead a b) (by omega) _ 0 (Nat.zero_add _)) ?_
  simp [behind]
end Go.Proofs.Ytmcldkobejhaeaa.Pl