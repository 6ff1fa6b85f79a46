/- Part 3 of 6 of a proof of this sentence: The Go function loop.example/g00825/laws.FnExactApplySteps returns true for every input, and each argument reads afterwards as it read before. No condition. -/
import Derived.Lib.Strings
import Derived.Lib.Slices
import Derived.Lib.Walk
import Derived.Lib.Bytealg
import Derived.Test.YtcefenlblnediaaCFnExactApplySteps2
/- Written by this session's program (wip/gen): a plain function with the same answers as the Go function, and the proof that the Go code comes to them. Asked: that the plain function has an answer. -/
namespace Go.Proofs.Ytcefenlblnediaa.My
open Go.RowKit Go.Proofs.YtcefenlblnediaaW.PrintWords Go.Proofs.YtcefenlblnediaaW.PrintLast Go.Proofs.YtcefenlblnediaaW.PrintMore
attribute [local go_sem] max2_int min2_int max_two min_two max_three min_three max_four min_four
set_option linter.unusedVariables false
set_option linter.unusedSimpArgs false

/-! ### spec_l5Hunks: function 125 -/
mutual
def spec_l5Hunks.l0 : Nat → List ByteArray → List (S144) → List (S111) → List (S144) → Int → Int → Option ((List (S111)) × Int)
 | 0, _, _, _, _, _, _ => none
 | k + 1, x0, x1, x6, x13, x14, x15 => if x15 < x14 then (if 0 ≤ x15 then (if x15 < (x13.length : Int) then (if ((rd_T144 x13 x15).f1) > (x0.length : Int) then (some (([] : List (S111)), 3)) else ((spec_l5Base.f ((rd_T144 x13 x15).f0) ((rd_T144 x13 x15).f2)).bind fun t1215 => ((spec_l1OwnT.f ((rd_T144 x13 x15).f5)).bind fun t1216 => (if x6.length < 3518437208883 then (spec_l5Hunks.l0 k x0 x1 (x6 ++ [(⟨t1215, (((rd_T144 x13 x15).f2).length : Int), t1216⟩ : S111)]) x13 x14 (wrap64 (x15 + 1))) else (none))))) else (none)) else (none)) else ((spec_l2Hunks.f k (x0.length : Int) x6).bind fun t1222 => (if t1222 = true then (spec_l5Hunks.l1 k x0 x6 0 x1 (x1.length : Int) 0) else (some (([] : List (S111)), 3))))
def spec_l5Hunks.l1 : Nat → List ByteArray → List (S111) → Int → List (S144) → Int → Int → Option ((List (S111)) × Int)
 | 0, _, _, _, _, _, _ => none
 | k + 1, x0, x6, x9, x45, x46, x47 => if x47 < x46 then (if 0 ≤ x47 then (if x47 < (x45.length : Int) then (if x47 < (x6.length : Int) then (if 0 ≤ ((rd_T111 x6 x47).f0) then (if ((rd_T111 x6 x47).f0) ≤ (wrap64 (((rd_T111 x6 x47).f0) + ((rd_T111 x6 x47).f1))) then (if (wrap64 (((rd_T111 x6 x47).f0) + ((rd_T111 x6 x47).f1))) ≤ (x0.length : Int) then ((spec_l1SameT.f k ((x0.take ((wrap64 (((rd_T111 x6 x47).f0) + ((rd_T111 x6 x47).f1))) : Int).toNat).drop (((rd_T111 x6 x47).f0) : Int).toNat) ((rd_T144 x45 x47).f2)).bind fun t1228 => (if t1228 = true then ((spec_l5Base.f ((rd_T144 x45 x47).f3) ((rd_T144 x45 x47).f5)).bind fun t1229 => (if t1229 = (wrap64 (((rd_T111 x6 x47).f0) + x9)) then (spec_l5Hunks.l1 k x0 x6 (wrap64 (x9 + (wrap64 ((((rd_T144 x45 x47).f5).length : Int) - ((rd_T111 x6 x47).f1))))) x45 x46 (wrap64 (x47 + 1))) else (some (([] : List (S111)), 2)))) else (some (([] : List (S111)), 2)))) else (none)) else (none)) else (none)) else (none)) else (none)) else (none)) else (some (x6, 0))
end
def spec_l5Hunks.f (k : Nat) (l0 : List ByteArray) (l1 : List (S144)) : Option ((List (S111)) × Int) := spec_l5Hunks.l0 k l0 l1 ([] : List (S111)) l1 (l1.length : Int) 0
def spec_l5Hunks.T7 : Bool × List (List Nat × List Nat) := (true, [([], []), ([], []), ([1], [1]), ([], []), ([3], [3]), ([2, 4], [2, 4]), ([], []), ([6], [6]), ([7], [7]), ([], []), ([9], [9]), ([10, 5], [10]), ([5, 8, 11], [5, 8, 11]), ([12], [12]), ([0, 13, 11], [0, 13]), ([14, 14, 0, 1, 2, 3, 4, 5, 6, 7, 8, 9, 10, 11, 12, 13, 14], [0, 14])])
def spec_l5Hunks.B7 : List Nat := [0, 0, 2, 0, 8, 30, 0, 64, 192, 0, 512, 1598, 4094, 8190, 16383, 32767]
theorem spec_l5Hunks.tab7 : rtab .any (opsOf Try.f125 7) = spec_l5Hunks.T7 := by kernel_rfl
theorem spec_l5Hunks.bits7 : waitsOk spec_l5Hunks.T7.2 spec_l5Hunks.B7 = true := by kernel_rfl
def spec_l5Hunks.T16 : Bool × List (List Nat × List Nat) := (true, [([], []), ([], []), ([1], [1]), ([], []), ([3], [3]), ([], []), ([5], [5]), ([4, 6], [4, 6]), ([0, 2, 7], [0, 2, 7]), ([], []), ([9], [9]), ([8, 10], [8, 10]), ([11], [11]), ([12, 11], [12]), ([13], [13]), ([14, 13], [13, 14]), ([13], [13]), ([16, 13], [13, 16]), ([15, 17, 13, 13], [13, 15, 17]), ([13], [13]), ([19, 13], [13, 19]), ([13], [13]), ([20, 21, 13], [13, 20, 21]), ([18, 22, 13], [13, 18, 22]), ([13, 23], [13, 23])])
def spec_l5Hunks.B16 : List Nat := [0, 0, 2, 0, 8, 0, 32, 120, 255, 0, 512, 2047, 4095, 8191, 16383, 32767, 16383, 81919, 262143, 16383, 540671, 16383, 3686399, 8388607, 16777215]
theorem spec_l5Hunks.tab16 : rtab .any (opsOf Try.f125 16) = spec_l5Hunks.T16 := by kernel_rfl
theorem spec_l5Hunks.bits16 : waitsOk spec_l5Hunks.T16.2 spec_l5Hunks.B16 = true := by kernel_rfl
set_option maxHeartbeats 8000000 in
set_option maxRecDepth 100000 in
theorem spec_l5Hunks.calls (k : Nat) (A0 : Option Addr) (c0 : Nat) (l0 : List ByteArray) (A1 : Option Addr) (c1 : Nat) (l1 : List (S144)) (r1 : List (S111)) (r2 : Int) (w : World) (hr0 : Kd.C Kd.string w A0 l0.length l0) (hc0 : l0.length ≤ c0) (hr1 : Kd.C k144 w A1 l1.length l1) (hc1 : l1.length ≤ c1) (h : spec_l5Hunks.f k l0 l1 = some (r1, r2)) :
  Calls Try.prog 125 #[.slice A0 l0.length c0, .slice A1 l1.length c1] w fun e w' => ∃ v0_ : Value, e = .returned (.tuple #[v0_, .int .i64 r2]) ∧ Kd.S k111 111 w' w.heap.size (fun _ => True) v0_ r1 ∧ Below w.heap.size w w' := by
 have hu144 := Try.underlying144
 have hu111 := Try.underlying111
 have HR0 := Aside0.mk hr0
 have HC0 := Aside0.mk hc0
 clear hr0 hc0
 have HR1 := Aside0.mk hr1
 have HC1 := Aside0.mk hc1
 clear hr1 hc1
 have HB := Aside0.mk (Below.refl w.heap.size w)
 have H : (spec_l5Hunks.l0 k l0 l1 ([] : List (S111)) l1 (l1.length : Int) 0) = some (r1, r2) := h
 clear h
 have H' := Aside0.mk H
 clear H
 go_enter Try.func125, Try.ntmps125
 go_wp2
 go_loopg [6, 15] k (fun kq v6 v15 w' => ∃ (x6_1 : List (S111)) (x15_1 : Int), v15 = .int .i64 x15_1 ∧ Aside0 (spec_l5Hunks.l0 kq l0 l1 x6_1 l1 (l1.length : Int) x15_1 = some (r1, r2)) ∧ Aside0 (kq ≤ k) ∧ Aside0 (Kd.S k111 111 w' w.heap.size (fun _ => True) v6 x6_1) ∧ Aside0 (Below w.heap.size w w'))
 case atStart => exact ⟨(([] : List (S111))), (0), zf, H', ⟨Nat.le_refl _⟩, ⟨by first | exact Kd.S_nil _ _ _ _ _ | exact Kd.Q_nil _ _ _ _ _ | exact Kd.R_nil _ _ _ _ _⟩, ⟨by repeat (first | (with_reducible first | exact HB.out | apply below_alloc | apply pw_below_drewN | apply below_drew1) | exact HB.out)⟩⟩
 case round =>
  clear H'
  try clear c1
  try clear p2
  obtain ⟨x6_1, x15_1, rfl, HA, HK1, HO_6, HB⟩ := hrel
  cases gk with
  | zero => exact absurd HA.out (by simp [spec_l5Hunks.l0])
  | succ k1 =>
   have H := HA.out
   clear HA
   simp only [spec_l5Hunks.l0] at H
   by_cases c3 : x15_1 < (l1.length : Int)
   ·rw [if_pos c3] at H
    have c3b0 : decide (x15_1 < (l1.length : Int)) = true := decide_eq_true c3
    clear c3
    by_cases c4 : 0 ≤ x15_1
    ·rw [if_pos c4] at H
     have c4b0 : decide (0 ≤ x15_1) = true := decide_eq_true c4
     clear c4
     by_cases c5 : x15_1 < (l1.length : Int)
     ·rw [if_pos c5] at H
      have c5b0 : decide (x15_1 < (l1.length : Int)) = true := decide_eq_true c5
      clear c5
      by_cases c6 : ((rd_T144 l1 x15_1).f1) > (l0.length : Int)
      ·rw [if_pos c6] at H
       have c6b0 : decide ((l0.length : Int) < ((rd_T144 l1 x15_1).f1)) = true := decide_eq_true c6
       clear c6
       simp only [Option.some.injEq, Prod.mk.injEq] at H
       obtain ⟨rfl, rfl⟩ := H
       have p1213 : 0 ≤ (x15_1 : Int) := oa
       have q1213 : x15_1 < (l1.length : Int) := oa
       obtain ⟨ad1213, A1213_2, c1213_2, A1213_5, c1213_5, e1213, hx1213_0, hx1213_1, hx1213_2, hx1213_3, hx1213_4, hx1213_5, hl1213_2, hi1213_2, hl1213_5, hi1213_5⟩ := at_T144 HR1.out x15_1 p1213 q1213
       cases e1213
       replace hx1213_0 := (HB.out.cell (World.block_lt_of_cell? w _ hx1213_0)).trans hx1213_0
       replace hx1213_1 := (HB.out.cell (World.block_lt_of_cell? w _ hx1213_1)).trans hx1213_1
       replace hx1213_2 := (HB.out.cell (World.block_lt_of_cell? w _ hx1213_2)).trans hx1213_2
       replace hx1213_3 := (HB.out.cell (World.block_lt_of_cell? w _ hx1213_3)).trans hx1213_3
       replace hx1213_4 := (HB.out.cell (World.block_lt_of_cell? w _ hx1213_4)).trans hx1213_4
       replace hx1213_5 := (HB.out.cell (World.block_lt_of_cell? w _ hx1213_5)).trans hx1213_5
       have HR1213_2 := Aside0.mk hi1213_2
       have HC1213_2 := Aside0.mk hl1213_2
       clear hi1213_2 hl1213_2
       have HR1213_5 := Aside0.mk hi1213_5
       have HC1213_5 := Aside0.mk hl1213_5
       clear hi1213_5 hl1213_5
       replace p1213 := eq_true p1213
       replace q1213 := eq_true q1213
       go_wp2_with (first | ((with_reducible refine gate_dst (N := 8) rfl ?_); refine box_event ?hg (N := 8) ?hd (cs := #[.int .i64 0, .int .i64 0, .slice none 0 0, .int .i64 0, .int .i64 0, .slice none 0 0]) (t := 144) ?hr ?_; (case hd => rfl); (case hg => rfl); (case hr => first | (go_simp; done) | (go_simp; rfl)); intro gb1214 hg w7 hbox hb; have n0_ := Aside0.mk (Kd.S_below (zs HO_6.out) hb); have n1_ := Aside0.mk (below_step zb hb); have n2_ := Aside0.mk (hbox); have n3_ := Aside0.mk ((by rw [hg]; exact (below_size zb) : w.heap.size ≤ gb1214)); have n4_ := Aside0.mk ((by rw [hg]; exact (below_size zb) : w.heap.size ≤ gb1214)); clear HO_6; clear HB; have HO_6 := n0_; have HB := n1_; have BK1214 := n2_; have GW1214 := n3_; have GE1214 := n4_; clear n0_ n1_ n2_ n3_ n4_; clear hb hbox hg; have hcz8_0 : w7.cell? ⟨gb1214, 0, none⟩ = some (.int .i64 0) := (blk_cell BK1214.out 0).trans rfl; have hcz8_1 : w7.cell? ⟨gb1214, 1, none⟩ = some (.int .i64 0) := (blk_cell BK1214.out 1).trans rfl; have hcz8_2 : w7.cell? ⟨gb1214, 2, none⟩ = some (.slice none 0 0) := (blk_cell BK1214.out 2).trans rfl; have hcz8_3 : w7.cell? ⟨gb1214, 3, none⟩ = some (.int .i64 0) := (blk_cell BK1214.out 3).trans rfl; have hcz8_4 : w7.cell? ⟨gb1214, 4, none⟩ = some (.int .i64 0) := (blk_cell BK1214.out 4).trans rfl; have hcz8_5 : w7.cell? ⟨gb1214, 5, none⟩ = some (.slice none 0 0) := (blk_cell BK1214.out 5).trans rfl; have hfz8_0 := blk_frozen BK1214.out 0; have hfz8_1 := blk_frozen BK1214.out 1; have hfz8_2 := blk_frozen BK1214.out 2; have hfz8_3 := blk_frozen BK1214.out 3; have hfz8_4 := blk_frozen BK1214.out 4; have hfz8_5 := blk_frozen BK1214.out 5))
       go_ret2
       exact ⟨_, by first | rfl | (simp [errW_none, errW_some] <;> rfl) | (simp [*, errW_none, errW_some] <;> rfl), by first | exact Kd.S_nil _ _ _ _ _ | exact Kd.Q_nil _ _ _ _ _ | exact Kd.R_nil _ _ _ _ _, by repeat (first | (with_reducible first | exact HB.out | apply below_alloc | apply pw_below_drewN | apply below_drew1 | refine below_set ?_ GE1214.out) | exact HB.out)⟩
      ·rw [if_neg c6] at H
       have c6b0 : decide ((l0.length : Int) < ((rd_T144 l1 x15_1).f1)) = false := decide_eq_false c6
       clear c6
       replace H := Option.bind_eq_some_iff.mp H
       obtain ⟨t1215, A90, H⟩ := H
       replace H : ((spec_l1OwnT.f ((rd_T144 l1 x15_1).f5)).bind fun t1216 => (if x6_1.length < 3518437208883 then (spec_l5Hunks.l0 k1 l0 l1 (x6_1 ++ [(⟨t1215, (((rd_T144 l1 x15_1).f2).length : Int), t1216⟩ : S111)]) l1 (l1.length : Int) (wrap64 (x15_1 + 1))) else (none))) = some (r1, r2) := H
       have A9 := Aside0.mk A90
       clear A90
       replace H := Option.bind_eq_some_iff.mp H
       obtain ⟨t1216, A100, H⟩ := H
       replace H : (if x6_1.length < 3518437208883 then (spec_l5Hunks.l0 k1 l0 l1 (x6_1 ++ [(⟨t1215, (((rd_T144 l1 x15_1).f2).length : Int), t1216⟩ : S111)]) l1 (l1.length : Int) (wrap64 (x15_1 + 1))) else (none)) = some (r1, r2) := H
       have A10 := Aside0.mk A100
       clear A100
       by_cases c11 : x6_1.length < 3518437208883
       ·rw [if_pos c11] at H
        have LMc11 := Aside0.mk c11
        clear c11
        obtain ⟨y1219, hy1219⟩ : ∃ y_ : List (S111), y_ = (x6_1 ++ [(⟨t1215, (((rd_T144 l1 x15_1).f2).length : Int), t1216⟩ : S111)]) := ⟨_, rfl⟩
        replace H : (spec_l5Hunks.l0 k1 l0 l1 y1219 l1 (l1.length : Int) (wrap64 (x15_1 + 1))) = some (r1, r2) := by first | (rw [hy1219]; with_reducible exact H) | (have H2_ := (Option.bind_some _ _).symm.trans H; rw [hy1219]; with_reducible exact H2_) | (have H2_ := (Option.bind_some _ _).symm.trans H; with_reducible exact H2_) | with_reducible exact H | (rw [hy1219]; exact H) | exact H
        have Ny1219 := Aside0.mk hy1219
        clear hy1219
        have H' := Aside0.mk H
        clear H
        have p1213 : 0 ≤ (x15_1 : Int) := oa
        have q1213 : x15_1 < (l1.length : Int) := oa
        obtain ⟨ad1213, A1213_2, c1213_2, A1213_5, c1213_5, e1213, hx1213_0, hx1213_1, hx1213_2, hx1213_3, hx1213_4, hx1213_5, hl1213_2, hi1213_2, hl1213_5, hi1213_5⟩ := at_T144 HR1.out x15_1 p1213 q1213
        cases e1213
        replace hx1213_0 := (HB.out.cell (World.block_lt_of_cell? w _ hx1213_0)).trans hx1213_0
        replace hx1213_1 := (HB.out.cell (World.block_lt_of_cell? w _ hx1213_1)).trans hx1213_1
        replace hx1213_2 := (HB.out.cell (World.block_lt_of_cell? w _ hx1213_2)).trans hx1213_2
        replace hx1213_3 := (HB.out.cell (World.block_lt_of_cell? w _ hx1213_3)).trans hx1213_3
        replace hx1213_4 := (HB.out.cell (World.block_lt_of_cell? w _ hx1213_4)).trans hx1213_4
        replace hx1213_5 := (HB.out.cell (World.block_lt_of_cell? w _ hx1213_5)).trans hx1213_5
        have HR1213_2 := Aside0.mk hi1213_2
        have HC1213_2 := Aside0.mk hl1213_2
        clear hi1213_2 hl1213_2
        have HR1213_5 := Aside0.mk hi1213_5
        have HC1213_5 := Aside0.mk hl1213_5
        clear hi1213_5 hl1213_5
        replace p1213 := eq_true p1213
        replace q1213 := eq_true q1213
        try go_wp2_with (first | ((with_reducible refine gate_dst (N := 8) rfl ?_); refine box_event ?hg (N := 8) ?hd (cs := #[.int .i64 0, .int .i64 0, .slice none 0 0, .int .i64 0, .int .i64 0, .slice none 0 0]) (t := 144) ?hr ?_; (case hd => rfl); (case hg => rfl); (case hr => first | (go_simp; done) | (go_simp; rfl)); intro gb1214 hg w12 hbox hb; have n0_ := Aside0.mk (Kd.S_below (zs HO_6.out) hb); have n1_ := Aside0.mk (below_step zb hb); have n2_ := Aside0.mk (hbox); have n3_ := Aside0.mk ((by rw [hg]; exact (below_size zb) : w.heap.size ≤ gb1214)); have n4_ := Aside0.mk ((by rw [hg]; exact (below_size zb) : w.heap.size ≤ gb1214)); clear HO_6; clear HB; have HO_6 := n0_; have HB := n1_; have BK1214 := n2_; have GW1214 := n3_; have GE1214 := n4_; clear n0_ n1_ n2_ n3_ n4_; clear hb hbox hg; have hcz13_0 : w12.cell? ⟨gb1214, 0, none⟩ = some (.int .i64 0) := (blk_cell BK1214.out 0).trans rfl; have hcz13_1 : w12.cell? ⟨gb1214, 1, none⟩ = some (.int .i64 0) := (blk_cell BK1214.out 1).trans rfl; have hcz13_2 : w12.cell? ⟨gb1214, 2, none⟩ = some (.slice none 0 0) := (blk_cell BK1214.out 2).trans rfl; have hcz13_3 : w12.cell? ⟨gb1214, 3, none⟩ = some (.int .i64 0) := (blk_cell BK1214.out 3).trans rfl; have hcz13_4 : w12.cell? ⟨gb1214, 4, none⟩ = some (.int .i64 0) := (blk_cell BK1214.out 4).trans rfl; have hcz13_5 : w12.cell? ⟨gb1214, 5, none⟩ = some (.slice none 0 0) := (blk_cell BK1214.out 5).trans rfl; have hfz13_0 := blk_frozen BK1214.out 0; have hfz13_1 := blk_frozen BK1214.out 1; have hfz13_2 := blk_frozen BK1214.out 2; have hfz13_3 := blk_frozen BK1214.out 3; have hfz13_4 := blk_frozen BK1214.out 4; have hfz13_5 := blk_frozen BK1214.out 5))
        have n0_ : Aside0 (Kd.S k111 111 ((((((w12.setCell ⟨gb1214, 0, none⟩ (.int .i64 ((rd_T144 l1 x15_1).f0))).setCell ⟨gb1214, 1, none⟩ (.int .i64 ((rd_T144 l1 x15_1).f1))).setCell ⟨gb1214, 2, none⟩ (.slice A1213_2 ((rd_T144 l1 x15_1).f2).length c1213_2)).setCell ⟨gb1214, 3, none⟩ (.int .i64 ((rd_T144 l1 x15_1).f3))).setCell ⟨gb1214, 4, none⟩ (.int .i64 ((rd_T144 l1 x15_1).f4))).setCell ⟨gb1214, 5, none⟩ (.slice A1213_5 ((rd_T144 l1 x15_1).f5).length c1213_5)) w.heap.size (fun _ => True) u6 x6_1) := ⟨by (with_reducible repeat (first | apply Kd.S_alloc | apply Kd.S_drewN | apply Kd.S_drew)); exact Kd.S_mono (Kd.S_far (p := ⟨gb1214, 5, none⟩) (Kd.S_far (p := ⟨gb1214, 4, none⟩) (Kd.S_far (p := ⟨gb1214, 3, none⟩) (Kd.S_far (p := ⟨gb1214, 2, none⟩) (Kd.S_far (p := ⟨gb1214, 1, none⟩) (Kd.S_far (p := ⟨gb1214, 0, none⟩) (Kd.S_types HO_6.out BK1214.out (by decide)) (fun _ hk => hk.2) (.int .i64 ((rd_T144 l1 x15_1).f0))) (fun _ hk => hk.2) (.int .i64 ((rd_T144 l1 x15_1).f1))) (fun _ hk => hk.2) (.slice A1213_2 ((rd_T144 l1 x15_1).f2).length c1213_2)) (fun _ hk => hk.2) (.int .i64 ((rd_T144 l1 x15_1).f3))) (fun _ hk => hk.2) (.int .i64 ((rd_T144 l1 x15_1).f4))) (fun _ hk => hk.2) (.slice A1213_5 ((rd_T144 l1 x15_1).f5).length c1213_5)) (fun _ hk => trivial)⟩
        have n1_ : Aside0 (((((((w12.setCell ⟨gb1214, 0, none⟩ (.int .i64 ((rd_T144 l1 x15_1).f0))).setCell ⟨gb1214, 1, none⟩ (.int .i64 ((rd_T144 l1 x15_1).f1))).setCell ⟨gb1214, 2, none⟩ (.slice A1213_2 ((rd_T144 l1 x15_1).f2).length c1213_2)).setCell ⟨gb1214, 3, none⟩ (.int .i64 ((rd_T144 l1 x15_1).f3))).setCell ⟨gb1214, 4, none⟩ (.int .i64 ((rd_T144 l1 x15_1).f4))).setCell ⟨gb1214, 5, none⟩ (.slice A1213_5 ((rd_T144 l1 x15_1).f5).length c1213_5)).heap[gb1214]? = some (.cells #[.int .i64 ((rd_T144 l1 x15_1).f0), .int .i64 ((rd_T144 l1 x15_1).f1), .slice A1213_2 ((rd_T144 l1 x15_1).f2).length c1213_2, .int .i64 ((rd_T144 l1 x15_1).f3), .int .i64 ((rd_T144 l1 x15_1).f4), .slice A1213_5 ((rd_T144 l1 x15_1).f5).length c1213_5] 144 (0, 0))) := ⟨by (with_reducible repeat (first | refine blk_drewN ?_ _ | refine blk_drew ?_ | refine blk_alloc ?_ _)); refine blk_put (cs := #[.int .i64 ((rd_T144 l1 x15_1).f0), .int .i64 ((rd_T144 l1 x15_1).f1), .slice A1213_2 ((rd_T144 l1 x15_1).f2).length c1213_2, .int .i64 ((rd_T144 l1 x15_1).f3), .int .i64 ((rd_T144 l1 x15_1).f4), .slice none 0 0]) ?_ 5 _ rfl; (with_reducible repeat (first | refine blk_drewN ?_ _ | refine blk_drew ?_ | refine blk_alloc ?_ _)); refine blk_put (cs := #[.int .i64 ((rd_T144 l1 x15_1).f0), .int .i64 ((rd_T144 l1 x15_1).f1), .slice A1213_2 ((rd_T144 l1 x15_1).f2).length c1213_2, .int .i64 ((rd_T144 l1 x15_1).f3), .int .i64 0, .slice none 0 0]) ?_ 4 _ rfl; (with_reducible repeat (first | refine blk_drewN ?_ _ | refine blk_drew ?_ | refine blk_alloc ?_ _)); refine blk_put (cs := #[.int .i64 ((rd_T144 l1 x15_1).f0), .int .i64 ((rd_T144 l1 x15_1).f1), .slice A1213_2 ((rd_T144 l1 x15_1).f2).length c1213_2, .int .i64 0, .int .i64 0, .slice none 0 0]) ?_ 3 _ rfl; (with_reducible repeat (first | refine blk_drewN ?_ _ | refine blk_drew ?_ | refine blk_alloc ?_ _)); refine blk_put (cs := #[.int .i64 ((rd_T144 l1 x15_1).f0), .int .i64 ((rd_T144 l1 x15_1).f1), .slice none 0 0, .int .i64 0, .int .i64 0, .slice none 0 0]) ?_ 2 _ rfl; (with_reducible repeat (first | refine blk_drewN ?_ _ | refine blk_drew ?_ | refine blk_alloc ?_ _)); refine blk_put (cs := #[.int .i64 ((rd_T144 l1 x15_1).f0), .int .i64 0, .slice none 0 0, .int .i64 0, .int .i64 0, .slice none 0 0]) ?_ 1 _ rfl; (with_reducible repeat (first | refine blk_drewN ?_ _ | refine blk_drew ?_ | refine blk_alloc ?_ _)); refine blk_put (cs := #[.int .i64 0, .int .i64 0, .slice none 0 0, .int .i64 0, .int .i64 0, .slice none 0 0]) ?_ 0 _ rfl; (with_reducible repeat (first | refine blk_drewN ?_ _ | refine blk_drew ?_ | refine blk_alloc ?_ _)); exact BK1214.out⟩
        have n2_ : Aside0 (Below w.heap.size w ((((((w12.setCell ⟨gb1214, 0, none⟩ (.int .i64 ((rd_T144 l1 x15_1).f0))).setCell ⟨gb1214, 1, none⟩ (.int .i64 ((rd_T144 l1 x15_1).f1))).setCell ⟨gb1214, 2, none⟩ (.slice A1213_2 ((rd_T144 l1 x15_1).f2).length c1213_2)).setCell ⟨gb1214, 3, none⟩ (.int .i64 ((rd_T144 l1 x15_1).f3))).setCell ⟨gb1214, 4, none⟩ (.int .i64 ((rd_T144 l1 x15_1).f4))).setCell ⟨gb1214, 5, none⟩ (.slice A1213_5 ((rd_T144 l1 x15_1).f5).length c1213_5))) := ⟨by repeat (first | (with_reducible first | exact HB.out | apply below_alloc | apply pw_below_drewN | apply below_drew1 | refine below_set ?_ GE1214.out) | exact HB.out)⟩
        (try clear HO_6)
        (try clear BK1214)
        (try clear HB)
        (try simp only [show ∀ (w_ : World) (n_ : Nat) (p_ : Addr) (v_ : Value), (w_.drewN n_).setCell p_ v_ = (w_.setCell p_ v_).drewN n_ from fun _ _ _ _ => rfl])
        generalize ((((((w12.setCell ⟨gb1214, 0, none⟩ (.int .i64 ((rd_T144 l1 x15_1).f0))).setCell ⟨gb1214, 1, none⟩ (.int .i64 ((rd_T144 l1 x15_1).f1))).setCell ⟨gb1214, 2, none⟩ (.slice A1213_2 ((rd_T144 l1 x15_1).f2).length c1213_2)).setCell ⟨gb1214, 3, none⟩ (.int .i64 ((rd_T144 l1 x15_1).f3))).setCell ⟨gb1214, 4, none⟩ (.int .i64 ((rd_T144 l1 x15_1).f4))).setCell ⟨gb1214, 5, none⟩ (.slice A1213_5 ((rd_T144 l1 x15_1).f5).length c1213_5)) = w14 at n0_ n1_ n2_ ⊢
        have HO_6 := n0_
        have BK1214 := n1_
        have HB := n2_
        clear n0_ n1_ n2_
        have n0_ := Aside0.mk (Kd.S_drew HO_6.out)
        have n1_ := Aside0.mk (blk_drew BK1214.out)
        have n2_ := Aside0.mk (below_drew1 HB.out)
        clear HO_6
        clear BK1214
        clear HB
        have HO_6 := n0_
        have BK1214 := n1_
        have HB := n2_
        clear n0_ n1_ n2_
        refine start_ (n := 16) (S := fun w' => w'.cell? ⟨gb1214, 0, none⟩ = some (.int .i64 ((rd_T144 l1 x15_1).f0)) ∧ w'.cell? ⟨gb1214, 1, none⟩ = some (.int .i64 ((rd_T144 l1 x15_1).f1)) ∧ w'.cell? ⟨gb1214, 2, none⟩ = some (.slice A1213_2 ((rd_T144 l1 x15_1).f2).length c1213_2) ∧ w'.cell? ⟨gb1214, 3, none⟩ = some (.int .i64 ((rd_T144 l1 x15_1).f3)) ∧ w'.cell? ⟨gb1214, 4, none⟩ = some (.int .i64 ((rd_T144 l1 x15_1).f4)) ∧ w'.cell? ⟨gb1214, 5, none⟩ = some (.slice A1213_5 ((rd_T144 l1 x15_1).f5).length c1213_5)) (ds := []) #[O,O,O,O,O,O,O,O,O,O,O,O,O,O,O,O] (by kernel_rfl) rfl rfl ⟨(blk_cell BK1214.out 0).trans rfl, (blk_cell BK1214.out 1).trans rfl, (blk_cell BK1214.out 2).trans rfl, (blk_cell BK1214.out 3).trans rfl, (blk_cell BK1214.out 4).trans rfl, (blk_cell BK1214.out 5).trans rfl⟩ (fun hHeld => ?_); refine with_tabW spec_l5Hunks.tab7 spec_l5Hunks.bits7 (fun HT_ HW_ => ?_)
        generalize w14.drew = w15 at HO_6 BK1214 HB hHeld ⊢
        refine pure_ (i := 0) (N := some 24) (v := ?_) (a' := ?_) #[Y,O,O,O,O,O,O,O,O,O,O,O,O,O,O,O] rfl rfl zx (fun _ _ _ h => h) (Or.inl ⟨by rfl, ?_⟩) ?_ ?_
        rotate_left; (intro w'; go_simp; with_reducible rfl); rotate_left; (simp only [Act.put,qa,qb,qc,i64_w,i32_w]; rfl)
        refine pure_ (i := 1) (N := some 25) (v := ?_) (a' := ?_) #[Y,Y,O,O,O,O,O,O,O,O,O,O,O,O,O,O] rfl rfl zx (fun _ _ _ h => h) (Or.inl ⟨by rfl, ?_⟩) ?_ ?_
        rotate_left; (intro w'; go_simp; with_reducible rfl); rotate_left; (simp only [Act.put,qa,qb,qc,i64_w,i32_w]; rfl)
        refine pure_ (i := 3) (N := some 27) (v := ?_) (a' := ?_) #[Y,Y,O,Y,O,O,O,O,O,O,O,O,O,O,O,O] rfl rfl zx (fun _ _ _ h => h) (Or.inl ⟨by rfl, ?_⟩) ?_ ?_
        rotate_left; (intro w'; go_simp; with_reducible rfl); rotate_left; (simp only [Act.put,qa,qb,qc,i64_w,i32_w]; rfl)
        refine pure_ (i := 6) (N := some 30) (v := ?_) (a' := ?_) #[Y,Y,O,Y,O,O,Y,O,O,O,O,O,O,O,O,O] rfl rfl zx (fun _ _ _ h => h) (Or.inl ⟨by rfl, ?_⟩) ?_ ?_
        rotate_left; (intro w'; go_simp; with_reducible rfl); rotate_left; (simp only [Act.put,qa,qb,qc,i64_w,i32_w]; rfl)
        refine pure_ (i := 9) (N := some 33) (v := ?_) (a' := ?_) #[Y,Y,O,Y,O,O,Y,O,O,Y,O,O,O,O,O,O] rfl rfl zx (fun _ _ _ h => h) (Or.inl ⟨by rfl, ?_⟩) ?_ ?_
        rotate_left; (intro w'; go_simp; with_reducible rfl); rotate_left; (simp only [Act.put,qa,qb,qc,i64_w,i32_w]; rfl)
        refine take_ (i := 2) (N := some 26) (v := ?_) (a' := ?_) #[Y,Y,Y,Y,O,O,Y,O,O,Y,O,O,O,O,O,O] rfl rfl (take_ofW HT_.out HW_.out (by kernel_rfl)) (fun _ _ _ h => h) (Or.inl ⟨by rfl, ?_⟩) hHeld ?_ ?_
        rotate_left; (rintro w' ⟨s0, s1, s2, s3, s4, s5⟩; go_simp; with_reducible rfl); rotate_left; (simp only [Act.put,qa,qb,qc,i64_w,i32_w]; rfl)
        refine take_ (i := 4) (N := some 28) (v := ?_) (a' := ?_) #[Y,Y,Y,Y,Y,O,Y,O,O,Y,O,O,O,O,O,O] rfl rfl (take_ofW HT_.out HW_.out (by kernel_rfl)) (fun _ _ _ h => h) (Or.inl ⟨by rfl, ?_⟩) hHeld ?_ ?_
        rotate_left; (rintro w' ⟨s0, s1, s2, s3, s4, s5⟩; go_simp; with_reducible rfl); rotate_left; (simp only [Act.put,qa,qb,qc,i64_w,i32_w]; rfl)
        refine take_ (i := 7) (N := some 31) (v := ?_) (a' := ?_) #[Y,Y,Y,Y,Y,O,Y,Y,O,Y,O,O,O,O,O,O] rfl rfl (take_ofW HT_.out HW_.out (by kernel_rfl)) (fun _ _ _ h => h) (Or.inl ⟨by rfl, ?_⟩) hHeld ?_ ?_
        rotate_left; (rintro w' ⟨s0, s1, s2, s3, s4, s5⟩; go_simp; with_reducible rfl); rotate_left; (simp only [Act.put,qa,qb,qc,i64_w,i32_w]; rfl)
        refine pure_ (i := 8) (N := some 32) (v := ?_) (a' := ?_) #[Y,Y,Y,Y,Y,O,Y,Y,Y,Y,O,O,O,O,O,O] rfl rfl zx (fun _ _ _ h => h) (Or.inl ⟨by rfl, ?_⟩) ?_ ?_
        rotate_left; (intro w'; go_simp; with_reducible rfl); rotate_left; (simp only [Act.put,qa,qb,qc,i64_w,i32_w]; rfl)
        refine take_ (i := 10) (N := some 34) (v := ?_) (a' := ?_) #[Y,Y,Y,Y,Y,O,Y,Y,Y,Y,Y,O,O,O,O,O] rfl rfl (take_ofW HT_.out HW_.out (by kernel_rfl)) (fun _ _ _ h => h) (Or.inl ⟨by rfl, ?_⟩) hHeld ?_ ?_
        rotate_left; (rintro w' ⟨s0, s1, s2, s3, s4, s5⟩; go_simp; with_reducible rfl); rotate_left; (simp only [Act.put,qa,qb,qc,i64_w,i32_w]; rfl)
        refine one_ (i := 5) (N := some 29) #[Y,Y,Y,Y,Y,Y,Y,Y,Y,Y,Y,O,O,O,O,O] rfl rfl (one_of HT_.out (by kernel_rfl)) (by decide) (fun K hK => ?_)
        refine goes_ Try.func170 (by kernel_rfl) rfl #[.int .i64 ((rd_T144 l1 x15_1).f0), .slice A1213_2 ((rd_T144 l1 x15_1).f2).length c1213_2] (by rfl) rfl rfl zm ?_
        with_reducible refine (spec_l5Base.calls ((rd_T144 l1 x15_1).f0) _ _ ((rd_T144 l1 x15_1).f2) t1215 _ ?side1 ?side2 A9.out).mono ?_
        (case side1 => exact zq (Kd.C_below HR1213_2.out HB.out))
        (case side2 => exact HC1213_2.out)
        rintro e w' ⟨rfl, ⟨nd, rfl⟩⟩
        refine ⟨_, rfl, ?_⟩
        refine hK.out _ _ ⟨(blk_cell BK1214.out 0).trans rfl, (blk_cell BK1214.out 1).trans rfl, (blk_cell BK1214.out 2).trans rfl, (blk_cell BK1214.out 3).trans rfl, (blk_cell BK1214.out 4).trans rfl, (blk_cell BK1214.out 5).trans rfl⟩ (fun hHeld => ?_)
        clear hK K
        refine norm_ (a' := ?_) ?_ ?_
        rotate_left
        ·show Act.put _ (some 29) _ = _
         simp only [Act.put,qa,qb,qc,i64_w,i32_w]
         rfl
        refine one_ (i := 11) (N := some 35) #[Y,Y,Y,Y,Y,Y,Y,Y,Y,Y,Y,Y,O,O,O,O] rfl rfl (one_of HT_.out (by kernel_rfl)) (by decide) (fun K hK => ?_)
        refine goes_ Try.func155 (by kernel_rfl) rfl #[.slice A1213_5 ((rd_T144 l1 x15_1).f5).length c1213_5] (by rfl) rfl rfl zm ?_
        with_reducible refine (spec_l1OwnT.calls _ _ ((rd_T144 l1 x15_1).f5) t1216 _ ?side1 ?side2 A10.out).mono ?_
        (case side1 => repeat (first | exact (Kd.C_below HR1213_5.out (by repeat (first | (with_reducible first | exact HB.out | apply below_alloc | apply pw_below_drewN | apply below_drew1 | refine below_set ?_ GE1214.out) | exact HB.out))) | (with_reducible refine Kd.C_alloc ?_ _) | (with_reducible refine Kd.C_drewN ?_ _) | (with_reducible refine Kd.C_drew ?_)))
        (case side2 => exact HC1213_5.out)
        rintro e w16 ⟨v1217, rfl, ho0, hb⟩
        refine ⟨_, rfl, ?_⟩
        have n0_ := Aside0.mk (Kd.S_elder' (zs HO_6.out) (Kd.R_base ho0) hb)
        have n1_ := Aside0.mk (Kd.R_lower ho0 (below_size (by repeat (first | (with_reducible first | exact HB.out | apply below_alloc | apply pw_below_drewN | apply below_drew1 | refine below_set ?_ GE1214.out) | exact HB.out))))
        have n2_ := Aside0.mk (blk_below (g := gb1214) (o := .cells #[.int .i64 ((rd_T144 l1 x15_1).f0), .int .i64 ((rd_T144 l1 x15_1).f1), .slice A1213_2 ((rd_T144 l1 x15_1).f2).length c1213_2, .int .i64 ((rd_T144 l1 x15_1).f3), .int .i64 ((rd_T144 l1 x15_1).f4), .slice A1213_5 ((rd_T144 l1 x15_1).f5).length c1213_5] 144 (0, 0)) (zk BK1214.out) hb)
        have n3_ := Aside0.mk (below_step (by repeat (first | (with_reducible first | exact HB.out | apply below_alloc | apply pw_below_drewN | apply below_drew1 | refine below_set ?_ GE1214.out) | exact HB.out)) hb)
        clear HO_6
        clear BK1214
        clear HB
        have HO_6 := n0_
        have HO1218 := n1_
        have BK1214 := n2_
        have HB := n3_
        clear n0_ n1_ n2_ n3_
        (try clear hb)
        (try clear hb2)
        (try clear hk)
        (try clear hi)
        (try clear ho0)
        obtain ⟨Ao17, co17, eo17⟩ := Kd.R_slice HO1218.out
        (first | subst eo17 | (injection eo17 with f1_ f2_ f3_; have f4_ := f1_.symm; have f5_ := f3_.symm; clear f1_ f2_ f3_; subst f4_; subst f5_))
        refine hK.out _ _ ⟨(blk_cell BK1214.out 0).trans rfl, (blk_cell BK1214.out 1).trans rfl, (blk_cell BK1214.out 2).trans rfl, (blk_cell BK1214.out 3).trans rfl, (blk_cell BK1214.out 4).trans rfl, (blk_cell BK1214.out 5).trans rfl⟩ (fun hHeld => ?_)
        clear hK K
        refine norm_ (a' := ?_) ?_ ?_
        rotate_left
        ·show Act.put _ (some 35) _ = _
         simp only [Act.put,qa,qb,qc,i64_w,i32_w]
         rfl
        refine pure_ (i := 12) (N := some 36) (v := ?_) (a' := ?_) #[Y,Y,Y,Y,Y,Y,Y,Y,Y,Y,Y,Y,Y,O,O,O] rfl rfl zx (fun _ _ _ h => h) (Or.inl ⟨by rfl, ?_⟩) ?_ ?_
        rotate_left; (intro w'; go_simp; with_reducible rfl); rotate_left; (simp only [Act.put,qa,qb,qc,i64_w,i32_w]; rfl)
        refine one_ (i := 13) (N := some 37) #[Y,Y,Y,Y,Y,Y,Y,Y,Y,Y,Y,Y,Y,Y,O,O] rfl rfl (one_of HT_.out (by kernel_rfl)) (by decide) (fun K hK => ?_)
        refine value_ (w1 := ?_) (v := ?_) (by rfl) rfl ?_ ?_
        rotate_left 2
        ·go_simp
         constructor
         ·rfl
         ·rfl
        refine hK.out _ _ ⟨(blk_cell (blk_alloc BK1214.out _) 0).trans rfl, (blk_cell (blk_alloc BK1214.out _) 1).trans rfl, (blk_cell (blk_alloc BK1214.out _) 2).trans rfl, (blk_cell (blk_alloc BK1214.out _) 3).trans rfl, (blk_cell (blk_alloc BK1214.out _) 4).trans rfl, (blk_cell (blk_alloc BK1214.out _) 5).trans rfl⟩ (fun hHeld => ?_)
        clear hK K
        refine norm_ (a' := ?_) ?_ ?_
        rotate_left
        ·show Act.put _ (some 37) _ = _
         simp only [Act.put,qa,qb,qc,i64_w,i32_w]
         rfl
        refine one_ (i := 14) (N := some 38) #[Y,Y,Y,Y,Y,Y,Y,Y,Y,Y,Y,Y,Y,Y,Y,O] rfl rfl (one_of HT_.out (by kernel_rfl)) (by decide) (fun K hK => ?_)
        refine Kd.S_append_step k111 (w0 := w) w.heap.size (by rfl) (.tmp 24) (.tmp 37) 39 111 (.agg #[(.int .i64 0), (.int .i64 0), (.slice none 0 0)]) 40 rfl Try.underlying39 info111 rfl (by decide) (by omega) u6 x6_1 (⟨t1215, (((rd_T144 l1 x15_1).f2).length : Int), t1216⟩ : S111) [.int .i64 t1215, .int .i64 (((rd_T144 l1 x15_1).f2).length : Int), .slice Ao17 t1216.length co17] (fun _ => True) (fun k_ => some k_ = (.slice Ao17 t1216.length co17 : Value).ownBlock) rfl rfl ?aP (fun k_ hk_ => ((Kd.R_mono (ok' := fun k_ => ((fun _ => True)) k_ ∧ some k_ ≠ (u6 : Value).ownBlock) (Kd.R_apart' (HO1218.out) (Kd.S_typed HO_6.out) (by decide)) (fun k_ hk => ⟨trivial, hk.2⟩))).1 k_ hk_.symm) ?aF ?aO ?aB ?aS ?aL ?_
        (case aP => exact k111_mkM _ _ _ (⟨t1215, (((rd_T144 l1 x15_1).f2).length : Int), t1216⟩ : S111) (Kd.R_mono (Kd.R_tight rfl (Kd.R_mono (ok' := fun k_ => ((fun _ => True)) k_ ∧ some k_ ≠ (u6 : Value).ownBlock) (Kd.R_apart' (HO1218.out) (Kd.S_typed HO_6.out) (by decide)) (fun k_ hk => ⟨trivial, hk.2⟩))) (fun _ h_ => h_)))
        (case aB => exact (by repeat (first | (with_reducible first | exact HB.out | apply below_alloc | apply pw_below_drewN | apply below_drew1 | refine below_set ?_ GE1214.out) | exact HB.out)))
        (case aF => exact (fun _ _ => trivial))
        (case aO => exact (by (with_reducible repeat (first | apply Kd.S_alloc | apply Kd.S_drewN | apply Kd.S_drew)); exact Kd.S_mono HO_6.out (fun k_ hk => ⟨trivial, fun e_ => hk.2 e_⟩)))
        (case aS => exact (below_size (by repeat (first | (with_reducible first | exact HB.out | apply below_alloc | apply pw_below_drewN | apply below_drew1 | refine below_set ?_ GE1214.out) | exact HB.out))))
        (case aL => have := LMc11.out; omega)
        intro v1220 w18 ho hb hg hat
        rw [← Ny1219.out] at ho
        have n0_ := Aside0.mk (blk_grown (g := gb1214) (o := .cells #[.int .i64 ((rd_T144 l1 x15_1).f0), .int .i64 ((rd_T144 l1 x15_1).f1), .slice A1213_2 ((rd_T144 l1 x15_1).f2).length c1213_2, .int .i64 ((rd_T144 l1 x15_1).f3), .int .i64 ((rd_T144 l1 x15_1).f4), .slice A1213_5 ((rd_T144 l1 x15_1).f5).length c1213_5] 144 (0, 0)) (zk BK1214.out) hg (Kd.S_ne HO_6.out BK1214.out (by decide)))
        have n1_ := Aside0.mk (hb)
        have n2_ := Aside0.mk (ho)
        clear BK1214
        clear HB
        clear HO_6
        clear HO1218
        have BK1214 := n0_
        have HB := n1_
        have HO1221 := n2_
        clear n0_ n1_ n2_
        clear ho hb hg hat
        refine hK.out _ _ ⟨(blk_cell BK1214.out 0).trans rfl, (blk_cell BK1214.out 1).trans rfl, (blk_cell BK1214.out 2).trans rfl, (blk_cell BK1214.out 3).trans rfl, (blk_cell BK1214.out 4).trans rfl, (blk_cell BK1214.out 5).trans rfl⟩ (fun hHeld => ?_)
        clear hK K
        refine norm_ (a' := ?_) ?_ ?_
        rotate_left
        ·show Act.put _ (some 38) _ = _
         simp only [Act.put,qa,qb,qc,i64_w,i32_w]
         rfl
        refine pure_ (i := 15) (N := some 6) (v := ?_) (a' := ?_) #[Y,Y,Y,Y,Y,Y,Y,Y,Y,Y,Y,Y,Y,Y,Y,Y] rfl rfl zx (fun _ _ _ h => h) (Or.inl ⟨by rfl, ?_⟩) ?_ ?_
        rotate_left; (intro w'; go_simp; with_reducible rfl); rotate_left; (simp only [Act.put,qa,qb,qc,i64_w,i32_w]; rfl)
        refine done_ (done_of HT_.out (by kernel_rfl)) ?_
        try go_wp2
        go_roundg k1
        case measure => have := HK1.out; omega
        case rel => exact ⟨(y1219), (wrap64 (x15_1 + 1)), zf, H', ⟨by have := HK1.out; omega⟩, ⟨by (with_reducible repeat (first | apply Kd.S_alloc | apply Kd.S_drewN | apply Kd.S_drew)); exact HO1221.out⟩, ⟨by repeat (first | (with_reducible first | exact HB.out | apply below_alloc | apply pw_below_drewN | apply below_drew1 | refine below_set ?_ GE1214.out) | exact HB.out)⟩⟩
       ·rw [if_neg c11] at H
        exact absurd H (by simp)
     ·rw [if_neg c5] at H
      exact absurd H (by simp)
    ·rw [if_neg c4] at H
     exact absurd H (by simp)
   ·rw [if_neg c3] at H
    have c3b0 : decide (x15_1 < (l1.length : Int)) = false := decide_eq_false c3
    clear c3
    replace H := Option.bind_eq_some_iff.mp H
    obtain ⟨t1222, A190, H⟩ := H
    replace H : (if t1222 = true then (spec_l5Hunks.l1 k1 l0 x6_1 0 l1 (l1.length : Int) 0) else (some (([] : List (S111)), 3))) = some (r1, r2) := H
    have A19 := Aside0.mk A190
    clear A190
    by_cases c20 : t1222 = true
    ·subst c20
     have H1 : (spec_l5Hunks.l1 k1 l0 x6_1 0 l1 (l1.length : Int) 0) = some (r1, r2) := by rw [if_pos rfl] at H; exact H
     clear H
     have H := H1
     clear H1
     have H' := Aside0.mk H
     clear H
     obtain ⟨Ao21, co21, eo21⟩ := Kd.S_slice HO_6.out
     subst eo21
     go_wp2_with (first | ((with_reducible refine gateC (f := 92) rfl ?_); refine goesL_ (some 43) rfl rfl Try.func92 (by kernel_rfl) rfl #[.int .i64 (l0.length : Int), .slice Ao21 x6_1.length co21] rfl zm ?_; (with_reducible refine (spec_l2Hunks.calls k1 (l0.length : Int) _ _ x6_1 true _ ?side1 ?side2 A19.out).mono ?_); (case side1 => repeat (first | exact (Kd.S_reads' HO_6.out).2.2 | (with_reducible refine Kd.C_alloc ?_ _) | (with_reducible refine Kd.C_drewN ?_ _) | (with_reducible refine Kd.C_drew ?_))); (case side2 => exact (Kd.S_reads' HO_6.out).2.1); rintro e w22 ⟨rfl, hb⟩; refine ⟨_, rfl, ?_⟩; have n0_ := Aside0.mk (Kd.S_below (zs HO_6.out) hb); have n1_ := Aside0.mk (below_step zb hb); clear HO_6; clear HB; have HO_6 := n0_; have HB := n1_; clear n0_ n1_; (try clear hb); (try clear hb2); (try clear hk); (try clear hi)))
     go_loopg [9, 47] k1 (fun kq v9 v47 w' => ∃ (x9_2 : Int) (x47_2 : Int), v9 = .int .i64 x9_2 ∧ v47 = .int .i64 x47_2 ∧ Aside0 (spec_l5Hunks.l1 kq l0 x6_1 x9_2 l1 (l1.length : Int) x47_2 = some (r1, r2)) ∧ Aside0 (kq ≤ k1) ∧ Aside0 (Kd.S k111 111 w' w.heap.size (fun _ => True) (.slice Ao21 x6_1.length co21) x6_1) ∧ Aside0 (Below w.heap.size w w'))
     case atStart => exact ⟨(0), (0), zf, zf, H', ⟨Nat.le_refl _⟩, ⟨by (with_reducible repeat (first | apply Kd.S_alloc | apply Kd.S_drewN | apply Kd.S_drew)); exact HO_6.out⟩, ⟨by repeat (first | (with_reducible first | exact HB.out | apply below_alloc | apply pw_below_drewN | apply below_drew1) | exact HB.out)⟩⟩
     case round =>
      clear H'
      try clear c1
      try clear p1
      try clear q1
      try clear hx1
      try clear c2
      try clear p2
      try clear c3
      try clear c3b0
      try clear c4
      try clear c4b0
      try clear c5
      try clear c5b0
      try clear c6
      try clear c6b0
      try clear p6
      try clear c9
      try clear c11
      try clear c12
      try clear p12
      try clear q12
      try clear hx12
      try clear c15
      try clear c17
      try clear c20
      try clear hcz13_0
      try clear hcz13_1
      try clear hcz13_2
      try clear hcz13_3
      try clear hcz13_4
      try clear hcz13_5
      try clear hcz8_0
      try clear hcz8_1
      try clear hcz8_2
      try clear hcz8_3
      try clear hcz8_4
      try clear hcz8_5
      try clear hfz13_0
      try clear hfz13_1
      try clear hfz13_2
      try clear hfz13_3
      try clear hfz13_4
      try clear hfz13_5
      try clear hfz8_0
      try clear hfz8_1
      try clear hfz8_2
      try clear hfz8_3
      try clear hfz8_4
      try clear hfz8_5
      try clear hx1213_0
      try clear hx1213_1
      try clear hx1213_2
      try clear hx1213_3
      try clear hx1213_4
      try clear hx1213_5
      try clear p1213
      try clear p2
      try clear q1213
      obtain ⟨x9_2, x47_2, rfl, rfl, HA, HK2, HO_6, HB⟩ := hrel
      cases gk with
      | zero => exact absurd HA.out (by simp [spec_l5Hunks.l1])
      | succ k2 =>
       have H := HA.out
       clear HA
       simp only [spec_l5Hunks.l1] at H
       by_cases c23 : x47_2 < (l1.length : Int)
       ·rw [if_pos c23] at H
        have c23b0 : decide (x47_2 < (l1.length : Int)) = true := decide_eq_true c23
        clear c23
        by_cases c24 : 0 ≤ x47_2
        ·rw [if_pos c24] at H
         have c24b0 : decide (0 ≤ x47_2) = true := decide_eq_true c24
         clear c24
         by_cases c25 : x47_2 < (l1.length : Int)
         ·rw [if_pos c25] at H
          have c25b0 : decide (x47_2 < (l1.length : Int)) = true := decide_eq_true c25
          clear c25
          by_cases c26 : x47_2 < (x6_1.length : Int)
          ·rw [if_pos c26] at H
           have c26b0 : decide (x47_2 < (x6_1.length : Int)) = true := decide_eq_true c26
           clear c26
           by_cases c27 : 0 ≤ ((rd_T111 x6_1 x47_2).f0)
           ·rw [if_pos c27] at H
            have c27b0 := eq_true c27
            have c27b1 : decide (0 ≤ ((rd_T111 x6_1 x47_2).f0)) = true := decide_eq_true c27
            clear c27
            by_cases c28 : ((rd_T111 x6_1 x47_2).f0) ≤ (wrap64 (((rd_T111 x6_1 x47_2).f0) + ((rd_T111 x6_1 x47_2).f1)))
            ·rw [if_pos c28] at H
             have c28b0 := eq_true c28
             have c28b1 : decide (((rd_T111 x6_1 x47_2).f0) ≤ (wrap64 (((rd_T111 x6_1 x47_2).f0) + ((rd_T111 x6_1 x47_2).f1)))) = true := decide_eq_true c28
             by_cases c29 : (wrap64 (((rd_T111 x6_1 x47_2).f0) + ((rd_T111 x6_1 x47_2).f1))) ≤ (l0.length : Int)
             ·rw [if_pos c29] at H
              have c29b0 := eq_true c29
              have c29b1 : decide ((wrap64 (((rd_T111 x6_1 x47_2).f0) + ((rd_T111 x6_1 x47_2).f1))) ≤ (l0.length : Int)) = true := decide_eq_true c29
              replace H := Option.bind_eq_some_iff.mp H
              obtain ⟨t1228, A300, H⟩ := H
              replace H : (if t1228 = true then ((spec_l5Base.f ((rd_T144 l1 x47_2).f3) ((rd_T144 l1 x47_2).f5)).bind fun t1229 => (if t1229 = (wrap64 (((rd_T111 x6_1 x47_2).f0) + x9_2)) then (spec_l5Hunks.l1 k2 l0 x6_1 (wrap64 (x9_2 + (wrap64 ((((rd_T144 l1 x47_2).f5).length : Int) - ((rd_T111 x6_1 x47_2).f1))))) l1 (l1.length : Int) (wrap64 (x47_2 + 1))) else (some (([] : List (S111)), 2)))) else (some (([] : List (S111)), 2))) = some (r1, r2) := H
              have A30 := Aside0.mk A300
              clear A300
              by_cases c31 : t1228 = true
              ·subst c31
               have H1 : ((spec_l5Base.f ((rd_T144 l1 x47_2).f3) ((rd_T144 l1 x47_2).f5)).bind fun t1229 => (if t1229 = (wrap64 (((rd_T111 x6_1 x47_2).f0) + x9_2)) then (spec_l5Hunks.l1 k2 l0 x6_1 (wrap64 (x9_2 + (wrap64 ((((rd_T144 l1 x47_2).f5).length : Int) - ((rd_T111 x6_1 x47_2).f1))))) l1 (l1.length : Int) (wrap64 (x47_2 + 1))) else (some (([] : List (S111)), 2)))) = some (r1, r2) := by rw [if_pos rfl] at H; exact H
               clear H
               have H := H1
               clear H1
               replace H := Option.bind_eq_some_iff.mp H
               obtain ⟨t1229, A320, H⟩ := H
               replace H : (if t1229 = (wrap64 (((rd_T111 x6_1 x47_2).f0) + x9_2)) then (spec_l5Hunks.l1 k2 l0 x6_1 (wrap64 (x9_2 + (wrap64 ((((rd_T144 l1 x47_2).f5).length : Int) - ((rd_T111 x6_1 x47_2).f1))))) l1 (l1.length : Int) (wrap64 (x47_2 + 1))) else (some (([] : List (S111)), 2))) = some (r1, r2) := H
               have A32 := Aside0.mk A320
               clear A320
               by_cases c33 : t1229 = (wrap64 (((rd_T111 x6_1 x47_2).f0) + x9_2))
               ·rw [if_pos c33] at H
                have c33b0 : (t1229 == (wrap64 (((rd_T111 x6_1 x47_2).f0) + x9_2))) = true := beq_iff_eq.mpr c33
                have c33b1 : (t1229 != (wrap64 (((rd_T111 x6_1 x47_2).f0) + x9_2))) = false := bne_eq_false_iff_eq.mpr c33
                clear c33
                have H' := Aside0.mk H
                clear H
                have p1223 : 0 ≤ (x47_2 : Int) := oa
                have q1223 : x47_2 < (l1.length : Int) := oa
                obtain ⟨ad1223, A1223_2, c1223_2, A1223_5, c1223_5, e1223, hx1223_0, hx1223_1, hx1223_2, hx1223_3, hx1223_4, hx1223_5, hl1223_2, hi1223_2, hl1223_5, hi1223_5⟩ := at_T144 HR1.out x47_2 p1223 q1223
                cases e1223
                replace hx1223_0 := (HB.out.cell (World.block_lt_of_cell? w _ hx1223_0)).trans hx1223_0
                replace hx1223_1 := (HB.out.cell (World.block_lt_of_cell? w _ hx1223_1)).trans hx1223_1
                replace hx1223_2 := (HB.out.cell (World.block_lt_of_cell? w _ hx1223_2)).trans hx1223_2
                replace hx1223_3 := (HB.out.cell (World.block_lt_of_cell? w _ hx1223_3)).trans hx1223_3
                replace hx1223_4 := (HB.out.cell (World.block_lt_of_cell? w _ hx1223_4)).trans hx1223_4
                replace hx1223_5 := (HB.out.cell (World.block_lt_of_cell? w _ hx1223_5)).trans hx1223_5
                have HR1223_2 := Aside0.mk hi1223_2
                have HC1223_2 := Aside0.mk hl1223_2
                clear hi1223_2 hl1223_2
                have HR1223_5 := Aside0.mk hi1223_5
                have HC1223_5 := Aside0.mk hl1223_5
                clear hi1223_5 hl1223_5
                replace p1223 := eq_true p1223
                replace q1223 := eq_true q1223
                try go_wp2_with (first | ((with_reducible refine gate_dst (N := 11) rfl ?_); refine box_event ?hg (N := 11) ?hd (cs := #[.int .i64 0, .int .i64 0, .slice none 0 0, .int .i64 0, .int .i64 0, .slice none 0 0]) (t := 144) ?hr ?_; (case hd => rfl); (case hg => rfl); (case hr => first | (go_simp; done) | (go_simp; rfl)); intro gb1224 hg w34 hbox hb; have n0_ := Aside0.mk (Kd.S_below (zs HO_6.out) hb); have n1_ := Aside0.mk (below_step zb hb); have n2_ := Aside0.mk (hbox); have n3_ := Aside0.mk ((by rw [hg]; exact (below_size zb) : w.heap.size ≤ gb1224)); have n4_ := Aside0.mk ((by rw [hg]; exact (below_size zb) : w.heap.size ≤ gb1224)); clear HO_6; clear HB; have HO_6 := n0_; have HB := n1_; have BK1224 := n2_; have GW1224 := n3_; have GE1224 := n4_; clear n0_ n1_ n2_ n3_ n4_; clear hb hbox hg; have hcz35_0 : w34.cell? ⟨gb1224, 0, none⟩ = some (.int .i64 0) := (blk_cell BK1224.out 0).trans rfl; have hcz35_1 : w34.cell? ⟨gb1224, 1, none⟩ = some (.int .i64 0) := (blk_cell BK1224.out 1).trans rfl; have hcz35_2 : w34.cell? ⟨gb1224, 2, none⟩ = some (.slice none 0 0) := (blk_cell BK1224.out 2).trans rfl; have hcz35_3 : w34.cell? ⟨gb1224, 3, none⟩ = some (.int .i64 0) := (blk_cell BK1224.out 3).trans rfl; have hcz35_4 : w34.cell? ⟨gb1224, 4, none⟩ = some (.int .i64 0) := (blk_cell BK1224.out 4).trans rfl; have hcz35_5 : w34.cell? ⟨gb1224, 5, none⟩ = some (.slice none 0 0) := (blk_cell BK1224.out 5).trans rfl; have hfz35_0 := blk_frozen BK1224.out 0; have hfz35_1 := blk_frozen BK1224.out 1; have hfz35_2 := blk_frozen BK1224.out 2; have hfz35_3 := blk_frozen BK1224.out 3; have hfz35_4 := blk_frozen BK1224.out 4; have hfz35_5 := blk_frozen BK1224.out 5) | ((with_reducible refine gate_store (t := 144) (p := 11) rfl ?_); refine store_event (t := 144) (p := 11) (v := ?vo_w36) (w1 := ((((((w34.setCell ⟨gb1224, 0, none⟩ (.int .i64 ((rd_T144 l1 x47_2).f0))).setCell ⟨gb1224, 1, none⟩ (.int .i64 ((rd_T144 l1 x47_2).f1))).setCell ⟨gb1224, 2, none⟩ (.slice A1223_2 ((rd_T144 l1 x47_2).f2).length c1223_2)).setCell ⟨gb1224, 3, none⟩ (.int .i64 ((rd_T144 l1 x47_2).f3))).setCell ⟨gb1224, 4, none⟩ (.int .i64 ((rd_T144 l1 x47_2).f4))).setCell ⟨gb1224, 5, none⟩ (.slice A1223_5 ((rd_T144 l1 x47_2).f5).length c1223_5))) ?hg ?ho ?hn ?hr ?_; (case ho => rfl); (case hg => rfl); (case hn => rfl); (case hr => first | (go_simp; done) | (go_simp; rfl)); intro w36 hw; have n0_ : Aside0 (Kd.S k111 111 w36 w.heap.size (fun _ => True) (.slice Ao21 x6_1.length co21) x6_1) := ⟨(by rw [hw]; exact (by (with_reducible repeat (first | apply Kd.S_alloc | apply Kd.S_drewN | apply Kd.S_drew)); exact Kd.S_mono (Kd.S_far (p := ⟨gb1224, 5, none⟩) (Kd.S_far (p := ⟨gb1224, 4, none⟩) (Kd.S_far (p := ⟨gb1224, 3, none⟩) (Kd.S_far (p := ⟨gb1224, 2, none⟩) (Kd.S_far (p := ⟨gb1224, 1, none⟩) (Kd.S_far (p := ⟨gb1224, 0, none⟩) (Kd.S_types HO_6.out BK1224.out (by decide)) (fun _ hk => hk.2) (.int .i64 ((rd_T144 l1 x47_2).f0))) (fun _ hk => hk.2) (.int .i64 ((rd_T144 l1 x47_2).f1))) (fun _ hk => hk.2) (.slice A1223_2 ((rd_T144 l1 x47_2).f2).length c1223_2)) (fun _ hk => hk.2) (.int .i64 ((rd_T144 l1 x47_2).f3))) (fun _ hk => hk.2) (.int .i64 ((rd_T144 l1 x47_2).f4))) (fun _ hk => hk.2) (.slice A1223_5 ((rd_T144 l1 x47_2).f5).length c1223_5)) (fun _ hk => trivial)))⟩; have n1_ : Aside0 (w36.heap[gb1224]? = some (.cells #[.int .i64 ((rd_T144 l1 x47_2).f0), .int .i64 ((rd_T144 l1 x47_2).f1), .slice A1223_2 ((rd_T144 l1 x47_2).f2).length c1223_2, .int .i64 ((rd_T144 l1 x47_2).f3), .int .i64 ((rd_T144 l1 x47_2).f4), .slice A1223_5 ((rd_T144 l1 x47_2).f5).length c1223_5] 144 (0, 0))) := ⟨(by rw [hw]; exact (by (with_reducible repeat (first | refine blk_drewN ?_ _ | refine blk_drew ?_ | refine blk_alloc ?_ _)); refine blk_put (cs := #[.int .i64 ((rd_T144 l1 x47_2).f0), .int .i64 ((rd_T144 l1 x47_2).f1), .slice A1223_2 ((rd_T144 l1 x47_2).f2).length c1223_2, .int .i64 ((rd_T144 l1 x47_2).f3), .int .i64 ((rd_T144 l1 x47_2).f4), .slice none 0 0]) ?_ 5 _ rfl; (with_reducible repeat (first | refine blk_drewN ?_ _ | refine blk_drew ?_ | refine blk_alloc ?_ _)); refine blk_put (cs := #[.int .i64 ((rd_T144 l1 x47_2).f0), .int .i64 ((rd_T144 l1 x47_2).f1), .slice A1223_2 ((rd_T144 l1 x47_2).f2).length c1223_2, .int .i64 ((rd_T144 l1 x47_2).f3), .int .i64 0, .slice none 0 0]) ?_ 4 _ rfl; (with_reducible repeat (first | refine blk_drewN ?_ _ | refine blk_drew ?_ | refine blk_alloc ?_ _)); refine blk_put (cs := #[.int .i64 ((rd_T144 l1 x47_2).f0), .int .i64 ((rd_T144 l1 x47_2).f1), .slice A1223_2 ((rd_T144 l1 x47_2).f2).length c1223_2, .int .i64 0, .int .i64 0, .slice none 0 0]) ?_ 3 _ rfl; (with_reducible repeat (first | refine blk_drewN ?_ _ | refine blk_drew ?_ | refine blk_alloc ?_ _)); refine blk_put (cs := #[.int .i64 ((rd_T144 l1 x47_2).f0), .int .i64 ((rd_T144 l1 x47_2).f1), .slice none 0 0, .int .i64 0, .int .i64 0, .slice none 0 0]) ?_ 2 _ rfl; (with_reducible repeat (first | refine blk_drewN ?_ _ | refine blk_drew ?_ | refine blk_alloc ?_ _)); refine blk_put (cs := #[.int .i64 ((rd_T144 l1 x47_2).f0), .int .i64 0, .slice none 0 0, .int .i64 0, .int .i64 0, .slice none 0 0]) ?_ 1 _ rfl; (with_reducible repeat (first | refine blk_drewN ?_ _ | refine blk_drew ?_ | refine blk_alloc ?_ _)); refine blk_put (cs := #[.int .i64 0, .int .i64 0, .slice none 0 0, .int .i64 0, .int .i64 0, .slice none 0 0]) ?_ 0 _ rfl; (with_reducible repeat (first | refine blk_drewN ?_ _ | refine blk_drew ?_ | refine blk_alloc ?_ _)); exact BK1224.out))⟩; have n2_ : Aside0 (Below w.heap.size w w36) := ⟨(by rw [hw]; exact (by repeat (first | (with_reducible first | exact HB.out | apply below_alloc | apply pw_below_drewN | apply below_drew1 | refine below_set ?_ GE1224.out) | exact HB.out)))⟩; clear hw; clear HO_6; clear BK1224; clear HB; have HO_6 := n0_; have BK1224 := n1_; have HB := n2_; clear n0_ n1_ n2_; have p1225 : 0 ≤ (x47_2 : Int) := oa; have q1225 : x47_2 < (x6_1.length : Int) := oa; obtain ⟨ad1225, A1225_2, c1225_2, e1225, hx1225_0, hx1225_1, hx1225_2, hl1225_2, hi1225_2⟩ := at_T111 (Kd.S_reads' HO_6.out).2.2 x47_2 p1225 q1225; cases e1225; obtain ⟨ce1225, hce1225, hMe1225, hcc1225⟩ := Kd.S_get HO_6.out z111 x47_2 p1225 (by first | exact q1225 | exact oa | (have e_ := (Kd.S_reads' HO_6.out).1; omega)); obtain ⟨ve1225_2, rfl, ge1225_2⟩ := k111_openM hMe1225; have hv1225_2 := hcc1225 2 _ rfl; rw [add_field _ _ 2 (by omega)] at hv1225_2; replace hv1225_2 := Option.some.inj (hv1225_2.symm.trans hx1225_2); rw [hv1225_2] at ge1225_2; have HL1225_2 := Aside0.mk (show Kd.R Kd.string 9 _ _ _ _ ((rd_T111 x6_1 x47_2).f2) from ge1225_2); clear hv1225_2 ge1225_2; clear hcc1225 hce1225; have HR1225_2 := Aside0.mk hi1225_2; have HC1225_2 := Aside0.mk hl1225_2; clear hi1225_2 hl1225_2; replace p1225 := eq_true p1225; replace q1225 := eq_true q1225) | ((with_reducible refine gate_dst (N := 12) rfl ?_); refine box_event ?hg (N := 12) ?hd (cs := #[.int .i64 0, .int .i64 0, .slice none 0 0]) (t := 111) ?hr ?_; (case hd => rfl); (case hg => rfl); (case hr => first | (go_simp; done) | (go_simp; rfl)); intro gb1226 hg w37 hbox hb; have n0_ := Aside0.mk (Kd.S_below (Kd.S_elderB (zs HO_6.out) gb1226 (Nat.le_of_eq hg.symm)) hb); have n1_ := Aside0.mk (Kd.R_below (zr HL1225_2.out) hb); have n2_ := Aside0.mk (blk_below (g := gb1224) (o := .cells #[.int .i64 ((rd_T144 l1 x47_2).f0), .int .i64 ((rd_T144 l1 x47_2).f1), .slice A1223_2 ((rd_T144 l1 x47_2).f2).length c1223_2, .int .i64 ((rd_T144 l1 x47_2).f3), .int .i64 ((rd_T144 l1 x47_2).f4), .slice A1223_5 ((rd_T144 l1 x47_2).f5).length c1223_5] 144 (0, 0)) (zk BK1224.out) hb); have n3_ := Aside0.mk (Kd.C_below (by repeat (first | (with_reducible exact HR1225_2.out) | (with_reducible refine Kd.C_alloc ?_ _) | (with_reducible refine Kd.C_drewN ?_ _) | (with_reducible refine Kd.C_drew ?_) | exact HR1225_2.out)) hb); have n4_ := Aside0.mk (below_step (by repeat (first | (with_reducible first | exact HB.out | apply below_alloc | apply pw_below_drewN | apply below_drew1 | refine below_set ?_ GE1224.out) | exact HB.out)) hb); have n5_ := Aside0.mk (hbox); have n6_ := Aside0.mk ((by rw [hg]; exact (below_size (by repeat (first | (with_reducible first | exact HB.out | apply below_alloc | apply pw_below_drewN | apply below_drew1 | refine below_set ?_ GE1224.out) | exact HB.out))) : w.heap.size ≤ gb1226)); have n7_ := Aside0.mk ((by rw [hg]; exact (below_size (by repeat (first | (with_reducible first | exact HB.out | apply below_alloc | apply pw_below_drewN | apply below_drew1 | refine below_set ?_ GE1224.out) | exact HB.out))) : w.heap.size ≤ gb1226)); have n8_ := Aside0.mk ((by rw [hg]; exact Nat.ne_of_lt (blk_lt (g := gb1224) (o := .cells #[.int .i64 ((rd_T144 l1 x47_2).f0), .int .i64 ((rd_T144 l1 x47_2).f1), .slice A1223_2 ((rd_T144 l1 x47_2).f2).length c1223_2, .int .i64 ((rd_T144 l1 x47_2).f3), .int .i64 ((rd_T144 l1 x47_2).f4), .slice A1223_5 ((rd_T144 l1 x47_2).f5).length c1223_5] 144 (0, 0)) (zk BK1224.out)) : gb1224 ≠ gb1226)); have n9_ := Aside0.mk ((by rw [hg]; exact Nat.ne_of_gt (blk_lt (g := gb1224) (o := .cells #[.int .i64 ((rd_T144 l1 x47_2).f0), .int .i64 ((rd_T144 l1 x47_2).f1), .slice A1223_2 ((rd_T144 l1 x47_2).f2).length c1223_2, .int .i64 ((rd_T144 l1 x47_2).f3), .int .i64 ((rd_T144 l1 x47_2).f4), .slice A1223_5 ((rd_T144 l1 x47_2).f5).length c1223_5] 144 (0, 0)) (zk BK1224.out)) : gb1226 ≠ gb1224)); clear HO_6; clear HL1225_2; clear BK1224; clear HR1225_2; clear HB; have HO_6 := n0_; have HL1225_2 := n1_; have BK1224 := n2_; have HR1225_2 := n3_; have HB := n4_; have BK1226 := n5_; have GW1226 := n6_; have GE1226 := n7_; have NB1224_1226 := n8_; have NB1226_1224 := n9_; clear n0_ n1_ n2_ n3_ n4_ n5_ n6_ n7_ n8_ n9_; clear hb hbox hg; have hnb38 := NB1226_1224.out; have hnc38 := NB1224_1226.out; have hcz39_0 : w37.cell? ⟨gb1226, 0, none⟩ = some (.int .i64 0) := (blk_cell BK1226.out 0).trans rfl; have hcz39_1 : w37.cell? ⟨gb1226, 1, none⟩ = some (.int .i64 0) := (blk_cell BK1226.out 1).trans rfl; have hcz39_2 : w37.cell? ⟨gb1226, 2, none⟩ = some (.slice none 0 0) := (blk_cell BK1226.out 2).trans rfl; have hfz39_0 := blk_frozen BK1226.out 0; have hfz39_1 := blk_frozen BK1226.out 1; have hfz39_2 := blk_frozen BK1226.out 2))
                have n0_ : Aside0 (Kd.S k111 111 (((w37.setCell ⟨gb1226, 0, none⟩ (.int .i64 ((rd_T111 x6_1 x47_2).f0))).setCell ⟨gb1226, 1, none⟩ (.int .i64 ((rd_T111 x6_1 x47_2).f1))).setCell ⟨gb1226, 2, none⟩ (.slice A1225_2 ((rd_T111 x6_1 x47_2).f2).length c1225_2)) w.heap.size (fun k_ => k_ ≠ gb1226) (.slice (some ad1225) x6_1.length co21) x6_1) := ⟨by (with_reducible repeat (first | apply Kd.S_alloc | apply Kd.S_drewN | apply Kd.S_drew)); exact Kd.S_mono (Kd.S_far (p := ⟨gb1226, 2, none⟩) (Kd.S_far (p := ⟨gb1226, 1, none⟩) (Kd.S_far (p := ⟨gb1226, 0, none⟩) (Kd.S_mono HO_6.out (fun k_ hk => (⟨hk, hk.2⟩ : _ ∧ k_ ≠ gb1226))) (fun _ hk => hk.2) (.int .i64 ((rd_T111 x6_1 x47_2).f0))) (fun _ hk => hk.2) (.int .i64 ((rd_T111 x6_1 x47_2).f1))) (fun _ hk => hk.2) (.slice A1225_2 ((rd_T111 x6_1 x47_2).f2).length c1225_2)) (fun _ hk => hk.1.2)⟩
                have n1_ : Aside0 (Kd.R Kd.string 9 (((w37.setCell ⟨gb1226, 0, none⟩ (.int .i64 ((rd_T111 x6_1 x47_2).f0))).setCell ⟨gb1226, 1, none⟩ (.int .i64 ((rd_T111 x6_1 x47_2).f1))).setCell ⟨gb1226, 2, none⟩ (.slice A1225_2 ((rd_T111 x6_1 x47_2).f2).length c1225_2)) w.heap.size (fun k_ => some k_ ≠ (.slice (some ad1225) x6_1.length co21 : Value).ownBlock) (.slice A1225_2 ((rd_T111 x6_1 x47_2).f2).length c1225_2) ((rd_T111 x6_1 x47_2).f2)) := ⟨by (with_reducible repeat (first | apply Kd.R_alloc | apply Kd.R_drewN | apply Kd.R_drew)); exact Kd.R_mono (Kd.R_far (p := ⟨gb1226, 2, none⟩) (Kd.R_far (p := ⟨gb1226, 1, none⟩) (Kd.R_far (p := ⟨gb1226, 0, none⟩) (Kd.R_types HL1225_2.out BK1226.out (by decide)) (fun _ hk => hk.2) (.int .i64 ((rd_T111 x6_1 x47_2).f0))) (fun _ hk => hk.2) (.int .i64 ((rd_T111 x6_1 x47_2).f1))) (fun _ hk => hk.2) (.slice A1225_2 ((rd_T111 x6_1 x47_2).f2).length c1225_2)) (fun _ hk => hk.1.2)⟩
                have n2_ : Aside0 ((((w37.setCell ⟨gb1226, 0, none⟩ (.int .i64 ((rd_T111 x6_1 x47_2).f0))).setCell ⟨gb1226, 1, none⟩ (.int .i64 ((rd_T111 x6_1 x47_2).f1))).setCell ⟨gb1226, 2, none⟩ (.slice A1225_2 ((rd_T111 x6_1 x47_2).f2).length c1225_2)).heap[gb1224]? = some (.cells #[.int .i64 ((rd_T144 l1 x47_2).f0), .int .i64 ((rd_T144 l1 x47_2).f1), .slice A1223_2 ((rd_T144 l1 x47_2).f2).length c1223_2, .int .i64 ((rd_T144 l1 x47_2).f3), .int .i64 ((rd_T144 l1 x47_2).f4), .slice A1223_5 ((rd_T144 l1 x47_2).f5).length c1223_5] 144 (0, 0))) := ⟨by (with_reducible repeat (first | refine blk_drewN ?_ _ | refine blk_drew ?_ | refine blk_alloc ?_ _)); refine blk_far ?_ NB1224_1226.out _; (with_reducible repeat (first | refine blk_drewN ?_ _ | refine blk_drew ?_ | refine blk_alloc ?_ _)); refine blk_far ?_ NB1224_1226.out _; (with_reducible repeat (first | refine blk_drewN ?_ _ | refine blk_drew ?_ | refine blk_alloc ?_ _)); refine blk_far ?_ NB1224_1226.out _; (with_reducible repeat (first | refine blk_drewN ?_ _ | refine blk_drew ?_ | refine blk_alloc ?_ _)); exact BK1224.out⟩
                have n3_ : Aside0 ((((w37.setCell ⟨gb1226, 0, none⟩ (.int .i64 ((rd_T111 x6_1 x47_2).f0))).setCell ⟨gb1226, 1, none⟩ (.int .i64 ((rd_T111 x6_1 x47_2).f1))).setCell ⟨gb1226, 2, none⟩ (.slice A1225_2 ((rd_T111 x6_1 x47_2).f2).length c1225_2)).heap[gb1226]? = some (.cells #[.int .i64 ((rd_T111 x6_1 x47_2).f0), .int .i64 ((rd_T111 x6_1 x47_2).f1), .slice A1225_2 ((rd_T111 x6_1 x47_2).f2).length c1225_2] 111 (0, 0))) := ⟨by (with_reducible repeat (first | refine blk_drewN ?_ _ | refine blk_drew ?_ | refine blk_alloc ?_ _)); refine blk_put (cs := #[.int .i64 ((rd_T111 x6_1 x47_2).f0), .int .i64 ((rd_T111 x6_1 x47_2).f1), .slice none 0 0]) ?_ 2 _ rfl; (with_reducible repeat (first | refine blk_drewN ?_ _ | refine blk_drew ?_ | refine blk_alloc ?_ _)); refine blk_put (cs := #[.int .i64 ((rd_T111 x6_1 x47_2).f0), .int .i64 0, .slice none 0 0]) ?_ 1 _ rfl; (with_reducible repeat (first | refine blk_drewN ?_ _ | refine blk_drew ?_ | refine blk_alloc ?_ _)); refine blk_put (cs := #[.int .i64 0, .int .i64 0, .slice none 0 0]) ?_ 0 _ rfl; (with_reducible repeat (first | refine blk_drewN ?_ _ | refine blk_drew ?_ | refine blk_alloc ?_ _)); exact BK1226.out⟩
                have n4_ : Aside0 (Below w.heap.size w (((w37.setCell ⟨gb1226, 0, none⟩ (.int .i64 ((rd_T111 x6_1 x47_2).f0))).setCell ⟨gb1226, 1, none⟩ (.int .i64 ((rd_T111 x6_1 x47_2).f1))).setCell ⟨gb1226, 2, none⟩ (.slice A1225_2 ((rd_T111 x6_1 x47_2).f2).length c1225_2))) := ⟨by repeat (first | (with_reducible first | exact HB.out | apply below_alloc | apply pw_below_drewN | apply below_drew1 | refine below_set ?_ GE1224.out | refine below_set ?_ GE1226.out) | exact HB.out)⟩
                (try clear HO_6)
                (try clear HL1225_2)
                (try clear BK1224)
                (try clear BK1226)
                (try clear HB)
                (try simp only [show ∀ (w_ : World) (n_ : Nat) (p_ : Addr) (v_ : Value), (w_.drewN n_).setCell p_ v_ = (w_.setCell p_ v_).drewN n_ from fun _ _ _ _ => rfl])
                generalize (((w37.setCell ⟨gb1226, 0, none⟩ (.int .i64 ((rd_T111 x6_1 x47_2).f0))).setCell ⟨gb1226, 1, none⟩ (.int .i64 ((rd_T111 x6_1 x47_2).f1))).setCell ⟨gb1226, 2, none⟩ (.slice A1225_2 ((rd_T111 x6_1 x47_2).f2).length c1225_2)) = w40 at n0_ n1_ n2_ n3_ n4_ ⊢
                have HO_6 := n0_
                have HL1225_2 := n1_
                have BK1224 := n2_
                have BK1226 := n3_
                have HB := n4_
                clear n0_ n1_ n2_ n3_ n4_
                have n0_ := Aside0.mk (Kd.S_drew HO_6.out)
                have n1_ := Aside0.mk (Kd.R_drew HL1225_2.out)
                have n2_ := Aside0.mk (blk_drew BK1224.out)
                have n3_ := Aside0.mk (blk_drew BK1226.out)
                have n4_ := Aside0.mk (below_drew1 HB.out)
                clear HO_6
                clear HL1225_2
                clear BK1224
                clear BK1226
                clear HB
                have HO_6 := n0_
                have HL1225_2 := n1_
                have BK1224 := n2_
                have BK1226 := n3_
                have HB := n4_
                clear n0_ n1_ n2_ n3_ n4_
                obtain ⟨i042, hi042, _, hsz42, _⟩ := info_parts info9
                obtain ⟨A42, hcut42, hA42, hC42⟩ := print_mid_of (P := Try.prog) Value.string (⟨#[]⟩ : ByteArray) 22 9 .i64 .i64 Try.underlying22 hi042 hsz42 A0 c0 l0 ((rd_T111 x6_1 x47_2).f0) (wrap64 (((rd_T111 x6_1 x47_2).f0) + ((rd_T111 x6_1 x47_2).f1))) oa (by first | omega | exact oa) oa HC0.out
                have HR1227 := Aside0.mk (Kd.C_of_reads (h1 := fun _ => rfl) (hA42 _ (Kd.reads_of_C HR0.out)))
                have HC1227 := Aside0.mk hC42
                clear hA42 hC42 hi042 hsz42
                refine start_ (n := 25) (S := fun w' => w'.cell? ⟨gb1226, 0, none⟩ = some (.int .i64 ((rd_T111 x6_1 x47_2).f0)) ∧ w'.cell? ⟨gb1226, 1, none⟩ = some (.int .i64 ((rd_T111 x6_1 x47_2).f1)) ∧ w'.cell? ⟨gb1226, 2, none⟩ = some (.slice A1225_2 ((rd_T111 x6_1 x47_2).f2).length c1225_2) ∧ w'.cell? ⟨gb1224, 0, none⟩ = some (.int .i64 ((rd_T144 l1 x47_2).f0)) ∧ w'.cell? ⟨gb1224, 1, none⟩ = some (.int .i64 ((rd_T144 l1 x47_2).f1)) ∧ w'.cell? ⟨gb1224, 2, none⟩ = some (.slice A1223_2 ((rd_T144 l1 x47_2).f2).length c1223_2) ∧ w'.cell? ⟨gb1224, 3, none⟩ = some (.int .i64 ((rd_T144 l1 x47_2).f3)) ∧ w'.cell? ⟨gb1224, 4, none⟩ = some (.int .i64 ((rd_T144 l1 x47_2).f4)) ∧ w'.cell? ⟨gb1224, 5, none⟩ = some (.slice A1223_5 ((rd_T144 l1 x47_2).f5).length c1223_5)) (ds := []) #[O,O,O,O,O,O,O,O,O,O,O,O,O,O,O,O,O,O,O,O,O,O,O,O,O] (by kernel_rfl) rfl rfl ⟨(blk_cell BK1226.out 0).trans rfl, (blk_cell BK1226.out 1).trans rfl, (blk_cell BK1226.out 2).trans rfl, (blk_cell BK1224.out 0).trans rfl, (blk_cell BK1224.out 1).trans rfl, (blk_cell BK1224.out 2).trans rfl, (blk_cell BK1224.out 3).trans rfl, (blk_cell BK1224.out 4).trans rfl, (blk_cell BK1224.out 5).trans rfl⟩ (fun hHeld => ?_); refine with_tabW spec_l5Hunks.tab16 spec_l5Hunks.bits16 (fun HT_ HW_ => ?_)
                generalize w40.drew = w41 at HO_6 HL1225_2 BK1224 BK1226 HB HR1227 hHeld ⊢
                refine pure_ (i := 0) (N := some 56) (v := ?_) (a' := ?_) #[Y,O,O,O,O,O,O,O,O,O,O,O,O,O,O,O,O,O,O,O,O,O,O,O,O] rfl rfl zx (fun _ _ _ h => h) (Or.inl ⟨by rfl, ?_⟩) ?_ ?_
                rotate_left; (intro w'; go_simp; with_reducible rfl); rotate_left; (simp only [Act.put,qa,qb,qc,i64_w,i32_w]; rfl)
                refine pure_ (i := 1) (N := some 57) (v := ?_) (a' := ?_) #[Y,Y,O,O,O,O,O,O,O,O,O,O,O,O,O,O,O,O,O,O,O,O,O,O,O] rfl rfl zx (fun _ _ _ h => h) (Or.inl ⟨by rfl, ?_⟩) ?_ ?_
                rotate_left; (intro w'; go_simp; with_reducible rfl); rotate_left; (simp only [Act.put,qa,qb,qc,i64_w,i32_w]; rfl)
                refine pure_ (i := 3) (N := some 59) (v := ?_) (a' := ?_) #[Y,Y,O,Y,O,O,O,O,O,O,O,O,O,O,O,O,O,O,O,O,O,O,O,O,O] rfl rfl zx (fun _ _ _ h => h) (Or.inl ⟨by rfl, ?_⟩) ?_ ?_
                rotate_left; (intro w'; go_simp; with_reducible rfl); rotate_left; (simp only [Act.put,qa,qb,qc,i64_w,i32_w]; rfl)
                refine pure_ (i := 5) (N := some 61) (v := ?_) (a' := ?_) #[Y,Y,O,Y,O,Y,O,O,O,O,O,O,O,O,O,O,O,O,O,O,O,O,O,O,O] rfl rfl zx (fun _ _ _ h => h) (Or.inl ⟨by rfl, ?_⟩) ?_ ?_
                rotate_left; (intro w'; go_simp; with_reducible rfl); rotate_left; (simp only [Act.put,qa,qb,qc,i64_w,i32_w]; rfl)
                refine pure_ (i := 9) (N := some 65) (v := ?_) (a' := ?_) #[Y,Y,O,Y,O,Y,O,O,O,Y,O,O,O,O,O,O,O,O,O,O,O,O,O,O,O] rfl rfl zx (fun _ _ _ h => h) (Or.inl ⟨by rfl, ?_⟩) ?_ ?_
                rotate_left; (intro w'; go_simp; with_reducible rfl); rotate_left; (simp only [Act.put,qa,qb,qc,i64_w,i32_w]; rfl)
                refine take_ (i := 2) (N := some 58) (v := ?_) (a' := ?_) #[Y,Y,Y,Y,O,Y,O,O,O,Y,O,O,O,O,O,O,O,O,O,O,O,O,O,O,O] rfl rfl (take_ofW HT_.out HW_.out (by kernel_rfl)) (fun _ _ _ h => h) (Or.inl ⟨by rfl, ?_⟩) hHeld ?_ ?_
                rotate_left; (rintro w' ⟨s0, s1, s2, s3, s4, s5, s6, s7, s8⟩; go_simp; with_reducible rfl); rotate_left; (simp only [Act.put,qa,qb,qc,i64_w,i32_w]; rfl)
                refine take_ (i := 4) (N := some 60) (v := ?_) (a' := ?_) #[Y,Y,Y,Y,Y,Y,O,O,O,Y,O,O,O,O,O,O,O,O,O,O,O,O,O,O,O] rfl rfl (take_ofW HT_.out HW_.out (by kernel_rfl)) (fun _ _ _ h => h) (Or.inl ⟨by rfl, ?_⟩) hHeld ?_ ?_
                rotate_left; (rintro w' ⟨s0, s1, s2, s3, s4, s5, s6, s7, s8⟩; go_simp; with_reducible rfl); rotate_left; (simp only [Act.put,qa,qb,qc,i64_w,i32_w]; rfl)
                refine take_ (i := 6) (N := some 62) (v := ?_) (a' := ?_) #[Y,Y,Y,Y,Y,Y,Y,O,O,Y,O,O,O,O,O,O,O,O,O,O,O,O,O,O,O] rfl rfl (take_ofW HT_.out HW_.out (by kernel_rfl)) (fun _ _ _ h => h) (Or.inl ⟨by rfl, ?_⟩) hHeld ?_ ?_
                rotate_left; (rintro w' ⟨s0, s1, s2, s3, s4, s5, s6, s7, s8⟩; go_simp; with_reducible rfl); rotate_left; (simp only [Act.put,qa,qb,qc,i64_w,i32_w]; rfl)
                refine pure_ (i := 7) (N := some 63) (v := ?_) (a' := ?_) #[Y,Y,Y,Y,Y,Y,Y,Y,O,Y,O,O,O,O,O,O,O,O,O,O,O,O,O,O,O] rfl rfl zx (fun _ _ _ h => h) (Or.inl ⟨by rfl, ?_⟩) ?_ ?_
                rotate_left; (intro w'; go_simp; with_reducible rfl); rotate_left; (simp only [Act.put,qa,qb,qc,i64_w,i32_w]; rfl)
                refine pure_ (i := 8) (N := some 64) (v := ?_) (a' := ?_) #[Y,Y,Y,Y,Y,Y,Y,Y,Y,Y,O,O,O,O,O,O,O,O,O,O,O,O,O,O,O] rfl rfl zx (fun _ _ _ h => h) (Or.inl ⟨by rfl, ?_⟩) ?_ ?_
                rotate_left; (intro w'; go_simp; with_reducible rfl); rotate_left; (simp only [Act.put,qa,qb,qc,i64_w,i32_w]; rfl)
                refine take_ (i := 10) (N := some 66) (v := ?_) (a' := ?_) #[Y,Y,Y,Y,Y,Y,Y,Y,Y,Y,Y,O,O,O,O,O,O,O,O,O,O,O,O,O,O] rfl rfl (take_ofW HT_.out HW_.out (by kernel_rfl)) (fun _ _ _ h => h) (Or.inl ⟨by rfl, ?_⟩) hHeld ?_ ?_
                rotate_left; (rintro w' ⟨s0, s1, s2, s3, s4, s5, s6, s7, s8⟩; go_simp; with_reducible rfl); rotate_left; (simp only [Act.put,qa,qb,qc,i64_w,i32_w]; rfl)
                refine one_ (i := 11) (N := some 67) #[Y,Y,Y,Y,Y,Y,Y,Y,Y,Y,Y,Y,O,O,O,O,O,O,O,O,O,O,O,O,O] rfl rfl (one_of HT_.out (by kernel_rfl)) (by decide) (fun K hK => ?_)
                refine goes_ Try.func117 (by kernel_rfl) rfl #[.slice A42 ((l0.take ((wrap64 (((rd_T111 x6_1 x47_2).f0) + ((rd_T111 x6_1 x47_2).f1))) : Int).toNat).drop (((rd_T111 x6_1 x47_2).f0) : Int).toNat).length (c0 - ((rd_T111 x6_1 x47_2).f0).toNat), .slice A1223_2 ((rd_T144 l1 x47_2).f2).length c1223_2] (by rfl) rfl rfl (by (try simp only [List.map_toArray, List.map_cons, List.map_nil]); first | done | (rw [show ((l0.take ((wrap64 (((rd_T111 x6_1 x47_2).f0) + ((rd_T111 x6_1 x47_2).f1))) : Int).toNat).drop (((rd_T111 x6_1 x47_2).f0) : Int).toNat).length = ((wrap64 (((rd_T111 x6_1 x47_2).f0) + ((rd_T111 x6_1 x47_2).f1))).toNat - ((rd_T111 x6_1 x47_2).f0).toNat) from (by rw [List.length_drop, List.length_take]; have h_ : ((wrap64 (((rd_T111 x6_1 x47_2).f0) + ((rd_T111 x6_1 x47_2).f1))) : Int) ≤ (l0.length : Int) := oa; omega)] <;> rfl) | rfl | (simp only [List.length_drop, List.length_take]; rfl)) ?_
                with_reducible refine (spec_l1SameT.calls k2 _ _ ((l0.take ((wrap64 (((rd_T111 x6_1 x47_2).f0) + ((rd_T111 x6_1 x47_2).f1))) : Int).toNat).drop (((rd_T111 x6_1 x47_2).f0) : Int).toNat) _ _ ((rd_T144 l1 x47_2).f2) true _ ?side1 ?side2 ?side3 ?side4 A30.out).mono ?_
                (case side1 => exact zq (Kd.C_below HR1227.out HB.out))
                (case side2 => exact HC1227.out)
                (case side3 => exact zq (Kd.C_below HR1223_2.out HB.out))
                (case side4 => exact HC1223_2.out)
                rintro e w' ⟨rfl, ⟨nd, rfl⟩⟩
                refine ⟨_, rfl, ?_⟩
                refine hK.out _ _ ⟨(blk_cell BK1226.out 0).trans rfl, (blk_cell BK1226.out 1).trans rfl, (blk_cell BK1226.out 2).trans rfl, (blk_cell BK1224.out 0).trans rfl, (blk_cell BK1224.out 1).trans rfl, (blk_cell BK1224.out 2).trans rfl, (blk_cell BK1224.out 3).trans rfl, (blk_cell BK1224.out 4).trans rfl, (blk_cell BK1224.out 5).trans rfl⟩ (fun hHeld => ?_)
                clear hK K
                refine norm_ (a' := ?_) ?_ ?_
                rotate_left
                ·show Act.put _ (some 67) _ = _
                 simp only [Act.put,qa,qb,qc,i64_w,i32_w]
                 rfl
                refine pure_ (i := 12) (N := some 68) (v := ?_) (a' := ?_) #[Y,Y,Y,Y,Y,Y,Y,Y,Y,Y,Y,Y,Y,O,O,O,O,O,O,O,O,O,O,O,O] rfl rfl zx (fun _ _ _ h => h) (Or.inl ⟨by rfl, ?_⟩) ?_ ?_
                rotate_left; (intro w'; go_simp; with_reducible rfl); rotate_left; (simp only [Act.put,qa,qb,qc,i64_w,i32_w]; rfl)
                refine pure_ (i := 13) (N := some 69) (v := ?_) (a' := ?_) #[Y,Y,Y,Y,Y,Y,Y,Y,Y,Y,Y,Y,Y,Y,O,O,O,O,O,O,O,O,O,O,O] rfl rfl zx (fun _ _ _ h => h) (Or.inl ⟨by rfl, ?_⟩) ?_ ?_
                rotate_left; (intro w'; go_simp; with_reducible rfl); rotate_left; (simp only [Act.put,qa,qb,qc,i64_w,i32_w]; rfl)
                refine pure_ (i := 14) (N := some 70) (v := ?_) (a' := ?_) #[Y,Y,Y,Y,Y,Y,Y,Y,Y,Y,Y,Y,Y,Y,Y,O,O,O,O,O,O,O,O,O,O] rfl rfl zx (fun _ _ _ h => h) (Or.inl ⟨by rfl, ?_⟩) ?_ ?_
                rotate_left; (intro w'; go_simp; with_reducible rfl); rotate_left; (simp only [Act.put,qa,qb,qc,i64_w,i32_w]; rfl)
                refine pure_ (i := 16) (N := some 72) (v := ?_) (a' := ?_) #[Y,Y,Y,Y,Y,Y,Y,Y,Y,Y,Y,Y,Y,Y,Y,O,Y,O,O,O,O,O,O,O,O] rfl rfl zx (fun _ _ _ h => h) (Or.inl ⟨by rfl, ?_⟩) ?_ ?_
                rotate_left; (intro w'; go_simp; with_reducible rfl); rotate_left; (simp only [Act.put,qa,qb,qc,i64_w,i32_w]; rfl)
                refine pure_ (i := 19) (N := some 75) (v := ?_) (a' := ?_) #[Y,Y,Y,Y,Y,Y,Y,Y,Y,Y,Y,Y,Y,Y,Y,O,Y,O,O,Y,O,O,O,O,O] rfl rfl zx (fun _ _ _ h => h) (Or.inl ⟨by rfl, ?_⟩) ?_ ?_
                rotate_left; (intro w'; go_simp; with_reducible rfl); rotate_left; (simp only [Act.put,qa,qb,qc,i64_w,i32_w]; rfl)
                refine pure_ (i := 21) (N := some 77) (v := ?_) (a' := ?_) #[Y,Y,Y,Y,Y,Y,Y,Y,Y,Y,Y,Y,Y,Y,Y,O,Y,O,O,Y,O,Y,O,O,O] rfl rfl zx (fun _ _ _ h => h) (Or.inl ⟨by rfl, ?_⟩) ?_ ?_
                rotate_left; (intro w'; go_simp; with_reducible rfl); rotate_left; (simp only [Act.put,qa,qb,qc,i64_w,i32_w]; rfl)
                refine take_ (i := 15) (N := some 71) (v := ?_) (a' := ?_) #[Y,Y,Y,Y,Y,Y,Y,Y,Y,Y,Y,Y,Y,Y,Y,Y,Y,O,O,Y,O,Y,O,O,O] rfl rfl (take_ofW HT_.out HW_.out (by kernel_rfl)) (fun _ _ _ h => h) (Or.inl ⟨by rfl, ?_⟩) hHeld ?_ ?_
                rotate_left; (rintro w' ⟨s0, s1, s2, s3, s4, s5, s6, s7, s8⟩; go_simp; with_reducible rfl); rotate_left; (simp only [Act.put,qa,qb,qc,i64_w,i32_w]; rfl)
                refine take_ (i := 17) (N := some 73) (v := ?_) (a' := ?_) #[Y,Y,Y,Y,Y,Y,Y,Y,Y,Y,Y,Y,Y,Y,Y,Y,Y,Y,O,Y,O,Y,O,O,O] rfl rfl (take_ofW HT_.out HW_.out (by kernel_rfl)) (fun _ _ _ h => h) (Or.inl ⟨by rfl, ?_⟩) hHeld ?_ ?_
                rotate_left; (rintro w' ⟨s0, s1, s2, s3, s4, s5, s6, s7, s8⟩; go_simp; with_reducible rfl); rotate_left; (simp only [Act.put,qa,qb,qc,i64_w,i32_w]; rfl)
                refine take_ (i := 20) (N := some 76) (v := ?_) (a' := ?_) #[Y,Y,Y,Y,Y,Y,Y,Y,Y,Y,Y,Y,Y,Y,Y,Y,Y,Y,O,Y,Y,Y,O,O,O] rfl rfl (take_ofW HT_.out HW_.out (by kernel_rfl)) (fun _ _ _ h => h) (Or.inl ⟨by rfl, ?_⟩) hHeld ?_ ?_
                rotate_left; (rintro w' ⟨s0, s1, s2, s3, s4, s5, s6, s7, s8⟩; go_simp; with_reducible rfl); rotate_left; (simp only [Act.put,qa,qb,qc,i64_w,i32_w]; rfl)
                refine pure_ (i := 22) (N := some 78) (v := ?_) (a' := ?_) #[Y,Y,Y,Y,Y,Y,Y,Y,Y,Y,Y,Y,Y,Y,Y,Y,Y,Y,O,Y,Y,Y,Y,O,O] rfl rfl zx (fun _ _ _ h => h) (Or.inl ⟨by rfl, ?_⟩) ?_ ?_
                rotate_left; (intro w'; go_simp; with_reducible rfl); rotate_left; (simp only [Act.put,qa,qb,qc,i64_w,i32_w]; rfl)
                refine one_ (i := 18) (N := some 74) #[Y,Y,Y,Y,Y,Y,Y,Y,Y,Y,Y,Y,Y,Y,Y,Y,Y,Y,Y,Y,Y,Y,Y,O,O] rfl rfl (one_of HT_.out (by kernel_rfl)) (by decide) (fun K hK => ?_)
                refine goes_ Try.func170 (by kernel_rfl) rfl #[.int .i64 ((rd_T144 l1 x47_2).f3), .slice A1223_5 ((rd_T144 l1 x47_2).f5).length c1223_5] (by rfl) rfl rfl zm ?_
                with_reducible refine (spec_l5Base.calls ((rd_T144 l1 x47_2).f3) _ _ ((rd_T144 l1 x47_2).f5) t1229 _ ?side1 ?side2 A32.out).mono ?_
                (case side1 => repeat (first | exact (Kd.C_below HR1223_5.out (by repeat (first | (with_reducible first | exact HB.out | apply below_alloc | apply pw_below_drewN | apply below_drew1 | refine below_set ?_ GE1224.out | refine below_set ?_ GE1226.out) | exact HB.out))) | (with_reducible refine Kd.C_alloc ?_ _) | (with_reducible refine Kd.C_drewN ?_ _) | (with_reducible refine Kd.C_drew ?_)))
                (case side2 => exact HC1223_5.out)
                rintro e w' ⟨rfl, ⟨nd, rfl⟩⟩
                refine ⟨_, rfl, ?_⟩
                refine hK.out _ _ ⟨(blk_cell BK1226.out 0).trans rfl, (blk_cell BK1226.out 1).trans rfl, (blk_cell BK1226.out 2).trans rfl, (blk_cell BK1224.out 0).trans rfl, (blk_cell BK1224.out 1).trans rfl, (blk_cell BK1224.out 2).trans rfl, (blk_cell BK1224.out 3).trans rfl, (blk_cell BK1224.out 4).trans rfl, (blk_cell BK1224.out 5).trans rfl⟩ (fun hHeld => ?_)
                clear hK K
                refine norm_ (a' := ?_) ?_ ?_
                rotate_left
                ·show Act.put _ (some 74) _ = _
                 simp only [Act.put,qa,qb,qc,i64_w,i32_w]
                 rfl
                refine pure_ (i := 23) (N := some 79) (v := ?_) (a' := ?_) #[Y,Y,Y,Y,Y,Y,Y,Y,Y,Y,Y,Y,Y,Y,Y,Y,Y,Y,Y,Y,Y,Y,Y,Y,O] rfl rfl zx (fun _ _ _ h => h) (Or.inl ⟨by rfl, ?_⟩) ?_ ?_
                rotate_left; (intro w'; go_simp; with_reducible rfl); rotate_left; (simp only [Act.put,qa,qb,qc,i64_w,i32_w]; rfl)
                refine pure_ (i := 24) (N := some 80) (v := ?_) (a' := ?_) #[Y,Y,Y,Y,Y,Y,Y,Y,Y,Y,Y,Y,Y,Y,Y,Y,Y,Y,Y,Y,Y,Y,Y,Y,Y] rfl rfl zx (fun _ _ _ h => h) (Or.inl ⟨by rfl, ?_⟩) ?_ ?_
                rotate_left; (intro w'; go_simp; with_reducible rfl); rotate_left; (simp only [Act.put,qa,qb,qc,i64_w,i32_w]; rfl)
                refine done_ (done_of HT_.out (by kernel_rfl)) ?_
                have hcz43_0 : w41.cell? ⟨gb1224, 0, none⟩ = some (.int .i64 ((rd_T144 l1 x47_2).f0)) := (blk_cell BK1224.out 0).trans rfl
                have hcz43_1 : w41.cell? ⟨gb1224, 1, none⟩ = some (.int .i64 ((rd_T144 l1 x47_2).f1)) := (blk_cell BK1224.out 1).trans rfl
                have hcz43_2 : w41.cell? ⟨gb1224, 2, none⟩ = some (.slice A1223_2 ((rd_T144 l1 x47_2).f2).length c1223_2) := (blk_cell BK1224.out 2).trans rfl
                have hcz43_3 : w41.cell? ⟨gb1224, 3, none⟩ = some (.int .i64 ((rd_T144 l1 x47_2).f3)) := (blk_cell BK1224.out 3).trans rfl
                have hcz43_4 : w41.cell? ⟨gb1224, 4, none⟩ = some (.int .i64 ((rd_T144 l1 x47_2).f4)) := (blk_cell BK1224.out 4).trans rfl
                have hcz43_5 : w41.cell? ⟨gb1224, 5, none⟩ = some (.slice A1223_5 ((rd_T144 l1 x47_2).f5).length c1223_5) := (blk_cell BK1224.out 5).trans rfl
                have hfz43_0 := blk_frozen BK1224.out 0
                have hfz43_1 := blk_frozen BK1224.out 1
                have hfz43_2 := blk_frozen BK1224.out 2
                have hfz43_3 := blk_frozen BK1224.out 3
                have hfz43_4 := blk_frozen BK1224.out 4
                have hfz43_5 := blk_frozen BK1224.out 5
                have hcz44_0 : w41.cell? ⟨gb1226, 0, none⟩ = some (.int .i64 ((rd_T111 x6_1 x47_2).f0)) := (blk_cell BK1226.out 0).trans rfl
                have hcz44_1 : w41.cell? ⟨gb1226, 1, none⟩ = some (.int .i64 ((rd_T111 x6_1 x47_2).f1)) := (blk_cell BK1226.out 1).trans rfl
                have hcz44_2 : w41.cell? ⟨gb1226, 2, none⟩ = some (.slice A1225_2 ((rd_T111 x6_1 x47_2).f2).length c1225_2) := (blk_cell BK1226.out 2).trans rfl
                have hfz44_0 := blk_frozen BK1226.out 0
                have hfz44_1 := blk_frozen BK1226.out 1
                have hfz44_2 := blk_frozen BK1226.out 2
                try go_wp2
                go_roundg k2
                case measure => have := HK1.out; have := HK2.out; omega
                case rel => exact ⟨(wrap64 (x9_2 + (wrap64 ((((rd_T144 l1 x47_2).f5).length : Int) - ((rd_T111 x6_1 x47_2).f1))))), (wrap64 (x47_2 + 1)), zf, zf, H', ⟨by have := HK1.out; have := HK2.out; omega⟩, ⟨by (with_reducible repeat (first | apply Kd.S_alloc | apply Kd.S_drewN | apply Kd.S_drew)); exact Kd.S_mono HO_6.out (fun _ hk => trivial)⟩, ⟨by repeat (first | (with_reducible first | exact HB.out | apply below_alloc | apply pw_below_drewN | apply below_drew1 | refine below_set ?_ GE1224.out | refine below_set ?_ GE1226.out) | exact HB.out)⟩⟩
               ·rw [if_neg c33] at H
                have c33b0 : (t1229 == (wrap64 (((rd_T111 x6_1 x47_2).f0) + x9_2))) = false := beq_eq_false_iff_ne.mpr c33
                have c33b1 : (t1229 != (wrap64 (((rd_T111 x6_1 x47_2).f0) + x9_2))) = true := bne_iff_ne.mpr c33
                simp only [Option.some.injEq, Prod.mk.injEq] at H
                obtain ⟨rfl, rfl⟩ := H
                have p1223 : 0 ≤ (x47_2 : Int) := oa
                have q1223 : x47_2 < (l1.length : Int) := oa
                obtain ⟨ad1223, A1223_2, c1223_2, A1223_5, c1223_5, e1223, hx1223_0, hx1223_1, hx1223_2, hx1223_3, hx1223_4, hx1223_5, hl1223_2, hi1223_2, hl1223_5, hi1223_5⟩ := at_T144 HR1.out x47_2 p1223 q1223
                cases e1223
                replace hx1223_0 := (HB.out.cell (World.block_lt_of_cell? w _ hx1223_0)).trans hx1223_0
                replace hx1223_1 := (HB.out.cell (World.block_lt_of_cell? w _ hx1223_1)).trans hx1223_1
                replace hx1223_2 := (HB.out.cell (World.block_lt_of_cell? w _ hx1223_2)).trans hx1223_2
                replace hx1223_3 := (HB.out.cell (World.block_lt_of_cell? w _ hx1223_3)).trans hx1223_3
                replace hx1223_4 := (HB.out.cell (World.block_lt_of_cell? w _ hx1223_4)).trans hx1223_4
                replace hx1223_5 := (HB.out.cell (World.block_lt_of_cell? w _ hx1223_5)).trans hx1223_5
                have HR1223_2 := Aside0.mk hi1223_2
                have HC1223_2 := Aside0.mk hl1223_2
                clear hi1223_2 hl1223_2
                have HR1223_5 := Aside0.mk hi1223_5
                have HC1223_5 := Aside0.mk hl1223_5
                clear hi1223_5 hl1223_5
                replace p1223 := eq_true p1223
                replace q1223 := eq_true q1223
                try go_wp2_with (first | ((with_reducible refine gate_dst (N := 11) rfl ?_); refine box_event ?hg (N := 11) ?hd (cs := #[.int .i64 0, .int .i64 0, .slice none 0 0, .int .i64 0, .int .i64 0, .slice none 0 0]) (t := 144) ?hr ?_; (case hd => rfl); (case hg => rfl); (case hr => first | (go_simp; done) | (go_simp; rfl)); intro gb1224 hg w45 hbox hb; have n0_ := Aside0.mk (Kd.S_below (zs HO_6.out) hb); have n1_ := Aside0.mk (below_step zb hb); have n2_ := Aside0.mk (hbox); have n3_ := Aside0.mk ((by rw [hg]; exact (below_size zb) : w.heap.size ≤ gb1224)); have n4_ := Aside0.mk ((by rw [hg]; exact (below_size zb) : w.heap.size ≤ gb1224)); clear HO_6; clear HB; have HO_6 := n0_; have HB := n1_; have BK1224 := n2_; have GW1224 := n3_; have GE1224 := n4_; clear n0_ n1_ n2_ n3_ n4_; clear hb hbox hg; have hcz46_0 : w45.cell? ⟨gb1224, 0, none⟩ = some (.int .i64 0) := (blk_cell BK1224.out 0).trans rfl; have hcz46_1 : w45.cell? ⟨gb1224, 1, none⟩ = some (.int .i64 0) := (blk_cell BK1224.out 1).trans rfl; have hcz46_2 : w45.cell? ⟨gb1224, 2, none⟩ = some (.slice none 0 0) := (blk_cell BK1224.out 2).trans rfl; have hcz46_3 : w45.cell? ⟨gb1224, 3, none⟩ = some (.int .i64 0) := (blk_cell BK1224.out 3).trans rfl; have hcz46_4 : w45.cell? ⟨gb1224, 4, none⟩ = some (.int .i64 0) := (blk_cell BK1224.out 4).trans rfl; have hcz46_5 : w45.cell? ⟨gb1224, 5, none⟩ = some (.slice none 0 0) := (blk_cell BK1224.out 5).trans rfl; have hfz46_0 := blk_frozen BK1224.out 0; have hfz46_1 := blk_frozen BK1224.out 1; have hfz46_2 := blk_frozen BK1224.out 2; have hfz46_3 := blk_frozen BK1224.out 3; have hfz46_4 := blk_frozen BK1224.out 4; have hfz46_5 := blk_frozen BK1224.out 5) | ((with_reducible refine gate_store (t := 144) (p := 11) rfl ?_); refine store_event (t := 144) (p := 11) (v := ?vo_w47) (w1 := ((((((w45.setCell ⟨gb1224, 0, none⟩ (.int .i64 ((rd_T144 l1 x47_2).f0))).setCell ⟨gb1224, 1, none⟩ (.int .i64 ((rd_T144 l1 x47_2).f1))).setCell ⟨gb1224, 2, none⟩ (.slice A1223_2 ((rd_T144 l1 x47_2).f2).length c1223_2)).setCell ⟨gb1224, 3, none⟩ (.int .i64 ((rd_T144 l1 x47_2).f3))).setCell ⟨gb1224, 4, none⟩ (.int .i64 ((rd_T144 l1 x47_2).f4))).setCell ⟨gb1224, 5, none⟩ (.slice A1223_5 ((rd_T144 l1 x47_2).f5).length c1223_5))) ?hg ?ho ?hn ?hr ?_; (case ho => rfl); (case hg => rfl); (case hn => rfl); (case hr => first | (go_simp; done) | (go_simp; rfl)); intro w47 hw; have n0_ : Aside0 (Kd.S k111 111 w47 w.heap.size (fun _ => True) (.slice Ao21 x6_1.length co21) x6_1) := ⟨(by rw [hw]; exact (by (with_reducible repeat (first | apply Kd.S_alloc | apply Kd.S_drewN | apply Kd.S_drew)); exact Kd.S_mono (Kd.S_far (p := ⟨gb1224, 5, none⟩) (Kd.S_far (p := ⟨gb1224, 4, none⟩) (Kd.S_far (p := ⟨gb1224, 3, none⟩) (Kd.S_far (p := ⟨gb1224, 2, none⟩) (Kd.S_far (p := ⟨gb1224, 1, none⟩) (Kd.S_far (p := ⟨gb1224, 0, none⟩) (Kd.S_types HO_6.out BK1224.out (by decide)) (fun _ hk => hk.2) (.int .i64 ((rd_T144 l1 x47_2).f0))) (fun _ hk => hk.2) (.int .i64 ((rd_T144 l1 x47_2).f1))) (fun _ hk => hk.2) (.slice A1223_2 ((rd_T144 l1 x47_2).f2).length c1223_2)) (fun _ hk => hk.2) (.int .i64 ((rd_T144 l1 x47_2).f3))) (fun _ hk => hk.2) (.int .i64 ((rd_T144 l1 x47_2).f4))) (fun _ hk => hk.2) (.slice A1223_5 ((rd_T144 l1 x47_2).f5).length c1223_5)) (fun _ hk => trivial)))⟩; have n1_ : Aside0 (w47.heap[gb1224]? = some (.cells #[.int .i64 ((rd_T144 l1 x47_2).f0), .int .i64 ((rd_T144 l1 x47_2).f1), .slice A1223_2 ((rd_T144 l1 x47_2).f2).length c1223_2, .int .i64 ((rd_T144 l1 x47_2).f3), .int .i64 ((rd_T144 l1 x47_2).f4), .slice A1223_5 ((rd_T144 l1 x47_2).f5).length c1223_5] 144 (0, 0))) := ⟨(by rw [hw]; exact (by (with_reducible repeat (first | refine blk_drewN ?_ _ | refine blk_drew ?_ | refine blk_alloc ?_ _)); refine blk_put (cs := #[.int .i64 ((rd_T144 l1 x47_2).f0), .int .i64 ((rd_T144 l1 x47_2).f1), .slice A1223_2 ((rd_T144 l1 x47_2).f2).length c1223_2, .int .i64 ((rd_T144 l1 x47_2).f3), .int .i64 ((rd_T144 l1 x47_2).f4), .slice none 0 0]) ?_ 5 _ rfl; (with_reducible repeat (first | refine blk_drewN ?_ _ | refine blk_drew ?_ | refine blk_alloc ?_ _)); refine blk_put (cs := #[.int .i64 ((rd_T144 l1 x47_2).f0), .int .i64 ((rd_T144 l1 x47_2).f1), .slice A1223_2 ((rd_T144 l1 x47_2).f2).length c1223_2, .int .i64 ((rd_T144 l1 x47_2).f3), .int .i64 0, .slice none 0 0]) ?_ 4 _ rfl; (with_reducible repeat (first | refine blk_drewN ?_ _ | refine blk_drew ?_ | refine blk_alloc ?_ _)); refine blk_put (cs := #[.int .i64 ((rd_T144 l1 x47_2).f0), .int .i64 ((rd_T144 l1 x47_2).f1), .slice A1223_2 ((rd_T144 l1 x47_2).f2).length c1223_2, .int .i64 0, .int .i64 0, .slice none 0 0]) ?_ 3 _ rfl; (with_reducible repeat (first | refine blk_drewN ?_ _ | refine blk_drew ?_ | refine blk_alloc ?_ _)); refine blk_put (cs := #[.int .i64 ((rd_T144 l1 x47_2).f0), .int .i64 ((rd_T144 l1 x47_2).f1), .slice none 0 0, .int .i64 0, .int .i64 0, .slice none 0 0]) ?_ 2 _ rfl; (with_reducible repeat (first | refine blk_drewN ?_ _ | refine blk_drew ?_ | refine blk_alloc ?_ _)); refine blk_put (cs := #[.int .i64 ((rd_T144 l1 x47_2).f0), .int .i64 0, .slice none 0 0, .int .i64 0, .int .i64 0, .slice none 0 0]) ?_ 1 _ rfl; (with_reducible repeat (first | refine blk_drewN ?_ _ | refine blk_drew ?_ | refine blk_alloc ?_ _)); refine blk_put (cs := #[.int .i64 0, .int .i64 0, .slice none 0 0, .int .i64 0, .int .i64 0, .slice none 0 0]) ?_ 0 _ rfl; (with_reducible repeat (first | refine blk_drewN ?_ _ | refine blk_drew ?_ | refine blk_alloc ?_ _)); exact BK1224.out))⟩; have n2_ : Aside0 (Below w.heap.size w w47) := ⟨(by rw [hw]; exact (by repeat (first | (with_reducible first | exact HB.out | apply below_alloc | apply pw_below_drewN | apply below_drew1 | refine below_set ?_ GE1224.out) | exact HB.out)))⟩; clear hw; clear HO_6; clear BK1224; clear HB; have HO_6 := n0_; have BK1224 := n1_; have HB := n2_; clear n0_ n1_ n2_; have p1225 : 0 ≤ (x47_2 : Int) := oa; have q1225 : x47_2 < (x6_1.length : Int) := oa; obtain ⟨ad1225, A1225_2, c1225_2, e1225, hx1225_0, hx1225_1, hx1225_2, hl1225_2, hi1225_2⟩ := at_T111 (Kd.S_reads' HO_6.out).2.2 x47_2 p1225 q1225; cases e1225; obtain ⟨ce1225, hce1225, hMe1225, hcc1225⟩ := Kd.S_get HO_6.out z111 x47_2 p1225 (by first | exact q1225 | exact oa | (have e_ := (Kd.S_reads' HO_6.out).1; omega)); obtain ⟨ve1225_2, rfl, ge1225_2⟩ := k111_openM hMe1225; have hv1225_2 := hcc1225 2 _ rfl; rw [add_field _ _ 2 (by omega)] at hv1225_2; replace hv1225_2 := Option.some.inj (hv1225_2.symm.trans hx1225_2); rw [hv1225_2] at ge1225_2; have HL1225_2 := Aside0.mk (show Kd.R Kd.string 9 _ _ _ _ ((rd_T111 x6_1 x47_2).f2) from ge1225_2); clear hv1225_2 ge1225_2; clear hcc1225 hce1225; have HR1225_2 := Aside0.mk hi1225_2; have HC1225_2 := Aside0.mk hl1225_2; clear hi1225_2 hl1225_2; replace p1225 := eq_true p1225; replace q1225 := eq_true q1225) | ((with_reducible refine gate_dst (N := 12) rfl ?_); refine box_event ?hg (N := 12) ?hd (cs := #[.int .i64 0, .int .i64 0, .slice none 0 0]) (t := 111) ?hr ?_; (case hd => rfl); (case hg => rfl); (case hr => first | (go_simp; done) | (go_simp; rfl)); intro gb1226 hg w48 hbox hb; have n0_ := Aside0.mk (Kd.S_below (Kd.S_elderB (zs HO_6.out) gb1226 (Nat.le_of_eq hg.symm)) hb); have n1_ := Aside0.mk (Kd.R_below (zr HL1225_2.out) hb); have n2_ := Aside0.mk (blk_below (g := gb1224) (o := .cells #[.int .i64 ((rd_T144 l1 x47_2).f0), .int .i64 ((rd_T144 l1 x47_2).f1), .slice A1223_2 ((rd_T144 l1 x47_2).f2).length c1223_2, .int .i64 ((rd_T144 l1 x47_2).f3), .int .i64 ((rd_T144 l1 x47_2).f4), .slice A1223_5 ((rd_T144 l1 x47_2).f5).length c1223_5] 144 (0, 0)) (zk BK1224.out) hb); have n3_ := Aside0.mk (Kd.C_below (by repeat (first | (with_reducible exact HR1225_2.out) | (with_reducible refine Kd.C_alloc ?_ _) | (with_reducible refine Kd.C_drewN ?_ _) | (with_reducible refine Kd.C_drew ?_) | exact HR1225_2.out)) hb); have n4_ := Aside0.mk (below_step (by repeat (first | (with_reducible first | exact HB.out | apply below_alloc | apply pw_below_drewN | apply below_drew1 | refine below_set ?_ GE1224.out) | exact HB.out)) hb); have n5_ := Aside0.mk (hbox); have n6_ := Aside0.mk ((by rw [hg]; exact (below_size (by repeat (first | (with_reducible first | exact HB.out | apply below_alloc | apply pw_below_drewN | apply below_drew1 | refine below_set ?_ GE1224.out) | exact HB.out))) : w.heap.size ≤ gb1226)); have n7_ := Aside0.mk ((by rw [hg]; exact (below_size (by repeat (first | (with_reducible first | exact HB.out | apply below_alloc | apply pw_below_drewN | apply below_drew1 | refine below_set ?_ GE1224.out) | exact HB.out))) : w.heap.size ≤ gb1226)); have n8_ := Aside0.mk ((by rw [hg]; exact Nat.ne_of_lt (blk_lt (g := gb1224) (o := .cells #[.int .i64 ((rd_T144 l1 x47_2).f0), .int .i64 ((rd_T144 l1 x47_2).f1), .slice A1223_2 ((rd_T144 l1 x47_2).f2).length c1223_2, .int .i64 ((rd_T144 l1 x47_2).f3), .int .i64 ((rd_T144 l1 x47_2).f4), .slice A1223_5 ((rd_T144 l1 x47_2).f5).length c1223_5] 144 (0, 0)) (zk BK1224.out)) : gb1224 ≠ gb1226)); have n9_ := Aside0.mk ((by rw [hg]; exact Nat.ne_of_gt (blk_lt (g := gb1224) (o := .cells #[.int .i64 ((rd_T144 l1 x47_2).f0), .int .i64 ((rd_T144 l1 x47_2).f1), .slice A1223_2 ((rd_T144 l1 x47_2).f2).length c1223_2, .int .i64 ((rd_T144 l1 x47_2).f3), .int .i64 ((rd_T144 l1 x47_2).f4), .slice A1223_5 ((rd_T144 l1 x47_2).f5).length c1223_5] 144 (0, 0)) (zk BK1224.out)) : gb1226 ≠ gb1224)); clear HO_6; clear HL1225_2; clear BK1224; clear HR1225_2; clear HB; have HO_6 := n0_; have HL1225_2 := n1_; have BK1224 := n2_; have HR1225_2 := n3_; have HB := n4_; have BK1226 := n5_; have GW1226 := n6_; have GE1226 := n7_; have NB1224_1226 := n8_; have NB1226_1224 := n9_; clear n0_ n1_ n2_ n3_ n4_ n5_ n6_ n7_ n8_ n9_; clear hb hbox hg; have hnb49 := NB1226_1224.out; have hnc49 := NB1224_1226.out; have hcz50_0 : w48.cell? ⟨gb1226, 0, none⟩ = some (.int .i64 0) := (blk_cell BK1226.out 0).trans rfl; have hcz50_1 : w48.cell? ⟨gb1226, 1, none⟩ = some (.int .i64 0) := (blk_cell BK1226.out 1).trans rfl; have hcz50_2 : w48.cell? ⟨gb1226, 2, none⟩ = some (.slice none 0 0) := (blk_cell BK1226.out 2).trans rfl; have hfz50_0 := blk_frozen BK1226.out 0; have hfz50_1 := blk_frozen BK1226.out 1; have hfz50_2 := blk_frozen BK1226.out 2))
                have n0_ : Aside0 (Kd.S k111 111 (((w48.setCell ⟨gb1226, 0, none⟩ (.int .i64 ((rd_T111 x6_1 x47_2).f0))).setCell ⟨gb1226, 1, none⟩ (.int .i64 ((rd_T111 x6_1 x47_2).f1))).setCell ⟨gb1226, 2, none⟩ (.slice A1225_2 ((rd_T111 x6_1 x47_2).f2).length c1225_2)) w.heap.size (fun k_ => k_ ≠ gb1226) (.slice (some ad1225) x6_1.length co21) x6_1) := ⟨by (with_reducible repeat (first | apply Kd.S_alloc | apply Kd.S_drewN | apply Kd.S_drew)); exact Kd.S_mono (Kd.S_far (p := ⟨gb1226, 2, none⟩) (Kd.S_far (p := ⟨gb1226, 1, none⟩) (Kd.S_far (p := ⟨gb1226, 0, none⟩) (Kd.S_mono HO_6.out (fun k_ hk => (⟨hk, hk.2⟩ : _ ∧ k_ ≠ gb1226))) (fun _ hk => hk.2) (.int .i64 ((rd_T111 x6_1 x47_2).f0))) (fun _ hk => hk.2) (.int .i64 ((rd_T111 x6_1 x47_2).f1))) (fun _ hk => hk.2) (.slice A1225_2 ((rd_T111 x6_1 x47_2).f2).length c1225_2)) (fun _ hk => hk.1.2)⟩
                have n1_ : Aside0 (Kd.R Kd.string 9 (((w48.setCell ⟨gb1226, 0, none⟩ (.int .i64 ((rd_T111 x6_1 x47_2).f0))).setCell ⟨gb1226, 1, none⟩ (.int .i64 ((rd_T111 x6_1 x47_2).f1))).setCell ⟨gb1226, 2, none⟩ (.slice A1225_2 ((rd_T111 x6_1 x47_2).f2).length c1225_2)) w.heap.size (fun k_ => some k_ ≠ (.slice (some ad1225) x6_1.length co21 : Value).ownBlock) (.slice A1225_2 ((rd_T111 x6_1 x47_2).f2).length c1225_2) ((rd_T111 x6_1 x47_2).f2)) := ⟨by (with_reducible repeat (first | apply Kd.R_alloc | apply Kd.R_drewN | apply Kd.R_drew)); exact Kd.R_mono (Kd.R_far (p := ⟨gb1226, 2, none⟩) (Kd.R_far (p := ⟨gb1226, 1, none⟩) (Kd.R_far (p := ⟨gb1226, 0, none⟩) (Kd.R_types HL1225_2.out BK1226.out (by decide)) (fun _ hk => hk.2) (.int .i64 ((rd_T111 x6_1 x47_2).f0))) (fun _ hk => hk.2) (.int .i64 ((rd_T111 x6_1 x47_2).f1))) (fun _ hk => hk.2) (.slice A1225_2 ((rd_T111 x6_1 x47_2).f2).length c1225_2)) (fun _ hk => hk.1.2)⟩
                have n2_ : Aside0 ((((w48.setCell ⟨gb1226, 0, none⟩ (.int .i64 ((rd_T111 x6_1 x47_2).f0))).setCell ⟨gb1226, 1, none⟩ (.int .i64 ((rd_T111 x6_1 x47_2).f1))).setCell ⟨gb1226, 2, none⟩ (.slice A1225_2 ((rd_T111 x6_1 x47_2).f2).length c1225_2)).heap[gb1224]? = some (.cells #[.int .i64 ((rd_T144 l1 x47_2).f0), .int .i64 ((rd_T144 l1 x47_2).f1), .slice A1223_2 ((rd_T144 l1 x47_2).f2).length c1223_2, .int .i64 ((rd_T144 l1 x47_2).f3), .int .i64 ((rd_T144 l1 x47_2).f4), .slice A1223_5 ((rd_T144 l1 x47_2).f5).length c1223_5] 144 (0, 0))) := ⟨by (with_reducible repeat (first | refine blk_drewN ?_ _ | refine blk_drew ?_ | refine blk_alloc ?_ _)); refine blk_far ?_ NB1224_1226.out _; (with_reducible repeat (first | refine blk_drewN ?_ _ | refine blk_drew ?_ | refine blk_alloc ?_ _)); refine blk_far ?_ NB1224_1226.out _; (with_reducible repeat (first | refine blk_drewN ?_ _ | refine blk_drew ?_ | refine blk_alloc ?_ _)); refine blk_far ?_ NB1224_1226.out _; (with_reducible repeat (first | refine blk_drewN ?_ _ | refine blk_drew ?_ | refine blk_alloc ?_ _)); exact BK1224.out⟩
                have n3_ : Aside0 ((((w48.setCell ⟨gb1226, 0, none⟩ (.int .i64 ((rd_T111 x6_1 x47_2).f0))).setCell ⟨gb1226, 1, none⟩ (.int .i64 ((rd_T111 x6_1 x47_2).f1))).setCell ⟨gb1226, 2, none⟩ (.slice A1225_2 ((rd_T111 x6_1 x47_2).f2).length c1225_2)).heap[gb1226]? = some (.cells #[.int .i64 ((rd_T111 x6_1 x47_2).f0), .int .i64 ((rd_T111 x6_1 x47_2).f1), .slice A1225_2 ((rd_T111 x6_1 x47_2).f2).length c1225_2] 111 (0, 0))) := ⟨by (with_reducible repeat (first | refine blk_drewN ?_ _ | refine blk_drew ?_ | refine blk_alloc ?_ _)); refine blk_put (cs := #[.int .i64 ((rd_T111 x6_1 x47_2).f0), .int .i64 ((rd_T111 x6_1 x47_2).f1), .slice none 0 0]) ?_ 2 _ rfl; (with_reducible repeat (first | refine blk_drewN ?_ _ | refine blk_drew ?_ | refine blk_alloc ?_ _)); refine blk_put (cs := #[.int .i64 ((rd_T111 x6_1 x47_2).f0), .int .i64 0, .slice none 0 0]) ?_ 1 _ rfl; (with_reducible repeat (first | refine blk_drewN ?_ _ | refine blk_drew ?_ | refine blk_alloc ?_ _)); refine blk_put (cs := #[.int .i64 0, .int .i64 0, .slice none 0 0]) ?_ 0 _ rfl; (with_reducible repeat (first | refine blk_drewN ?_ _ | refine blk_drew ?_ | refine blk_alloc ?_ _)); exact BK1226.out⟩
                have n4_ : Aside0 (Below w.heap.size w (((w48.setCell ⟨gb1226, 0, none⟩ (.int .i64 ((rd_T111 x6_1 x47_2).f0))).setCell ⟨gb1226, 1, none⟩ (.int .i64 ((rd_T111 x6_1 x47_2).f1))).setCell ⟨gb1226, 2, none⟩ (.slice A1225_2 ((rd_T111 x6_1 x47_2).f2).length c1225_2))) := ⟨by repeat (first | (with_reducible first | exact HB.out | apply below_alloc | apply pw_below_drewN | apply below_drew1 | refine below_set ?_ GE1224.out | refine below_set ?_ GE1226.out) | exact HB.out)⟩
                (try clear HO_6)
                (try clear HL1225_2)
                (try clear BK1224)
                (try clear BK1226)
                (try clear HB)
                (try simp only [show ∀ (w_ : World) (n_ : Nat) (p_ : Addr) (v_ : Value), (w_.drewN n_).setCell p_ v_ = (w_.setCell p_ v_).drewN n_ from fun _ _ _ _ => rfl])
                generalize (((w48.setCell ⟨gb1226, 0, none⟩ (.int .i64 ((rd_T111 x6_1 x47_2).f0))).setCell ⟨gb1226, 1, none⟩ (.int .i64 ((rd_T111 x6_1 x47_2).f1))).setCell ⟨gb1226, 2, none⟩ (.slice A1225_2 ((rd_T111 x6_1 x47_2).f2).length c1225_2)) = w51 at n0_ n1_ n2_ n3_ n4_ ⊢
                have HO_6 := n0_
                have HL1225_2 := n1_
                have BK1224 := n2_
                have BK1226 := n3_
                have HB := n4_
                clear n0_ n1_ n2_ n3_ n4_
                have n0_ := Aside0.mk (Kd.S_drew HO_6.out)
                have n1_ := Aside0.mk (Kd.R_drew HL1225_2.out)
                have n2_ := Aside0.mk (blk_drew BK1224.out)
                have n3_ := Aside0.mk (blk_drew BK1226.out)
                have n4_ := Aside0.mk (below_drew1 HB.out)
                clear HO_6
                clear HL1225_2
                clear BK1224
                clear BK1226
                clear HB
                have HO_6 := n0_
                have HL1225_2 := n1_
                have BK1224 := n2_
                have BK1226 := n3_
                have HB := n4_
                clear n0_ n1_ n2_ n3_ n4_
                obtain ⟨i053, hi053, _, hsz53, _⟩ := info_parts info9
                obtain ⟨A53, hcut53, hA53, hC53⟩ := print_mid_of (P := Try.prog) Value.string (⟨#[]⟩ : ByteArray) 22 9 .i64 .i64 Try.underlying22 hi053 hsz53 A0 c0 l0 ((rd_T111 x6_1 x47_2).f0) (wrap64 (((rd_T111 x6_1 x47_2).f0) + ((rd_T111 x6_1 x47_2).f1))) oa (by first | omega | exact oa) oa HC0.out
                have HR1227 := Aside0.mk (Kd.C_of_reads (h1 := fun _ => rfl) (hA53 _ (Kd.reads_of_C HR0.out)))
                have HC1227 := Aside0.mk hC53
                clear hA53 hC53 hi053 hsz53
                refine start_ (n := 25) (S := fun w' => w'.cell? ⟨gb1226, 0, none⟩ = some (.int .i64 ((rd_T111 x6_1 x47_2).f0)) ∧ w'.cell? ⟨gb1226, 1, none⟩ = some (.int .i64 ((rd_T111 x6_1 x47_2).f1)) ∧ w'.cell? ⟨gb1226, 2, none⟩ = some (.slice A1225_2 ((rd_T111 x6_1 x47_2).f2).length c1225_2) ∧ w'.cell? ⟨gb1224, 0, none⟩ = some (.int .i64 ((rd_T144 l1 x47_2).f0)) ∧ w'.cell? ⟨gb1224, 1, none⟩ = some (.int .i64 ((rd_T144 l1 x47_2).f1)) ∧ w'.cell? ⟨gb1224, 2, none⟩ = some (.slice A1223_2 ((rd_T144 l1 x47_2).f2).length c1223_2) ∧ w'.cell? ⟨gb1224, 3, none⟩ = some (.int .i64 ((rd_T144 l1 x47_2).f3)) ∧ w'.cell? ⟨gb1224, 4, none⟩ = some (.int .i64 ((rd_T144 l1 x47_2).f4)) ∧ w'.cell? ⟨gb1224, 5, none⟩ = some (.slice A1223_5 ((rd_T144 l1 x47_2).f5).length c1223_5)) (ds := []) #[O,O,O,O,O,O,O,O,O,O,O,O,O,O,O,O,O,O,O,O,O,O,O,O,O] (by kernel_rfl) rfl rfl ⟨(blk_cell BK1226.out 0).trans rfl, (blk_cell BK1226.out 1).trans rfl, (blk_cell BK1226.out 2).trans rfl, (blk_cell BK1224.out 0).trans rfl, (blk_cell BK1224.out 1).trans rfl, (blk_cell BK1224.out 2).trans rfl, (blk_cell BK1224.out 3).trans rfl, (blk_cell BK1224.out 4).trans rfl, (blk_cell BK1224.out 5).trans rfl⟩ (fun hHeld => ?_); refine with_tabW spec_l5Hunks.tab16 spec_l5Hunks.bits16 (fun HT_ HW_ => ?_)
                generalize w51.drew = w52 at HO_6 HL1225_2 BK1224 BK1226 HB HR1227 hHeld ⊢
                refine pure_ (i := 0) (N := some 56) (v := ?_) (a' := ?_) #[Y,O,O,O,O,O,O,O,O,O,O,O,O,O,O,O,O,O,O,O,O,O,O,O,O] rfl rfl zx (fun _ _ _ h => h) (Or.inl ⟨by rfl, ?_⟩) ?_ ?_
                rotate_left; (intro w'; go_simp; with_reducible rfl); rotate_left; (simp only [Act.put,qa,qb,qc,i64_w,i32_w]; rfl)
                refine pure_ (i := 1) (N := some 57) (v := ?_) (a' := ?_) #[Y,Y,O,O,O,O,O,O,O,O,O,O,O,O,O,O,O,O,O,O,O,O,O,O,O] rfl rfl zx (fun _ _ _ h => h) (Or.inl ⟨by rfl, ?_⟩) ?_ ?_
                rotate_left; (intro w'; go_simp; with_reducible rfl); rotate_left; (simp only [Act.put,qa,qb,qc,i64_w,i32_w]; rfl)
                refine pure_ (i := 3) (N := some 59) (v := ?_) (a' := ?_) #[Y,Y,O,Y,O,O,O,O,O,O,O,O,O,O,O,O,O,O,O,O,O,O,O,O,O] rfl rfl zx (fun _ _ _ h => h) (Or.inl ⟨by rfl, ?_⟩) ?_ ?_
                rotate_left; (intro w'; go_simp; with_reducible rfl); rotate_left; (simp only [Act.put,qa,qb,qc,i64_w,i32_w]; rfl)
                refine pure_ (i := 5) (N := some 61) (v := ?_) (a' := ?_) #[Y,Y,O,Y,O,Y,O,O,O,O,O,O,O,O,O,O,O,O,O,O,O,O,O,O,O] rfl rfl zx (fun _ _ _ h => h) (Or.inl ⟨by rfl, ?_⟩) ?_ ?_
                rotate_left; (intro w'; go_simp; with_reducible rfl); rotate_left; (simp only [Act.put,qa,qb,qc,i64_w,i32_w]; rfl)
                refine pure_ (i := 9) (N := some 65) (v := ?_) (a' := ?_) #[Y,Y,O,Y,O,Y,O,O,O,Y,O,O,O,O,O,O,O,O,O,O,O,O,O,O,O] rfl rfl zx (fun _ _ _ h => h) (Or.inl ⟨by rfl, ?_⟩) ?_ ?_
                rotate_left; (intro w'; go_simp; with_reducible rfl); rotate_left; (simp only [Act.put,qa,qb,qc,i64_w,i32_w]; rfl)
                refine take_ (i := 2) (N := some 58) (v := ?_) (a' := ?_) #[Y,Y,Y,Y,O,Y,O,O,O,Y,O,O,O,O,O,O,O,O,O,O,O,O,O,O,O] rfl rfl (take_ofW HT_.out HW_.out (by kernel_rfl)) (fun _ _ _ h => h) (Or.inl ⟨by rfl, ?_⟩) hHeld ?_ ?_
                rotate_left; (rintro w' ⟨s0, s1, s2, s3, s4, s5, s6, s7, s8⟩; go_simp; with_reducible rfl); rotate_left; (simp only [Act.put,qa,qb,qc,i64_w,i32_w]; rfl)
                refine take_ (i := 4) (N := some 60) (v := ?_) (a' := ?_) #[Y,Y,Y,Y,Y,Y,O,O,O,Y,O,O,O,O,O,O,O,O,O,O,O,O,O,O,O] rfl rfl (take_ofW HT_.out HW_.out (by kernel_rfl)) (fun _ _ _ h => h) (Or.inl ⟨by rfl, ?_⟩) hHeld ?_ ?_
                rotate_left; (rintro w' ⟨s0, s1, s2, s3, s4, s5, s6, s7, s8⟩; go_simp; with_reducible rfl); rotate_left; (simp only [Act.put,qa,qb,qc,i64_w,i32_w]; rfl)
                refine take_ (i := 6) (N := some 62) (v := ?_) (a' := ?_) #[Y,Y,Y,Y,Y,Y,Y,O,O,Y,O,O,O,O,O,O,O,O,O,O,O,O,O,O,O] rfl rfl (take_ofW HT_.out HW_.out (by kernel_rfl)) (fun _ _ _ h => h) (Or.inl ⟨by rfl, ?_⟩) hHeld ?_ ?_
                rotate_left; (rintro w' ⟨s0, s1, s2, s3, s4, s5, s6, s7, s8⟩; go_simp; with_reducible rfl); rotate_left; (simp only [Act.put,qa,qb,qc,i64_w,i32_w]; rfl)
                refine pure_ (i := 7) (N := some 63) (v := ?_) (a' := ?_) #[Y,Y,Y,Y,Y,Y,Y,Y,O,Y,O,O,O,O,O,O,O,O,O,O,O,O,O,O,O] rfl rfl zx (fun _ _ _ h => h) (Or.inl ⟨by rfl, ?_⟩) ?_ ?_
                rotate_left; (intro w'; go_simp; with_reducible rfl); rotate_left; (simp only [Act.put,qa,qb,qc,i64_w,i32_w]; rfl)
                refine pure_ (i := 8) (N := some 64) (v := ?_) (a' := ?_) #[Y,Y,Y,Y,Y,Y,Y,Y,Y,Y,O,O,O,O,O,O,O,O,O,O,O,O,O,O,O] rfl rfl zx (fun _ _ _ h => h) (Or.inl ⟨by rfl, ?_⟩) ?_ ?_
                rotate_left; (intro w'; go_simp; with_reducible rfl); rotate_left; (simp only [Act.put,qa,qb,qc,i64_w,i32_w]; rfl)
                refine take_ (i := 10) (N := some 66) (v := ?_) (a' := ?_) #[Y,Y,Y,Y,Y,Y,Y,Y,Y,Y,Y,O,O,O,O,O,O,O,O,O,O,O,O,O,O] rfl rfl (take_ofW HT_.out HW_.out (by kernel_rfl)) (fun _ _ _ h => h) (Or.inl ⟨by rfl, ?_⟩) hHeld ?_ ?_
                rotate_left; (rintro w' ⟨s0, s1, s2, s3, s4, s5, s6, s7, s8⟩; go_simp; with_reducible rfl); rotate_left; (simp only [Act.put,qa,qb,qc,i64_w,i32_w]; rfl)
                refine one_ (i := 11) (N := some 67) #[Y,Y,Y,Y,Y,Y,Y,Y,Y,Y,Y,Y,O,O,O,O,O,O,O,O,O,O,O,O,O] rfl rfl (one_of HT_.out (by kernel_rfl)) (by decide) (fun K hK => ?_)
                refine goes_ Try.func117 (by kernel_rfl) rfl #[.slice A53 ((l0.take ((wrap64 (((rd_T111 x6_1 x47_2).f0) + ((rd_T111 x6_1 x47_2).f1))) : Int).toNat).drop (((rd_T111 x6_1 x47_2).f0) : Int).toNat).length (c0 - ((rd_T111 x6_1 x47_2).f0).toNat), .slice A1223_2 ((rd_T144 l1 x47_2).f2).length c1223_2] (by rfl) rfl rfl (by (try simp only [List.map_toArray, List.map_cons, List.map_nil]); first | done | (rw [show ((l0.take ((wrap64 (((rd_T111 x6_1 x47_2).f0) + ((rd_T111 x6_1 x47_2).f1))) : Int).toNat).drop (((rd_T111 x6_1 x47_2).f0) : Int).toNat).length = ((wrap64 (((rd_T111 x6_1 x47_2).f0) + ((rd_T111 x6_1 x47_2).f1))).toNat - ((rd_T111 x6_1 x47_2).f0).toNat) from (by rw [List.length_drop, List.length_take]; have h_ : ((wrap64 (((rd_T111 x6_1 x47_2).f0) + ((rd_T111 x6_1 x47_2).f1))) : Int) ≤ (l0.length : Int) := oa; omega)] <;> rfl) | rfl | (simp only [List.length_drop, List.length_take]; rfl)) ?_
                with_reducible refine (spec_l1SameT.calls k2 _ _ ((l0.take ((wrap64 (((rd_T111 x6_1 x47_2).f0) + ((rd_T111 x6_1 x47_2).f1))) : Int).toNat).drop (((rd_T111 x6_1 x47_2).f0) : Int).toNat) _ _ ((rd_T144 l1 x47_2).f2) true _ ?side1 ?side2 ?side3 ?side4 A30.out).mono ?_
                (case side1 => exact zq (Kd.C_below HR1227.out HB.out))
                (case side2 => exact HC1227.out)
                (case side3 => exact zq (Kd.C_below HR1223_2.out HB.out))
                (case side4 => exact HC1223_2.out)
                rintro e w' ⟨rfl, ⟨nd, rfl⟩⟩
                refine ⟨_, rfl, ?_⟩
                refine hK.out _ _ ⟨(blk_cell BK1226.out 0).trans rfl, (blk_cell BK1226.out 1).trans rfl, (blk_cell BK1226.out 2).trans rfl, (blk_cell BK1224.out 0).trans rfl, (blk_cell BK1224.out 1).trans rfl, (blk_cell BK1224.out 2).trans rfl, (blk_cell BK1224.out 3).trans rfl, (blk_cell BK1224.out 4).trans rfl, (blk_cell BK1224.out 5).trans rfl⟩ (fun hHeld => ?_)
                clear hK K
                refine norm_ (a' := ?_) ?_ ?_
                rotate_left
                ·show Act.put _ (some 67) _ = _
                 simp only [Act.put,qa,qb,qc,i64_w,i32_w]
                 rfl
                refine pure_ (i := 12) (N := some 68) (v := ?_) (a' := ?_) #[Y,Y,Y,Y,Y,Y,Y,Y,Y,Y,Y,Y,Y,O,O,O,O,O,O,O,O,O,O,O,O] rfl rfl zx (fun _ _ _ h => h) (Or.inl ⟨by rfl, ?_⟩) ?_ ?_
                rotate_left; (intro w'; go_simp; with_reducible rfl); rotate_left; (simp only [Act.put,qa,qb,qc,i64_w,i32_w]; rfl)
                refine pure_ (i := 13) (N := some 69) (v := ?_) (a' := ?_) #[Y,Y,Y,Y,Y,Y,Y,Y,Y,Y,Y,Y,Y,Y,O,O,O,O,O,O,O,O,O,O,O] rfl rfl zx (fun _ _ _ h => h) (Or.inl ⟨by rfl, ?_⟩) ?_ ?_
                rotate_left; (intro w'; go_simp; with_reducible rfl); rotate_left; (simp only [Act.put,qa,qb,qc,i64_w,i32_w]; rfl)
                refine pure_ (i := 14) (N := some 70) (v := ?_) (a' := ?_) #[Y,Y,Y,Y,Y,Y,Y,Y,Y,Y,Y,Y,Y,Y,Y,O,O,O,O,O,O,O,O,O,O] rfl rfl zx (fun _ _ _ h => h) (Or.inl ⟨by rfl, ?_⟩) ?_ ?_
                rotate_left; (intro w'; go_simp; with_reducible rfl); rotate_left; (simp only [Act.put,qa,qb,qc,i64_w,i32_w]; rfl)
                refine pure_ (i := 16) (N := some 72) (v := ?_) (a' := ?_) #[Y,Y,Y,Y,Y,Y,Y,Y,Y,Y,Y,Y,Y,Y,Y,O,Y,O,O,O,O,O,O,O,O] rfl rfl zx (fun _ _ _ h => h) (Or.inl ⟨by rfl, ?_⟩) ?_ ?_
                rotate_left; (intro w'; go_simp; with_reducible rfl); rotate_left; (simp only [Act.put,qa,qb,qc,i64_w,i32_w]; rfl)
                refine pure_ (i := 19) (N := some 75) (v := ?_) (a' := ?_) #[Y,Y,Y,Y,Y,Y,Y,Y,Y,Y,Y,Y,Y,Y,Y,O,Y,O,O,Y,O,O,O,O,O] rfl rfl zx (fun _ _ _ h => h) (Or.inl ⟨by rfl, ?_⟩) ?_ ?_
                rotate_left; (intro w'; go_simp; with_reducible rfl); rotate_left; (simp only [Act.put,qa,qb,qc,i64_w,i32_w]; rfl)
                refine pure_ (i := 21) (N := some 77) (v := ?_) (a' := ?_) #[Y,Y,Y,Y,Y,Y,Y,Y,Y,Y,Y,Y,Y,Y,Y,O,Y,O,O,Y,O,Y,O,O,O] rfl rfl zx (fun _ _ _ h => h) (Or.inl ⟨by rfl, ?_⟩) ?_ ?_
                rotate_left; (intro w'; go_simp; with_reducible rfl); rotate_left; (simp only [Act.put,qa,qb,qc,i64_w,i32_w]; rfl)
                refine take_ (i := 15) (N := some 71) (v := ?_) (a' := ?_) #[Y,Y,Y,Y,Y,Y,Y,Y,Y,Y,Y,Y,Y,Y,Y,Y,Y,O,O,Y,O,Y,O,O,O] rfl rfl (take_ofW HT_.out HW_.out (by kernel_rfl)) (fun _ _ _ h => h) (Or.inl ⟨by rfl, ?_⟩) hHeld ?_ ?_
                rotate_left; (rintro w' ⟨s0, s1, s2, s3, s4, s5, s6, s7, s8⟩; go_simp; with_reducible rfl); rotate_left; (simp only [Act.put,qa,qb,qc,i64_w,i32_w]; rfl)
                refine take_ (i := 17) (N := some 73) (v := ?_) (a' := ?_) #[Y,Y,Y,Y,Y,Y,Y,Y,Y,Y,Y,Y,Y,Y,Y,Y,Y,Y,O,Y,O,Y,O,O,O] rfl rfl (take_ofW HT_.out HW_.out (by kernel_rfl)) (fun _ _ _ h => h) (Or.inl ⟨by rfl, ?_⟩) hHeld ?_ ?_
                rotate_left; (rintro w' ⟨s0, s1, s2, s3, s4, s5, s6, s7, s8⟩; go_simp; with_reducible rfl); rotate_left; (simp only [Act.put,qa,qb,qc,i64_w,i32_w]; rfl)
                refine take_ (i := 20) (N := some 76) (v := ?_) (a' := ?_) #[Y,Y,Y,Y,Y,Y,Y,Y,Y,Y,Y,Y,Y,Y,Y,Y,Y,Y,O,Y,Y,Y,O,O,O] rfl rfl (take_ofW HT_.out HW_.out (by kernel_rfl)) (fun _ _ _ h => h) (Or.inl ⟨by rfl, ?_⟩) hHeld ?_ ?_
                rotate_left; (rintro w' ⟨s0, s1, s2, s3, s4, s5, s6, s7, s8⟩; go_simp; with_reducible rfl); rotate_left; (simp only [Act.put,qa,qb,qc,i64_w,i32_w]; rfl)
                refine pure_ (i := 22) (N := some 78) (v := ?_) (a' := ?_) #[Y,Y,Y,Y,Y,Y,Y,Y,Y,Y,Y,Y,Y,Y,Y,Y,Y,Y,O,Y,Y,Y,Y,O,O] rfl rfl zx (fun _ _ _ h => h) (Or.inl ⟨by rfl, ?_⟩) ?_ ?_
                rotate_left; (intro w'; go_simp; with_reducible rfl); rotate_left; (simp only [Act.put,qa,qb,qc,i64_w,i32_w]; rfl)
                refine one_ (i := 18) (N := some 74) #[Y,Y,Y,Y,Y,Y,Y,Y,Y,Y,Y,Y,Y,Y,Y,Y,Y,Y,Y,Y,Y,Y,Y,O,O] rfl rfl (one_of HT_.out (by kernel_rfl)) (by decide) (fun K hK => ?_)
                refine goes_ Try.func170 (by kernel_rfl) rfl #[.int .i64 ((rd_T144 l1 x47_2).f3), .slice A1223_5 ((rd_T144 l1 x47_2).f5).length c1223_5] (by rfl) rfl rfl zm ?_
                with_reducible refine (spec_l5Base.calls ((rd_T144 l1 x47_2).f3) _ _ ((rd_T144 l1 x47_2).f5) t1229 _ ?side1 ?side2 A32.out).mono ?_
                (case side1 => repeat (first | exact (Kd.C_below HR1223_5.out (by repeat (first | (with_reducible first | exact HB.out | apply below_alloc | apply pw_below_drewN | apply below_drew1 | refine below_set ?_ GE1224.out | refine below_set ?_ GE1226.out) | exact HB.out))) | (with_reducible refine Kd.C_alloc ?_ _) | (with_reducible refine Kd.C_drewN ?_ _) | (with_reducible refine Kd.C_drew ?_)))
                (case side2 => exact HC1223_5.out)
                rintro e w' ⟨rfl, ⟨nd, rfl⟩⟩
                refine ⟨_, rfl, ?_⟩
                refine hK.out _ _ ⟨(blk_cell BK1226.out 0).trans rfl, (blk_cell BK1226.out 1).trans rfl, (blk_cell BK1226.out 2).trans rfl, (blk_cell BK1224.out 0).trans rfl, (blk_cell BK1224.out 1).trans rfl, (blk_cell BK1224.out 2).trans rfl, (blk_cell BK1224.out 3).trans rfl, (blk_cell BK1224.out 4).trans rfl, (blk_cell BK1224.out 5).trans rfl⟩ (fun hHeld => ?_)
                clear hK K
                refine norm_ (a' := ?_) ?_ ?_
                rotate_left
                ·show Act.put _ (some 74) _ = _
                 simp only [Act.put,qa,qb,qc,i64_w,i32_w]
                 rfl
                refine pure_ (i := 23) (N := some 79) (v := ?_) (a' := ?_) #[Y,Y,Y,Y,Y,Y,Y,Y,Y,Y,Y,Y,Y,Y,Y,Y,Y,Y,Y,Y,Y,Y,Y,Y,O] rfl rfl zx (fun _ _ _ h => h) (Or.inl ⟨by rfl, ?_⟩) ?_ ?_
                rotate_left; (intro w'; go_simp; with_reducible rfl); rotate_left; (simp only [Act.put,qa,qb,qc,i64_w,i32_w]; rfl)
                refine pure_ (i := 24) (N := some 80) (v := ?_) (a' := ?_) #[Y,Y,Y,Y,Y,Y,Y,Y,Y,Y,Y,Y,Y,Y,Y,Y,Y,Y,Y,Y,Y,Y,Y,Y,Y] rfl rfl zx (fun _ _ _ h => h) (Or.inl ⟨by rfl, ?_⟩) ?_ ?_
                rotate_left; (intro w'; go_simp; with_reducible rfl); rotate_left; (simp only [Act.put,qa,qb,qc,i64_w,i32_w]; rfl)
                refine done_ (done_of HT_.out (by kernel_rfl)) ?_
                try go_wp2
                go_ret2
                exact ⟨_, by first | rfl | (simp [errW_none, errW_some] <;> rfl) | (simp [*, errW_none, errW_some] <;> rfl), by first | exact Kd.S_nil _ _ _ _ _ | exact Kd.Q_nil _ _ _ _ _ | exact Kd.R_nil _ _ _ _ _, by repeat (first | (with_reducible first | exact HB.out | apply below_alloc | apply pw_below_drewN | apply below_drew1 | refine below_set ?_ GE1224.out | refine below_set ?_ GE1226.out) | exact HB.out)⟩
              ·replace c31 := Bool.eq_false_iff.mpr c31
               subst c31
               have H1 : (some (([] : List (S111)), 2)) = some (r1, r2) := by rw [if_neg (show ¬ (false = true) by decide)] at H; exact H
               clear H
               have H := H1
               clear H1
               simp only [Option.some.injEq, Prod.mk.injEq] at H
               obtain ⟨rfl, rfl⟩ := H
               have p1223 : 0 ≤ (x47_2 : Int) := oa
               have q1223 : x47_2 < (l1.length : Int) := oa
               obtain ⟨ad1223, A1223_2, c1223_2, A1223_5, c1223_5, e1223, hx1223_0, hx1223_1, hx1223_2, hx1223_3, hx1223_4, hx1223_5, hl1223_2, hi1223_2, hl1223_5, hi1223_5⟩ := at_T144 HR1.out x47_2 p1223 q1223
               cases e1223
               replace hx1223_0 := (HB.out.cell (World.block_lt_of_cell? w _ hx1223_0)).trans hx1223_0
               replace hx1223_1 := (HB.out.cell (World.block_lt_of_cell? w _ hx1223_1)).trans hx1223_1
               replace hx1223_2 := (HB.out.cell (World.block_lt_of_cell? w _ hx1223_2)).trans hx1223_2
               replace hx1223_3 := (HB.out.cell (World.block_lt_of_cell? w _ hx1223_3)).trans hx1223_3
               replace hx1223_4 := (HB.out.cell (World.block_lt_of_cell? w _ hx1223_4)).trans hx1223_4
               replace hx1223_5 := (HB.out.cell (World.block_lt_of_cell? w _ hx1223_5)).trans hx1223_5
               have HR1223_2 := Aside0.mk hi1223_2
               have HC1223_2 := Aside0.mk hl1223_2
               clear hi1223_2 hl1223_2
               have HR1223_5 := Aside0.mk hi1223_5
               have HC1223_5 := Aside0.mk hl1223_5
               clear hi1223_5 hl1223_5
               replace p1223 := eq_true p1223
               replace q1223 := eq_true q1223
               try go_wp2_with (first | ((with_reducible refine gate_dst (N := 11) rfl ?_); refine box_event ?hg (N := 11) ?hd (cs := #[.int .i64 0, .int .i64 0, .slice none 0 0, .int .i64 0, .int .i64 0, .slice none 0 0]) (t := 144) ?hr ?_; (case hd => rfl); (case hg => rfl); (case hr => first | (go_simp; done) | (go_simp; rfl)); intro gb1224 hg w54 hbox hb; have n0_ := Aside0.mk (Kd.S_below (zs HO_6.out) hb); have n1_ := Aside0.mk (below_step zb hb); have n2_ := Aside0.mk (hbox); have n3_ := Aside0.mk ((by rw [hg]; exact (below_size zb) : w.heap.size ≤ gb1224)); have n4_ := Aside0.mk ((by rw [hg]; exact (below_size zb) : w.heap.size ≤ gb1224)); clear HO_6; clear HB; have HO_6 := n0_; have HB := n1_; have BK1224 := n2_; have GW1224 := n3_; have GE1224 := n4_; clear n0_ n1_ n2_ n3_ n4_; clear hb hbox hg; have hcz55_0 : w54.cell? ⟨gb1224, 0, none⟩ = some (.int .i64 0) := (blk_cell BK1224.out 0).trans rfl; have hcz55_1 : w54.cell? ⟨gb1224, 1, none⟩ = some (.int .i64 0) := (blk_cell BK1224.out 1).trans rfl; have hcz55_2 : w54.cell? ⟨gb1224, 2, none⟩ = some (.slice none 0 0) := (blk_cell BK1224.out 2).trans rfl; have hcz55_3 : w54.cell? ⟨gb1224, 3, none⟩ = some (.int .i64 0) := (blk_cell BK1224.out 3).trans rfl; have hcz55_4 : w54.cell? ⟨gb1224, 4, none⟩ = some (.int .i64 0) := (blk_cell BK1224.out 4).trans rfl; have hcz55_5 : w54.cell? ⟨gb1224, 5, none⟩ = some (.slice none 0 0) := (blk_cell BK1224.out 5).trans rfl; have hfz55_0 := blk_frozen BK1224.out 0; have hfz55_1 := blk_frozen BK1224.out 1; have hfz55_2 := blk_frozen BK1224.out 2; have hfz55_3 := blk_frozen BK1224.out 3; have hfz55_4 := blk_frozen BK1224.out 4; have hfz55_5 := blk_frozen BK1224.out 5) | ((with_reducible refine gate_store (t := 144) (p := 11) rfl ?_); refine store_event (t := 144) (p := 11) (v := ?vo_w56) (w1 := ((((((w54.setCell ⟨gb1224, 0, none⟩ (.int .i64 ((rd_T144 l1 x47_2).f0))).setCell ⟨gb1224, 1, none⟩ (.int .i64 ((rd_T144 l1 x47_2).f1))).setCell ⟨gb1224, 2, none⟩ (.slice A1223_2 ((rd_T144 l1 x47_2).f2).length c1223_2)).setCell ⟨gb1224, 3, none⟩ (.int .i64 ((rd_T144 l1 x47_2).f3))).setCell ⟨gb1224, 4, none⟩ (.int .i64 ((rd_T144 l1 x47_2).f4))).setCell ⟨gb1224, 5, none⟩ (.slice A1223_5 ((rd_T144 l1 x47_2).f5).length c1223_5))) ?hg ?ho ?hn ?hr ?_; (case ho => rfl); (case hg => rfl); (case hn => rfl); (case hr => first | (go_simp; done) | (go_simp; rfl)); intro w56 hw; have n0_ : Aside0 (Kd.S k111 111 w56 w.heap.size (fun _ => True) (.slice Ao21 x6_1.length co21) x6_1) := ⟨(by rw [hw]; exact (by (with_reducible repeat (first | apply Kd.S_alloc | apply Kd.S_drewN | apply Kd.S_drew)); exact Kd.S_mono (Kd.S_far (p := ⟨gb1224, 5, none⟩) (Kd.S_far (p := ⟨gb1224, 4, none⟩) (Kd.S_far (p := ⟨gb1224, 3, none⟩) (Kd.S_far (p := ⟨gb1224, 2, none⟩) (Kd.S_far (p := ⟨gb1224, 1, none⟩) (Kd.S_far (p := ⟨gb1224, 0, none⟩) (Kd.S_types HO_6.out BK1224.out (by decide)) (fun _ hk => hk.2) (.int .i64 ((rd_T144 l1 x47_2).f0))) (fun _ hk => hk.2) (.int .i64 ((rd_T144 l1 x47_2).f1))) (fun _ hk => hk.2) (.slice A1223_2 ((rd_T144 l1 x47_2).f2).length c1223_2)) (fun _ hk => hk.2) (.int .i64 ((rd_T144 l1 x47_2).f3))) (fun _ hk => hk.2) (.int .i64 ((rd_T144 l1 x47_2).f4))) (fun _ hk => hk.2) (.slice A1223_5 ((rd_T144 l1 x47_2).f5).length c1223_5)) (fun _ hk => trivial)))⟩; have n1_ : Aside0 (w56.heap[gb1224]? = some (.cells #[.int .i64 ((rd_T144 l1 x47_2).f0), .int .i64 ((rd_T144 l1 x47_2).f1), .slice A1223_2 ((rd_T144 l1 x47_2).f2).length c1223_2, .int .i64 ((rd_T144 l1 x47_2).f3), .int .i64 ((rd_T144 l1 x47_2).f4), .slice A1223_5 ((rd_T144 l1 x47_2).f5).length c1223_5] 144 (0, 0))) := ⟨(by rw [hw]; exact (by (with_reducible repeat (first | refine blk_drewN ?_ _ | refine blk_drew ?_ | refine blk_alloc ?_ _)); refine blk_put (cs := #[.int .i64 ((rd_T144 l1 x47_2).f0), .int .i64 ((rd_T144 l1 x47_2).f1), .slice A1223_2 ((rd_T144 l1 x47_2).f2).length c1223_2, .int .i64 ((rd_T144 l1 x47_2).f3), .int .i64 ((rd_T144 l1 x47_2).f4), .slice none 0 0]) ?_ 5 _ rfl; (with_reducible repeat (first | refine blk_drewN ?_ _ | refine blk_drew ?_ | refine blk_alloc ?_ _)); refine blk_put (cs := #[.int .i64 ((rd_T144 l1 x47_2).f0), .int .i64 ((rd_T144 l1 x47_2).f1), .slice A1223_2 ((rd_T144 l1 x47_2).f2).length c1223_2, .int .i64 ((rd_T144 l1 x47_2).f3), .int .i64 0, .slice none 0 0]) ?_ 4 _ rfl; (with_reducible repeat (first | refine blk_drewN ?_ _ | refine blk_drew ?_ | refine blk_alloc ?_ _)); refine blk_put (cs := #[.int .i64 ((rd_T144 l1 x47_2).f0), .int .i64 ((rd_T144 l1 x47_2).f1), .slice A1223_2 ((rd_T144 l1 x47_2).f2).length c1223_2, .int .i64 0, .int .i64 0, .slice none 0 0]) ?_ 3 _ rfl; (with_reducible repeat (first | refine blk_drewN ?_ _ | refine blk_drew ?_ | refine blk_alloc ?_ _)); refine blk_put (cs := #[.int .i64 ((rd_T144 l1 x47_2).f0), .int .i64 ((rd_T144 l1 x47_2).f1), .slice none 0 0, .int .i64 0, .int .i64 0, .slice none 0 0]) ?_ 2 _ rfl; (with_reducible repeat (first | refine blk_drewN ?_ _ | refine blk_drew ?_ | refine blk_alloc ?_ _)); refine blk_put (cs := #[.int .i64 ((rd_T144 l1 x47_2).f0), .int .i64 0, .slice none 0 0, .int .i64 0, .int .i64 0, .slice none 0 0]) ?_ 1 _ rfl; (with_reducible repeat (first | refine blk_drewN ?_ _ | refine blk_drew ?_ | refine blk_alloc ?_ _)); refine blk_put (cs := #[.int .i64 0, .int .i64 0, .slice none 0 0, .int .i64 0, .int .i64 0, .slice none 0 0]) ?_ 0 _ rfl; (with_reducible repeat (first | refine blk_drewN ?_ _ | refine blk_drew ?_ | refine blk_alloc ?_ _)); exact BK1224.out))⟩; have n2_ : Aside0 (Below w.heap.size w w56) := ⟨(by rw [hw]; exact (by repeat (first | (with_reducible first | exact HB.out | apply below_alloc | apply pw_below_drewN | apply below_drew1 | refine below_set ?_ GE1224.out) | exact HB.out)))⟩; clear hw; clear HO_6; clear BK1224; clear HB; have HO_6 := n0_; have BK1224 := n1_; have HB := n2_; clear n0_ n1_ n2_; have p1225 : 0 ≤ (x47_2 : Int) := oa; have q1225 : x47_2 < (x6_1.length : Int) := oa; obtain ⟨ad1225, A1225_2, c1225_2, e1225, hx1225_0, hx1225_1, hx1225_2, hl1225_2, hi1225_2⟩ := at_T111 (Kd.S_reads' HO_6.out).2.2 x47_2 p1225 q1225; cases e1225; obtain ⟨ce1225, hce1225, hMe1225, hcc1225⟩ := Kd.S_get HO_6.out z111 x47_2 p1225 (by first | exact q1225 | exact oa | (have e_ := (Kd.S_reads' HO_6.out).1; omega)); obtain ⟨ve1225_2, rfl, ge1225_2⟩ := k111_openM hMe1225; have hv1225_2 := hcc1225 2 _ rfl; rw [add_field _ _ 2 (by omega)] at hv1225_2; replace hv1225_2 := Option.some.inj (hv1225_2.symm.trans hx1225_2); rw [hv1225_2] at ge1225_2; have HL1225_2 := Aside0.mk (show Kd.R Kd.string 9 _ _ _ _ ((rd_T111 x6_1 x47_2).f2) from ge1225_2); clear hv1225_2 ge1225_2; clear hcc1225 hce1225; have HR1225_2 := Aside0.mk hi1225_2; have HC1225_2 := Aside0.mk hl1225_2; clear hi1225_2 hl1225_2; replace p1225 := eq_true p1225; replace q1225 := eq_true q1225) | ((with_reducible refine gate_dst (N := 12) rfl ?_); refine box_event ?hg (N := 12) ?hd (cs := #[.int .i64 0, .int .i64 0, .slice none 0 0]) (t := 111) ?hr ?_; (case hd => rfl); (case hg => rfl); (case hr => first | (go_simp; done) | (go_simp; rfl)); intro gb1226 hg w57 hbox hb; have n0_ := Aside0.mk (Kd.S_below (Kd.S_elderB (zs HO_6.out) gb1226 (Nat.le_of_eq hg.symm)) hb); have n1_ := Aside0.mk (Kd.R_below (zr HL1225_2.out) hb); have n2_ := Aside0.mk (blk_below (g := gb1224) (o := .cells #[.int .i64 ((rd_T144 l1 x47_2).f0), .int .i64 ((rd_T144 l1 x47_2).f1), .slice A1223_2 ((rd_T144 l1 x47_2).f2).length c1223_2, .int .i64 ((rd_T144 l1 x47_2).f3), .int .i64 ((rd_T144 l1 x47_2).f4), .slice A1223_5 ((rd_T144 l1 x47_2).f5).length c1223_5] 144 (0, 0)) (zk BK1224.out) hb); have n3_ := Aside0.mk (Kd.C_below (by repeat (first | (with_reducible exact HR1225_2.out) | (with_reducible refine Kd.C_alloc ?_ _) | (with_reducible refine Kd.C_drewN ?_ _) | (with_reducible refine Kd.C_drew ?_) | exact HR1225_2.out)) hb); have n4_ := Aside0.mk (below_step (by repeat (first | (with_reducible first | exact HB.out | apply below_alloc | apply pw_below_drewN | apply below_drew1 | refine below_set ?_ GE1224.out) | exact HB.out)) hb); have n5_ := Aside0.mk (hbox); have n6_ := Aside0.mk ((by rw [hg]; exact (below_size (by repeat (first | (with_reducible first | exact HB.out | apply below_alloc | apply pw_below_drewN | apply below_drew1 | refine below_set ?_ GE1224.out) | exact HB.out))) : w.heap.size ≤ gb1226)); have n7_ := Aside0.mk ((by rw [hg]; exact (below_size (by repeat (first | (with_reducible first | exact HB.out | apply below_alloc | apply pw_below_drewN | apply below_drew1 | refine below_set ?_ GE1224.out) | exact HB.out))) : w.heap.size ≤ gb1226)); have n8_ := Aside0.mk ((by rw [hg]; exact Nat.ne_of_lt (blk_lt (g := gb1224) (o := .cells #[.int .i64 ((rd_T144 l1 x47_2).f0), .int .i64 ((rd_T144 l1 x47_2).f1), .slice A1223_2 ((rd_T144 l1 x47_2).f2).length c1223_2, .int .i64 ((rd_T144 l1 x47_2).f3), .int .i64 ((rd_T144 l1 x47_2).f4), .slice A1223_5 ((rd_T144 l1 x47_2).f5).length c1223_5] 144 (0, 0)) (zk BK1224.out)) : gb1224 ≠ gb1226)); have n9_ := Aside0.mk ((by rw [hg]; exact Nat.ne_of_gt (blk_lt (g := gb1224) (o := .cells #[.int .i64 ((rd_T144 l1 x47_2).f0), .int .i64 ((rd_T144 l1 x47_2).f1), .slice A1223_2 ((rd_T144 l1 x47_2).f2).length c1223_2, .int .i64 ((rd_T144 l1 x47_2).f3), .int .i64 ((rd_T144 l1 x47_2).f4), .slice A1223_5 ((rd_T144 l1 x47_2).f5).length c1223_5] 144 (0, 0)) (zk BK1224.out)) : gb1226 ≠ gb1224)); clear HO_6; clear HL1225_2; clear BK1224; clear HR1225_2; clear HB; have HO_6 := n0_; have HL1225_2 := n1_; have BK1224 := n2_; have HR1225_2 := n3_; have HB := n4_; have BK1226 := n5_; have GW1226 := n6_; have GE1226 := n7_; have NB1224_1226 := n8_; have NB1226_1224 := n9_; clear n0_ n1_ n2_ n3_ n4_ n5_ n6_ n7_ n8_ n9_; clear hb hbox hg; have hnb58 := NB1226_1224.out; have hnc58 := NB1224_1226.out; have hcz59_0 : w57.cell? ⟨gb1226, 0, none⟩ = some (.int .i64 0) := (blk_cell BK1226.out 0).trans rfl; have hcz59_1 : w57.cell? ⟨gb1226, 1, none⟩ = some (.int .i64 0) := (blk_cell BK1226.out 1).trans rfl; have hcz59_2 : w57.cell? ⟨gb1226, 2, none⟩ = some (.slice none 0 0) := (blk_cell BK1226.out 2).trans rfl; have hfz59_0 := blk_frozen BK1226.out 0; have hfz59_1 := blk_frozen BK1226.out 1; have hfz59_2 := blk_frozen BK1226.out 2))
               have n0_ : Aside0 (Kd.S k111 111 (((w57.setCell ⟨gb1226, 0, none⟩ (.int .i64 ((rd_T111 x6_1 x47_2).f0))).setCell ⟨gb1226, 1, none⟩ (.int .i64 ((rd_T111 x6_1 x47_2).f1))).setCell ⟨gb1226, 2, none⟩ (.slice A1225_2 ((rd_T111 x6_1 x47_2).f2).length c1225_2)) w.heap.size (fun k_ => k_ ≠ gb1226) (.slice (some ad1225) x6_1.length co21) x6_1) := ⟨by (with_reducible repeat (first | apply Kd.S_alloc | apply Kd.S_drewN | apply Kd.S_drew)); exact Kd.S_mono (Kd.S_far (p := ⟨gb1226, 2, none⟩) (Kd.S_far (p := ⟨gb1226, 1, none⟩) (Kd.S_far (p := ⟨gb1226, 0, none⟩) (Kd.S_mono HO_6.out (fun k_ hk => (⟨hk, hk.2⟩ : _ ∧ k_ ≠ gb1226))) (fun _ hk => hk.2) (.int .i64 ((rd_T111 x6_1 x47_2).f0))) (fun _ hk => hk.2) (.int .i64 ((rd_T111 x6_1 x47_2).f1))) (fun _ hk => hk.2) (.slice A1225_2 ((rd_T111 x6_1 x47_2).f2).length c1225_2)) (fun _ hk => hk.1.2)⟩
               have n1_ : Aside0 (Kd.R Kd.string 9 (((w57.setCell ⟨gb1226, 0, none⟩ (.int .i64 ((rd_T111 x6_1 x47_2).f0))).setCell ⟨gb1226, 1, none⟩ (.int .i64 ((rd_T111 x6_1 x47_2).f1))).setCell ⟨gb1226, 2, none⟩ (.slice A1225_2 ((rd_T111 x6_1 x47_2).f2).length c1225_2)) w.heap.size (fun k_ => some k_ ≠ (.slice (some ad1225) x6_1.length co21 : Value).ownBlock) (.slice A1225_2 ((rd_T111 x6_1 x47_2).f2).length c1225_2) ((rd_T111 x6_1 x47_2).f2)) := ⟨by (with_reducible repeat (first | apply Kd.R_alloc | apply Kd.R_drewN | apply Kd.R_drew)); exact Kd.R_mono (Kd.R_far (p := ⟨gb1226, 2, none⟩) (Kd.R_far (p := ⟨gb1226, 1, none⟩) (Kd.R_far (p := ⟨gb1226, 0, none⟩) (Kd.R_types HL1225_2.out BK1226.out (by decide)) (fun _ hk => hk.2) (.int .i64 ((rd_T111 x6_1 x47_2).f0))) (fun _ hk => hk.2) (.int .i64 ((rd_T111 x6_1 x47_2).f1))) (fun _ hk => hk.2) (.slice A1225_2 ((rd_T111 x6_1 x47_2).f2).length c1225_2)) (fun _ hk => hk.1.2)⟩
               have n2_ : Aside0 ((((w57.setCell ⟨gb1226, 0, none⟩ (.int .i64 ((rd_T111 x6_1 x47_2).f0))).setCell ⟨gb1226, 1, none⟩ (.int .i64 ((rd_T111 x6_1 x47_2).f1))).setCell ⟨gb1226, 2, none⟩ (.slice A1225_2 ((rd_T111 x6_1 x47_2).f2).length c1225_2)).heap[gb1224]? = some (.cells #[.int .i64 ((rd_T144 l1 x47_2).f0), .int .i64 ((rd_T144 l1 x47_2).f1), .slice A1223_2 ((rd_T144 l1 x47_2).f2).length c1223_2, .int .i64 ((rd_T144 l1 x47_2).f3), .int .i64 ((rd_T144 l1 x47_2).f4), .slice A1223_5 ((rd_T144 l1 x47_2).f5).length c1223_5] 144 (0, 0))) := ⟨by (with_reducible repeat (first | refine blk_drewN ?_ _ | refine blk_drew ?_ | refine blk_alloc ?_ _)); refine blk_far ?_ NB1224_1226.out _; (with_reducible repeat (first | refine blk_drewN ?_ _ | refine blk_drew ?_ | refine blk_alloc ?_ _)); refine blk_far ?_ NB1224_1226.out _; (with_reducible repeat (first | refine blk_drewN ?_ _ | refine blk_drew ?_ | refine blk_alloc ?_ _)); refine blk_far ?_ NB1224_1226.out _; (with_reducible repeat (first | refine blk_drewN ?_ _ | refine blk_drew ?_ | refine blk_alloc ?_ _)); exact BK1224.out⟩
               have n3_ : Aside0 ((((w57.setCell ⟨gb1226, 0, none⟩ (.int .i64 ((rd_T111 x6_1 x47_2).f0))).setCell ⟨gb1226, 1, none⟩ (.int .i64 ((rd_T111 x6_1 x47_2).f1))).setCell ⟨gb1226, 2, none⟩ (.slice A1225_2 ((rd_T111 x6_1 x47_2).f2).length c1225_2)).heap[gb1226]? = some (.cells #[.int .i64 ((rd_T111 x6_1 x47_2).f0), .int .i64 ((rd_T111 x6_1 x47_2).f1), .slice A1225_2 ((rd_T111 x6_1 x47_2).f2).length c1225_2] 111 (0, 0))) := ⟨by (with_reducible repeat (first | refine blk_drewN ?_ _ | refine blk_drew ?_ | refine blk_alloc ?_ _)); refine blk_put (cs := #[.int .i64 ((rd_T111 x6_1 x47_2).f0), .int .i64 ((rd_T111 x6_1 x47_2).f1), .slice none 0 0]) ?_ 2 _ rfl; (with_reducible repeat (first | refine blk_drewN ?_ _ | refine blk_drew ?_ | refine blk_alloc ?_ _)); refine blk_put (cs := #[.int .i64 ((rd_T111 x6_1 x47_2).f0), .int .i64 0, .slice none 0 0]) ?_ 1 _ rfl; (with_reducible repeat (first | refine blk_drewN ?_ _ | refine blk_drew ?_ | refine blk_alloc ?_ _)); refine blk_put (cs := #[.int .i64 0, .int .i64 0, .slice none 0 0]) ?_ 0 _ rfl; (with_reducible repeat (first | refine blk_drewN ?_ _ | refine blk_drew ?_ | refine blk_alloc ?_ _)); exact BK1226.out⟩
               have n4_ : Aside0 (Below w.heap.size w (((w57.setCell ⟨gb1226, 0, none⟩ (.int .i64 ((rd_T111 x6_1 x47_2).f0))).setCell ⟨gb1226, 1, none⟩ (.int .i64 ((rd_T111 x6_1 x47_2).f1))).setCell ⟨gb1226, 2, none⟩ (.slice A1225_2 ((rd_T111 x6_1 x47_2).f2).length c1225_2))) := ⟨by repeat (first | (with_reducible first | exact HB.out | apply below_alloc | apply pw_below_drewN | apply below_drew1 | refine below_set ?_ GE1224.out | refine below_set ?_ GE1226.out) | exact HB.out)⟩
               (try clear HO_6)
               (try clear HL1225_2)
               (try clear BK1224)
               (try clear BK1226)
               (try clear HB)
               (try simp only [show ∀ (w_ : World) (n_ : Nat) (p_ : Addr) (v_ : Value), (w_.drewN n_).setCell p_ v_ = (w_.setCell p_ v_).drewN n_ from fun _ _ _ _ => rfl])
               generalize (((w57.setCell ⟨gb1226, 0, none⟩ (.int .i64 ((rd_T111 x6_1 x47_2).f0))).setCell ⟨gb1226, 1, none⟩ (.int .i64 ((rd_T111 x6_1 x47_2).f1))).setCell ⟨gb1226, 2, none⟩ (.slice A1225_2 ((rd_T111 x6_1 x47_2).f2).length c1225_2)) = w60 at n0_ n1_ n2_ n3_ n4_ ⊢
               have HO_6 := n0_
               have HL1225_2 := n1_
               have BK1224 := n2_
               have BK1226 := n3_
               have HB := n4_
               clear n0_ n1_ n2_ n3_ n4_
               have n0_ := Aside0.mk (Kd.S_drew HO_6.out)
               have n1_ := Aside0.mk (Kd.R_drew HL1225_2.out)
               have n2_ := Aside0.mk (blk_drew BK1224.out)
               have n3_ := Aside0.mk (blk_drew BK1226.out)
               have n4_ := Aside0.mk (below_drew1 HB.out)
               clear HO_6
               clear HL1225_2
               clear BK1224
               clear BK1226
               clear HB
               have HO_6 := n0_
               have HL1225_2 := n1_
               have BK1224 := n2_
               have BK1226 := n3_
               have HB := n4_
               clear n0_ n1_ n2_ n3_ n4_
               obtain ⟨i062, hi062, _, hsz62, _⟩ := info_parts info9
               obtain ⟨A62, hcut62, hA62, hC62⟩ := print_mid_of (P := Try.prog) Value.string (⟨#[]⟩ : ByteArray) 22 9 .i64 .i64 Try.underlying22 hi062 hsz62 A0 c0 l0 ((rd_T111 x6_1 x47_2).f0) (wrap64 (((rd_T111 x6_1 x47_2).f0) + ((rd_T111 x6_1 x47_2).f1))) oa (by first | omega | exact oa) oa HC0.out
               have HR1227 := Aside0.mk (Kd.C_of_reads (h1 := fun _ => rfl) (hA62 _ (Kd.reads_of_C HR0.out)))
               have HC1227 := Aside0.mk hC62
               clear hA62 hC62 hi062 hsz62
               refine start_ (n := 25) (S := fun w' => w'.cell? ⟨gb1226, 0, none⟩ = some (.int .i64 ((rd_T111 x6_1 x47_2).f0)) ∧ w'.cell? ⟨gb1226, 1, none⟩ = some (.int .i64 ((rd_T111 x6_1 x47_2).f1)) ∧ w'.cell? ⟨gb1226, 2, none⟩ = some (.slice A1225_2 ((rd_T111 x6_1 x47_2).f2).length c1225_2) ∧ w'.cell? ⟨gb1224, 0, none⟩ = some (.int .i64 ((rd_T144 l1 x47_2).f0)) ∧ w'.cell? ⟨gb1224, 1, none⟩ = some (.int .i64 ((rd_T144 l1 x47_2).f1)) ∧ w'.cell? ⟨gb1224, 2, none⟩ = some (.slice A1223_2 ((rd_T144 l1 x47_2).f2).length c1223_2) ∧ w'.cell? ⟨gb1224, 3, none⟩ = some (.int .i64 ((rd_T144 l1 x47_2).f3)) ∧ w'.cell? ⟨gb1224, 4, none⟩ = some (.int .i64 ((rd_T144 l1 x47_2).f4)) ∧ w'.cell? ⟨gb1224, 5, none⟩ = some (.slice A1223_5 ((rd_T144 l1 x47_2).f5).length c1223_5)) (ds := []) #[O,O,O,O,O,O,O,O,O,O,O,O,O,O,O,O,O,O,O,O,O,O,O,O,O] (by kernel_rfl) rfl rfl ⟨(blk_cell BK1226.out 0).trans rfl, (blk_cell BK1226.out 1).trans rfl, (blk_cell BK1226.out 2).trans rfl, (blk_cell BK1224.out 0).trans rfl, (blk_cell BK1224.out 1).trans rfl, (blk_cell BK1224.out 2).trans rfl, (blk_cell BK1224.out 3).trans rfl, (blk_cell BK1224.out 4).trans rfl, (blk_cell BK1224.out 5).trans rfl⟩ (fun hHeld => ?_); refine with_tabW spec_l5Hunks.tab16 spec_l5Hunks.bits16 (fun HT_ HW_ => ?_)
               generalize w60.drew = w61 at HO_6 HL1225_2 BK1224 BK1226 HB HR1227 hHeld ⊢
               refine pure_ (i := 0) (N := some 56) (v := ?_) (a' := ?_) #[Y,O,O,O,O,O,O,O,O,O,O,O,O,O,O,O,O,O,O,O,O,O,O,O,O] rfl rfl zx (fun _ _ _ h => h) (Or.inl ⟨by rfl, ?_⟩) ?_ ?_
               rotate_left; (intro w'; go_simp; with_reducible rfl); rotate_left; (simp only [Act.put,qa,qb,qc,i64_w,i32_w]; rfl)
               refine pure_ (i := 1) (N := some 57) (v := ?_) (a' := ?_) #[Y,Y,O,O,O,O,O,O,O,O,O,O,O,O,O,O,O,O,O,O,O,O,O,O,O] rfl rfl zx (fun _ _ _ h => h) (Or.inl ⟨by rfl, ?_⟩) ?_ ?_
               rotate_left; (intro w'; go_simp; with_reducible rfl); rotate_left; (simp only [Act.put,qa,qb,qc,i64_w,i32_w]; rfl)
               refine pure_ (i := 3) (N := some 59) (v := ?_) (a' := ?_) #[Y,Y,O,Y,O,O,O,O,O,O,O,O,O,O,O,O,O,O,O,O,O,O,O,O,O] rfl rfl zx (fun _ _ _ h => h) (Or.inl ⟨by rfl, ?_⟩) ?_ ?_
               rotate_left; (intro w'; go_simp; with_reducible rfl); rotate_left; (simp only [Act.put,qa,qb,qc,i64_w,i32_w]; rfl)
               refine pure_ (i := 5) (N := some 61) (v := ?_) (a' := ?_) #[Y,Y,O,Y,O,Y,O,O,O,O,O,O,O,O,O,O,O,O,O,O,O,O,O,O,O] rfl rfl zx (fun _ _ _ h => h) (Or.inl ⟨by rfl, ?_⟩) ?_ ?_
               rotate_left; (intro w'; go_simp; with_reducible rfl); rotate_left; (simp only [Act.put,qa,qb,qc,i64_w,i32_w]; rfl)
               refine pure_ (i := 9) (N := some 65) (v := ?_) (a' := ?_) #[Y,Y,O,Y,O,Y,O,O,O,Y,O,O,O,O,O,O,O,O,O,O,O,O,O,O,O] rfl rfl zx (fun _ _ _ h => h) (Or.inl ⟨by rfl, ?_⟩) ?_ ?_
               rotate_left; (intro w'; go_simp; with_reducible rfl); rotate_left; (simp only [Act.put,qa,qb,qc,i64_w,i32_w]; rfl)
               refine take_ (i := 2) (N := some 58) (v := ?_) (a' := ?_) #[Y,Y,Y,Y,O,Y,O,O,O,Y,O,O,O,O,O,O,O,O,O,O,O,O,O,O,O] rfl rfl (take_ofW HT_.out HW_.out (by kernel_rfl)) (fun _ _ _ h => h) (Or.inl ⟨by rfl, ?_⟩) hHeld ?_ ?_
               rotate_left; (rintro w' ⟨s0, s1, s2, s3, s4, s5, s6, s7, s8⟩; go_simp; with_reducible rfl); rotate_left; (simp only [Act.put,qa,qb,qc,i64_w,i32_w]; rfl)
               refine take_ (i := 4) (N := some 60) (v := ?_) (a' := ?_) #[Y,Y,Y,Y,Y,Y,O,O,O,Y,O,O,O,O,O,O,O,O,O,O,O,O,O,O,O] rfl rfl (take_ofW HT_.out HW_.out (by kernel_rfl)) (fun _ _ _ h => h) (Or.inl ⟨by rfl, ?_⟩) hHeld ?_ ?_
               rotate_left; (rintro w' ⟨s0, s1, s2, s3, s4, s5, s6, s7, s8⟩; go_simp; with_reducible rfl); rotate_left; (simp only [Act.put,qa,qb,qc,i64_w,i32_w]; rfl)
               refine take_ (i := 6) (N := some 62) (v := ?_) (a' := ?_) #[Y,Y,Y,Y,Y,Y,Y,O,O,Y,O,O,O,O,O,O,O,O,O,O,O,O,O,O,O] rfl rfl (take_ofW HT_.out HW_.out (by kernel_rfl)) (fun _ _ _ h => h) (Or.inl ⟨by rfl, ?_⟩) hHeld ?_ ?_
               rotate_left; (rintro w' ⟨s0, s1, s2, s3, s4, s5, s6, s7, s8⟩; go_simp; with_reducible rfl); rotate_left; (simp only [Act.put,qa,qb,qc,i64_w,i32_w]; rfl)
               refine pure_ (i := 7) (N := some 63) (v := ?_) (a' := ?_) #[Y,Y,Y,Y,Y,Y,Y,Y,O,Y,O,O,O,O,O,O,O,O,O,O,O,O,O,O,O] rfl rfl zx (fun _ _ _ h => h) (Or.inl ⟨by rfl, ?_⟩) ?_ ?_
               rotate_left; (intro w'; go_simp; with_reducible rfl); rotate_left; (simp only [Act.put,qa,qb,qc,i64_w,i32_w]; rfl)
               refine pure_ (i := 8) (N := some 64) (v := ?_) (a' := ?_) #[Y,Y,Y,Y,Y,Y,Y,Y,Y,Y,O,O,O,O,O,O,O,O,O,O,O,O,O,O,O] rfl rfl zx (fun _ _ _ h => h) (Or.inl ⟨by rfl, ?_⟩) ?_ ?_
               rotate_left; (intro w'; go_simp; with_reducible rfl); rotate_left; (simp only [Act.put,qa,qb,qc,i64_w,i32_w]; rfl)
               refine take_ (i := 10) (N := some 66) (v := ?_) (a' := ?_) #[Y,Y,Y,Y,Y,Y,Y,Y,Y,Y,Y,O,O,O,O,O,O,O,O,O,O,O,O,O,O] rfl rfl (take_ofW HT_.out HW_.out (by kernel_rfl)) (fun _ _ _ h => h) (Or.inl ⟨by rfl, ?_⟩) hHeld ?_ ?_
               rotate_left; (rintro w' ⟨s0, s1, s2, s3, s4, s5, s6, s7, s8⟩; go_simp; with_reducible rfl); rotate_left; (simp only [Act.put,qa,qb,qc,i64_w,i32_w]; rfl)
               refine one_ (i := 11) (N := some 67) #[Y,Y,Y,Y,Y,Y,Y,Y,Y,Y,Y,Y,O,O,O,O,O,O,O,O,O,O,O,O,O] rfl rfl (one_of HT_.out (by kernel_rfl)) (by decide) (fun K hK => ?_)
               refine goes_ Try.func117 (by kernel_rfl) rfl #[.slice A62 ((l0.take ((wrap64 (((rd_T111 x6_1 x47_2).f0) + ((rd_T111 x6_1 x47_2).f1))) : Int).toNat).drop (((rd_T111 x6_1 x47_2).f0) : Int).toNat).length (c0 - ((rd_T111 x6_1 x47_2).f0).toNat), .slice A1223_2 ((rd_T144 l1 x47_2).f2).length c1223_2] (by rfl) rfl rfl (by (try simp only [List.map_toArray, List.map_cons, List.map_nil]); first | done | (rw [show ((l0.take ((wrap64 (((rd_T111 x6_1 x47_2).f0) + ((rd_T111 x6_1 x47_2).f1))) : Int).toNat).drop (((rd_T111 x6_1 x47_2).f0) : Int).toNat).length = ((wrap64 (((rd_T111 x6_1 x47_2).f0) + ((rd_T111 x6_1 x47_2).f1))).toNat - ((rd_T111 x6_1 x47_2).f0).toNat) from (by rw [List.length_drop, List.length_take]; have h_ : ((wrap64 (((rd_T111 x6_1 x47_2).f0) + ((rd_T111 x6_1 x47_2).f1))) : Int) ≤ (l0.length : Int) := oa; omega)] <;> rfl) | rfl | (simp only [List.length_drop, List.length_take]; rfl)) ?_
               with_reducible refine (spec_l1SameT.calls k2 _ _ ((l0.take ((wrap64 (((rd_T111 x6_1 x47_2).f0) + ((rd_T111 x6_1 x47_2).f1))) : Int).toNat).drop (((rd_T111 x6_1 x47_2).f0) : Int).toNat) _ _ ((rd_T144 l1 x47_2).f2) false _ ?side1 ?side2 ?side3 ?side4 A30.out).mono ?_
               (case side1 => exact zq (Kd.C_below HR1227.out HB.out))
               (case side2 => exact HC1227.out)
               (case side3 => exact zq (Kd.C_below HR1223_2.out HB.out))
               (case side4 => exact HC1223_2.out)
               rintro e w' ⟨rfl, ⟨nd, rfl⟩⟩
               refine ⟨_, rfl, ?_⟩
               refine hK.out _ _ ⟨(blk_cell BK1226.out 0).trans rfl, (blk_cell BK1226.out 1).trans rfl, (blk_cell BK1226.out 2).trans rfl, (blk_cell BK1224.out 0).trans rfl, (blk_cell BK1224.out 1).trans rfl, (blk_cell BK1224.out 2).trans rfl, (blk_cell BK1224.out 3).trans rfl, (blk_cell BK1224.out 4).trans rfl, (blk_cell BK1224.out 5).trans rfl⟩ (fun hHeld => ?_)
               clear hK K
               refine norm_ (a' := ?_) ?_ ?_
               rotate_left
               ·show Act.put _ (some 67) _ = _
                simp only [Act.put,qa,qb,qc,i64_w,i32_w]
                rfl
               refine pure_ (i := 12) (N := some 68) (v := ?_) (a' := ?_) #[Y,Y,Y,Y,Y,Y,Y,Y,Y,Y,Y,Y,Y,O,O,O,O,O,O,O,O,O,O,O,O] rfl rfl zx (fun _ _ _ h => h) (Or.inl ⟨by rfl, ?_⟩) ?_ ?_
               rotate_left; (intro w'; go_simp; with_reducible rfl); rotate_left; (simp only [Act.put,qa,qb,qc,i64_w,i32_w]; rfl)
               refine pure_ (i := 13) (N := some 69) (v := ?_) (a' := ?_) #[Y,Y,Y,Y,Y,Y,Y,Y,Y,Y,Y,Y,Y,Y,O,O,O,O,O,O,O,O,O,O,O] rfl rfl zx (fun _ _ _ h => h) (Or.inl ⟨by rfl, ?_⟩) ?_ ?_
               rotate_left; (intro w'; go_simp; with_reducible rfl); rotate_left; (simp only [Act.put,qa,qb,qc,i64_w,i32_w]; rfl)
               refine pure_ (i := 14) (N := some 70) (v := undef) (a' := ?_) #[Y,Y,Y,Y,Y,Y,Y,Y,Y,Y,Y,Y,Y,Y,Y,O,O,O,O,O,O,O,O,O,O] rfl rfl zx (fun _ _ _ h => h) (Or.inr ⟨by rfl, rfl⟩) ?_ ?_
               rotate_left
               ·simp only [Act.put,qa,qb,qc,i64_w,i32_w]
                rfl
               refine pure_ (i := 15) (N := some 71) (v := undef) (a' := ?_) #[Y,Y,Y,Y,Y,Y,Y,Y,Y,Y,Y,Y,Y,Y,Y,Y,O,O,O,O,O,O,O,O,O] rfl rfl zx (fun _ _ _ h => h) (Or.inr ⟨by rfl, rfl⟩) ?_ ?_
               rotate_left
               ·simp only [Act.put,qa,qb,qc,i64_w,i32_w]
                rfl
               refine pure_ (i := 16) (N := some 72) (v := undef) (a' := ?_) #[Y,Y,Y,Y,Y,Y,Y,Y,Y,Y,Y,Y,Y,Y,Y,Y,Y,O,O,O,O,O,O,O,O] rfl rfl zx (fun _ _ _ h => h) (Or.inr ⟨by rfl, rfl⟩) ?_ ?_
               rotate_left
               ·simp only [Act.put,qa,qb,qc,i64_w,i32_w]
                rfl
               refine pure_ (i := 17) (N := some 73) (v := undef) (a' := ?_) #[Y,Y,Y,Y,Y,Y,Y,Y,Y,Y,Y,Y,Y,Y,Y,Y,Y,Y,O,O,O,O,O,O,O] rfl rfl zx (fun _ _ _ h => h) (Or.inr ⟨by rfl, rfl⟩) ?_ ?_
               rotate_left
               ·simp only [Act.put,qa,qb,qc,i64_w,i32_w]
                rfl
               refine pure_ (i := 18) (N := some 74) (v := undef) (a' := ?_) #[Y,Y,Y,Y,Y,Y,Y,Y,Y,Y,Y,Y,Y,Y,Y,Y,Y,Y,Y,O,O,O,O,O,O] rfl rfl zx (fun _ _ _ h => h) (Or.inr ⟨by rfl, rfl⟩) ?_ ?_
               rotate_left
               ·simp only [Act.put,qa,qb,qc,i64_w,i32_w]
                rfl
               refine pure_ (i := 19) (N := some 75) (v := undef) (a' := ?_) #[Y,Y,Y,Y,Y,Y,Y,Y,Y,Y,Y,Y,Y,Y,Y,Y,Y,Y,Y,Y,O,O,O,O,O] rfl rfl zx (fun _ _ _ h => h) (Or.inr ⟨by rfl, rfl⟩) ?_ ?_
               rotate_left
               ·simp only [Act.put,qa,qb,qc,i64_w,i32_w]
                rfl
               refine pure_ (i := 20) (N := some 76) (v := undef) (a' := ?_) #[Y,Y,Y,Y,Y,Y,Y,Y,Y,Y,Y,Y,Y,Y,Y,Y,Y,Y,Y,Y,Y,O,O,O,O] rfl rfl zx (fun _ _ _ h => h) (Or.inr ⟨by rfl, rfl⟩) ?_ ?_
               rotate_left
               ·simp only [Act.put,qa,qb,qc,i64_w,i32_w]
                rfl
               refine pure_ (i := 21) (N := some 77) (v := undef) (a' := ?_) #[Y,Y,Y,Y,Y,Y,Y,Y,Y,Y,Y,Y,Y,Y,Y,Y,Y,Y,Y,Y,Y,Y,O,O,O] rfl rfl zx (fun _ _ _ h => h) (Or.inr ⟨by rfl, rfl⟩) ?_ ?_
               rotate_left
               ·simp only [Act.put,qa,qb,qc,i64_w,i32_w]
                rfl
               refine pure_ (i := 22) (N := some 78) (v := undef) (a' := ?_) #[Y,Y,Y,Y,Y,Y,Y,Y,Y,Y,Y,Y,Y,Y,Y,Y,Y,Y,Y,Y,Y,Y,Y,O,O] rfl rfl zx (fun _ _ _ h => h) (Or.inr ⟨by rfl, rfl⟩) ?_ ?_
               rotate_left
               ·simp only [Act.put,qa,qb,qc,i64_w,i32_w]
                rfl
               refine pure_ (i := 23) (N := some 79) (v := undef) (a' := ?_) #[Y,Y,Y,Y,Y,Y,Y,Y,Y,Y,Y,Y,Y,Y,Y,Y,Y,Y,Y,Y,Y,Y,Y,Y,O] rfl rfl zx (fun _ _ _ h => h) (Or.inr ⟨by rfl, rfl⟩) ?_ ?_
               rotate_left
               ·simp only [Act.put,qa,qb,qc,i64_w,i32_w]
                rfl
               refine pure_ (i := 24) (N := some 80) (v := ?_) (a' := ?_) #[Y,Y,Y,Y,Y,Y,Y,Y,Y,Y,Y,Y,Y,Y,Y,Y,Y,Y,Y,Y,Y,Y,Y,Y,Y] rfl rfl zx (fun _ _ _ h => h) (Or.inl ⟨by rfl, ?_⟩) ?_ ?_
               rotate_left; (intro w'; go_simp; with_reducible rfl); rotate_left; (simp only [Act.put,qa,qb,qc,i64_w,i32_w]; rfl)
               refine done_ (done_of HT_.out (by kernel_rfl)) ?_
               try go_wp2
               go_ret2
               exact ⟨_, by first | rfl | (simp [errW_none, errW_some] <;> rfl) | (simp [*, errW_none, errW_some] <;> rfl), by first | exact Kd.S_nil _ _ _ _ _ | exact Kd.Q_nil _ _ _ _ _ | exact Kd.R_nil _ _ _ _ _, by repeat (first | (with_reducible first | exact HB.out | apply below_alloc | apply pw_below_drewN | apply below_drew1 | refine below_set ?_ GE1224.out | refine below_set ?_ GE1226.out) | exact HB.out)⟩
             ·rw [if_neg c29] at H
              exact absurd H (by simp)
            ·rw [if_neg c28] at H
             exact absurd H (by simp)
           ·rw [if_neg c27] at H
            exact absurd H (by simp)
          ·rw [if_neg c26] at H
           exact absurd H (by simp)
         ·rw [if_neg c25] at H
          exact absurd H (by simp)
        ·rw [if_neg c24] at H
         exact absurd H (by simp)
       ·rw [if_neg c23] at H
        have c23b0 : decide (x47_2 < (l1.length : Int)) = false := decide_eq_false c23
        clear c23
        simp only [Option.some.injEq, Prod.mk.injEq] at H
        obtain ⟨rfl, rfl⟩ := H
        go_wp2
        go_ret2
        exact ⟨_, by first | rfl | (simp [errW_none, errW_some] <;> rfl) | (simp [*, errW_none, errW_some] <;> rfl), by (with_reducible repeat (first | apply Kd.S_alloc | apply Kd.S_drewN | apply Kd.S_drew)); exact HO_6.out, by repeat (first | (with_reducible first | exact HB.out | apply below_alloc | apply pw_below_drewN | apply below_drew1) | exact HB.out)⟩
    ·replace c20 := Bool.eq_false_iff.mpr c20
     subst c20
     have H1 : (some (([] : List (S111)), 3)) = some (r1, r2) := by rw [if_neg (show ¬ (false = true) by decide)] at H; exact H
     clear H
     have H := H1
     clear H1
     simp only [Option.some.injEq, Prod.mk.injEq] at H
     obtain ⟨rfl, rfl⟩ := H
     obtain ⟨Ao63, co63, eo63⟩ := Kd.S_slice HO_6.out
     subst eo63
     go_wp2_with (first | ((with_reducible refine gateC (f := 92) rfl ?_); refine goesL_ (some 43) rfl rfl Try.func92 (by kernel_rfl) rfl #[.int .i64 (l0.length : Int), .slice Ao63 x6_1.length co63] rfl zm ?_; (with_reducible refine (spec_l2Hunks.calls k1 (l0.length : Int) _ _ x6_1 false _ ?side1 ?side2 A19.out).mono ?_); (case side1 => repeat (first | exact (Kd.S_reads' HO_6.out).2.2 | (with_reducible refine Kd.C_alloc ?_ _) | (with_reducible refine Kd.C_drewN ?_ _) | (with_reducible refine Kd.C_drew ?_))); (case side2 => exact (Kd.S_reads' HO_6.out).2.1); rintro e w64 ⟨rfl, hb⟩; refine ⟨_, rfl, ?_⟩; have n0_ := Aside0.mk (Kd.S_below (zs HO_6.out) hb); have n1_ := Aside0.mk (below_step zb hb); clear HO_6; clear HB; have HO_6 := n0_; have HB := n1_; clear n0_ n1_; (try clear hb); (try clear hb2); (try clear hk); (try clear hi)))
     go_ret2
     exact ⟨_, by first | rfl | (simp [errW_none, errW_some] <;> rfl) | (simp [*, errW_none, errW_some] <;> rfl), by first | exact Kd.S_nil _ _ _ _ _ | exact Kd.Q_nil _ _ _ _ _ | exact Kd.R_nil _ _ _ _ _, by repeat (first | (with_reducible first | exact HB.out | apply below_alloc | apply pw_below_drewN | apply below_drew1) | exact HB.out)⟩

end Go.Proofs.Ytcefenlblnediaa.My

/- Written by this session's program (wip/gen): a plain function with the same answers as the Go function, and the proof that the Go code comes to them. Asked: that the plain function has an answer. -/
namespace Go.Proofs.Ytcefenlblnediaa.My
open Go.RowKit Go.Proofs.YtcefenlblnediaaW.PrintWords Go.Proofs.YtcefenlblnediaaW.PrintLast Go.Proofs.YtcefenlblnediaaW.PrintMore
attribute [local go_sem] max2_int min2_int max_two min_two max_three min_three max_four min_four
set_option linter.unusedVariables false
set_option linter.unusedSimpArgs false

/-! ### spec_StepsHunks: function 62 -/
def spec_StepsHunks.f (k : Nat) (l0 : List ByteArray) (l1 : List (S144)) : Option ((List (S111)) × Int × Bool) := (spec_l1Good.f k l0).bind fun t1230 => (if t1230 = true then ((spec_GoodSteps.f k l1).bind fun t1231 => (if t1231 = true then ((spec_l5Hunks.f k l0 l1).bind fun bt1232 => (some (bt1232.1, bt1232.2, true))) else (some (([] : List (S111)), 0, false)))) else (some (([] : List (S111)), 0, false)))
set_option maxHeartbeats 8000000 in
set_option maxRecDepth 100000 in
theorem spec_StepsHunks.calls (k : Nat) (A0 : Option Addr) (c0 : Nat) (l0 : List ByteArray) (A1 : Option Addr) (c1 : Nat) (l1 : List (S144)) (r1 : List (S111)) (r2 : Int) (r3 : Bool) (w : World) (hr0 : Kd.C Kd.string w A0 l0.length l0) (hc0 : l0.length ≤ c0) (hr1 : Kd.C k144 w A1 l1.length l1) (hc1 : l1.length ≤ c1) (h : spec_StepsHunks.f k l0 l1 = some (r1, r2, r3)) :
  Calls Try.prog 62 #[.slice A0 l0.length c0, .slice A1 l1.length c1] w fun e w' => ∃ v0_ : Value, e = .returned (.tuple #[v0_, .int .i64 r2, .bool r3]) ∧ Kd.S k111 111 w' w.heap.size (fun _ => True) v0_ r1 ∧ Below w.heap.size w w' := by
 have HR0 := Aside0.mk hr0
 have HC0 := Aside0.mk hc0
 clear hr0 hc0
 have HR1 := Aside0.mk hr1
 have HC1 := Aside0.mk hc1
 clear hr1 hc1
 have HB := Aside0.mk (Below.refl w.heap.size w)
 have H : ((spec_l1Good.f k l0).bind fun t1230 => (if t1230 = true then ((spec_GoodSteps.f k l1).bind fun t1231 => (if t1231 = true then ((spec_l5Hunks.f k l0 l1).bind fun bt1232 => (some (bt1232.1, bt1232.2, true))) else (some (([] : List (S111)), 0, false)))) else (some (([] : List (S111)), 0, false)))) = some (r1, r2, r3) := h
 clear h
 replace H := Option.bind_eq_some_iff.mp H
 obtain ⟨t1230, A30, H⟩ := H
 replace H : (if t1230 = true then ((spec_GoodSteps.f k l1).bind fun t1231 => (if t1231 = true then ((spec_l5Hunks.f k l0 l1).bind fun bt1232 => (some (bt1232.1, bt1232.2, true))) else (some (([] : List (S111)), 0, false)))) else (some (([] : List (S111)), 0, false))) = some (r1, r2, r3) := H
 have A3 := Aside0.mk A30
 clear A30
 by_cases c4 : t1230 = true
 ·subst c4
  have H1 : ((spec_GoodSteps.f k l1).bind fun t1231 => (if t1231 = true then ((spec_l5Hunks.f k l0 l1).bind fun bt1232 => (some (bt1232.1, bt1232.2, true))) else (some (([] : List (S111)), 0, false)))) = some (r1, r2, r3) := by rw [if_pos rfl] at H; exact H
  clear H
  have H := H1
  clear H1
  replace H := Option.bind_eq_some_iff.mp H
  obtain ⟨t1231, A50, H⟩ := H
  replace H : (if t1231 = true then ((spec_l5Hunks.f k l0 l1).bind fun bt1232 => (some (bt1232.1, bt1232.2, true))) else (some (([] : List (S111)), 0, false))) = some (r1, r2, r3) := H
  have A5 := Aside0.mk A50
  clear A50
  by_cases c6 : t1231 = true
  ·subst c6
   have H1 : ((spec_l5Hunks.f k l0 l1).bind fun bt1232 => (some (bt1232.1, bt1232.2, true))) = some (r1, r2, r3) := by rw [if_pos rfl] at H; exact H
   clear H
   have H := H1
   clear H1
   replace H := Option.bind_eq_some_iff.mp H
   obtain ⟨⟨t1232, t1233⟩, A70, H⟩ := H
   replace H : (some (t1232, t1233, true)) = some (r1, r2, r3) := H
   have A7 := Aside0.mk A70
   clear A70
   simp only [Option.some.injEq, Prod.mk.injEq] at H
   obtain ⟨rfl, rfl, rfl⟩ := H
   go_enter Try.func62, Try.ntmps62
   go_wp2_with (first | ((with_reducible refine gateC (f := 78) rfl ?_); refine goesL_ (some 10) rfl rfl Try.func78 (by kernel_rfl) rfl #[.slice A0 l0.length c0] rfl zm ?_; (with_reducible refine (spec_l1Good.calls k _ _ l0 true _ ?side1 ?side2 A3.out).mono ?_); (case side1 => exact zq HR0.out); (case side2 => exact HC0.out); rintro e w' ⟨rfl, ⟨nd, rfl⟩⟩; refine ⟨_, rfl, ?_⟩) | (go_at_call 124; (with_reducible refine (spec_GoodSteps.calls k _ _ l1 true _ ?side1 ?side2 A5.out).mono ?_); (case side1 => exact zq HR1.out); (case side2 => exact HC1.out); rintro e w8 ⟨rfl, hb⟩; have n0_ := Aside0.mk (below_step zb hb); clear HB; have HB := n0_; clear n0_; (try clear hb); (try clear hb2); (try clear hk); (try clear hi)) | ((with_reducible refine gateC (f := 125) rfl ?_); refine goesL_ (some 20) rfl rfl Try.func125 (by kernel_rfl) rfl #[.slice A0 l0.length c0, .slice A1 l1.length c1] rfl zm ?_; (with_reducible refine (spec_l5Hunks.calls k _ _ l0 _ _ l1 t1232 t1233 _ ?side1 ?side2 ?side3 ?side4 A7.out).mono ?_); (case side1 => exact zq (Kd.C_below HR0.out HB.out)); (case side2 => exact HC0.out); (case side3 => exact zq (Kd.C_below HR1.out HB.out)); (case side4 => exact HC1.out); rintro e w9 ⟨v1234, rfl, ho0, hb⟩; refine ⟨_, rfl, ?_⟩; have n0_ := Aside0.mk (Kd.S_lower ho0 (below_size zb)); have n1_ := Aside0.mk (below_step zb hb); clear HB; have HO1235 := n0_; have HB := n1_; clear n0_ n1_; (try clear hb); (try clear hb2); (try clear hk); (try clear hi); (try clear ho0)))
   go_ret3
   exact ⟨_, by first | rfl | (simp [errW_none, errW_some] <;> rfl) | (simp [*, errW_none, errW_some] <;> rfl), by (with_reducible repeat (first | apply Kd.S_alloc | apply Kd.S_drewN | apply Kd.S_drew)); exact HO1235.out, by repeat (first | (with_reducible first | exact HB.out | apply below_alloc | apply pw_below_drewN | apply below_drew1) | exact HB.out)⟩
  ·replace c6 := Bool.eq_false_iff.mpr c6
   subst c6
   have H1 : (some (([] : List (S111)), 0, false)) = some (r1, r2, r3) := by rw [if_neg (show ¬ (false = true) by decide)] at H; exact H
   clear H
   have H := H1
   clear H1
   simp only [Option.some.injEq, Prod.mk.injEq] at H
   obtain ⟨rfl, rfl, rfl⟩ := H
   go_enter Try.func62, Try.ntmps62
   go_wp2_with (first | ((with_reducible refine gateC (f := 78) rfl ?_); refine goesL_ (some 10) rfl rfl Try.func78 (by kernel_rfl) rfl #[.slice A0 l0.length c0] rfl zm ?_; (with_reducible refine (spec_l1Good.calls k _ _ l0 true _ ?side1 ?side2 A3.out).mono ?_); (case side1 => exact zq HR0.out); (case side2 => exact HC0.out); rintro e w' ⟨rfl, ⟨nd, rfl⟩⟩; refine ⟨_, rfl, ?_⟩) | (go_at_call 124; (with_reducible refine (spec_GoodSteps.calls k _ _ l1 false _ ?side1 ?side2 A5.out).mono ?_); (case side1 => exact zq HR1.out); (case side2 => exact HC1.out); rintro e w10 ⟨rfl, hb⟩; have n0_ := Aside0.mk (below_step zb hb); clear HB; have HB := n0_; clear n0_; (try clear hb); (try clear hb2); (try clear hk); (try clear hi)))
   go_ret3
   exact ⟨_, by first | rfl | (simp [errW_none, errW_some] <;> rfl) | (simp [*, errW_none, errW_some] <;> rfl), by first | exact Kd.S_nil _ _ _ _ _ | exact Kd.Q_nil _ _ _ _ _ | exact Kd.R_nil _ _ _ _ _, by repeat (first | (with_reducible first | exact HB.out | apply below_alloc | apply pw_below_drewN | apply below_drew1) | exact HB.out)⟩
 ·replace c4 := Bool.eq_false_iff.mpr c4
  subst c4
  have H1 : (some (([] : List (S111)), 0, false)) = some (r1, r2, r3) := by rw [if_neg (show ¬ (false = true) by decide)] at H; exact H
  clear H
  have H := H1
  clear H1
  simp only [Option.some.injEq, Prod.mk.injEq] at H
  obtain ⟨rfl, rfl, rfl⟩ := H
  go_enter Try.func62, Try.ntmps62
  go_wp2_with (first | ((with_reducible refine gateC (f := 78) rfl ?_); refine goesL_ (some 10) rfl rfl Try.func78 (by kernel_rfl) rfl #[.slice A0 l0.length c0] rfl zm ?_; (with_reducible refine (spec_l1Good.calls k _ _ l0 false _ ?side1 ?side2 A3.out).mono ?_); (case side1 => exact zq HR0.out); (case side2 => exact HC0.out); rintro e w' ⟨rfl, ⟨nd, rfl⟩⟩; refine ⟨_, rfl, ?_⟩))
  go_ret3
  exact ⟨_, by first | rfl | (simp [errW_none, errW_some] <;> rfl) | (simp [*, errW_none, errW_some] <;> rfl), by first | exact Kd.S_nil _ _ _ _ _ | exact Kd.Q_nil _ _ _ _ _ | exact Kd.R_nil _ _ _ _ _, by repeat (first | (with_reducible first | exact HB.out | apply below_alloc | apply pw_below_drewN | apply below_drew1) | exact HB.out)⟩

end Go.Proofs.Ytcefenlblnediaa.My

/- Written by this session's program (wip/gen): a plain function with the same answers as the Go function, and the proof that the Go code comes to them. Asked: that the plain function has an answer. -/
namespace Go.Proofs.Ytcefenlblnediaa.My
open Go.RowKit Go.Proofs.YtcefenlblnediaaW.PrintWords Go.Proofs.YtcefenlblnediaaW.PrintLast Go.Proofs.YtcefenlblnediaaW.PrintMore
attribute [local go_sem] max2_int min2_int max_two min_two max_three min_three max_four min_four
set_option linter.unusedVariables false
set_option linter.unusedSimpArgs false

/-! ### spec_ApplySteps: function 67 -/
def spec_ApplySteps.j0 : Nat → List ByteArray → List (S111) → Int → Bool → Bool → Option (List ByteArray × Int × Bool)
 | 0, _, _, _, _, _ => none
 | k + 1, x0, x7, x8, x9, x24 => if x24 = true then (some (([] : List ByteArray), x8, x9)) else ((spec_Patch.f k x0 x7).bind fun bt1368 => (if bt1368.2 = true then (some (bt1368.1, 0, true)) else (some (([] : List ByteArray), 2, true))))
def spec_ApplySteps.f (k : Nat) (l0 : List ByteArray) (l1 : List (S144)) : Option (List ByteArray × Int × Bool) := (spec_StepsHunks.f k l0 l1).bind fun bt1363 => (if bt1363.2.2 = true then (spec_ApplySteps.j0 k l0 bt1363.1 bt1363.2.1 bt1363.2.2 (decide (bt1363.2.1 > 0))) else (spec_ApplySteps.j0 k l0 bt1363.1 bt1363.2.1 bt1363.2.2 true))
set_option maxHeartbeats 8000000 in
set_option maxRecDepth 100000 in
theorem spec_ApplySteps.calls (k : Nat) (A0 : Option Addr) (c0 : Nat) (l0 : List ByteArray) (A1 : Option Addr) (c1 : Nat) (l1 : List (S144)) (r1 : List ByteArray) (r2 : Int) (r3 : Bool) (w : World) (hr0 : Kd.C Kd.string w A0 l0.length l0) (hc0 : l0.length ≤ c0) (hr1 : Kd.C k144 w A1 l1.length l1) (hc1 : l1.length ≤ c1) (h : spec_ApplySteps.f k l0 l1 = some (r1, r2, r3)) :
  Calls Try.prog 67 #[.slice A0 l0.length c0, .slice A1 l1.length c1] w fun e w' => ∃ v0_ : Value, e = .returned (.tuple #[v0_, .int .i64 r2, .bool r3]) ∧ Kd.R Kd.string 9 w' w.heap.size (fun _ => True) v0_ r1 ∧ Below w.heap.size w w' := by
 have HR0 := Aside0.mk hr0
 have HC0 := Aside0.mk hc0
 clear hr0 hc0
 have HR1 := Aside0.mk hr1
 have HC1 := Aside0.mk hc1
 clear hr1 hc1
 have HB := Aside0.mk (Below.refl w.heap.size w)
 have H : ((spec_StepsHunks.f k l0 l1).bind fun bt1363 => (if bt1363.2.2 = true then (spec_ApplySteps.j0 k l0 bt1363.1 bt1363.2.1 bt1363.2.2 (decide (bt1363.2.1 > 0))) else (spec_ApplySteps.j0 k l0 bt1363.1 bt1363.2.1 bt1363.2.2 true))) = some (r1, r2, r3) := h
 clear h
 replace H := Option.bind_eq_some_iff.mp H
 obtain ⟨⟨t1363, t1364, t1365⟩, A30, H⟩ := H
 replace H : (if t1365 = true then (spec_ApplySteps.j0 k l0 t1363 t1364 t1365 (decide (t1364 > 0))) else (spec_ApplySteps.j0 k l0 t1363 t1364 t1365 true)) = some (r1, r2, r3) := H
 have A3 := Aside0.mk A30
 clear A30
 have HC4 := Aside0.mk H
 clear H
 go_enter Try.func67, Try.ntmps67
 go_upto_region 2 with (first | ((with_reducible refine gateC (f := 62) rfl ?_); refine goesL_ (some 15) rfl rfl Try.func62 (by kernel_rfl) rfl #[.slice A0 l0.length c0, .slice A1 l1.length c1] rfl zm ?_; (with_reducible refine (spec_StepsHunks.calls k _ _ l0 _ _ l1 t1363 t1364 t1365 _ ?side1 ?side2 ?side3 ?side4 A3.out).mono ?_); (case side1 => exact zq HR0.out); (case side2 => exact HC0.out); (case side3 => exact zq HR1.out); (case side4 => exact HC1.out); rintro e w5 ⟨v1366, rfl, ho0, hb⟩; refine ⟨_, rfl, ?_⟩; have n0_ := Aside0.mk (Kd.S_lower ho0 (below_size zb)); have n1_ := Aside0.mk (below_step zb hb); clear HB; have HO1367 := n0_; have HB := n1_; clear n0_ n1_; (try clear hb); (try clear hb2); (try clear hk); (try clear hi); (try clear ho0)))
 (try simp only [Act.put, List.setIfInBounds_toArray, List.set_cons_zero, List.set_cons_succ])
 go_cut [24] (fun v24 wc => ∃ (kq : Nat) (x24_3 : Bool), v24 = .bool x24_3 ∧ Aside0 (spec_ApplySteps.j0 kq l0 t1363 t1364 t1365 x24_3 = some (r1, r2, r3)) ∧ Aside0 (kq ≤ k) ∧ Aside0 (Kd.S k111 111 wc w.heap.size (fun _ => True) v1366 t1363) ∧ Aside0 (Below w.heap.size w wc))
 case first =>
  have H := HC4.out
  clear HC4
  by_cases c6 : t1365 = true
  ·subst c6
   have H1 : (spec_ApplySteps.j0 k l0 t1363 t1364 true (decide (t1364 > 0))) = some (r1, r2, r3) := by rw [if_pos rfl] at H; exact H
   clear H
   have H := H1
   clear H1
   have H' := Aside0.mk H
   clear H
   go_wp2
   go_meet
   case rel => exact ⟨_, (decide (t1364 > 0)), zf, H', ⟨by first | omega | exact Nat.le_refl _⟩, ⟨by (with_reducible repeat (first | apply Kd.S_alloc | apply Kd.S_drewN | apply Kd.S_drew)); exact HO1367.out⟩, ⟨by repeat (first | (with_reducible first | exact HB.out | apply below_alloc | apply pw_below_drewN | apply below_drew1) | exact HB.out)⟩⟩
  ·replace c6 := Bool.eq_false_iff.mpr c6
   subst c6
   have H1 : (spec_ApplySteps.j0 k l0 t1363 t1364 false true) = some (r1, r2, r3) := by rw [if_neg (show ¬ (false = true) by decide)] at H; exact H
   clear H
   have H := H1
   clear H1
   have H' := Aside0.mk H
   clear H
   go_wp2
   go_meet
   case rel => exact ⟨_, (true), zf, H', ⟨by first | omega | exact Nat.le_refl _⟩, ⟨by (with_reducible repeat (first | apply Kd.S_alloc | apply Kd.S_drewN | apply Kd.S_drew)); exact HO1367.out⟩, ⟨by repeat (first | (with_reducible first | exact HB.out | apply below_alloc | apply pw_below_drewN | apply below_drew1) | exact HB.out)⟩⟩
 case rest =>
  clear HC4
  try clear c1
  try clear p2
  try clear c6
  obtain ⟨kq, x24_3, rfl, HA, HJ3, HO_7, HB⟩ := hcut
  cases kq with
  | zero => exact absurd HA.out (by simp [spec_ApplySteps.j0])
  | succ kj3 =>
   have H := HA.out
   clear HA
   simp only [spec_ApplySteps.j0] at H
   by_cases c7 : x24_3 = true
   ·subst c7
    have H1 : (some (([] : List ByteArray), t1364, t1365)) = some (r1, r2, r3) := by rw [if_pos rfl] at H; exact H
    clear H
    have H := H1
    clear H1
    simp only [Option.some.injEq, Prod.mk.injEq] at H
    obtain ⟨rfl, rfl, rfl⟩ := H
    go_wp2
    go_ret3
    exact ⟨_, by first | rfl | (simp [errW_none, errW_some] <;> rfl) | (simp [*, errW_none, errW_some] <;> rfl), by first | exact Kd.R_nil _ _ _ _ _ | exact Kd.Q_nil _ _ _ _ _ | exact Kd.S_nil _ _ _ _ _, by repeat (first | (with_reducible first | exact HB.out | apply below_alloc | apply pw_below_drewN | apply below_drew1) | exact HB.out)⟩
   ·replace c7 := Bool.eq_false_iff.mpr c7
    subst c7
    have H1 : ((spec_Patch.f kj3 l0 t1363).bind fun bt1368 => (if bt1368.2 = true then (some (bt1368.1, 0, true)) else (some (([] : List ByteArray), 2, true)))) = some (r1, r2, r3) := by rw [if_neg (show ¬ (false = true) by decide)] at H; exact H
    clear H
    have H := H1
    clear H1
    replace H := Option.bind_eq_some_iff.mp H
    obtain ⟨⟨t1368, t1369⟩, A80, H⟩ := H
    replace H : (if t1369 = true then (some (t1368, 0, true)) else (some (([] : List ByteArray), 2, true))) = some (r1, r2, r3) := H
    have A8 := Aside0.mk A80
    clear A80
    by_cases c9 : t1369 = true
    ·subst c9
     have H1 : (some (t1368, 0, true)) = some (r1, r2, r3) := by rw [if_pos rfl] at H; exact H
     clear H
     have H := H1
     clear H1
     simp only [Option.some.injEq, Prod.mk.injEq] at H
     obtain ⟨rfl, rfl, rfl⟩ := H
     obtain ⟨Ao10, co10, eo10⟩ := Kd.S_slice HO_7.out
     subst eo10
     go_wp2_with (first | ((with_reducible refine gateC (f := 39) rfl ?_); refine goesL_ (some 30) rfl rfl Try.func39 (by kernel_rfl) rfl #[.slice A0 l0.length c0, .slice Ao10 t1363.length co10] rfl zm ?_; (with_reducible refine (spec_Patch.calls kj3 _ _ l0 _ _ t1363 t1368 true _ ?side1 ?side2 ?side3 ?side4 A8.out).mono ?_); (case side1 => exact zq (Kd.C_below HR0.out HB.out)); (case side2 => exact HC0.out); (case side3 => repeat (first | exact (Kd.S_reads' HO_7.out).2.2 | (with_reducible refine Kd.C_alloc ?_ _) | (with_reducible refine Kd.C_drewN ?_ _) | (with_reducible refine Kd.C_drew ?_))); (case side4 => exact (Kd.S_reads' HO_7.out).2.1); rintro e w11 ⟨v1370, rfl, ho0, hb⟩; refine ⟨_, rfl, ?_⟩; have n0_ := Aside0.mk (Kd.S_elder' (zs HO_7.out) (Kd.R_base ho0) hb); have n1_ := Aside0.mk (Kd.R_lower ho0 (below_size zb)); have n2_ := Aside0.mk (below_step zb hb); clear HO_7; clear HB; have HO_7 := n0_; have HO1371 := n1_; have HB := n2_; clear n0_ n1_ n2_; (try clear hb); (try clear hb2); (try clear hk); (try clear hi); (try clear ho0)))
     go_ret3
     exact ⟨_, by first | rfl | (simp [errW_none, errW_some] <;> rfl) | (simp [*, errW_none, errW_some] <;> rfl), by (with_reducible repeat (first | apply Kd.R_alloc | apply Kd.R_drewN | apply Kd.R_drew)); exact HO1371.out, by repeat (first | (with_reducible first | exact HB.out | apply below_alloc | apply pw_below_drewN | apply below_drew1) | exact HB.out)⟩
    ·replace c9 := Bool.eq_false_iff.mpr c9
     subst c9
     have H1 : (some (([] : List ByteArray), 2, true)) = some (r1, r2, r3) := by rw [if_neg (show ¬ (false = true) by decide)] at H; exact H
     clear H
     have H := H1
     clear H1
     simp only [Option.some.injEq, Prod.mk.injEq] at H
     obtain ⟨rfl, rfl, rfl⟩ := H
     obtain ⟨Ao12, co12, eo12⟩ := Kd.S_slice HO_7.out
     subst eo12
     go_wp2_with (first | ((with_reducible refine gateC (f := 39) rfl ?_); refine goesL_ (some 30) rfl rfl Try.func39 (by kernel_rfl) rfl #[.slice A0 l0.length c0, .slice Ao12 t1363.length co12] rfl zm ?_; (with_reducible refine (spec_Patch.calls kj3 _ _ l0 _ _ t1363 t1368 false _ ?side1 ?side2 ?side3 ?side4 A8.out).mono ?_); (case side1 => exact zq (Kd.C_below HR0.out HB.out)); (case side2 => exact HC0.out); (case side3 => repeat (first | exact (Kd.S_reads' HO_7.out).2.2 | (with_reducible refine Kd.C_alloc ?_ _) | (with_reducible refine Kd.C_drewN ?_ _) | (with_reducible refine Kd.C_drew ?_))); (case side4 => exact (Kd.S_reads' HO_7.out).2.1); rintro e w13 ⟨v1370, rfl, ho0, hb⟩; refine ⟨_, rfl, ?_⟩; have n0_ := Aside0.mk (Kd.S_elder' (zs HO_7.out) (Kd.R_base ho0) hb); have n1_ := Aside0.mk (Kd.R_lower ho0 (below_size zb)); have n2_ := Aside0.mk (below_step zb hb); clear HO_7; clear HB; have HO_7 := n0_; have HO1371 := n1_; have HB := n2_; clear n0_ n1_ n2_; (try clear hb); (try clear hb2); (try clear hk); (try clear hi); (try clear ho0)))
     go_ret3
     exact ⟨_, by first | rfl | (simp [errW_none, errW_some] <;> rfl) | (simp [*, errW_none, errW_some] <;> rfl), by first | exact Kd.R_nil _ _ _ _ _ | exact Kd.Q_nil _ _ _ _ _ | exact Kd.S_nil _ _ _ _ _, by repeat (first | (with_reducible first | exact HB.out | apply below_alloc | apply pw_below_drewN | apply below_drew1) | exact HB.out)⟩

end Go.Proofs.Ytcefenlblnediaa.My

/- Written by this session's program (wip/gen): a plain function with the same answers as the Go function, and the proof that the Go code comes to them. Asked: that the plain function has an answer. -/
namespace Go.Proofs.Ytcefenlblnediaa.My
open Go.RowKit Go.Proofs.YtcefenlblnediaaW.PrintWords Go.Proofs.YtcefenlblnediaaW.PrintLast Go.Proofs.YtcefenlblnediaaW.PrintMore
attribute [local go_sem] max2_int min2_int max_two min_two max_three min_three max_four min_four
set_option linter.unusedVariables false
set_option linter.unusedSimpArgs false

/-! ### impl_in: function 102 -/
def impl_in.f (a0 : Int) (a1 : Int) (a2 : Int) : Option (Bool) := if a0 ≥ a1 then (some (decide (a0 ≤ a2))) else (some false)
set_option maxHeartbeats 8000000 in
set_option maxRecDepth 100000 in
theorem impl_in.calls (a0 : Int) (a1 : Int) (a2 : Int) (r : Bool) (w : World) (h : impl_in.f a0 a1 a2 = some r) :
  Calls Try.prog 102 #[.int .i64 a0, .int .i64 a1, .int .i64 a2] w fun e w' => e = .returned (.bool r) ∧ Drawn0 w w' := by
 have H : (if a0 ≥ a1 then (some (decide (a0 ≤ a2))) else (some false)) = some r := h
 clear h
 by_cases c4 : a0 ≥ a1
 ·rw [if_pos c4] at H
  have c4b0 : decide (a1 ≤ a0) = true := decide_eq_true c4
  clear c4
  obtain rfl := Option.some.inj H
  go_enter Try.func102, Try.ntmps102
  go_wp2
  go_ret
  exact ⟨by first | rfl | (simp; done) | (simp [*]; done), by repeat (first | exact Drawn0.refl _ | apply Drawn0.step)⟩
 ·rw [if_neg c4] at H
  have c4b0 : decide (a1 ≤ a0) = false := decide_eq_false c4
  clear c4
  obtain rfl := Option.some.inj H
  go_enter Try.func102, Try.ntmps102
  go_wp2
  go_ret
  exact ⟨by first | rfl | (simp; done) | (simp [*]; done), by repeat (first | exact Drawn0.refl _ | apply Drawn0.step)⟩

end Go.Proofs.Ytcefenlblnediaa.My

/- Written by this session's program (wip/gen): a plain function with the same answers as the Go function, and the proof that the Go code comes to them. Asked: that the plain function has an answer. -/
namespace Go.Proofs.Ytcefenlblnediaa.My
open Go.RowKit Go.Proofs.YtcefenlblnediaaW.PrintWords Go.Proofs.YtcefenlblnediaaW.PrintLast Go.Proofs.YtcefenlblnediaaW.PrintMore
attribute [local go_sem] max2_int min2_int max_two min_two max_three min_three max_four min_four
set_option linter.unusedVariables false
set_option linter.unusedSimpArgs false

/-! ### stringslite_IndexByte: function 202 -/
def stringslite_IndexByte.f (a0 : ByteArray) (a1 : Int) : Option (Int) := some (Lib.indexByte a0.data.toList a1.toNat.toUInt8)
set_option maxHeartbeats 1000000 in
set_option maxRecDepth 100000 in
theorem stringslite_IndexByte.calls (a0 : ByteArray) (a1 : Int) (r : Int) (w : World) (h : stringslite_IndexByte.f a0 a1 = some r) :
  Calls Try.prog 202 #[.string a0, .int .u8 a1] w fun e w' => e = .returned (.int .i64 r) ∧ Drawn0 w w' := by
 obtain rfl : Lib.indexByte a0.data.toList a1.toNat.toUInt8 = r := Option.some.inj h
 clear h
 go_enter Try.func202, Try.ntmps202
 go_wp2
 rw [run_callFunc_extern Try.func206 (by kernel_rfl) (by kernel_rfl) (by kernel_rfl) (e := Extern.BytealgIndexByte.indexByte) (by kernel_rfl), Lib.run_indexByteString]
 simp only [Result.andThen]
 rw [Oper.upon_value]
 go_wp2
 go_ret
 exact ⟨rfl, Drawn0.refl _⟩

end Go.Proofs.Ytcefenlblnediaa.My

/- Written by this session's program (wip/gen): a plain function with the same answers as the Go function, and the proof that the Go code comes to them. Asked: that the plain function has an answer. -/
namespace Go.Proofs.Ytcefenlblnediaa.My
open Go.RowKit Go.Proofs.YtcefenlblnediaaW.PrintWords Go.Proofs.YtcefenlblnediaaW.PrintLast Go.Proofs.YtcefenlblnediaaW.PrintMore
attribute [local go_sem] max2_int min2_int max_two min_two max_three min_three max_four min_four
set_option linter.unusedVariables false
set_option linter.unusedSimpArgs false

/-! ### stringslite_Index: function 201 -/
def stringslite_Index.j0 : Nat → ByteArray → ByteArray → Int → Bool → Option (Int)
 | 0, _, _, _, _ => none
 | k + 1, x0, x1, x5, x16 => if x16 = true then (some 0) else (if x5 = 1 then (if 0 < (x1.size : Int) then ((stringslite_IndexByte.f x0 (bt x1 0)).bind fun t116 => (some t116)) else (none)) else (if x5 ≥ (x0.size : Int) then (some (-1)) else (none)))
def stringslite_Index.f (k : Nat) (a0 : ByteArray) (a1 : ByteArray) : Option (Int) := if (a1.size : Int) = 0 then (stringslite_Index.j0 k a0 a1 (a1.size : Int) true) else (stringslite_Index.j0 k a0 a1 (a1.size : Int) (a1.toList == a0.toList))
set_option maxHeartbeats 8000000 in
set_option maxRecDepth 100000 in
theorem stringslite_Index.calls (k : Nat) (a0 : ByteArray) (a1 : ByteArray) (r : Int) (w : World) (h : stringslite_Index.f k a0 a1 = some r) :
  Calls Try.prog 201 #[.string a0, .string a1] w fun e w' => e = .returned (.int .i64 r) ∧ Drawn0 w w' := by
 have H : (if (a1.size : Int) = 0 then (stringslite_Index.j0 k a0 a1 (a1.size : Int) true) else (stringslite_Index.j0 k a0 a1 (a1.size : Int) (a1.toList == a0.toList))) = some r := h
 clear h
 have HC3 := Aside0.mk H
 clear H
 go_enter Try.func201, Try.ntmps201
 go_upto_region 2 with (fail)
 go_cut [16] (fun v16 wc => ∃ (kq : Nat) (x16_2 : Bool), v16 = .bool x16_2 ∧ Aside0 (stringslite_Index.j0 kq a0 a1 (a1.size : Int) x16_2 = some r) ∧ Aside0 (kq ≤ k) ∧ Drawn0 w wc)
 case first =>
  have H := HC3.out
  clear HC3
  by_cases c4 : (a1.size : Int) = 0
  ·rw [if_pos c4] at H
   have c4b0 : ((a1.size : Int) == 0) = true := beq_iff_eq.mpr c4
   have c4b1 : ((a1.size : Int) != 0) = false := bne_eq_false_iff_eq.mpr c4
   clear c4
   (first | rw [c4b0] | (simp only [i64_w, i32_w]; rw [c4b0]) | skip)
   have H' := Aside0.mk H
   clear H
   go_wp2
   go_meet
   case rel => exact ⟨_, (true), zf, H', ⟨by first | omega | exact Nat.le_refl _⟩, by repeat (first | exact Drawn0.refl _ | apply Drawn0.step)⟩
  ·rw [if_neg c4] at H
   have c4b0 : ((a1.size : Int) == 0) = false := beq_eq_false_iff_ne.mpr c4
   have c4b1 : ((a1.size : Int) != 0) = true := bne_iff_ne.mpr c4
   (first | rw [c4b0] | (simp only [i64_w, i32_w]; rw [c4b0]) | skip)
   have H' := Aside0.mk H
   clear H
   go_wp2
   go_meet
   case rel => exact ⟨_, ((a1.toList == a0.toList)), zf, H', ⟨by first | omega | exact Nat.le_refl _⟩, by repeat (first | exact Drawn0.refl _ | apply Drawn0.step)⟩
 case rest =>
  clear HC3
  try clear c2
  try clear p2
  try clear c4
  try clear c4b0
  try clear c4b1
  obtain ⟨kq, x16_2, rfl, HA, HJ2, ⟨mc2, rfl⟩⟩ := hcut
  cases kq with
  | zero => exact absurd HA.out (by simp [stringslite_Index.j0])
  | succ kj2 =>
   have H := HA.out
   clear HA
   simp only [stringslite_Index.j0] at H
   by_cases c5 : x16_2 = true
   ·subst c5
    have H1 : (some 0) = some r := by rw [if_pos rfl] at H; exact H
    clear H
    have H := H1
    clear H1
    obtain rfl := Option.some.inj H
    go_wp2
    go_ret
    exact ⟨by first | rfl | (simp; done) | (simp [*]; done), by repeat (first | exact Drawn0.refl _ | apply Drawn0.step)⟩
   ·replace c5 := Bool.eq_false_iff.mpr c5
    subst c5
    have H1 : (if (a1.size : Int) = 1 then (if 0 < (a1.size : Int) then ((stringslite_IndexByte.f a0 (bt a1 0)).bind fun t116 => (some t116)) else (none)) else (if (a1.size : Int) ≥ (a0.size : Int) then (some (-1)) else (none))) = some r := by rw [if_neg (show ¬ (false = true) by decide)] at H; exact H
    clear H
    have H := H1
    clear H1
    by_cases c6 : (a1.size : Int) = 1
    ·rw [if_pos c6] at H
     have c6b0 : ((a1.size : Int) == 1) = true := beq_iff_eq.mpr c6
     have c6b1 : ((a1.size : Int) != 1) = false := bne_eq_false_iff_eq.mpr c6
     clear c6
     by_cases c7 : 0 < (a1.size : Int)
     ·rw [if_pos c7] at H
      have c7b0 : decide (0 < (a1.size : Int)) = true := decide_eq_true c7
      have c7b1 : decide (0 < a1.size) = true := decide_eq_true (by omega)
      clear c7
      replace H := Option.bind_eq_some_iff.mp H
      obtain ⟨t116, A90, H⟩ := H
      replace H : (some t116) = some r := H
      have A9 := Aside0.mk A90
      clear A90
      obtain rfl := Option.some.inj H
      have p8 : 0 ≤ (0 : Int) := (by omega)
      have q8 : 0 < a1.size := (by have : (0 : Int) < (a1.size : Int) := oa; omega)
      have hx8 : ∀ h : 0 < a1.size, ((a1[0]'h).toNat : Int) = bt a1 0 := bt_at a1 0
      clear p8
      have qi8 : (0 < (a1.size : Int)) = True := eq_true oa
      replace q8 := eq_true q8
      go_wp2_with (first | ((with_reducible refine gateC (f := 202) rfl ?_); refine goesL_ (some 30) rfl rfl Try.func202 (by kernel_rfl) rfl #[.string a0, .int .u8 (bt a1 0)] rfl zm ?_; (with_reducible refine (stringslite_IndexByte.calls a0 (bt a1 0) t116 _ A9.out).mono ?_); rintro e w' ⟨rfl, ⟨nd, rfl⟩⟩; refine ⟨_, rfl, ?_⟩))
      go_ret
      exact ⟨by first | rfl | (simp; done) | (simp [*]; done), by repeat (first | exact Drawn0.refl _ | apply Drawn0.step)⟩
     ·rw [if_neg c7] at H
      exact absurd H (by simp)
    ·rw [if_neg c6] at H
     have c6b0 : ((a1.size : Int) == 1) = false := beq_eq_false_iff_ne.mpr c6
     have c6b1 : ((a1.size : Int) != 1) = true := bne_iff_ne.mpr c6
     by_cases c10 : (a1.size : Int) ≥ (a0.size : Int)
     ·rw [if_pos c10] at H
      have c10b0 : decide ((a0.size : Int) ≤ (a1.size : Int)) = true := decide_eq_true c10
      have c10b1 : decide (a0.size ≤ a1.size) = true := decide_eq_true (Int.ofNat_le.mp c10)
      clear c10
      obtain rfl := Option.some.inj H
      go_wp2
      go_ret
      exact ⟨by first | rfl | (simp; done) | (simp [*]; done), by repeat (first | exact Drawn0.refl _ | apply Drawn0.step)⟩
     ·rw [if_neg c10] at H
      exact absurd H (by simp)

end Go.Proofs.Ytcefenlblnediaa.My

/- Written by this session's program (wip/gen): a plain function with the same answers as the Go function, and the proof that the Go code comes to them. Asked: that the plain function has an answer. -/
namespace Go.Proofs.Ytcefenlblnediaa.My
open Go.RowKit Go.Proofs.YtcefenlblnediaaW.PrintWords Go.Proofs.YtcefenlblnediaaW.PrintLast Go.Proofs.YtcefenlblnediaaW.PrintMore
attribute [local go_sem] max2_int min2_int max_two min_two max_three min_three max_four min_four
set_option linter.unusedVariables false
set_option linter.unusedSimpArgs false

/-! ### strings_Index: function 200 -/
def strings_Index.f (k : Nat) (a0 : ByteArray) (a1 : ByteArray) : Option (Int) := (stringslite_Index.f k a0 a1).bind fun t117 => (some t117)
set_option maxHeartbeats 8000000 in
set_option maxRecDepth 100000 in
theorem strings_Index.calls (k : Nat) (a0 : ByteArray) (a1 : ByteArray) (r : Int) (w : World) (h : strings_Index.f k a0 a1 = some r) :
  Calls Try.prog 200 #[.string a0, .string a1] w fun e w' => e = .returned (.int .i64 r) ∧ Drawn0 w w' := by
 have H : ((stringslite_Index.f k a0 a1).bind fun t117 => (some t117)) = some r := h
 clear h
 replace H := Option.bind_eq_some_iff.mp H
 obtain ⟨t117, A30, H⟩ := H
 replace H : (some t117) = some r := H
 have A3 := Aside0.mk A30
 clear A30
 obtain rfl := Option.some.inj H
 go_enter Try.func200, Try.ntmps200
 go_wp2_with (first | ((with_reducible refine gateC (f := 201) rfl ?_); refine goesL_ (some 7) rfl rfl Try.func201 (by kernel_rfl) rfl #[.string a0, .string a1] rfl zm ?_; (with_reducible refine (stringslite_Index.calls k a0 a1 t117 _ A3.out).mono ?_); rintro e w' ⟨rfl, ⟨nd, rfl⟩⟩; refine ⟨_, rfl, ?_⟩))
 go_ret
 exact ⟨by first | rfl | (simp; done) | (simp [*]; done), by repeat (first | exact Drawn0.refl _ | apply Drawn0.step)⟩

end Go.Proofs.Ytcefenlblnediaa.My

/- Written by this session's program (wip/gen): a plain function with the same answers as the Go function, and the proof that the Go code comes to them. Asked: that the plain function has an answer. -/
namespace Go.Proofs.Ytcefenlblnediaa.My
open Go.RowKit Go.Proofs.YtcefenlblnediaaW.PrintWords Go.Proofs.YtcefenlblnediaaW.PrintLast Go.Proofs.YtcefenlblnediaaW.PrintMore
attribute [local go_sem] max2_int min2_int max_two min_two max_three min_three max_four min_four
set_option linter.unusedVariables false
set_option linter.unusedSimpArgs false

/-! ### strings_Contains: function 194 -/
def strings_Contains.f (k : Nat) (a0 : ByteArray) (a1 : ByteArray) : Option (Bool) := (strings_Index.f k a0 a1).bind fun t118 => (some (decide (t118 ≥ 0)))
set_option maxHeartbeats 8000000 in
set_option maxRecDepth 100000 in
theorem strings_Contains.calls (k : Nat) (a0 : ByteArray) (a1 : ByteArray) (r : Bool) (w : World) (h : strings_Contains.f k a0 a1 = some r) :
  Calls Try.prog 194 #[.string a0, .string a1] w fun e w' => e = .returned (.bool r) ∧ Drawn0 w w' := by
 have H : ((strings_Index.f k a0 a1).bind fun t118 => (some (decide (t118 ≥ 0)))) = some r := h
 clear h
 replace H := Option.bind_eq_some_iff.mp H
 obtain ⟨t118, A30, H⟩ := H
 replace H : (some (decide (t118 ≥ 0))) = some r := H
 have A3 := Aside0.mk A30
 clear A30
 obtain rfl := Option.some.inj H
 go_enter Try.func194, Try.ntmps194
 go_wp2_with (first | ((with_reducible refine gateC (f := 200) rfl ?_); refine goesL_ (some 7) rfl rfl Try.func200 (by kernel_rfl) rfl #[.string a0, .string a1] rfl zm ?_; (with_reducible refine (strings_Index.calls k a0 a1 t118 _ A3.out).mono ?_); rintro e w' ⟨rfl, ⟨nd, rfl⟩⟩; refine ⟨_, rfl, ?_⟩))
 go_ret
 exact ⟨by first | rfl | (simp; done) | (simp [*]; done), by repeat (first | exact Drawn0.refl _ | apply Drawn0.step)⟩

end Go.Proofs.Ytcefenlblnediaa.My

/- Written by this session's program (wip/gen): a plain function with the same answers as the Go function, and the proof that the Go code comes to them. Asked: that the plain function has an answer. -/
namespace Go.Proofs.Ytcefenlblnediaa.My
open Go.RowKit Go.Proofs.YtcefenlblnediaaW.PrintWords Go.Proofs.YtcefenlblnediaaW.PrintLast Go.Proofs.YtcefenlblnediaaW.PrintMore
attribute [local go_sem] max2_int min2_int max_two min_two max_three min_three max_four min_four
set_option linter.unusedVariables false
set_option linter.unusedSimpArgs false

/-! ### impl_isLine: function 179 -/
def impl_isLine.f (k : Nat) (a0 : ByteArray) : Option (Bool) := (impl_in.f (a0.size : Int) 1 30).bind fun t119 => (if t119 = true then (if 0 ≤ (wrap64 ((a0.size : Int) - 1)) then (if (wrap64 ((a0.size : Int) - 1)) ≤ (a0.size : Int) then ((strings_Contains.f k (a0.extract 0 ((wrap64 ((a0.size : Int) - 1)) : Int).toNat) (⟨#[10]⟩ : ByteArray)).bind fun t120 => (some (!t120))) else (none)) else (none)) else (some false))
set_option maxHeartbeats 8000000 in
set_option maxRecDepth 100000 in
theorem impl_isLine.calls (k : Nat) (a0 : ByteArray) (r : Bool) (w : World) (h : impl_isLine.f k a0 = some r) :
  Calls Try.prog 179 #[.string a0] w fun e w' => e = .returned (.bool r) ∧ Drawn0 w w' := by
 have H : ((impl_in.f (a0.size : Int) 1 30).bind fun t119 => (if t119 = true then (if 0 ≤ (wrap64 ((a0.size : Int) - 1)) then (if (wrap64 ((a0.size : Int) - 1)) ≤ (a0.size : Int) then ((strings_Contains.f k (a0.extract 0 ((wrap64 ((a0.size : Int) - 1)) : Int).toNat) (⟨#[10]⟩ : ByteArray)).bind fun t120 => (some (!t120))) else (none)) else (none)) else (some false))) = some r := h
 clear h
 replace H := Option.bind_eq_some_iff.mp H
 obtain ⟨t119, A20, H⟩ := H
 replace H : (if t119 = true then (if 0 ≤ (wrap64 ((a0.size : Int) - 1)) then (if (wrap64 ((a0.size : Int) - 1)) ≤ (a0.size : Int) then ((strings_Contains.f k (a0.extract 0 ((wrap64 ((a0.size : Int) - 1)) : Int).toNat) (⟨#[10]⟩ : ByteArray)).bind fun t120 => (some (!t120))) else (none)) else (none)) else (some false)) = some r := H
 have A2 := Aside0.mk A20
 clear A20
 by_cases c3 : t119 = true
 ·subst c3
  have H1 : (if 0 ≤ (wrap64 ((a0.size : Int) - 1)) then (if (wrap64 ((a0.size : Int) - 1)) ≤ (a0.size : Int) then ((strings_Contains.f k (a0.extract 0 ((wrap64 ((a0.size : Int) - 1)) : Int).toNat) (⟨#[10]⟩ : ByteArray)).bind fun t120 => (some (!t120))) else (none)) else (none)) = some r := by rw [if_pos rfl] at H; exact H
  clear H
  have H := H1
  clear H1
  obtain ⟨ji4, hji4⟩ : ∃ j_ : Int, (wrap64 ((a0.size : Int) - 1)) = j_ := ⟨_, rfl⟩
  replace H : (if 0 ≤ (ji4) then (if (ji4) ≤ (a0.size : Int) then ((strings_Contains.f k (a0.extract 0 ((ji4) : Int).toNat) (⟨#[10]⟩ : ByteArray)).bind fun t120 => (some (!t120))) else (none)) else (none)) = some r := by first | (rw [hji4] at H; exact H) | (simp only [hji4] at H ⊢; exact H)
  (try rw [hji4] at A2)
  have hji4w : (IntKind.i64.wrap ((a0.size : Int) - 1)) = ji4 := (i64_w _).trans hji4
  by_cases c5 : 0 ≤ (ji4)
  ·rw [if_pos c5] at H
   have c5b0 := eq_true c5
   have c5b1 : decide (0 ≤ (ji4)) = true := decide_eq_true c5
   clear c5
   by_cases c6 : (ji4) ≤ (a0.size : Int)
   ·rw [if_pos c6] at H
    have c6b0 := eq_true c6
    have c6b1 : decide ((ji4) ≤ (a0.size : Int)) = true := decide_eq_true c6
    clear c6
    replace H := Option.bind_eq_some_iff.mp H
    obtain ⟨t120, A70, H⟩ := H
    replace H : (some (!t120)) = some r := H
    have A7 := Aside0.mk A70
    clear A70
    obtain rfl := Option.some.inj H
    go_enter Try.func179, Try.ntmps179
    go_wp2_with (first | ((with_reducible refine gateC (f := 102) rfl ?_); refine goesL_ (some 5) rfl rfl Try.func102 (by kernel_rfl) rfl #[.int .i64 (a0.size : Int), .int .i64 1, .int .i64 30] rfl zm ?_; (with_reducible refine (impl_in.calls (a0.size : Int) 1 30 true _ A2.out).mono ?_); rintro e w' ⟨rfl, ⟨nd, rfl⟩⟩; refine ⟨_, rfl, ?_⟩) | (go_at_call 194; (with_reducible refine (strings_Contains.calls k (a0.extract 0 ((ji4) : Int).toNat) (⟨#[10]⟩ : ByteArray) t120 _ A7.out).mono ?_); rintro e w' ⟨rfl, ⟨nd, rfl⟩⟩))
    go_ret
    exact ⟨by first | rfl | (simp; done) | (simp only [← hji4] <;> (first | rfl | simp)) | (simp [*]; done), by repeat (first | exact Drawn0.refl _ | apply Drawn0.step)⟩
   ·rw [if_neg c6] at H
    exact absurd H (by simp)
  ·rw [if_neg c5] at H
   exact absurd H (by simp)
 ·replace c3 := Bool.eq_false_iff.mpr c3
  subst c3
  have H1 : (some false) = some r := by rw [if_neg (show ¬ (false = true) by decide)] at H; exact H
  clear H
  have H := H1
  clear H1
  obtain rfl := Option.some.inj H
  go_enter Try.func179, Try.ntmps179
  go_wp2_with (first | ((with_reducible refine gateC (f := 102) rfl ?_); refine goesL_ (some 5) rfl rfl Try.func102 (by kernel_rfl) rfl #[.int .i64 (a0.size : Int), .int .i64 1, .int .i64 30] rfl zm ?_; (with_reducible refine (impl_in.calls (a0.size : Int) 1 30 false _ A2.out).mono ?_); rintro e w' ⟨rfl, ⟨nd, rfl⟩⟩; refine ⟨_, rfl, ?_⟩))
  go_ret
  exact ⟨by first | rfl | (simp; done) | (simp [*]; done), by repeat (first | exact Drawn0.refl _ | apply Drawn0.step)⟩

end Go.Proofs.Ytcefenlblnediaa.My

/- Written by this session's program (wip/gen): a plain function with the same answers as the Go function, and the proof that the Go code comes to them. Asked: that the plain function has an answer. -/
namespace Go.Proofs.Ytcefenlblnediaa.My
open Go.RowKit Go.Proofs.YtcefenlblnediaaW.PrintWords Go.Proofs.YtcefenlblnediaaW.PrintLast Go.Proofs.YtcefenlblnediaaW.PrintMore
attribute [local go_sem] max2_int min2_int max_two min_two max_three min_three max_four min_four
set_option linter.unusedVariables false
set_option linter.unusedSimpArgs false

/-! ### impl_areLines_1: function 184 -/
def impl_areLines_1.f (k : Nat) (a0 : ByteArray) : Option (Bool) := (impl_isLine.f k a0).bind fun t121 => (some (!t121))
set_option maxHeartbeats 8000000 in
set_option maxRecDepth 100000 in
theorem impl_areLines_1.calls (k : Nat) (a0 : ByteArray) (r : Bool) (w : World) (h : impl_areLines_1.f k a0 = some r) :
  Calls Try.prog 184 #[.string a0] w fun e w' => e = .returned (.bool r) ∧ Drawn0 w w' := by
 have H : ((impl_isLine.f k a0).bind fun t121 => (some (!t121))) = some r := h
 clear h
 replace H := Option.bind_eq_some_iff.mp H
 obtain ⟨t121, A20, H⟩ := H
 replace H : (some (!t121)) = some r := H
 have A2 := Aside0.mk A20
 clear A20
 obtain rfl := Option.some.inj H
 go_enter Try.func184, Try.ntmps184
 go_wp2_with (first | ((with_reducible refine gateC (f := 179) rfl ?_); refine goesL_ (some 4) rfl rfl Try.func179 (by kernel_rfl) rfl #[.string a0] rfl zm ?_; (with_reducible refine (impl_isLine.calls k a0 t121 _ A2.out).mono ?_); rintro e w' ⟨rfl, ⟨nd, rfl⟩⟩; refine ⟨_, rfl, ?_⟩))
 go_ret
 exact ⟨by first | rfl | (simp; done) | (simp [*]; done), by repeat (first | exact Drawn0.refl _ | apply Drawn0.step)⟩

end Go.Proofs.Ytcefenlblnediaa.My

/- Written by this session's program (wip/gen): a plain function with the same answers as the Go function, and the proof that the Go code comes to them. Asked: that the plain function has an answer. -/
namespace Go.Proofs.Ytcefenlblnediaa.My
open Go.RowKit Go.Proofs.YtcefenlblnediaaW.PrintWords Go.Proofs.YtcefenlblnediaaW.PrintLast Go.Proofs.YtcefenlblnediaaW.PrintMore
attribute [local go_sem] max2_int min2_int max_two min_two max_three min_three max_four min_four
set_option linter.unusedVariables false
set_option linter.unusedSimpArgs false

/-! ### slices_IndexFunc_string_string__impl_areLines_1: function 195 -/
def slices_IndexFunc_string_string__impl_areLines_1.l0 : Nat → List ByteArray → Int → Int → Option (Int)
 | 0, _, _, _ => none
 | k + 1, x0, x7, x8 => if x8 < x7 then (if 0 ≤ x8 then (if x8 < (x0.length : Int) then ((impl_areLines_1.f k (rdOf ByteArray.empty x0 x8)).bind fun t123 => (if t123 = true then (some x8) else (slices_IndexFunc_string_string__impl_areLines_1.l0 k x0 x7 (wrap64 (x8 + 1))))) else (none)) else (none)) else (some (-1))
def slices_IndexFunc_string_string__impl_areLines_1.f (k : Nat) (l0 : List ByteArray)  : Option (Int) := slices_IndexFunc_string_string__impl_areLines_1.l0 k l0 (l0.length : Int) 0
set_option maxHeartbeats 8000000 in
set_option maxRecDepth 100000 in
theorem slices_IndexFunc_string_string__impl_areLines_1.calls (k : Nat) (A0 : Option Addr) (c0 : Nat) (l0 : List ByteArray)  (r : Int) (w : World) (hr0 : Kd.C Kd.string w A0 l0.length l0) (hc0 : l0.length ≤ c0) (h : slices_IndexFunc_string_string__impl_areLines_1.f k l0 = some r) :
  Calls Try.prog 195 #[.slice A0 l0.length c0, .func (.func 184) #[] #[]] w fun e w' => e = .returned (.int .i64 r) ∧ Drawn0 w w' := by
 have HR0 := Aside0.mk hr0
 have HC0 := Aside0.mk hc0
 clear hr0 hc0
 have H : (slices_IndexFunc_string_string__impl_areLines_1.l0 k l0 (l0.length : Int) 0) = some r := h
 clear h
 have H' := Aside0.mk H
 clear H
 go_enter Try.func195, Try.ntmps195
 go_wp2
 go_loopg [8] k (fun kq v8 w' => ∃ (x8_1 : Int), v8 = .int .i64 x8_1 ∧ Aside0 (slices_IndexFunc_string_string__impl_areLines_1.l0 kq l0 (l0.length : Int) x8_1 = some r) ∧ Aside0 (kq ≤ k) ∧ Drawn0 w w')
 case atStart => exact ⟨(0), zf, H', ⟨Nat.le_refl _⟩, by repeat (first | exact Drawn0.refl _ | apply Drawn0.step)⟩
 case round =>
  clear H'
  try clear p2
  obtain ⟨x8_1, rfl, HA, HK1, ⟨m1, rfl⟩⟩ := hrel
  cases gk with
  | zero => exact absurd HA.out (by simp [slices_IndexFunc_string_string__impl_areLines_1.l0])
  | succ k1 =>
   have H := HA.out
   clear HA
   simp only [slices_IndexFunc_string_string__impl_areLines_1.l0] at H
   by_cases c3 : x8_1 < (l0.length : Int)
   ·rw [if_pos c3] at H
    have c3b0 : decide (x8_1 < (l0.length : Int)) = true := decide_eq_true c3
    clear c3
    by_cases c4 : 0 ≤ x8_1
    ·rw [if_pos c4] at H
     have c4b0 : decide (0 ≤ x8_1) = true := decide_eq_true c4
     clear c4
     by_cases c5 : x8_1 < (l0.length : Int)
     ·rw [if_pos c5] at H
      have c5b0 : decide (x8_1 < (l0.length : Int)) = true := decide_eq_true c5
      clear c5
      replace H := Option.bind_eq_some_iff.mp H
      obtain ⟨t123, A60, H⟩ := H
      replace H : (if t123 = true then (some x8_1) else (slices_IndexFunc_string_string__impl_areLines_1.l0 k1 l0 (l0.length : Int) (wrap64 (x8_1 + 1)))) = some r := H
      have A6 := Aside0.mk A60
      clear A60
      by_cases c7 : t123 = true
      ·subst c7
       have H1 : (some x8_1) = some r := by rw [if_pos rfl] at H; exact H
       clear H
       have H := H1
       clear H1
       obtain rfl := Option.some.inj H
       have p122 : 0 ≤ (x8_1 : Int) := oa
       have q122 : x8_1 < (l0.length : Int) := oa
       obtain ⟨ad122, e122, hx122_0⟩ := Kd.at_string HR0.out x8_1 p122 q122
       cases e122
       replace p122 := eq_true p122
       replace q122 := eq_true q122
       go_wp2_with (first | (go_at_call 184; (with_reducible refine (impl_areLines_1.calls k1 (rdOf ByteArray.empty l0 x8_1) true _ A6.out).mono ?_); rintro e w' ⟨rfl, ⟨nd, rfl⟩⟩))
       go_ret
       exact ⟨by first | rfl | (simp; done) | (simp [*]; done), by repeat (first | exact Drawn0.refl _ | apply Drawn0.step)⟩
      ·replace c7 := Bool.eq_false_iff.mpr c7
       subst c7
       have H1 : (slices_IndexFunc_string_string__impl_areLines_1.l0 k1 l0 (l0.length : Int) (wrap64 (x8_1 + 1))) = some r := by rw [if_neg (show ¬ (false = true) by decide)] at H; exact H
       clear H
       have H := H1
       clear H1
       have H' := Aside0.mk H
       clear H
       have p122 : 0 ≤ (x8_1 : Int) := oa
       have q122 : x8_1 < (l0.length : Int) := oa
       obtain ⟨ad122, e122, hx122_0⟩ := Kd.at_string HR0.out x8_1 p122 q122
       cases e122
       replace p122 := eq_true p122
       replace q122 := eq_true q122
       go_wp2_with (first | (go_at_call 184; (with_reducible refine (impl_areLines_1.calls k1 (rdOf ByteArray.empty l0 x8_1) false _ A6.out).mono ?_); rintro e w' ⟨rfl, ⟨nd, rfl⟩⟩))
       go_roundg k1
       case measure => have := HK1.out; omega
       case rel => exact ⟨(wrap64 (x8_1 + 1)), zf, H', ⟨by have := HK1.out; omega⟩, by repeat (first | exact Drawn0.refl _ | apply Drawn0.step)⟩
     ·rw [if_neg c5] at H
      exact absurd H (by simp)
    ·rw [if_neg c4] at H
     exact absurd H (by simp)
   ·rw [if_neg c3] at H
    have c3b0 : decide (x8_1 < (l0.length : Int)) = false := decide_eq_false c3
    clear c3
    obtain rfl := Option.some.inj H
    go_wp2
    go_ret
    exact ⟨by first | rfl | (simp; done) | (simp [*]; done), by repeat (first | exact Drawn0.refl _ | apply Drawn0.step)⟩

end Go.Proofs.Ytcefenlblnediaa.My

/- Written by this session's program (wip/gen): a plain function with the same answers as the Go function, and the proof that the Go code comes to them. Asked: that the plain function has an answer. -/
namespace Go.Proofs.Ytcefenlblnediaa.My
open Go.RowKit Go.Proofs.YtcefenlblnediaaW.PrintWords Go.Proofs.YtcefenlblnediaaW.PrintLast Go.Proofs.YtcefenlblnediaaW.PrintMore
attribute [local go_sem] max2_int min2_int max_two min_two max_three min_three max_four min_four
set_option linter.unusedVariables false
set_option linter.unusedSimpArgs false

/-! ### slices_ContainsFunc_string_string__impl_areLines_1: function 183 -/
def slices_ContainsFunc_string_string__impl_areLines_1.f (k : Nat) (l0 : List ByteArray)  : Option (Bool) := (slices_IndexFunc_string_string__impl_areLines_1.f k l0).bind fun t124 => (some (decide (t124 ≥ 0)))
set_option maxHeartbeats 8000000 in
set_option maxRecDepth 100000 in
theorem slices_ContainsFunc_string_string__impl_areLines_1.calls (k : Nat) (A0 : Option Addr) (c0 : Nat) (l0 : List ByteArray)  (r : Bool) (w : World) (hr0 : Kd.C Kd.string w A0 l0.length l0) (hc0 : l0.length ≤ c0) (h : slices_ContainsFunc_string_string__impl_areLines_1.f k l0 = some r) :
  Calls Try.prog 183 #[.slice A0 l0.length c0, .func (.func 184) #[] #[]] w fun e w' => e = .returned (.bool r) ∧ Drawn0 w w' := by
 have HR0 := Aside0.mk hr0
 have HC0 := Aside0.mk hc0
 clear hr0 hc0
 have H : ((slices_IndexFunc_string_string__impl_areLines_1.f k l0).bind fun t124 => (some (decide (t124 ≥ 0)))) = some r := h
 clear h
 replace H := Option.bind_eq_some_iff.mp H
 obtain ⟨t124, A30, H⟩ := H
 replace H : (some (decide (t124 ≥ 0))) = some r := H
 have A3 := Aside0.mk A30
 clear A30
 obtain rfl := Option.some.inj H
 go_enter Try.func183, Try.ntmps183
 go_wp2_with (first | ((with_reducible refine gateC (f := 195) rfl ?_); refine goesL_ (some 7) rfl rfl Try.func195 (by kernel_rfl) rfl #[.slice A0 l0.length c0, .func (.func 184) #[] #[]] rfl zm ?_; (with_reducible refine (slices_IndexFunc_string_string__impl_areLines_1.calls k _ _ l0  t124 _ ?side1 ?side2 A3.out).mono ?_); (case side1 => exact zq HR0.out); (case side2 => exact HC0.out); rintro e w' ⟨rfl, ⟨nd, rfl⟩⟩; refine ⟨_, rfl, ?_⟩))
 go_ret
 exact ⟨by first | rfl | (simp; done) | (simp [*]; done), by repeat (first | exact Drawn0.refl _ | apply Drawn0.step)⟩

end Go.Proofs.Ytcefenlblnediaa.My

/- Written by this session's program (wip/gen): a plain function with the same answers as the Go function, and the proof that the Go code comes to them. Asked: that the plain function has an answer. -/
namespace Go.Proofs.Ytcefenlblnediaa.My
open Go.RowKit Go.Proofs.YtcefenlblnediaaW.PrintWords Go.Proofs.YtcefenlblnediaaW.PrintLast Go.Proofs.YtcefenlblnediaaW.PrintMore
attribute [local go_sem] max2_int min2_int max_two min_two max_three min_three max_four min_four
set_option linter.unusedVariables false
set_option linter.unusedSimpArgs false

/-! ### impl_areLines: function 149 -/
def impl_areLines.f (k : Nat) (l0 : List ByteArray) : Option (Bool) := if (l0.length : Int) ≤ 40 then ((slices_ContainsFunc_string_string__impl_areLines_1.f k l0).bind fun t125 => (some (!t125))) else (some false)
set_option maxHeartbeats 8000000 in
set_option maxRecDepth 100000 in
theorem impl_areLines.calls (k : Nat) (A0 : Option Addr) (c0 : Nat) (l0 : List ByteArray) (r : Bool) (w : World) (hr0 : Kd.C Kd.string w A0 l0.length l0) (hc0 : l0.length ≤ c0) (h : impl_areLines.f k l0 = some r) :
  Calls Try.prog 149 #[.slice A0 l0.length c0] w fun e w' => e = .returned (.bool r) ∧ Drawn0 w w' := by
 have HR0 := Aside0.mk hr0
 have HC0 := Aside0.mk hc0
 clear hr0 hc0
 have H : (if (l0.length : Int) ≤ 40 then ((slices_ContainsFunc_string_string__impl_areLines_1.f k l0).bind fun t125 => (some (!t125))) else (some false)) = some r := h
 clear h
 by_cases c2 : (l0.length : Int) ≤ 40
 ·rw [if_pos c2] at H
  have c2b0 : decide ((l0.length : Int) ≤ 40) = true := decide_eq_true c2
  have c2b1 : decide (l0.length ≤ 40) = true := decide_eq_true (by omega)
  clear c2
  replace H := Option.bind_eq_some_iff.mp H
  obtain ⟨t125, A30, H⟩ := H
  replace H : (some (!t125)) = some r := H
  have A3 := Aside0.mk A30
  clear A30
  obtain rfl := Option.some.inj H
  go_enter Try.func149, Try.ntmps149
  go_wp2_with (first | (go_at_call 183; (with_reducible refine (slices_ContainsFunc_string_string__impl_areLines_1.calls k _ _ l0  t125 _ ?side1 ?side2 A3.out).mono ?_); (case side1 => exact zq HR0.out); (case side2 => exact HC0.out); rintro e w' ⟨rfl, ⟨nd, rfl⟩⟩))
  go_ret
  exact ⟨by first | rfl | (simp; done) | (simp [*]; done), by repeat (first | exact Drawn0.refl _ | apply Drawn0.step)⟩
 ·rw [if_neg c2] at H
  have c2b0 : decide ((l0.length : Int) ≤ 40) = false := decide_eq_false c2
  have c2b1 : decide (l0.length ≤ 40) = false := decide_eq_false (by omega)
  clear c2
  obtain rfl := Option.some.inj H
  go_enter Try.func149, Try.ntmps149
  go_wp2
  go_ret
  exact ⟨by first | rfl | (simp; done) | (simp [*]; done), by repeat (first | exact Drawn0.refl _ | apply Drawn0.step)⟩

end Go.Proofs.Ytcefenlblnediaa.My

/- Written by this session's program (wip/gen): a plain function with the same answers as the Go function, and the proof that the Go code comes to them. Asked: that the plain function has an answer. -/
namespace Go.Proofs.Ytcefenlblnediaa.My
open Go.RowKit Go.Proofs.YtcefenlblnediaaW.PrintWords Go.Proofs.YtcefenlblnediaaW.PrintLast Go.Proofs.YtcefenlblnediaaW.PrintMore
attribute [local go_sem] max2_int min2_int max_two min_two max_three min_three max_four min_four
set_option linter.unusedVariables false
set_option linter.unusedSimpArgs false

/-! ### impl_goodHunks: function 96 -/
mutual
def impl_goodHunks.j0 : Nat → Int → List (S111) → Bool → Option (Bool)
 | 0, _, _, _ => none
 | k + 1, x0, x1, x14 => if x14 = true then (some false) else (impl_goodHunks.l0 k x0 x1 x1 (x1.length : Int) 0)
def impl_goodHunks.l0 : Nat → Int → List (S111) → List (S111) → Int → Int → Option (Bool)
 | 0, _, _, _, _, _ => none
 | k + 1, x0, x1, x15, x16, x17 => if x17 < x16 then (if 0 ≤ x17 then (if x17 < (x15.length : Int) then ((impl_in.f ((rd_T111 x15 x17).f0) 0 x0).bind fun t432 => (if t432 = true then ((impl_in.f ((rd_T111 x15 x17).f1) 0 (wrap64 (x0 - ((rd_T111 x15 x17).f0)))).bind fun t433 => (if t433 = true then ((impl_areLines.f k ((rd_T111 x15 x17).f2)).bind fun t434 => (if t434 = true then (if ((rd_T111 x15 x17).f1) = 0 then (impl_goodHunks.j2 k x0 x1 x17 x15 x16 x17 ((((rd_T111 x15 x17).f2).length : Int) == 0) ((rd_T111 x15 x17).f0) ((rd_T111 x15 x17).f1) ((rd_T111 x15 x17).f2)) else (impl_goodHunks.j2 k x0 x1 x17 x15 x16 x17 false ((rd_T111 x15 x17).f0) ((rd_T111 x15 x17).f1) ((rd_T111 x15 x17).f2))) else (impl_goodHunks.j2 k x0 x1 x17 x15 x16 x17 true ((rd_T111 x15 x17).f0) ((rd_T111 x15 x17).f1) ((rd_T111 x15 x17).f2)))) else (impl_goodHunks.j2 k x0 x1 x17 x15 x16 x17 true ((rd_T111 x15 x17).f0) ((rd_T111 x15 x17).f1) ((rd_T111 x15 x17).f2)))) else (impl_goodHunks.j2 k x0 x1 x17 x15 x16 x17 true ((rd_T111 x15 x17).f0) ((rd_T111 x15 x17).f1) ((rd_T111 x15 x17).f2)))) else (none)) else (none)) else (some true)
def impl_goodHunks.j2 : Nat → Int → List (S111) → Int → List (S111) → Int → Int → Bool → Int → Int → List ByteArray → Option (Bool)
 | 0, _, _, _, _, _, _, _, _, _, _ => none
 | k + 1, x0, x1, x5, x15, x16, x17, x53, x432000, x432001, x432002 => if x53 = true then (some false) else (if x5 > 0 then (if 0 ≤ (wrap64 (x5 - 1)) then (if (wrap64 (x5 - 1)) < (x1.length : Int) then (if x432000 ≤ (wrap64 (((rd_T111 x1 (wrap64 (x5 - 1))).f0) + ((rd_T111 x1 (wrap64 (x5 - 1))).f1))) then (some false) else (impl_goodHunks.l0 k x0 x1 x15 x16 (wrap64 (x17 + 1)))) else (none)) else (none)) else (impl_goodHunks.l0 k x0 x1 x15 x16 (wrap64 (x17 + 1))))
end
def impl_goodHunks.f (k : Nat) (a0 : Int) (l1 : List (S111)) : Option (Bool) := (impl_in.f a0 0 40).bind fun t429 => (if t429 = true then (impl_goodHunks.j0 k a0 l1 (decide ((l1.length : Int) > 20))) else (impl_goodHunks.j0 k a0 l1 true))
set_option maxHeartbeats 8000000 in
set_option maxRecDepth 100000 in
theorem impl_goodHunks.calls (k : Nat) (a0 : Int) (A1 : Option Addr) (c1 : Nat) (l1 : List (S111)) (r : Bool) (w : World) (hr1 : Kd.C k111 w A1 l1.length l1) (hc1 : l1.length ≤ c1) (h : impl_goodHunks.f k a0 l1 = some r) :
  Calls Try.prog 96 #[.int .i64 a0, .slice A1 l1.length c1] w fun e w' => e = .returned (.bool r) ∧ Below w.heap.size w w' := by
 have hu111 := Try.underlying111
 have HR1 := Aside0.mk hr1
 have HC1 := Aside0.mk hc1
 clear hr1 hc1
 have HB := Aside0.mk (Below.refl w.heap.size w)
 have H : ((impl_in.f a0 0 40).bind fun t429 => (if t429 = true then (impl_goodHunks.j0 k a0 l1 (decide ((l1.length : Int) > 20))) else (impl_goodHunks.j0 k a0 l1 true))) = some r := h
 clear h
 have HC3 := Aside0.mk H
 clear H
 go_enter Try.func96, Try.ntmps96
 go_upto_region 1 with (fail)
 repeat (go_quiet (fail); go_upto_region 1 with (fail))
 go_cut [14] (fun v14 wc => ∃ (kq : Nat) (x14_2 : Bool), v14 = .bool x14_2 ∧ Aside0 (impl_goodHunks.j0 kq a0 l1 x14_2 = some r) ∧ Aside0 (kq ≤ k) ∧ Aside0 (Below w.heap.size w wc))
 case first =>
  have H := HC3.out
  clear HC3
  replace H := Option.bind_eq_some_iff.mp H
  obtain ⟨t429, A40, H⟩ := H
  replace H : (if t429 = true then (impl_goodHunks.j0 k a0 l1 (decide ((l1.length : Int) > 20))) else (impl_goodHunks.j0 k a0 l1 true)) = some r := H
  have A4 := Aside0.mk A40
  clear A40
  by_cases c5 : t429 = true
  ·subst c5
   have H1 : (impl_goodHunks.j0 k a0 l1 (decide ((l1.length : Int) > 20))) = some r := by rw [if_pos rfl] at H; exact H
   clear H
   have H := H1
   clear H1
   have H' := Aside0.mk H
   clear H
   go_wp2_with (first | (go_at_call 102; (with_reducible refine (impl_in.calls a0 0 40 true _ A4.out).mono ?_); rintro e w' ⟨rfl, ⟨nd, rfl⟩⟩; (try exact zd)))
   repeat (go_quiet (first | (go_at_call 102; (with_reducible refine (impl_in.calls a0 0 40 true _ A4.out).mono ?_); rintro e w' ⟨rfl, ⟨nd, rfl⟩⟩; (try exact zd))); try go_wp2_with (first | (go_at_call 102; (with_reducible refine (impl_in.calls a0 0 40 true _ A4.out).mono ?_); rintro e w' ⟨rfl, ⟨nd, rfl⟩⟩; (try exact zd))))
   go_meet
   case rel => exact ⟨_, (decide ((l1.length : Int) > 20)), zf, H', ⟨by first | omega | exact Nat.le_refl _⟩, ⟨by repeat (first | (with_reducible first | exact HB.out | apply below_alloc | apply pw_below_drewN | apply below_drew1) | exact HB.out)⟩⟩
  ·replace c5 := Bool.eq_false_iff.mpr c5
   subst c5
   have H1 : (impl_goodHunks.j0 k a0 l1 true) = some r := by rw [if_neg (show ¬ (false = true) by decide)] at H; exact H
   clear H
   have H := H1
   clear H1
   have H' := Aside0.mk H
   clear H
   go_wp2_with (first | (go_at_call 102; (with_reducible refine (impl_in.calls a0 0 40 false _ A4.out).mono ?_); rintro e w' ⟨rfl, ⟨nd, rfl⟩⟩; (try exact zd)))
   repeat (go_quiet (first | (go_at_call 102; (with_reducible refine (impl_in.calls a0 0 40 false _ A4.out).mono ?_); rintro e w' ⟨rfl, ⟨nd, rfl⟩⟩; (try exact zd))); try go_wp2_with (first | (go_at_call 102; (with_reducible refine (impl_in.calls a0 0 40 false _ A4.out).mono ?_); rintro e w' ⟨rfl, ⟨nd, rfl⟩⟩; (try exact zd))))
   go_meet
   case rel => exact ⟨_, (true), zf, H', ⟨by first | omega | exact Nat.le_refl _⟩, ⟨by repeat (first | (with_reducible first | exact HB.out | apply below_alloc | apply pw_below_drewN | apply below_drew1) | exact HB.out)⟩⟩
 case rest =>
  clear HC3
  try clear c1
  try clear p2
  try clear c5
  obtain ⟨kq, x14_2, rfl, HA, HJ2, HB⟩ := hcut
  cases kq with
  | zero => exact absurd HA.out (by simp [impl_goodHunks.j0])
  | succ kj2 =>
   have H := HA.out
   clear HA
   simp only [impl_goodHunks.j0] at H
   by_cases c6 : x14_2 = true
   ·subst c6
    have H1 : (some false) = some r := by rw [if_pos rfl] at H; exact H
    clear H
    have H := H1
    clear H1
    obtain rfl := Option.some.inj H
    go_wp2
    repeat (go_quiet (fail); try go_wp2)
    go_ret
    exact ⟨by first | rfl | (simp [errW_none, errW_some] <;> rfl) | (simp [*, errW_none, errW_some] <;> rfl), by repeat (first | (with_reducible first | exact HB.out | apply below_alloc | apply pw_below_drewN | apply below_drew1) | exact HB.out)⟩
   ·replace c6 := Bool.eq_false_iff.mpr c6
    subst c6
    have H1 : (impl_goodHunks.l0 kj2 a0 l1 l1 (l1.length : Int) 0) = some r := by rw [if_neg (show ¬ (false = true) by decide)] at H; exact H
    clear H
    have H := H1
    clear H1
    have H' := Aside0.mk H
    clear H
    go_wp2
    repeat (go_quiet (fail); try go_wp2)
    go_loopg [17] kj2 (fun kq v17 w' => ∃ (x17_2 : Int), v17 = .int .i64 x17_2 ∧ Aside0 (impl_goodHunks.l0 kq a0 l1 l1 (l1.length : Int) x17_2 = some r) ∧ Aside0 (kq ≤ kj2) ∧ Aside0 (Below w.heap.size w w'))
    case atStart => exact ⟨(0), zf, H', ⟨Nat.le_refl _⟩, ⟨by repeat (first | (with_reducible first | exact HB.out | apply below_alloc | apply pw_below_drewN | apply below_drew1) | exact HB.out)⟩⟩
    case round =>
     clear H'
     try clear c1
     try clear p2
     try clear c5
     try clear c6
     try clear p2
     obtain ⟨x17_2, rfl, HA, HK2, HB⟩ := hrel
     cases gk with
     | zero => exact absurd HA.out (by simp [impl_goodHunks.l0])
     | succ k2 =>
      have H := HA.out
      clear HA
      simp only [impl_goodHunks.l0] at H
      by_cases c7 : x17_2 < (l1.length : Int)
      ·rw [if_pos c7] at H
       have c7b0 : decide (x17_2 < (l1.length : Int)) = true := decide_eq_true c7
       clear c7
       by_cases c8 : 0 ≤ x17_2
       ·rw [if_pos c8] at H
        have c8b0 : decide (0 ≤ x17_2) = true := decide_eq_true c8
        clear c8
        by_cases c9 : x17_2 < (l1.length : Int)
        ·rw [if_pos c9] at H
         have c9b0 : decide (x17_2 < (l1.length : Int)) = true := decide_eq_true c9
         clear c9
         have HC10 := Aside0.mk H
         clear H
         have p430 : 0 ≤ (x17_2 : Int) := oa
         have q430 : x17_2 < (l1.length : Int) := oa
         obtain ⟨ad430, A430_2, c430_2, e430, hx430_0, hx430_1, hx430_2, hl430_2, hi430_2⟩ := at_T111 HR1.out x17_2 p430 q430
         cases e430
         replace hx430_0 := (HB.out.cell (World.block_lt_of_cell? w _ hx430_0)).trans hx430_0
         replace hx430_1 := (HB.out.cell (World.block_lt_of_cell? w _ hx430_1)).trans hx430_1
         replace hx430_2 := (HB.out.cell (World.block_lt_of_cell? w _ hx430_2)).trans hx430_2
         have HR430_2 := Aside0.mk hi430_2
         have HC430_2 := Aside0.mk hl430_2
         clear hi430_2 hl430_2
         replace p430 := eq_true p430
         replace q430 := eq_true q430
         go_upto_region 6 with (first | ((with_reducible refine gate_dst (N := 6) rfl ?_); (try (refine gate_guard (by rfl) ?_; dsimp only)); refine box_event ?hg (N := 6) ?hd (cs := #[.int .i64 0, .int .i64 0, .slice none 0 0]) (t := 111) ?hr ?_; (case hd => rfl); (case hg => rfl); (case hr => first | (go_simp; done) | (go_simp; rfl)); intro gb431 hg w11 hbox hb; have n0_ := Aside0.mk (below_step zb hb); have n1_ := Aside0.mk (hbox); have n2_ := Aside0.mk ((by rw [hg]; exact (below_size zb) : w.heap.size ≤ gb431)); have n3_ := Aside0.mk ((by rw [hg]; exact (below_size zb) : w.heap.size ≤ gb431)); clear HB; have HB := n0_; have BK431 := n1_; have GW431 := n2_; have GE431 := n3_; clear n0_ n1_ n2_ n3_; clear hb hbox hg; have hcz12_0 : w11.cell? ⟨gb431, 0, none⟩ = some (.int .i64 0) := (blk_cell BK431.out 0).trans rfl; have hcz12_1 : w11.cell? ⟨gb431, 1, none⟩ = some (.int .i64 0) := (blk_cell BK431.out 1).trans rfl; have hcz12_2 : w11.cell? ⟨gb431, 2, none⟩ = some (.slice none 0 0) := (blk_cell BK431.out 2).trans rfl; have hfz12_0 := blk_frozen BK431.out 0; have hfz12_1 := blk_frozen BK431.out 1; have hfz12_2 := blk_frozen BK431.out 2))
         repeat (go_quiet (first | ((with_reducible refine gate_dst (N := 6) rfl ?_); (try (refine gate_guard (by rfl) ?_; dsimp only)); refine box_event ?hg (N := 6) ?hd (cs := #[.int .i64 0, .int .i64 0, .slice none 0 0]) (t := 111) ?hr ?_; (case hd => rfl); (case hg => rfl); (case hr => first | (go_simp; done) | (go_simp; rfl)); intro gb431 hg w11 hbox hb; have n0_ := Aside0.mk (below_step zb hb); have n1_ := Aside0.mk (hbox); have n2_ := Aside0.mk ((by rw [hg]; exact (below_size zb) : w.heap.size ≤ gb431)); have n3_ := Aside0.mk ((by rw [hg]; exact (below_size zb) : w.heap.size ≤ gb431)); clear HB; have HB := n0_; have BK431 := n1_; have GW431 := n2_; have GE431 := n3_; clear n0_ n1_ n2_ n3_; clear hb hbox hg; have hcz12_0 : w11.cell? ⟨gb431, 0, none⟩ = some (.int .i64 0) := (blk_cell BK431.out 0).trans rfl; have hcz12_1 : w11.cell? ⟨gb431, 1, none⟩ = some (.int .i64 0) := (blk_cell BK431.out 1).trans rfl; have hcz12_2 : w11.cell? ⟨gb431, 2, none⟩ = some (.slice none 0 0) := (blk_cell BK431.out 2).trans rfl; have hfz12_0 := blk_frozen BK431.out 0; have hfz12_1 := blk_frozen BK431.out 1; have hfz12_2 := blk_frozen BK431.out 2)); go_upto_region 6 with (first | ((with_reducible refine gate_dst (N := 6) rfl ?_); (try (refine gate_guard (by rfl) ?_; dsimp only)); refine box_event ?hg (N := 6) ?hd (cs := #[.int .i64 0, .int .i64 0, .slice none 0 0]) (t := 111) ?hr ?_; (case hd => rfl); (case hg => rfl); (case hr => first | (go_simp; done) | (go_simp; rfl)); intro gb431 hg w11 hbox hb; have n0_ := Aside0.mk (below_step zb hb); have n1_ := Aside0.mk (hbox); have n2_ := Aside0.mk ((by rw [hg]; exact (below_size zb) : w.heap.size ≤ gb431)); have n3_ := Aside0.mk ((by rw [hg]; exact (below_size zb) : w.heap.size ≤ gb431)); clear HB; have HB := n0_; have BK431 := n1_; have GW431 := n2_; have GE431 := n3_; clear n0_ n1_ n2_ n3_; clear hb hbox hg; have hcz12_0 : w11.cell? ⟨gb431, 0, none⟩ = some (.int .i64 0) := (blk_cell BK431.out 0).trans rfl; have hcz12_1 : w11.cell? ⟨gb431, 1, none⟩ = some (.int .i64 0) := (blk_cell BK431.out 1).trans rfl; have hcz12_2 : w11.cell? ⟨gb431, 2, none⟩ = some (.slice none 0 0) := (blk_cell BK431.out 2).trans rfl; have hfz12_0 := blk_frozen BK431.out 0; have hfz12_1 := blk_frozen BK431.out 1; have hfz12_2 := blk_frozen BK431.out 2)))
         (try simp only [Act.put, List.setIfInBounds_toArray, List.set_cons_zero, List.set_cons_succ])
         go_cut [53] (fun v53 wc => ∃ (kq : Nat) (x53_9 : Bool), v53 = .bool x53_9 ∧ Aside0 (impl_goodHunks.j2 kq a0 l1 x17_2 l1 (l1.length : Int) x17_2 x53_9 ((rd_T111 l1 x17_2).f0) ((rd_T111 l1 x17_2).f1) ((rd_T111 l1 x17_2).f2) = some r) ∧ Aside0 (kq ≤ k2) ∧ Aside0 (wc.heap[gb431]? = some (.cells #[.int .i64 ((rd_T111 l1 x17_2).f0), .int .i64 ((rd_T111 l1 x17_2).f1), (.slice A430_2 ((rd_T111 l1 x17_2).f2).length c430_2)] 111 (0, 0))) ∧ Aside0 (Below w.heap.size w wc))
         case first =>
          have H := HC10.out
          clear HC10
          replace H := Option.bind_eq_some_iff.mp H
          obtain ⟨t432, A130, H⟩ := H
          replace H : (if t432 = true then ((impl_in.f ((rd_T111 l1 x17_2).f1) 0 (wrap64 (a0 - ((rd_T111 l1 x17_2).f0)))).bind fun t433 => (if t433 = true then ((impl_areLines.f k2 ((rd_T111 l1 x17_2).f2)).bind fun t434 => (if t434 = true then (if ((rd_T111 l1 x17_2).f1) = 0 then (impl_goodHunks.j2 k2 a0 l1 x17_2 l1 (l1.length : Int) x17_2 ((((rd_T111 l1 x17_2).f2).length : Int) == 0) ((rd_T111 l1 x17_2).f0) ((rd_T111 l1 x17_2).f1) ((rd_T111 l1 x17_2).f2)) else (impl_goodHunks.j2 k2 a0 l1 x17_2 l1 (l1.length : Int) x17_2 false ((rd_T111 l1 x17_2).f0) ((rd_T111 l1 x17_2).f1) ((rd_T111 l1 x17_2).f2))) else (impl_goodHunks.j2 k2 a0 l1 x17_2 l1 (l1.length : Int) x17_2 true ((rd_T111 l1 x17_2).f0) ((rd_T111 l1 x17_2).f1) ((rd_T111 l1 x17_2).f2)))) else (impl_goodHunks.j2 k2 a0 l1 x17_2 l1 (l1.length : Int) x17_2 true ((rd_T111 l1 x17_2).f0) ((rd_T111 l1 x17_2).f1) ((rd_T111 l1 x17_2).f2)))) else (impl_goodHunks.j2 k2 a0 l1 x17_2 l1 (l1.length : Int) x17_2 true ((rd_T111 l1 x17_2).f0) ((rd_T111 l1 x17_2).f1) ((rd_T111 l1 x17_2).f2))) = some r := H
          have A13 := Aside0.mk A130
          clear A130
          by_cases c14 : t432 = true
          ·subst c14
           have H1 : ((impl_in.f ((rd_T111 l1 x17_2).f1) 0 (wrap64 (a0 - ((rd_T111 l1 x17_2).f0)))).bind fun t433 => (if t433 = true then ((impl_areLines.f k2 ((rd_T111 l1 x17_2).f2)).bind fun t434 => (if t434 = true then (if ((rd_T111 l1 x17_2).f1) = 0 then (impl_goodHunks.j2 k2 a0 l1 x17_2 l1 (l1.length : Int) x17_2 ((((rd_T111 l1 x17_2).f2).length : Int) == 0) ((rd_T111 l1 x17_2).f0) ((rd_T111 l1 x17_2).f1) ((rd_T111 l1 x17_2).f2)) else (impl_goodHunks.j2 k2 a0 l1 x17_2 l1 (l1.length : Int) x17_2 false ((rd_T111 l1 x17_2).f0) ((rd_T111 l1 x17_2).f1) ((rd_T111 l1 x17_2).f2))) else (impl_goodHunks.j2 k2 a0 l1 x17_2 l1 (l1.length : Int) x17_2 true ((rd_T111 l1 x17_2).f0) ((rd_T111 l1 x17_2).f1) ((rd_T111 l1 x17_2).f2)))) else (impl_goodHunks.j2 k2 a0 l1 x17_2 l1 (l1.length : Int) x17_2 true ((rd_T111 l1 x17_2).f0) ((rd_T111 l1 x17_2).f1) ((rd_T111 l1 x17_2).f2)))) = some r := by rw [if_pos rfl] at H; exact H
           clear H
           have H := H1
           clear H1
           replace H := Option.bind_eq_some_iff.mp H
           obtain ⟨t433, A150, H⟩ := H
           replace H : (if t433 = true then ((impl_areLines.f k2 ((rd_T111 l1 x17_2).f2)).bind fun t434 => (if t434 = true then (if ((rd_T111 l1 x17_2).f1) = 0 then (impl_goodHunks.j2 k2 a0 l1 x17_2 l1 (l1.length : Int) x17_2 ((((rd_T111 l1 x17_2).f2).length : Int) == 0) ((rd_T111 l1 x17_2).f0) ((rd_T111 l1 x17_2).f1) ((rd_T111 l1 x17_2).f2)) else (impl_goodHunks.j2 k2 a0 l1 x17_2 l1 (l1.length : Int) x17_2 false ((rd_T111 l1 x17_2).f0) ((rd_T111 l1 x17_2).f1) ((rd_T111 l1 x17_2).f2))) else (impl_goodHunks.j2 k2 a0 l1 x17_2 l1 (l1.length : Int) x17_2 true ((rd_T111 l1 x17_2).f0) ((rd_T111 l1 x17_2).f1) ((rd_T111 l1 x17_2).f2)))) else (impl_goodHunks.j2 k2 a0 l1 x17_2 l1 (l1.length : Int) x17_2 true ((rd_T111 l1 x17_2).f0) ((rd_T111 l1 x17_2).f1) ((rd_T111 l1 x17_2).f2))) = some r := H
           have A15 := Aside0.mk A150
           clear A150
           by_cases c16 : t433 = true
           ·subst c16
            have H1 : ((impl_areLines.f k2 ((rd_T111 l1 x17_2).f2)).bind fun t434 => (if t434 = true then (if ((rd_T111 l1 x17_2).f1) = 0 then (impl_goodHunks.j2 k2 a0 l1 x17_2 l1 (l1.length : Int) x17_2 ((((rd_T111 l1 x17_2).f2).length : Int) == 0) ((rd_T111 l1 x17_2).f0) ((rd_T111 l1 x17_2).f1) ((rd_T111 l1 x17_2).f2)) else (impl_goodHunks.j2 k2 a0 l1 x17_2 l1 (l1.length : Int) x17_2 false ((rd_T111 l1 x17_2).f0) ((rd_T111 l1 x17_2).f1) ((rd_T111 l1 x17_2).f2))) else (impl_goodHunks.j2 k2 a0 l1 x17_2 l1 (l1.length : Int) x17_2 true ((rd_T111 l1 x17_2).f0) ((rd_T111 l1 x17_2).f1) ((rd_T111 l1 x17_2).f2)))) = some r := by rw [if_pos rfl] at H; exact H
            clear H
            have H := H1
            clear H1
            replace H := Option.bind_eq_some_iff.mp H
            obtain ⟨t434, A170, H⟩ := H
            replace H : (if t434 = true then (if ((rd_T111 l1 x17_2).f1) = 0 then (impl_goodHunks.j2 k2 a0 l1 x17_2 l1 (l1.length : Int) x17_2 ((((rd_T111 l1 x17_2).f2).length : Int) == 0) ((rd_T111 l1 x17_2).f0) ((rd_T111 l1 x17_2).f1) ((rd_T111 l1 x17_2).f2)) else (impl_goodHunks.j2 k2 a0 l1 x17_2 l1 (l1.length : Int) x17_2 false ((rd_T111 l1 x17_2).f0) ((rd_T111 l1 x17_2).f1) ((rd_T111 l1 x17_2).f2))) else (impl_goodHunks.j2 k2 a0 l1 x17_2 l1 (l1.length : Int) x17_2 true ((rd_T111 l1 x17_2).f0) ((rd_T111 l1 x17_2).f1) ((rd_T111 l1 x17_2).f2))) = some r := H
            have A17 := Aside0.mk A170
            clear A170
            by_cases c18 : t434 = true
            ·subst c18
             have H1 : (if ((rd_T111 l1 x17_2).f1) = 0 then (impl_goodHunks.j2 k2 a0 l1 x17_2 l1 (l1.length : Int) x17_2 ((((rd_T111 l1 x17_2).f2).length : Int) == 0) ((rd_T111 l1 x17_2).f0) ((rd_T111 l1 x17_2).f1) ((rd_T111 l1 x17_2).f2)) else (impl_goodHunks.j2 k2 a0 l1 x17_2 l1 (l1.length : Int) x17_2 false ((rd_T111 l1 x17_2).f0) ((rd_T111 l1 x17_2).f1) ((rd_T111 l1 x17_2).f2))) = some r := by rw [if_pos rfl] at H; exact H
             clear H
             have H := H1
             clear H1
             by_cases c19 : ((rd_T111 l1 x17_2).f1) = 0
             ·rw [if_pos c19] at H
              have c19b0 : (((rd_T111 l1 x17_2).f1) == 0) = true := beq_iff_eq.mpr c19
              have c19b1 : (((rd_T111 l1 x17_2).f1) != 0) = false := bne_eq_false_iff_eq.mpr c19
              clear c19
              (first | rw [c19b0] | (simp only [i64_w, i32_w]; rw [c19b0]) | skip)
              have H' := Aside0.mk H
              clear H
              have hcz20_0 : w11.cell? ⟨gb431, 0, none⟩ = some (.int .i64 0) := (blk_cell BK431.out 0).trans rfl
              have hcz20_1 : w11.cell? ⟨gb431, 1, none⟩ = some (.int .i64 0) := (blk_cell BK431.out 1).trans rfl
              have hcz20_2 : w11.cell? ⟨gb431, 2, none⟩ = some (.slice none 0 0) := (blk_cell BK431.out 2).trans rfl
              have hfz20_0 := blk_frozen BK431.out 0
              have hfz20_1 := blk_frozen BK431.out 1
              have hfz20_2 := blk_frozen BK431.out 2
              go_wp2_with (first | (go_at_call 102; (with_reducible refine (impl_in.calls ((rd_T111 l1 x17_2).f0) 0 a0 true _ A13.out).mono ?_); rintro e w' ⟨rfl, ⟨nd, rfl⟩⟩; (try exact zd)) | (go_at_call 102; (with_reducible refine (impl_in.calls ((rd_T111 l1 x17_2).f1) 0 (wrap64 (a0 - ((rd_T111 l1 x17_2).f0))) true _ A15.out).mono ?_); rintro e w' ⟨rfl, ⟨nd, rfl⟩⟩; (try exact zd)) | (go_at_call 149; (with_reducible refine (impl_areLines.calls k2 _ _ ((rd_T111 l1 x17_2).f2) true _ ?side1 ?side2 A17.out).mono ?_); (case side1 => exact Kd.C_below HR430_2.out (by repeat (first | (with_reducible first | exact HB.out | apply below_alloc | apply pw_below_drewN | apply below_drew1 | refine below_set ?_ GE431.out) | exact HB.out))); (case side2 => exact HC430_2.out); rintro e w' ⟨rfl, ⟨nd, rfl⟩⟩; (try exact zd)))
              repeat (go_quiet (first | (go_at_call 102; (with_reducible refine (impl_in.calls ((rd_T111 l1 x17_2).f0) 0 a0 true _ A13.out).mono ?_); rintro e w' ⟨rfl, ⟨nd, rfl⟩⟩; (try exact zd)) | (go_at_call 102; (with_reducible refine (impl_in.calls ((rd_T111 l1 x17_2).f1) 0 (wrap64 (a0 - ((rd_T111 l1 x17_2).f0))) true _ A15.out).mono ?_); rintro e w' ⟨rfl, ⟨nd, rfl⟩⟩; (try exact zd)) | (go_at_call 149; (with_reducible refine (impl_areLines.calls k2 _ _ ((rd_T111 l1 x17_2).f2) true _ ?side1 ?side2 A17.out).mono ?_); (case side1 => exact Kd.C_below HR430_2.out (by repeat (first | (with_reducible first | exact HB.out | apply below_alloc | apply pw_below_drewN | apply below_drew1 | refine below_set ?_ GE431.out) | exact HB.out))); (case side2 => exact HC430_2.out); rintro e w' ⟨rfl, ⟨nd, rfl⟩⟩; (try exact zd))); try go_wp2_with (first | (go_at_call 102; (with_reducible refine (impl_in.calls ((rd_T111 l1 x17_2).f0) 0 a0 true _ A13.out).mono ?_); rintro e w' ⟨rfl, ⟨nd, rfl⟩⟩; (try exact zd)) | (go_at_call 102; (with_reducible refine (impl_in.calls ((rd_T111 l1 x17_2).f1) 0 (wrap64 (a0 - ((rd_T111 l1 x17_2).f0))) true _ A15.out).mono ?_); rintro e w' ⟨rfl, ⟨nd, rfl⟩⟩; (try exact zd)) | (go_at_call 149; (with_reducible refine (impl_areLines.calls k2 _ _ ((rd_T111 l1 x17_2).f2) true _ ?side1 ?side2 A17.out).mono ?_); (case side1 => exact Kd.C_below HR430_2.out (by repeat (first | (with_reducible first | exact HB.out | apply below_alloc | apply pw_below_drewN | apply below_drew1 | refine below_set ?_ GE431.out) | exact HB.out))); (case side2 => exact HC430_2.out); rintro e w' ⟨rfl, ⟨nd, rfl⟩⟩; (try exact zd))))
              go_meet
              case rel => exact ⟨_, (((((rd_T111 l1 x17_2).f2).length : Int) == 0)), zf, H', ⟨by have := HJ2.out; have := HK2.out; first | omega | exact Nat.le_refl _⟩, ⟨by (with_reducible repeat (first | refine blk_drewN ?_ _ | refine blk_drew ?_ | refine blk_alloc ?_ _)); refine blk_put (cs := #[.int .i64 ((rd_T111 l1 x17_2).f0), .int .i64 ((rd_T111 l1 x17_2).f1), .slice none 0 0]) ?_ 2 _ rfl; (with_reducible repeat (first | refine blk_drewN ?_ _ | refine blk_drew ?_ | refine blk_alloc ?_ _)); refine blk_put (cs := #[.int .i64 ((rd_T111 l1 x17_2).f0), .int .i64 0, .slice none 0 0]) ?_ 1 _ rfl; (with_reducible repeat (first | refine blk_drewN ?_ _ | refine blk_drew ?_ | refine blk_alloc ?_ _)); refine blk_put (cs := #[.int .i64 0, .int .i64 0, .slice none 0 0]) ?_ 0 _ rfl; (with_reducible repeat (first | refine blk_drewN ?_ _ | refine blk_drew ?_ | refine blk_alloc ?_ _)); exact BK431.out⟩, ⟨by repeat (first | (with_reducible first | exact HB.out | apply below_alloc | apply pw_below_drewN | apply below_drew1 | refine below_set ?_ GE431.out) | exact HB.out)⟩⟩
             ·rw [if_neg c19] at H
              have c19b0 : (((rd_T111 l1 x17_2).f1) == 0) = false := beq_eq_false_iff_ne.mpr c19
              have c19b1 : (((rd_T111 l1 x17_2).f1) != 0) = true := bne_iff_ne.mpr c19
              (first | rw [c19b0] | (simp only [i64_w, i32_w]; rw [c19b0]) | skip)
              have H' := Aside0.mk H
              clear H
              have hcz21_0 : w11.cell? ⟨gb431, 0, none⟩ = some (.int .i64 0) := (blk_cell BK431.out 0).trans rfl
              have hcz21_1 : w11.cell? ⟨gb431, 1, none⟩ = some (.int .i64 0) := (blk_cell BK431.out 1).trans rfl
              have hcz21_2 : w11.cell? ⟨gb431, 2, none⟩ = some (.slice none 0 0) := (blk_cell BK431.out 2).trans rfl
              have hfz21_0 := blk_frozen BK431.out 0
              have hfz21_1 := blk_frozen BK431.out 1
              have hfz21_2 := blk_frozen BK431.out 2
              go_wp2_with (first | (go_at_call 102; (with_reducible refine (impl_in.calls ((rd_T111 l1 x17_2).f0) 0 a0 true _ A13.out).mono ?_); rintro e w' ⟨rfl, ⟨nd, rfl⟩⟩; (try exact zd)) | (go_at_call 102; (with_reducible refine (impl_in.calls ((rd_T111 l1 x17_2).f1) 0 (wrap64 (a0 - ((rd_T111 l1 x17_2).f0))) true _ A15.out).mono ?_); rintro e w' ⟨rfl, ⟨nd, rfl⟩⟩; (try exact zd)) | (go_at_call 149; (with_reducible refine (impl_areLines.calls k2 _ _ ((rd_T111 l1 x17_2).f2) true _ ?side1 ?side2 A17.out).mono ?_); (case side1 => exact Kd.C_below HR430_2.out (by repeat (first | (with_reducible first | exact HB.out | apply below_alloc | apply pw_below_drewN | apply below_drew1 | refine below_set ?_ GE431.out) | exact HB.out))); (case side2 => exact HC430_2.out); rintro e w' ⟨rfl, ⟨nd, rfl⟩⟩; (try exact zd)))
              repeat (go_quiet (first | (go_at_call 102; (with_reducible refine (impl_in.calls ((rd_T111 l1 x17_2).f0) 0 a0 true _ A13.out).mono ?_); rintro e w' ⟨rfl, ⟨nd, rfl⟩⟩; (try exact zd)) | (go_at_call 102; (with_reducible refine (impl_in.calls ((rd_T111 l1 x17_2).f1) 0 (wrap64 (a0 - ((rd_T111 l1 x17_2).f0))) true _ A15.out).mono ?_); rintro e w' ⟨rfl, ⟨nd, rfl⟩⟩; (try exact zd)) | (go_at_call 149; (with_reducible refine (impl_areLines.calls k2 _ _ ((rd_T111 l1 x17_2).f2) true _ ?side1 ?side2 A17.out).mono ?_); (case side1 => exact Kd.C_below HR430_2.out (by repeat (first | (with_reducible first | exact HB.out | apply below_alloc | apply pw_below_drewN | apply below_drew1 | refine below_set ?_ GE431.out) | exact HB.out))); (case side2 => exact HC430_2.out); rintro e w' ⟨rfl, ⟨nd, rfl⟩⟩; (try exact zd))); try go_wp2_with (first | (go_at_call 102; (with_reducible refine (impl_in.calls ((rd_T111 l1 x17_2).f0) 0 a0 true _ A13.out).mono ?_); rintro e w' ⟨rfl, ⟨nd, rfl⟩⟩; (try exact zd)) | (go_at_call 102; (with_reducible refine (impl_in.calls ((rd_T111 l1 x17_2).f1) 0 (wrap64 (a0 - ((rd_T111 l1 x17_2).f0))) true _ A15.out).mono ?_); rintro e w' ⟨rfl, ⟨nd, rfl⟩⟩; (try exact zd)) | (go_at_call 149; (with_reducible refine (impl_areLines.calls k2 _ _ ((rd_T111 l1 x17_2).f2) true _ ?side1 ?side2 A17.out).mono ?_); (case side1 => exact Kd.C_below HR430_2.out (by repeat (first | (with_reducible first | exact HB.out | apply below_alloc | apply pw_below_drewN | apply below_drew1 | refine below_set ?_ GE431.out) | exact HB.out))); (case side2 => exact HC430_2.out); rintro e w' ⟨rfl, ⟨nd, rfl⟩⟩; (try exact zd))))
              go_meet
              case rel => exact ⟨_, (false), zf, H', ⟨by have := HJ2.out; have := HK2.out; first | omega | exact Nat.le_refl _⟩, ⟨by (with_reducible repeat (first | refine blk_drewN ?_ _ | refine blk_drew ?_ | refine blk_alloc ?_ _)); refine blk_put (cs := #[.int .i64 ((rd_T111 l1 x17_2).f0), .int .i64 ((rd_T111 l1 x17_2).f1), .slice none 0 0]) ?_ 2 _ rfl; (with_reducible repeat (first | refine blk_drewN ?_ _ | refine blk_drew ?_ | refine blk_alloc ?_ _)); refine blk_put (cs := #[.int .i64 ((rd_T111 l1 x17_2).f0), .int .i64 0, .slice none 0 0]) ?_ 1 _ rfl; (with_reducible repeat (first | refine blk_drewN ?_ _ | refine blk_drew ?_ | refine blk_alloc ?_ _)); refine blk_put (cs := #[.int .i64 0, .int .i64 0, .slice none 0 0]) ?_ 0 _ rfl; (with_reducible repeat (first | refine blk_drewN ?_ _ | refine blk_drew ?_ | refine blk_alloc ?_ _)); exact BK431.out⟩, ⟨by repeat (first | (with_reducible first | exact HB.out | apply below_alloc | apply pw_below_drewN | apply below_drew1 | refine below_set ?_ GE431.out) | exact HB.out)⟩⟩
            ·replace c18 := Bool.eq_false_iff.mpr c18
             subst c18
             have H1 : (impl_goodHunks.j2 k2 a0 l1 x17_2 l1 (l1.length : Int) x17_2 true ((rd_T111 l1 x17_2).f0) ((rd_T111 l1 x17_2).f1) ((rd_T111 l1 x17_2).f2)) = some r := by rw [if_neg (show ¬ (false = true) by decide)] at H; exact H
             clear H
             have H := H1
             clear H1
             have H' := Aside0.mk H
             clear H
             have hcz22_0 : w11.cell? ⟨gb431, 0, none⟩ = some (.int .i64 0) := (blk_cell BK431.out 0).trans rfl
             have hcz22_1 : w11.cell? ⟨gb431, 1, none⟩ = some (.int .i64 0) := (blk_cell BK431.out 1).trans rfl
             have hcz22_2 : w11.cell? ⟨gb431, 2, none⟩ = some (.slice none 0 0) := (blk_cell BK431.out 2).trans rfl
             have hfz22_0 := blk_frozen BK431.out 0
             have hfz22_1 := blk_frozen BK431.out 1
             have hfz22_2 := blk_frozen BK431.out 2
             go_wp2_with (first | (go_at_call 102; (with_reducible refine (impl_in.calls ((rd_T111 l1 x17_2).f0) 0 a0 true _ A13.out).mono ?_); rintro e w' ⟨rfl, ⟨nd, rfl⟩⟩; (try exact zd)) | (go_at_call 102; (with_reducible refine (impl_in.calls ((rd_T111 l1 x17_2).f1) 0 (wrap64 (a0 - ((rd_T111 l1 x17_2).f0))) true _ A15.out).mono ?_); rintro e w' ⟨rfl, ⟨nd, rfl⟩⟩; (try exact zd)) | (go_at_call 149; (with_reducible refine (impl_areLines.calls k2 _ _ ((rd_T111 l1 x17_2).f2) false _ ?side1 ?side2 A17.out).mono ?_); (case side1 => exact Kd.C_below HR430_2.out (by repeat (first | (with_reducible first | exact HB.out | apply below_alloc | apply pw_below_drewN | apply below_drew1 | refine below_set ?_ GE431.out) | exact HB.out))); (case side2 => exact HC430_2.out); rintro e w' ⟨rfl, ⟨nd, rfl⟩⟩; (try exact zd)))
             repeat (go_quiet (first | (go_at_call 102; (with_reducible refine (impl_in.calls ((rd_T111 l1 x17_2).f0) 0 a0 true _ A13.out).mono ?_); rintro e w' ⟨rfl, ⟨nd, rfl⟩⟩; (try exact zd)) | (go_at_call 102; (with_reducible refine (impl_in.calls ((rd_T111 l1 x17_2).f1) 0 (wrap64 (a0 - ((rd_T111 l1 x17_2).f0))) true _ A15.out).mono ?_); rintro e w' ⟨rfl, ⟨nd, rfl⟩⟩; (try exact zd)) | (go_at_call 149; (with_reducible refine (impl_areLines.calls k2 _ _ ((rd_T111 l1 x17_2).f2) false _ ?side1 ?side2 A17.out).mono ?_); (case side1 => exact Kd.C_below HR430_2.out (by repeat (first | (with_reducible first | exact HB.out | apply below_alloc | apply pw_below_drewN | apply below_drew1 | refine below_set ?_ GE431.out) | exact HB.out))); (case side2 => exact HC430_2.out); rintro e w' ⟨rfl, ⟨nd, rfl⟩⟩; (try exact zd))); try go_wp2_with (first | (go_at_call 102; (with_reducible refine (impl_in.calls ((rd_T111 l1 x17_2).f0) 0 a0 true _ A13.out).mono ?_); rintro e w' ⟨rfl, ⟨nd, rfl⟩⟩; (try exact zd)) | (go_at_call 102; (with_reducible refine (impl_in.calls ((rd_T111 l1 x17_2).f1) 0 (wrap64 (a0 - ((rd_T111 l1 x17_2).f0))) true _ A15.out).mono ?_); rintro e w' ⟨rfl, ⟨nd, rfl⟩⟩; (try exact zd)) | (go_at_call 149; (with_reducible refine (impl_areLines.calls k2 _ _ ((rd_T111 l1 x17_2).f2) false _ ?side1 ?side2 A17.out).mono ?_); (case side1 => exact Kd.C_below HR430_2.out (by repeat (first | (with_reducible first | exact HB.out | apply below_alloc | apply pw_below_drewN | apply below_drew1 | refine below_set ?_ GE431.out) | exact HB.out))); (case side2 => exact HC430_2.out); rintro e w' ⟨rfl, ⟨nd, rfl⟩⟩; (try exact zd))))
             go_meet
             case rel => exact ⟨_, (true), zf, H', ⟨by have := HJ2.out; have := HK2.out; first | omega | exact Nat.le_refl _⟩, ⟨by (with_reducible repeat (first | refine blk_drewN ?_ _ | refine blk_drew ?_ | refine blk_alloc ?_ _)); refine blk_put (cs := #[.int .i64 ((rd_T111 l1 x17_2).f0), .int .i64 ((rd_T111 l1 x17_2).f1), .slice none 0 0]) ?_ 2 _ rfl; (with_reducible repeat (first | refine blk_drewN ?_ _ | refine blk_drew ?_ | refine blk_alloc ?_ _)); refine blk_put (cs := #[.int .i64 ((rd_T111 l1 x17_2).f0), .int .i64 0, .slice none 0 0]) ?_ 1 _ rfl; (with_reducible repeat (first | refine blk_drewN ?_ _ | refine blk_drew ?_ | refine blk_alloc ?_ _)); refine blk_put (cs := #[.int .i64 0, .int .i64 0, .slice none 0 0]) ?_ 0 _ rfl; (with_reducible repeat (first | refine blk_drewN ?_ _ | refine blk_drew ?_ | refine blk_alloc ?_ _)); exact BK431.out⟩, ⟨by repeat (first | (with_reducible first | exact HB.out | apply below_alloc | apply pw_below_drewN | apply below_drew1 | refine below_set ?_ GE431.out) | exact HB.out)⟩⟩
           ·replace c16 := Bool.eq_false_iff.mpr c16
            subst c16
            have H1 : (impl_goodHunks.j2 k2 a0 l1 x17_2 l1 (l1.length : Int) x17_2 true ((rd_T111 l1 x17_2).f0) ((rd_T111 l1 x17_2).f1) ((rd_T111 l1 x17_2).f2)) = some r := by rw [if_neg (show ¬ (false = true) by decide)] at H; exact H
            clear H
            have H := H1
            clear H1
            have H' := Aside0.mk H
            clear H
            have hcz23_0 : w11.cell? ⟨gb431, 0, none⟩ = some (.int .i64 0) := (blk_cell BK431.out 0).trans rfl
            have hcz23_1 : w11.cell? ⟨gb431, 1, none⟩ = some (.int .i64 0) := (blk_cell BK431.out 1).trans rfl
            have hcz23_2 : w11.cell? ⟨gb431, 2, none⟩ = some (.slice none 0 0) := (blk_cell BK431.out 2).trans rfl
            have hfz23_0 := blk_frozen BK431.out 0
            have hfz23_1 := blk_frozen BK431.out 1
            have hfz23_2 := blk_frozen BK431.out 2
            go_wp2_with (first | (go_at_call 102; (with_reducible refine (impl_in.calls ((rd_T111 l1 x17_2).f0) 0 a0 true _ A13.out).mono ?_); rintro e w' ⟨rfl, ⟨nd, rfl⟩⟩; (try exact zd)) | (go_at_call 102; (with_reducible refine (impl_in.calls ((rd_T111 l1 x17_2).f1) 0 (wrap64 (a0 - ((rd_T111 l1 x17_2).f0))) false _ A15.out).mono ?_); rintro e w' ⟨rfl, ⟨nd, rfl⟩⟩; (try exact zd)))
            repeat (go_quiet (first | (go_at_call 102; (with_reducible refine (impl_in.calls ((rd_T111 l1 x17_2).f0) 0 a0 true _ A13.out).mono ?_); rintro e w' ⟨rfl, ⟨nd, rfl⟩⟩; (try exact zd)) | (go_at_call 102; (with_reducible refine (impl_in.calls ((rd_T111 l1 x17_2).f1) 0 (wrap64 (a0 - ((rd_T111 l1 x17_2).f0))) false _ A15.out).mono ?_); rintro e w' ⟨rfl, ⟨nd, rfl⟩⟩; (try exact zd))); try go_wp2_with (first | (go_at_call 102; (with_reducible refine (impl_in.calls ((rd_T111 l1 x17_2).f0) 0 a0 true _ A13.out).mono ?_); rintro e w' ⟨rfl, ⟨nd, rfl⟩⟩; (try exact zd)) | (go_at_call 102; (with_reducible refine (impl_in.calls ((rd_T111 l1 x17_2).f1) 0 (wrap64 (a0 - ((rd_T111 l1 x17_2).f0))) false _ A15.out).mono ?_); rintro e w' ⟨rfl, ⟨nd, rfl⟩⟩; (try exact zd))))
            go_meet
            case rel => exact ⟨_, (true), zf, H', ⟨by have := HJ2.out; have := HK2.out; first | omega | exact Nat.le_refl _⟩, ⟨by (with_reducible repeat (first | refine blk_drewN ?_ _ | refine blk_drew ?_ | refine blk_alloc ?_ _)); refine blk_put (cs := #[.int .i64 ((rd_T111 l1 x17_2).f0), .int .i64 ((rd_T111 l1 x17_2).f1), .slice none 0 0]) ?_ 2 _ rfl; (with_reducible repeat (first | refine blk_drewN ?_ _ | refine blk_drew ?_ | refine blk_alloc ?_ _)); refine blk_put (cs := #[.int .i64 ((rd_T111 l1 x17_2).f0), .int .i64 0, .slice none 0 0]) ?_ 1 _ rfl; (with_reducible repeat (first | refine blk_drewN ?_ _ | refine blk_drew ?_ | refine blk_alloc ?_ _)); refine blk_put (cs := #[.int .i64 0, .int .i64 0, .slice none 0 0]) ?_ 0 _ rfl; (with_reducible repeat (first | refine blk_drewN ?_ _ | refine blk_drew ?_ | refine blk_alloc ?_ _)); exact BK431.out⟩, ⟨by repeat (first | (with_reducible first | exact HB.out | apply below_alloc | apply pw_below_drewN | apply below_drew1 | refine below_set ?_ GE431.out) | exact HB.out)⟩⟩
          ·replace c14 := Bool.eq_false_iff.mpr c14
           subst c14
           have H1 : (impl_goodHunks.j2 k2 a0 l1 x17_2 l1 (l1.length : Int) x17_2 true ((rd_T111 l1 x17_2).f0) ((rd_T111 l1 x17_2).f1) ((rd_T111 l1 x17_2).f2)) = some r := by rw [if_neg (show ¬ (false = true) by decide)] at H; exact H
           clear H
           have H := H1
           clear H1
           have H' := Aside0.mk H
           clear H
           have hcz24_0 : w11.cell? ⟨gb431, 0, none⟩ = some (.int .i64 0) := (blk_cell BK431.out 0).trans rfl
           have hcz24_1 : w11.cell? ⟨gb431, 1, none⟩ = some (.int .i64 0) := (blk_cell BK431.out 1).trans rfl
           have hcz24_2 : w11.cell? ⟨gb431, 2, none⟩ = some (.slice none 0 0) := (blk_cell BK431.out 2).trans rfl
           have hfz24_0 := blk_frozen BK431.out 0
           have hfz24_1 := blk_frozen BK431.out 1
           have hfz24_2 := blk_frozen BK431.out 2
           go_wp2_with (first | (go_at_call 102; (with_reducible refine (impl_in.calls ((rd_T111 l1 x17_2).f0) 0 a0 false _ A13.out).mono ?_); rintro e w' ⟨rfl, ⟨nd, rfl⟩⟩; (try exact zd)))
           repeat (go_quiet (first | (go_at_call 102; (with_reducible refine (impl_in.calls ((rd_T111 l1 x17_2).f0) 0 a0 false _ A13.out).mono ?_); rintro e w' ⟨rfl, ⟨nd, rfl⟩⟩; (try exact zd))); try go_wp2_with (first | (go_at_call 102; (with_reducible refine (impl_in.calls ((rd_T111 l1 x17_2).f0) 0 a0 false _ A13.out).mono ?_); rintro e w' ⟨rfl, ⟨nd, rfl⟩⟩; (try exact zd))))
           go_meet
           case rel => exact ⟨_, (true), zf, H', ⟨by have := HJ2.out; have := HK2.out; first | omega | exact Nat.le_refl _⟩, ⟨by (with_reducible repeat (first | refine blk_drewN ?_ _ | refine blk_drew ?_ | refine blk_alloc ?_ _)); refine blk_put (cs := #[.int .i64 ((rd_T111 l1 x17_2).f0), .int .i64 ((rd_T111 l1 x17_2).f1), .slice none 0 0]) ?_ 2 _ rfl; (with_reducible repeat (first | refine blk_drewN ?_ _ | refine blk_drew ?_ | refine blk_alloc ?_ _)); refine blk_put (cs := #[.int .i64 ((rd_T111 l1 x17_2).f0), .int .i64 0, .slice none 0 0]) ?_ 1 _ rfl; (with_reducible repeat (first | refine blk_drewN ?_ _ | refine blk_drew ?_ | refine blk_alloc ?_ _)); refine blk_put (cs := #[.int .i64 0, .int .i64 0, .slice none 0 0]) ?_ 0 _ rfl; (with_reducible repeat (first | refine blk_drewN ?_ _ | refine blk_drew ?_ | refine blk_alloc ?_ _)); exact BK431.out⟩, ⟨by repeat (first | (with_reducible first | exact HB.out | apply below_alloc | apply pw_below_drewN | apply below_drew1 | refine below_set ?_ GE431.out) | exact HB.out)⟩⟩
         case rest =>
          clear HC10
          try clear c1
          try clear p2
          try clear c4
          try clear p4
          try clear q4
          try clear hx4
          try clear c5
          try clear c6
          try clear p6
          try clear c7
          try clear c7b0
          try clear c8
          try clear c8b0
          try clear c9
          try clear c9b0
          try clear c14
          try clear c16
          try clear c18
          try clear c19
          try clear c19b0
          try clear c19b1
          try clear hcz12_0
          try clear hcz12_1
          try clear hcz12_2
          try clear hcz20_0
          try clear hcz20_1
          try clear hcz20_2
          try clear hcz21_0
          try clear hcz21_1
          try clear hcz21_2
          try clear hcz22_0
          try clear hcz22_1
          try clear hcz22_2
          try clear hcz23_0
          try clear hcz23_1
          try clear hcz23_2
          try clear hcz24_0
          try clear hcz24_1
          try clear hcz24_2
          try clear hfz12_0
          try clear hfz12_1
          try clear hfz12_2
          try clear hfz20_0
          try clear hfz20_1
          try clear hfz20_2
          try clear hfz21_0
          try clear hfz21_1
          try clear hfz21_2
          try clear hfz22_0
          try clear hfz22_1
          try clear hfz22_2
          try clear hfz23_0
          try clear hfz23_1
          try clear hfz23_2
          try clear hfz24_0
          try clear hfz24_1
          try clear hfz24_2
          try clear hx430_0
          try clear hx430_1
          try clear hx430_2
          try clear p2
          try clear p430
          try clear q430
          obtain ⟨kq, x53_9, rfl, HA, HJ9, BK431, HB⟩ := hcut
          cases kq with
          | zero => exact absurd HA.out (by simp [impl_goodHunks.j2])
          | succ kj9 =>
           have H := HA.out
           clear HA
           simp only [impl_goodHunks.j2] at H
           by_cases c25 : x53_9 = true
           ·subst c25
            have H1 : (some false) = some r := by rw [if_pos rfl] at H; exact H
            clear H
            have H := H1
            clear H1
            obtain rfl := Option.some.inj H
            go_wp2
            repeat (go_quiet (fail); try go_wp2)
            go_ret
            exact ⟨by first | rfl | (simp [errW_none, errW_some] <;> rfl) | (simp [*, errW_none, errW_some] <;> rfl), by repeat (first | (with_reducible first | exact HB.out | apply below_alloc | apply pw_below_drewN | apply below_drew1 | refine below_set ?_ GE431.out) | exact HB.out)⟩
           ·replace c25 := Bool.eq_false_iff.mpr c25
            subst c25
            have H1 : (if x17_2 > 0 then (if 0 ≤ (wrap64 (x17_2 - 1)) then (if (wrap64 (x17_2 - 1)) < (l1.length : Int) then (if ((rd_T111 l1 x17_2).f0) ≤ (wrap64 (((rd_T111 l1 (wrap64 (x17_2 - 1))).f0) + ((rd_T111 l1 (wrap64 (x17_2 - 1))).f1))) then (some false) else (impl_goodHunks.l0 kj9 a0 l1 l1 (l1.length : Int) (wrap64 (x17_2 + 1)))) else (none)) else (none)) else (impl_goodHunks.l0 kj9 a0 l1 l1 (l1.length : Int) (wrap64 (x17_2 + 1)))) = some r := by rw [if_neg (show ¬ (false = true) by decide)] at H; exact H
            clear H
            have H := H1
            clear H1
            by_cases c26 : x17_2 > 0
            ·rw [if_pos c26] at H
             have c26b0 : decide (0 < x17_2) = true := decide_eq_true c26
             clear c26
             obtain ⟨ji27, hji27⟩ : ∃ j_ : Int, (wrap64 (x17_2 - 1)) = j_ := ⟨_, rfl⟩
             replace H : (if 0 ≤ (ji27) then (if (ji27) < (l1.length : Int) then (if ((rd_T111 l1 x17_2).f0) ≤ (wrap64 (((rd_T111 l1 (ji27)).f0) + ((rd_T111 l1 (ji27)).f1))) then (some false) else (impl_goodHunks.l0 kj9 a0 l1 l1 (l1.length : Int) (wrap64 (x17_2 + 1)))) else (none)) else (none)) = some r := by first | (rw [hji27] at H; exact H) | (simp only [hji27] at H ⊢; exact H)
             have hji27w : (IntKind.i64.wrap (x17_2 - 1)) = ji27 := (i64_w _).trans hji27
             by_cases c28 : 0 ≤ (ji27)
             ·rw [if_pos c28] at H
              have c28b0 : decide (0 ≤ (ji27)) = true := decide_eq_true c28
              clear c28
              by_cases c29 : (ji27) < (l1.length : Int)
              ·rw [if_pos c29] at H
               have c29b0 : decide ((ji27) < (l1.length : Int)) = true := decide_eq_true c29
               clear c29
               by_cases c30 : ((rd_T111 l1 x17_2).f0) ≤ (wrap64 (((rd_T111 l1 (ji27)).f0) + ((rd_T111 l1 (ji27)).f1)))
               ·rw [if_pos c30] at H
                have c30b0 : decide (((rd_T111 l1 x17_2).f0) ≤ (wrap64 (((rd_T111 l1 (ji27)).f0) + ((rd_T111 l1 (ji27)).f1)))) = true := decide_eq_true c30
                clear c30
                obtain rfl := Option.some.inj H
                have hcz31_0 : wc.cell? ⟨gb431, 0, none⟩ = some (.int .i64 ((rd_T111 l1 x17_2).f0)) := (blk_cell BK431.out 0).trans rfl
                have hcz31_1 : wc.cell? ⟨gb431, 1, none⟩ = some (.int .i64 ((rd_T111 l1 x17_2).f1)) := (blk_cell BK431.out 1).trans rfl
                have hcz31_2 : wc.cell? ⟨gb431, 2, none⟩ = some (.slice A430_2 ((rd_T111 l1 x17_2).f2).length c430_2) := (blk_cell BK431.out 2).trans rfl
                have hfz31_0 := blk_frozen BK431.out 0
                have hfz31_1 := blk_frozen BK431.out 1
                have hfz31_2 := blk_frozen BK431.out 2
                have p435 : 0 ≤ ((ji27) : Int) := oa
                have q435 : (ji27) < (l1.length : Int) := oa
                obtain ⟨ad435, A435_2, c435_2, e435, hx435_0, hx435_1, hx435_2, hl435_2, hi435_2⟩ := at_T111 HR1.out (ji27) p435 q435
                obtain rfl : ad430 = ad435 := (by injection e435)
                replace hx435_0 := (HB.out.cell (World.block_lt_of_cell? w _ hx435_0)).trans hx435_0
                replace hx435_1 := (HB.out.cell (World.block_lt_of_cell? w _ hx435_1)).trans hx435_1
                replace hx435_2 := (HB.out.cell (World.block_lt_of_cell? w _ hx435_2)).trans hx435_2
                have HR435_2 := Aside0.mk hi435_2
                have HC435_2 := Aside0.mk hl435_2
                clear hi435_2 hl435_2
                replace p435 := eq_true p435
                replace q435 := eq_true q435
                have p436 : 0 ≤ ((ji27) : Int) := oa
                have q436 : (ji27) < (l1.length : Int) := oa
                obtain ⟨ad436, A436_2, c436_2, e436, hx436_0, hx436_1, hx436_2, hl436_2, hi436_2⟩ := at_T111 HR1.out (ji27) p436 q436
                obtain rfl : ad430 = ad436 := (by injection e436)
                replace hx436_0 := (HB.out.cell (World.block_lt_of_cell? w _ hx436_0)).trans hx436_0
                replace hx436_1 := (HB.out.cell (World.block_lt_of_cell? w _ hx436_1)).trans hx436_1
                replace hx436_2 := (HB.out.cell (World.block_lt_of_cell? w _ hx436_2)).trans hx436_2
                have HR436_2 := Aside0.mk hi436_2
                have HC436_2 := Aside0.mk hl436_2
                clear hi436_2 hl436_2
                replace p436 := eq_true p436
                replace q436 := eq_true q436
                have ea_ := Option.some.inj (hx435_2.symm.trans hx436_2)
                injection ea_ with ea_ en_ ec_
                subst ea_
                subst ec_
                clear en_
                go_wp2
                repeat (go_quiet (fail); try go_wp2)
                go_ret
                exact ⟨by first | rfl | (simp [errW_none, errW_some] <;> rfl) | (simp only [← hji27]; first | rfl | (simp [errW_none, errW_some] <;> rfl)) | (simp [*, errW_none, errW_some] <;> rfl), by repeat (first | (with_reducible first | exact HB.out | apply below_alloc | apply pw_below_drewN | apply below_drew1 | refine below_set ?_ GE431.out) | exact HB.out)⟩
               ·rw [if_neg c30] at H
                have c30b0 : decide (((rd_T111 l1 x17_2).f0) ≤ (wrap64 (((rd_T111 l1 (ji27)).f0) + ((rd_T111 l1 (ji27)).f1)))) = false := decide_eq_false c30
                clear c30
                have H' := Aside0.mk H
                clear H
                have hcz32_0 : wc.cell? ⟨gb431, 0, none⟩ = some (.int .i64 ((rd_T111 l1 x17_2).f0)) := (blk_cell BK431.out 0).trans rfl
                have hcz32_1 : wc.cell? ⟨gb431, 1, none⟩ = some (.int .i64 ((rd_T111 l1 x17_2).f1)) := (blk_cell BK431.out 1).trans rfl
                have hcz32_2 : wc.cell? ⟨gb431, 2, none⟩ = some (.slice A430_2 ((rd_T111 l1 x17_2).f2).length c430_2) := (blk_cell BK431.out 2).trans rfl
                have hfz32_0 := blk_frozen BK431.out 0
                have hfz32_1 := blk_frozen BK431.out 1
                have hfz32_2 := blk_frozen BK431.out 2
                have p435 : 0 ≤ ((ji27) : Int) := oa
                have q435 : (ji27) < (l1.length : Int) := oa
                obtain ⟨ad435, A435_2, c435_2, e435, hx435_0, hx435_1, hx435_2, hl435_2, hi435_2⟩ := at_T111 HR1.out (ji27) p435 q435
                obtain rfl : ad430 = ad435 := (by injection e435)
                replace hx435_0 := (HB.out.cell (World.block_lt_of_cell? w _ hx435_0)).trans hx435_0
                replace hx435_1 := (HB.out.cell (World.block_lt_of_cell? w _ hx435_1)).trans hx435_1
                replace hx435_2 := (HB.out.cell (World.block_lt_of_cell? w _ hx435_2)).trans hx435_2
                have HR435_2 := Aside0.mk hi435_2
                have HC435_2 := Aside0.mk hl435_2
                clear hi435_2 hl435_2
                replace p435 := eq_true p435
                replace q435 := eq_true q435
                have p436 : 0 ≤ ((ji27) : Int) := oa
                have q436 : (ji27) < (l1.length : Int) := oa
                obtain ⟨ad436, A436_2, c436_2, e436, hx436_0, hx436_1, hx436_2, hl436_2, hi436_2⟩ := at_T111 HR1.out (ji27) p436 q436
                obtain rfl : ad430 = ad436 := (by injection e436)
                replace hx436_0 := (HB.out.cell (World.block_lt_of_cell? w _ hx436_0)).trans hx436_0
                replace hx436_1 := (HB.out.cell (World.block_lt_of_cell? w _ hx436_1)).trans hx436_1
                replace hx436_2 := (HB.out.cell (World.block_lt_of_cell? w _ hx436_2)).trans hx436_2
                have HR436_2 := Aside0.mk hi436_2
                have HC436_2 := Aside0.mk hl436_2
                clear hi436_2 hl436_2
                replace p436 := eq_true p436
                replace q436 := eq_true q436
                have ea_ := Option.some.inj (hx435_2.symm.trans hx436_2)
                injection ea_ with ea_ en_ ec_
                subst ea_
                subst ec_
                clear en_
                go_wp2
                repeat (go_quiet (fail); try go_wp2)
                go_roundg kj9
                case measure => have := HJ2.out; have := HK2.out; have := HJ9.out; omega
                case rel => exact ⟨(wrap64 (x17_2 + 1)), zf, H', ⟨by have := HJ2.out; have := HK2.out; have := HJ9.out; omega⟩, ⟨by repeat (first | (with_reducible first | exact HB.out | apply below_alloc | apply pw_below_drewN | apply below_drew1 | refine below_set ?_ GE431.out) | exact HB.out)⟩⟩
              ·rw [if_neg c29] at H
               exact absurd H (by simp)
             ·rw [if_neg c28] at H
              exact absurd H (by simp)
            ·rw [if_neg c26] at H
             have c26b0 : decide (0 < x17_2) = false := decide_eq_false c26
             clear c26
             have H' := Aside0.mk H
             clear H
             go_wp2
             repeat (go_quiet (fail); try go_wp2)
             go_roundg kj9
             case measure => have := HJ2.out; have := HK2.out; have := HJ9.out; omega
             case rel => exact ⟨(wrap64 (x17_2 + 1)), zf, H', ⟨by have := HJ2.out; have := HK2.out; have := HJ9.out; omega⟩, ⟨by repeat (first | (with_reducible first | exact HB.out | apply below_alloc | apply pw_below_drewN | apply below_drew1 | refine below_set ?_ GE431.out) | exact HB.out)⟩⟩
        ·rw [if_neg c9] at H
         exact absurd H (by simp)
       ·rw [if_neg c8] at H
        exact absurd H (by simp)
      ·rw [if_neg c7] at H
       have c7b0 : decide (x17_2 < (l1.length : Int)) = false := decide_eq_false c7
       clear c7
       obtain rfl := Option.some.inj H
       go_wp2
       repeat (go_quiet (fail); try go_wp2)
       go_ret
       exact ⟨by first | rfl | (simp [errW_none, errW_some] <;> rfl) | (simp [*, errW_none, errW_some] <;> rfl), by repeat (first | (with_reducible first | exact HB.out | apply below_alloc | apply pw_below_drewN | apply below_drew1) | exact HB.out)⟩

end Go.Proofs.Ytcefenlblnediaa.My

/- Written by this session's program (wip/gen): a plain function with the same answers as the Go function, and the proof that the Go code comes to them. Asked: that the plain function has an answer. -/
namespace Go.Proofs.Ytcefenlblnediaa.My
open Go.RowKit Go.Proofs.YtcefenlblnediaaW.PrintWords Go.Proofs.YtcefenlblnediaaW.PrintLast Go.Proofs.YtcefenlblnediaaW.PrintMore
attribute [local go_sem] max2_int min2_int max_two min_two max_three min_three max_four min_four
set_option linter.unusedVariables false
set_option linter.unusedSimpArgs false

/-! ### stringslite_HasSuffix: function 196 -/
def stringslite_HasSuffix.f (a0 : ByteArray) (a1 : ByteArray) : Option (Bool) := if (a0.size : Int) ≥ (a1.size : Int) then (if 0 ≤ (wrap64 ((a0.size : Int) - (a1.size : Int))) then (if (wrap64 ((a0.size : Int) - (a1.size : Int))) ≤ (a0.size : Int) then (some ((a0.extract ((wrap64 ((a0.size : Int) - (a1.size : Int))) : Int).toNat a0.size).toList == a1.toList)) else (none)) else (none)) else (some false)
set_option maxHeartbeats 8000000 in
set_option maxRecDepth 100000 in
theorem stringslite_HasSuffix.calls (a0 : ByteArray) (a1 : ByteArray) (r : Bool) (w : World) (h : stringslite_HasSuffix.f a0 a1 = some r) :
  Calls Try.prog 196 #[.string a0, .string a1] w fun e w' => e = .returned (.bool r) ∧ Drawn0 w w' := by
 have H : (if (a0.size : Int) ≥ (a1.size : Int) then (if 0 ≤ (wrap64 ((a0.size : Int) - (a1.size : Int))) then (if (wrap64 ((a0.size : Int) - (a1.size : Int))) ≤ (a0.size : Int) then (some ((a0.extract ((wrap64 ((a0.size : Int) - (a1.size : Int))) : Int).toNat a0.size).toList == a1.toList)) else (none)) else (none)) else (some false)) = some r := h
 clear h
 by_cases c3 : (a0.size : Int) ≥ (a1.size : Int)
 ·rw [if_pos c3] at H
  have c3b0 : decide ((a1.size : Int) ≤ (a0.size : Int)) = true := decide_eq_true c3
  have c3b1 : decide (a1.size ≤ a0.size) = true := decide_eq_true (Int.ofNat_le.mp c3)
  clear c3
  obtain ⟨ji4, hji4⟩ : ∃ j_ : Int, (wrap64 ((a0.size : Int) - (a1.size : Int))) = j_ := ⟨_, rfl⟩
  replace H : (if 0 ≤ (ji4) then (if (ji4) ≤ (a0.size : Int) then (some ((a0.extract ((ji4) : Int).toNat a0.size).toList == a1.toList)) else (none)) else (none)) = some r := by first | (rw [hji4] at H; exact H) | (simp only [hji4] at H ⊢; exact H)
  have hji4w : (IntKind.i64.wrap ((a0.size : Int) - (a1.size : Int))) = ji4 := (i64_w _).trans hji4
  by_cases c5 : 0 ≤ (ji4)
  ·rw [if_pos c5] at H
   have c5b0 := eq_true c5
   have c5b1 : decide (0 ≤ (ji4)) = true := decide_eq_true c5
   clear c5
   by_cases c6 : (ji4) ≤ (a0.size : Int)
   ·rw [if_pos c6] at H
    have c6b0 := eq_true c6
    have c6b1 : decide ((ji4) ≤ (a0.size : Int)) = true := decide_eq_true c6
    clear c6
    obtain rfl := Option.some.inj H
    go_enter Try.func196, Try.ntmps196
    go_wp2
    go_ret
    exact ⟨by first | rfl | (simp; done) | (simp only [← hji4] <;> (first | rfl | simp)) | (simp [*]; done), by repeat (first | exact Drawn0.refl _ | apply Drawn0.step)⟩
   ·rw [if_neg c6] at H
    exact absurd H (by simp)
  ·rw [if_neg c5] at H
   exact absurd H (by simp)
 ·rw [if_neg c3] at H
  have c3b0 : decide ((a1.size : Int) ≤ (a0.size : Int)) = false := decide_eq_false c3
  have c3b1 : decide (a1.size ≤ a0.size) = false := decide_eq_false (fun h => c3 (Int.ofNat_le.mpr h))
  clear c3
  obtain rfl := Option.some.inj H
  go_enter Try.func196, Try.ntmps196
  go_wp2
  go_ret
  exact ⟨by first | rfl | (simp; done) | (simp [*]; done), by repeat (first | exact Drawn0.refl _ | apply Drawn0.step)⟩

end Go.Proofs.Ytcefenlblnediaa.My

/- Written by this session's program (wip/gen): a plain function with the same answers as the Go function, and the proof that the Go code comes to them. Asked: that the plain function has an answer. -/
namespace Go.Proofs.Ytcefenlblnediaa.My
open Go.RowKit Go.Proofs.YtcefenlblnediaaW.PrintWords Go.Proofs.YtcefenlblnediaaW.PrintLast Go.Proofs.YtcefenlblnediaaW.PrintMore
attribute [local go_sem] max2_int min2_int max_two min_two max_three min_three max_four min_four
set_option linter.unusedVariables false
set_option linter.unusedSimpArgs false

/-! ### strings_HasSuffix: function 185 -/
def strings_HasSuffix.f (a0 : ByteArray) (a1 : ByteArray) : Option (Bool) := (stringslite_HasSuffix.f a0 a1).bind fun t126 => (some t126)
set_option maxHeartbeats 8000000 in
set_option maxRecDepth 100000 in
theorem strings_HasSuffix.calls (a0 : ByteArray) (a1 : ByteArray) (r : Bool) (w : World) (h : strings_HasSuffix.f a0 a1 = some r) :
  Calls Try.prog 185 #[.string a0, .string a1] w fun e w' => e = .returned (.bool r) ∧ Drawn0 w w' := by
 have H : ((stringslite_HasSuffix.f a0 a1).bind fun t126 => (some t126)) = some r := h
 clear h
 replace H := Option.bind_eq_some_iff.mp H
 obtain ⟨t126, A30, H⟩ := H
 replace H : (some t126) = some r := H
 have A3 := Aside0.mk A30
 clear A30
 obtain rfl := Option.some.inj H
 go_enter Try.func185, Try.ntmps185
 go_wp2_with (first | ((with_reducible refine gateC (f := 196) rfl ?_); refine goesL_ (some 7) rfl rfl Try.func196 (by kernel_rfl) rfl #[.string a0, .string a1] rfl zm ?_; (with_reducible refine (stringslite_HasSuffix.calls a0 a1 t126 _ A3.out).mono ?_); rintro e w' ⟨rfl, ⟨nd, rfl⟩⟩; refine ⟨_, rfl, ?_⟩))
 go_ret
 exact ⟨by first | rfl | (simp; done) | (simp [*]; done), by repeat (first | exact Drawn0.refl _ | apply Drawn0.step)⟩

end Go.Proofs.Ytcefenlblnediaa.My

/- Written by this session's program (wip/gen): a plain function with the same answers as the Go function, and the proof that the Go code comes to them. Asked: that the plain function has an answer. -/
namespace Go.Proofs.Ytcefenlblnediaa.My
open Go.RowKit Go.Proofs.YtcefenlblnediaaW.PrintWords Go.Proofs.YtcefenlblnediaaW.PrintLast Go.Proofs.YtcefenlblnediaaW.PrintMore
attribute [local go_sem] max2_int min2_int max_two min_two max_three min_three max_four min_four
set_option linter.unusedVariables false
set_option linter.unusedSimpArgs false

/-! ### impl_isEnded: function 150 -/
def impl_isEnded.f (a0 : ByteArray) : Option (Bool) := (strings_HasSuffix.f a0 (⟨#[10]⟩ : ByteArray)).bind fun t127 => (some t127)
set_option maxHeartbeats 8000000 in
set_option maxRecDepth 100000 in
theorem impl_isEnded.calls (a0 : ByteArray) (r : Bool) (w : World) (h : impl_isEnded.f a0 = some r) :
  Calls Try.prog 150 #[.string a0] w fun e w' => e = .returned (.bool r) ∧ Drawn0 w w' := by
 have H : ((strings_HasSuffix.f a0 (⟨#[10]⟩ : ByteArray)).bind fun t127 => (some t127)) = some r := h
 clear h
 replace H := Option.bind_eq_some_iff.mp H
 obtain ⟨t127, A20, H⟩ := H
 replace H : (some t127) = some r := H
 have A2 := Aside0.mk A20
 clear A20
 obtain rfl := Option.some.inj H
 go_enter Try.func150, Try.ntmps150
 go_wp2_with (first | ((with_reducible refine gateC (f := 185) rfl ?_); refine goesL_ (some 4) rfl rfl Try.func185 (by kernel_rfl) rfl #[.string a0, .string (⟨#[10]⟩ : ByteArray)] rfl zm ?_; (with_reducible refine (strings_HasSuffix.calls a0 (⟨#[10]⟩ : ByteArray) t127 _ A2.out).mono ?_); rintro e w' ⟨rfl, ⟨nd, rfl⟩⟩; refine ⟨_, rfl, ?_⟩))
 go_ret
 exact ⟨by first | rfl | (simp; done) | (simp [*]; done), by repeat (first | exact Drawn0.refl _ | apply Drawn0.step)⟩

end Go.Proofs.Ytcefenlblnediaa.My

/- Written by this session's program (wip/gen): a plain function with the same answers as the Go function, and the proof that the Go code comes to them. Asked: that the plain function has an answer. -/
namespace Go.Proofs.Ytcefenlblnediaa.My
open Go.RowKit Go.Proofs.YtcefenlblnediaaW.PrintWords Go.Proofs.YtcefenlblnediaaW.PrintLast Go.Proofs.YtcefenlblnediaaW.PrintMore
attribute [local go_sem] max2_int min2_int max_two min_two max_three min_three max_four min_four
set_option linter.unusedVariables false
set_option linter.unusedSimpArgs false

/-! ### impl_goodLines: function 80 -/
def impl_goodLines.l0 : Nat → List ByteArray → List ByteArray → Int → Int → Option (Bool)
 | 0, _, _, _, _ => none
 | k + 1, x0, x8, x9, x10 => if x10 < x9 then (if 0 ≤ x10 then (if x10 < (x8.length : Int) then (if x10 < (wrap64 ((x0.length : Int) - 1)) then ((impl_isEnded.f (rdOf ByteArray.empty x8 x10)).bind fun t130 => (if t130 = true then (impl_goodLines.l0 k x0 x8 x9 (wrap64 (x10 + 1))) else (some false))) else (impl_goodLines.l0 k x0 x8 x9 (wrap64 (x10 + 1)))) else (none)) else (none)) else (some true)
def impl_goodLines.f (k : Nat) (l0 : List ByteArray) : Option (Bool) := (impl_areLines.f k l0).bind fun t128 => (if t128 = true then (impl_goodLines.l0 k l0 l0 (l0.length : Int) 0) else (some false))
set_option maxHeartbeats 8000000 in
set_option maxRecDepth 100000 in
theorem impl_goodLines.calls (k : Nat) (A0 : Option Addr) (c0 : Nat) (l0 : List ByteArray) (r : Bool) (w : World) (hr0 : Kd.C Kd.string w A0 l0.length l0) (hc0 : l0.length ≤ c0) (h : impl_goodLines.f k l0 = some r) :
  Calls Try.prog 80 #[.slice A0 l0.length c0] w fun e w' => e = .returned (.bool r) ∧ Drawn0 w w' := by
 have HR0 := Aside0.mk hr0
 have HC0 := Aside0.mk hc0
 clear hr0 hc0
 have H : ((impl_areLines.f k l0).bind fun t128 => (if t128 = true then (impl_goodLines.l0 k l0 l0 (l0.length : Int) 0) else (some false))) = some r := h
 clear h
 replace H := Option.bind_eq_some_iff.mp H
 obtain ⟨t128, A20, H⟩ := H
 replace H : (if t128 = true then (impl_goodLines.l0 k l0 l0 (l0.length : Int) 0) else (some false)) = some r := H
 have A2 := Aside0.mk A20
 clear A20
 by_cases c3 : t128 = true
 ·subst c3
  have H1 : (impl_goodLines.l0 k l0 l0 (l0.length : Int) 0) = some r := by rw [if_pos rfl] at H; exact H
  clear H
  have H := H1
  clear H1
  have H' := Aside0.mk H
  clear H
  go_enter Try.func80, Try.ntmps80
  go_wp2_with (first | ((with_reducible refine gateC (f := 149) rfl ?_); refine goesL_ (some 6) rfl rfl Try.func149 (by kernel_rfl) rfl #[.slice A0 l0.length c0] rfl zm ?_; (with_reducible refine (impl_areLines.calls k _ _ l0 true _ ?side1 ?side2 A2.out).mono ?_); (case side1 => exact zq HR0.out); (case side2 => exact HC0.out); rintro e w' ⟨rfl, ⟨nd, rfl⟩⟩; refine ⟨_, rfl, ?_⟩))
  go_loopg [10] k (fun kq v10 w' => ∃ (x10_1 : Int), v10 = .int .i64 x10_1 ∧ Aside0 (impl_goodLines.l0 kq l0 l0 (l0.length : Int) x10_1 = some r) ∧ Aside0 (kq ≤ k) ∧ Drawn0 w w')
  case atStart => exact ⟨(0), zf, H', ⟨Nat.le_refl _⟩, by repeat (first | exact Drawn0.refl _ | apply Drawn0.step)⟩
  case round =>
   clear H'
   try clear c1
   try clear p2
   try clear c3
   obtain ⟨x10_1, rfl, HA, HK1, ⟨m1, rfl⟩⟩ := hrel
   cases gk with
   | zero => exact absurd HA.out (by simp [impl_goodLines.l0])
   | succ k1 =>
    have H := HA.out
    clear HA
    simp only [impl_goodLines.l0] at H
    by_cases c4 : x10_1 < (l0.length : Int)
    ·rw [if_pos c4] at H
     have c4b0 : decide (x10_1 < (l0.length : Int)) = true := decide_eq_true c4
     clear c4
     by_cases c5 : 0 ≤ x10_1
     ·rw [if_pos c5] at H
      have c5b0 : decide (0 ≤ x10_1) = true := decide_eq_true c5
      clear c5
      by_cases c6 : x10_1 < (l0.length : Int)
      ·rw [if_pos c6] at H
       have c6b0 : decide (x10_1 < (l0.length : Int)) = true := decide_eq_true c6
       clear c6
       by_cases c7 : x10_1 < (wrap64 ((l0.length : Int) - 1))
       ·rw [if_pos c7] at H
        have c7b0 : decide (x10_1 < (wrap64 ((l0.length : Int) - 1))) = true := decide_eq_true c7
        clear c7
        replace H := Option.bind_eq_some_iff.mp H
        obtain ⟨t130, A80, H⟩ := H
        replace H : (if t130 = true then (impl_goodLines.l0 k1 l0 l0 (l0.length : Int) (wrap64 (x10_1 + 1))) else (some false)) = some r := H
        have A8 := Aside0.mk A80
        clear A80
        by_cases c9 : t130 = true
        ·subst c9
         have H1 : (impl_goodLines.l0 k1 l0 l0 (l0.length : Int) (wrap64 (x10_1 + 1))) = some r := by rw [if_pos rfl] at H; exact H
         clear H
         have H := H1
         clear H1
         have H' := Aside0.mk H
         clear H
         have p129 : 0 ≤ (x10_1 : Int) := oa
         have q129 : x10_1 < (l0.length : Int) := oa
         obtain ⟨ad129, e129, hx129_0⟩ := Kd.at_string HR0.out x10_1 p129 q129
         cases e129
         replace p129 := eq_true p129
         replace q129 := eq_true q129
         go_wp2_with (first | (go_at_call 150; (with_reducible refine (impl_isEnded.calls (rdOf ByteArray.empty l0 x10_1) true _ A8.out).mono ?_); rintro e w' ⟨rfl, ⟨nd, rfl⟩⟩))
         go_roundg k1
         case measure => have := HK1.out; omega
         case rel => exact ⟨(wrap64 (x10_1 + 1)), zf, H', ⟨by have := HK1.out; omega⟩, by repeat (first | exact Drawn0.refl _ | apply Drawn0.step)⟩
        ·replace c9 := Bool.eq_false_iff.mpr c9
         subst c9
         have H1 : (some false) = some r := by rw [if_neg (show ¬ (false = true) by decide)] at H; exact H
         clear H
         have H := H1
         clear H1
         obtain rfl := Option.some.inj H
         have p129 : 0 ≤ (x10_1 : Int) := oa
         have q129 : x10_1 < (l0.length : Int) := oa
         obtain ⟨ad129, e129, hx129_0⟩ := Kd.at_string HR0.out x10_1 p129 q129
         cases e129
         replace p129 := eq_true p129
         replace q129 := eq_true q129
         go_wp2_with (first | (go_at_call 150; (with_reducible refine (impl_isEnded.calls (rdOf ByteArray.empty l0 x10_1) false _ A8.out).mono ?_); rintro e w' ⟨rfl, ⟨nd, rfl⟩⟩))
         go_ret
         exact ⟨by first | rfl | (simp; done) | (simp [*]; done), by repeat (first | exact Drawn0.refl _ | apply Drawn0.step)⟩
       ·rw [if_neg c7] at H
        have c7b0 : decide (x10_1 < (wrap64 ((l0.length : Int) - 1))) = false := decide_eq_false c7
        clear c7
        have H' := Aside0.mk H
        clear H
        have p129 : 0 ≤ (x10_1 : Int) := oa
        have q129 : x10_1 < (l0.length : Int) := oa
        obtain ⟨ad129, e129, hx129_0⟩ := Kd.at_string HR0.out x10_1 p129 q129
        cases e129
        replace p129 := eq_true p129
        replace q129 := eq_true q129
        go_wp2
        go_roundg k1
        case measure => have := HK1.out; omega
        case rel => exact ⟨(wrap64 (x10_1 + 1)), zf, H', ⟨by have := HK1.out; omega⟩, by repeat (first | exact Drawn0.refl _ | apply Drawn0.step)⟩
      ·rw [if_neg c6] at H
       exact absurd H (by simp)
     ·rw [if_neg c5] at H
      exact absurd H (by simp)
    ·rw [if_neg c4] at H
     have c4b0 : decide (x10_1 < (l0.length : Int)) = false := decide_eq_false c4
     clear c4
     obtain rfl := Option.some.inj H
     go_wp2
     go_ret
     exact ⟨by first | rfl | (simp; done) | (simp [*]; done), by repeat (first | exact Drawn0.refl _ | apply Drawn0.step)⟩
 ·replace c3 := Bool.eq_false_iff.mpr c3
  subst c3
  have H1 : (some false) = some r := by rw [if_neg (show ¬ (false = true) by decide)] at H; exact H
  clear H
  have H := H1
  clear H1
  obtain rfl := Option.some.inj H
  go_enter Try.func80, Try.ntmps80
  go_wp2_with (first | ((with_reducible refine gateC (f := 149) rfl ?_); refine goesL_ (some 6) rfl rfl Try.func149 (by kernel_rfl) rfl #[.slice A0 l0.length c0] rfl zm ?_; (with_reducible refine (impl_areLines.calls k _ _ l0 false _ ?side1 ?side2 A2.out).mono ?_); (case side1 => exact zq HR0.out); (case side2 => exact HC0.out); rintro e w' ⟨rfl, ⟨nd, rfl⟩⟩; refine ⟨_, rfl, ?_⟩))
  go_ret
  exact ⟨by first | rfl | (simp; done) | (simp [*]; done), by repeat (first | exact Drawn0.refl _ | apply Drawn0.step)⟩

end Go.Proofs.Ytcefenlblnediaa.My
