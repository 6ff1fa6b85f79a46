/- Part 5 of 7 of a proof of this sentence: The Go function loop.example/g00825/laws.FnTrimmed returns true for every input, and each argument reads afterwards as it read before. No condition. -/
import Derived.Test.YtmcldkobejhaeaaCFnTrimmed4
/- Written by this session's program (wip/gen): a plain function with the same answers as the Go function, and the proof that the Go code comes to them. Asked: that the plain function has an answer. -/
namespace Go.Proofs.Ytmcldkobejhaeaa.My
open Go.RowKit Go.Proofs.YtmcldkobejhaeaaW.PrintWords Go.Proofs.YtmcldkobejhaeaaW.PrintLast Go.Proofs.YtmcldkobejhaeaaW.PrintMore
attribute [local go_sem] max2_int min2_int max_two min_two max_three min_three max_four min_four
set_option linter.unusedVariables false
set_option linter.unusedSimpArgs false
mutual
def spec_l2Hunks.l0 : Nat → Int → List (S106) → List (S106) → Int → Int → Option (Bool)
 | 0, _, _, _, _, _ => none
 | k + 1, x0, x1, x9, x10, x11 => if x11 < x10 then (if 0 ≤ x11 then (if x11 < (x9.length : Int) then (if ((rd_T106 x9 x11).f0) < 0 then (spec_l2Hunks.j1 k x0 x1 x9 x10 x11 true ((rd_T106 x9 x11).f0) ((rd_T106 x9 x11).f1) ((rd_T106 x9 x11).f2)) else (if ((rd_T106 x9 x11).f1) < 0 then (spec_l2Hunks.j1 k x0 x1 x9 x10 x11 true ((rd_T106 x9 x11).f0) ((rd_T106 x9 x11).f1) ((rd_T106 x9 x11).f2)) else (if ((rd_T106 x9 x11).f1) > x0 then (spec_l2Hunks.j1 k x0 x1 x9 x10 x11 true ((rd_T106 x9 x11).f0) ((rd_T106 x9 x11).f1) ((rd_T106 x9 x11).f2)) else (if ((rd_T106 x9 x11).f0) > (wrap64 (x0 - ((rd_T106 x9 x11).f1))) then (spec_l2Hunks.j1 k x0 x1 x9 x10 x11 true ((rd_T106 x9 x11).f0) ((rd_T106 x9 x11).f1) ((rd_T106 x9 x11).f2)) else (if (wrap64 (((rd_T106 x9 x11).f1) + (((rd_T106 x9 x11).f2).length : Int))) = 0 then (spec_l2Hunks.j1 k x0 x1 x9 x10 x11 true ((rd_T106 x9 x11).f0) ((rd_T106 x9 x11).f1) ((rd_T106 x9 x11).f2)) else (if (((rd_T106 x9 x11).f2).length : Int) > 40 then (spec_l2Hunks.j1 k x0 x1 x9 x10 x11 true ((rd_T106 x9 x11).f0) ((rd_T106 x9 x11).f1) ((rd_T106 x9 x11).f2)) else (if x11 > 0 then (if 0 ≤ (wrap64 (x11 - 1)) then (if (wrap64 (x11 - 1)) < (x1.length : Int) then (spec_l2Hunks.j1 k x0 x1 x9 x10 x11 (decide (((rd_T106 x9 x11).f0) ≤ (wrap64 (((rd_T106 x1 (wrap64 (x11 - 1))).f0) + ((rd_T106 x1 (wrap64 (x11 - 1))).f1))))) ((rd_T106 x9 x11).f0) ((rd_T106 x9 x11).f1) ((rd_T106 x9 x11).f2)) else (none)) else (none)) else (spec_l2Hunks.j1 k x0 x1 x9 x10 x11 false ((rd_T106 x9 x11).f0) ((rd_T106 x9 x11).f1) ((rd_T106 x9 x11).f2))))))))) else (none)) else (none)) else (if (x1.length : Int) ≤ 20 then ((spec_l1In.f x0 0 40).bind fun t633 => (some t633)) else (some false))
def spec_l2Hunks.j1 : Nat → Int → List (S106) → List (S106) → Int → Int → Bool → Int → Int → List ByteArray → Option (Bool)
 | 0, _, _, _, _, _, _, _, _, _ => none
 | k + 1, x0, x1, x9, x10, x11, x75, x636000, x636001, x636002 => if x75 = true then (some false) else (spec_l2Hunks.l1 k x0 x1 x9 x10 x11 x636002 (x636002.length : Int) 0)
def spec_l2Hunks.l1 : Nat → Int → List (S106) → List (S106) → Int → Int → List ByteArray → Int → Int → Option (Bool)
 | 0, _, _, _, _, _, _, _, _ => none
 | k + 1, x0, x1, x9, x10, x11, x77, x78, x79 => if x79 < x78 then (if 0 ≤ x79 then (if x79 < (x77.length : Int) then ((spec_l1Line.f k (rdOf ByteArray.empty x77 x79)).bind fun t639 => (if t639 = true then (spec_l2Hunks.l1 k x0 x1 x9 x10 x11 x77 x78 (wrap64 (x79 + 1))) else (some false))) else (none)) else (none)) else (spec_l2Hunks.l0 k x0 x1 x9 x10 (wrap64 (x11 + 1)))
end
def spec_l2Hunks.f (k : Nat) (a0 : Int) (l1 : List (S106)) : Option (Bool) := spec_l2Hunks.l0 k a0 l1 l1 (l1.length : Int) 0
set_option maxHeartbeats 8000000 in
set_option maxRecDepth 100000 in
theorem spec_l2Hunks.calls (k : Nat) (a0 : Int) (A1 : Option Addr) (c1 : Nat) (l1 : List (S106)) (r : Bool) (w : World) (hr1 : Kd.C k106 w A1 l1.length l1) (hc1 : l1.length ≤ c1) (h : spec_l2Hunks.f k a0 l1 = some r) :
  Calls Try.prog 95 #[.int .i64 a0, .slice A1 l1.length c1] w fun e w' => e = .returned (.bool r) ∧ Below w.heap.size w w' := by
 have hu106 := Try.underlying106
 have HR1 := am hr1
 have HC1 := am hc1
 clear hr1 hc1
 have HB := am (Below.refl w.heap.size w)
 have H : (spec_l2Hunks.l0 k a0 l1 l1 (l1.length : Int) 0) = some r := h
 clear h
 have H' := am H
 clear H
 go_enter Try.func95, Try.ntmps95
 go_wp2
 repeat (go_quiet (fail); try go_wp2)
 go_loopg [11] k (fun kq v11 w' => ∃ (x11_1 : Int), v11 = .int .i64 x11_1 ∧ Aside0 (spec_l2Hunks.l0 kq a0 l1 l1 (l1.length : Int) x11_1 = some r) ∧ Aside0 (kq ≤ k) ∧ Aside0 (Below w.heap.size w w'))
 case atStart => exact ⟨(0), zf, H', ⟨Nat.le_refl _⟩, ⟨by repeat (first | (with_reducible first | exact HB.out | apply below_alloc | apply pw_below_drewN | apply below_drew1) | exact HB.out)⟩⟩
 case round =>
  clear H'
  try clear c1
  try clear p2
  obtain ⟨x11_1, rfl, HA, HK1, HB⟩ := hrel
  cases gk with
  | zero => exact absurd HA.out (by simp [spec_l2Hunks.l0])
  | succ k1 =>
   have H := HA.out
   clear HA
   simp only [spec_l2Hunks.l0] at H
   by_cases c3 : x11_1 < (l1.length : Int)
   ·rw [if_pos c3] at H
    have c3b0 : decide (x11_1 < (l1.length : Int)) = true := decide_eq_true c3
    clear c3
    by_cases c4 : 0 ≤ x11_1
    ·rw [if_pos c4] at H
     have c4b0 : decide (0 ≤ x11_1) = true := decide_eq_true c4
     clear c4
     by_cases c5 : x11_1 < (l1.length : Int)
     ·rw [if_pos c5] at H
      have c5b0 : decide (x11_1 < (l1.length : Int)) = true := decide_eq_true c5
      clear c5
      have HC6 := am H
      clear H
      have p634 : 0 ≤ (x11_1 : Int) := oa
      have q634 : x11_1 < (l1.length : Int) := oa
      obtain ⟨ad634, A634_2, c634_2, e634, hx634_0, hx634_1, hx634_2, hl634_2, hi634_2⟩ := at_T106 HR1.out x11_1 p634 q634
      cases e634
      replace hx634_0 := (HB.out.cell (World.block_lt_of_cell? w _ hx634_0)).trans hx634_0
      replace hx634_1 := (HB.out.cell (World.block_lt_of_cell? w _ hx634_1)).trans hx634_1
      replace hx634_2 := (HB.out.cell (World.block_lt_of_cell? w _ hx634_2)).trans hx634_2
      have HR634_2 := am hi634_2
      have HC634_2 := am hl634_2
      clear hi634_2 hl634_2
      replace p634 := eq_true p634
      replace q634 := eq_true q634
      go_upto_region 4 with (first | ((with_reducible refine gate_dst (N := 6) rfl ?_); (try (refine gate_guard (by rfl) ?_; dsimp only)); refine box_event ?hg (N := 6) ?hd (cs := #[.int .i64 0, .int .i64 0, .slice none 0 0]) (t := 106) ?hr ?_; (case hd => rfl); (case hg => rfl); (case hr => first | (go_simp; done) | (go_simp; rfl)); intro gb635 hg w7 hbox hb; have n0_ := am (below_step zb hb); have n1_ := am (hbox); have n2_ := am ((by rw [hg]; exact (below_size zb) : w.heap.size ≤ gb635)); have n3_ := am ((by rw [hg]; exact (below_size zb) : w.heap.size ≤ gb635)); clear HB; have HB := n0_; have BK635 := n1_; have GW635 := n2_; have GE635 := n3_; clear n0_ n1_ n2_ n3_; clear hb hbox hg; have hcz8_0 : w7.cell? ⟨gb635, 0, none⟩ = some (.int .i64 0) := (blk_cell BK635.out 0).trans rfl; have hcz8_1 : w7.cell? ⟨gb635, 1, none⟩ = some (.int .i64 0) := (blk_cell BK635.out 1).trans rfl; have hcz8_2 : w7.cell? ⟨gb635, 2, none⟩ = some (.slice none 0 0) := (blk_cell BK635.out 2).trans rfl; have hfz8_0 := blk_frozen BK635.out 0; have hfz8_1 := blk_frozen BK635.out 1; have hfz8_2 := blk_frozen BK635.out 2))
      repeat (go_quiet (first | ((with_reducible refine gate_dst (N := 6) rfl ?_); (try (refine gate_guard (by rfl) ?_; dsimp only)); refine box_event ?hg (N := 6) ?hd (cs := #[.int .i64 0, .int .i64 0, .slice none 0 0]) (t := 106) ?hr ?_; (case hd => rfl); (case hg => rfl); (case hr => first | (go_simp; done) | (go_simp; rfl)); intro gb635 hg w7 hbox hb; have n0_ := am (below_step zb hb); have n1_ := am (hbox); have n2_ := am ((by rw [hg]; exact (below_size zb) : w.heap.size ≤ gb635)); have n3_ := am ((by rw [hg]; exact (below_size zb) : w.heap.size ≤ gb635)); clear HB; have HB := n0_; have BK635 := n1_; have GW635 := n2_; have GE635 := n3_; clear n0_ n1_ n2_ n3_; clear hb hbox hg; have hcz8_0 : w7.cell? ⟨gb635, 0, none⟩ = some (.int .i64 0) := (blk_cell BK635.out 0).trans rfl; have hcz8_1 : w7.cell? ⟨gb635, 1, none⟩ = some (.int .i64 0) := (blk_cell BK635.out 1).trans rfl; have hcz8_2 : w7.cell? ⟨gb635, 2, none⟩ = some (.slice none 0 0) := (blk_cell BK635.out 2).trans rfl; have hfz8_0 := blk_frozen BK635.out 0; have hfz8_1 := blk_frozen BK635.out 1; have hfz8_2 := blk_frozen BK635.out 2)); go_upto_region 4 with (first | ((with_reducible refine gate_dst (N := 6) rfl ?_); (try (refine gate_guard (by rfl) ?_; dsimp only)); refine box_event ?hg (N := 6) ?hd (cs := #[.int .i64 0, .int .i64 0, .slice none 0 0]) (t := 106) ?hr ?_; (case hd => rfl); (case hg => rfl); (case hr => first | (go_simp; done) | (go_simp; rfl)); intro gb635 hg w7 hbox hb; have n0_ := am (below_step zb hb); have n1_ := am (hbox); have n2_ := am ((by rw [hg]; exact (below_size zb) : w.heap.size ≤ gb635)); have n3_ := am ((by rw [hg]; exact (below_size zb) : w.heap.size ≤ gb635)); clear HB; have HB := n0_; have BK635 := n1_; have GW635 := n2_; have GE635 := n3_; clear n0_ n1_ n2_ n3_; clear hb hbox hg; have hcz8_0 : w7.cell? ⟨gb635, 0, none⟩ = some (.int .i64 0) := (blk_cell BK635.out 0).trans rfl; have hcz8_1 : w7.cell? ⟨gb635, 1, none⟩ = some (.int .i64 0) := (blk_cell BK635.out 1).trans rfl; have hcz8_2 : w7.cell? ⟨gb635, 2, none⟩ = some (.slice none 0 0) := (blk_cell BK635.out 2).trans rfl; have hfz8_0 := blk_frozen BK635.out 0; have hfz8_1 := blk_frozen BK635.out 1; have hfz8_2 := blk_frozen BK635.out 2)))
      (try simp only [Act.put, List.setIfInBounds_toArray, List.set_cons_zero, List.set_cons_succ])
      go_cut [75] (fun v75 wc => ∃ (kq : Nat) (x75_5 : Bool), v75 = .bool x75_5 ∧ Aside0 (spec_l2Hunks.j1 kq a0 l1 l1 (l1.length : Int) x11_1 x75_5 ((rd_T106 l1 x11_1).f0) ((rd_T106 l1 x11_1).f1) ((rd_T106 l1 x11_1).f2) = some r) ∧ Aside0 (kq ≤ k1) ∧ Aside0 (wc.heap[gb635]? = some (.cells #[.int .i64 ((rd_T106 l1 x11_1).f0), .int .i64 ((rd_T106 l1 x11_1).f1), (.slice A634_2 ((rd_T106 l1 x11_1).f2).length c634_2)] 106 (0, 0))) ∧ Aside0 (Below w.heap.size w wc))
      case first =>
       have H := HC6.out
       clear HC6
       by_cases c9 : ((rd_T106 l1 x11_1).f0) < 0
       ·rw [if_pos c9] at H
        have c9b0 : decide (((rd_T106 l1 x11_1).f0) < 0) = true := decide_eq_true c9
        clear c9
        (first | rw [c9b0] | (simp only [i64_w, i32_w]; rw [c9b0]) | skip)
        have H' := am H
        clear H
        have hcz10_0 : w7.cell? ⟨gb635, 0, none⟩ = some (.int .i64 0) := (blk_cell BK635.out 0).trans rfl
        have hcz10_1 : w7.cell? ⟨gb635, 1, none⟩ = some (.int .i64 0) := (blk_cell BK635.out 1).trans rfl
        have hcz10_2 : w7.cell? ⟨gb635, 2, none⟩ = some (.slice none 0 0) := (blk_cell BK635.out 2).trans rfl
        have hfz10_0 := blk_frozen BK635.out 0
        have hfz10_1 := blk_frozen BK635.out 1
        have hfz10_2 := blk_frozen BK635.out 2
        go_wp2
        repeat (go_quiet (fail); try go_wp2)
        go_meet
        case rel => exact ⟨_, (true), zf, H', ⟨by have := HK1.out; first | omega | exact Nat.le_refl _⟩, ⟨by (with_reducible repeat (first | refine blk_drewN ?_ _ | refine blk_drew ?_ | refine blk_alloc ?_ _)); refine blk_put (cs := #[.int .i64 ((rd_T106 l1 x11_1).f0), .int .i64 ((rd_T106 l1 x11_1).f1), .slice none 0 0]) ?_ 2 _ rfl; (with_reducible repeat (first | refine blk_drewN ?_ _ | refine blk_drew ?_ | refine blk_alloc ?_ _)); refine blk_put (cs := #[.int .i64 ((rd_T106 l1 x11_1).f0), .int .i64 0, .slice none 0 0]) ?_ 1 _ rfl; (with_reducible repeat (first | refine blk_drewN ?_ _ | refine blk_drew ?_ | refine blk_alloc ?_ _)); refine blk_put (cs := #[.int .i64 0, .int .i64 0, .slice none 0 0]) ?_ 0 _ rfl; (with_reducible repeat (first | refine blk_drewN ?_ _ | refine blk_drew ?_ | refine blk_alloc ?_ _)); exact BK635.out⟩, ⟨by repeat (first | (with_reducible first | exact HB.out | apply below_alloc | apply pw_below_drewN | apply below_drew1 | refine below_set ?_ GE635.out) | exact HB.out)⟩⟩
       ·rw [if_neg c9] at H
        have c9b0 : decide (((rd_T106 l1 x11_1).f0) < 0) = false := decide_eq_false c9
        clear c9
        (first | rw [c9b0] | (simp only [i64_w, i32_w]; rw [c9b0]) | skip)
        by_cases c11 : ((rd_T106 l1 x11_1).f1) < 0
        ·rw [if_pos c11] at H
         have c11b0 : decide (((rd_T106 l1 x11_1).f1) < 0) = true := decide_eq_true c11
         clear c11
         have H' := am H
         clear H
         have hcz12_0 : w7.cell? ⟨gb635, 0, none⟩ = some (.int .i64 0) := (blk_cell BK635.out 0).trans rfl
         have hcz12_1 : w7.cell? ⟨gb635, 1, none⟩ = some (.int .i64 0) := (blk_cell BK635.out 1).trans rfl
         have hcz12_2 : w7.cell? ⟨gb635, 2, none⟩ = some (.slice none 0 0) := (blk_cell BK635.out 2).trans rfl
         have hfz12_0 := blk_frozen BK635.out 0
         have hfz12_1 := blk_frozen BK635.out 1
         have hfz12_2 := blk_frozen BK635.out 2
         go_wp2
         repeat (go_quiet (fail); try go_wp2)
         go_meet
         case rel => exact ⟨_, (true), zf, H', ⟨by have := HK1.out; first | omega | exact Nat.le_refl _⟩, ⟨by (with_reducible repeat (first | refine blk_drewN ?_ _ | refine blk_drew ?_ | refine blk_alloc ?_ _)); refine blk_put (cs := #[.int .i64 ((rd_T106 l1 x11_1).f0), .int .i64 ((rd_T106 l1 x11_1).f1), .slice none 0 0]) ?_ 2 _ rfl; (with_reducible repeat (first | refine blk_drewN ?_ _ | refine blk_drew ?_ | refine blk_alloc ?_ _)); refine blk_put (cs := #[.int .i64 ((rd_T106 l1 x11_1).f0), .int .i64 0, .slice none 0 0]) ?_ 1 _ rfl; (with_reducible repeat (first | refine blk_drewN ?_ _ | refine blk_drew ?_ | refine blk_alloc ?_ _)); refine blk_put (cs := #[.int .i64 0, .int .i64 0, .slice none 0 0]) ?_ 0 _ rfl; (with_reducible repeat (first | refine blk_drewN ?_ _ | refine blk_drew ?_ | refine blk_alloc ?_ _)); exact BK635.out⟩, ⟨by repeat (first | (with_reducible first | exact HB.out | apply below_alloc | apply pw_below_drewN | apply below_drew1 | refine below_set ?_ GE635.out) | exact HB.out)⟩⟩
        ·rw [if_neg c11] at H
         have c11b0 : decide (((rd_T106 l1 x11_1).f1) < 0) = false := decide_eq_false c11
         clear c11
         by_cases c13 : ((rd_T106 l1 x11_1).f1) > a0
         ·rw [if_pos c13] at H
          have c13b0 : decide (a0 < ((rd_T106 l1 x11_1).f1)) = true := decide_eq_true c13
          clear c13
          have H' := am H
          clear H
          have hcz14_0 : w7.cell? ⟨gb635, 0, none⟩ = some (.int .i64 0) := (blk_cell BK635.out 0).trans rfl
          have hcz14_1 : w7.cell? ⟨gb635, 1, none⟩ = some (.int .i64 0) := (blk_cell BK635.out 1).trans rfl
          have hcz14_2 : w7.cell? ⟨gb635, 2, none⟩ = some (.slice none 0 0) := (blk_cell BK635.out 2).trans rfl
          have hfz14_0 := blk_frozen BK635.out 0
          have hfz14_1 := blk_frozen BK635.out 1
          have hfz14_2 := blk_frozen BK635.out 2
          go_wp2
          repeat (go_quiet (fail); try go_wp2)
          go_meet
          case rel => exact ⟨_, (true), zf, H', ⟨by have := HK1.out; first | omega | exact Nat.le_refl _⟩, ⟨by (with_reducible repeat (first | refine blk_drewN ?_ _ | refine blk_drew ?_ | refine blk_alloc ?_ _)); refine blk_put (cs := #[.int .i64 ((rd_T106 l1 x11_1).f0), .int .i64 ((rd_T106 l1 x11_1).f1), .slice none 0 0]) ?_ 2 _ rfl; (with_reducible repeat (first | refine blk_drewN ?_ _ | refine blk_drew ?_ | refine blk_alloc ?_ _)); refine blk_put (cs := #[.int .i64 ((rd_T106 l1 x11_1).f0), .int .i64 0, .slice none 0 0]) ?_ 1 _ rfl; (with_reducible repeat (first | refine blk_drewN ?_ _ | refine blk_drew ?_ | refine blk_alloc ?_ _)); refine blk_put (cs := #[.int .i64 0, .int .i64 0, .slice none 0 0]) ?_ 0 _ rfl; (with_reducible repeat (first | refine blk_drewN ?_ _ | refine blk_drew ?_ | refine blk_alloc ?_ _)); exact BK635.out⟩, ⟨by repeat (first | (with_reducible first | exact HB.out | apply below_alloc | apply pw_below_drewN | apply below_drew1 | refine below_set ?_ GE635.out) | exact HB.out)⟩⟩
         ·rw [if_neg c13] at H
          have c13b0 : decide (a0 < ((rd_T106 l1 x11_1).f1)) = false := decide_eq_false c13
          clear c13
          by_cases c15 : ((rd_T106 l1 x11_1).f0) > (wrap64 (a0 - ((rd_T106 l1 x11_1).f1)))
          ·rw [if_pos c15] at H
           have c15b0 : decide ((wrap64 (a0 - ((rd_T106 l1 x11_1).f1))) < ((rd_T106 l1 x11_1).f0)) = true := decide_eq_true c15
           clear c15
           have H' := am H
           clear H
           have hcz16_0 : w7.cell? ⟨gb635, 0, none⟩ = some (.int .i64 0) := (blk_cell BK635.out 0).trans rfl
           have hcz16_1 : w7.cell? ⟨gb635, 1, none⟩ = some (.int .i64 0) := (blk_cell BK635.out 1).trans rfl
           have hcz16_2 : w7.cell? ⟨gb635, 2, none⟩ = some (.slice none 0 0) := (blk_cell BK635.out 2).trans rfl
           have hfz16_0 := blk_frozen BK635.out 0
           have hfz16_1 := blk_frozen BK635.out 1
           have hfz16_2 := blk_frozen BK635.out 2
           go_wp2
           repeat (go_quiet (fail); try go_wp2)
           go_meet
           case rel => exact ⟨_, (true), zf, H', ⟨by have := HK1.out; first | omega | exact Nat.le_refl _⟩, ⟨by (with_reducible repeat (first | refine blk_drewN ?_ _ | refine blk_drew ?_ | refine blk_alloc ?_ _)); refine blk_put (cs := #[.int .i64 ((rd_T106 l1 x11_1).f0), .int .i64 ((rd_T106 l1 x11_1).f1), .slice none 0 0]) ?_ 2 _ rfl; (with_reducible repeat (first | refine blk_drewN ?_ _ | refine blk_drew ?_ | refine blk_alloc ?_ _)); refine blk_put (cs := #[.int .i64 ((rd_T106 l1 x11_1).f0), .int .i64 0, .slice none 0 0]) ?_ 1 _ rfl; (with_reducible repeat (first | refine blk_drewN ?_ _ | refine blk_drew ?_ | refine blk_alloc ?_ _)); refine blk_put (cs := #[.int .i64 0, .int .i64 0, .slice none 0 0]) ?_ 0 _ rfl; (with_reducible repeat (first | refine blk_drewN ?_ _ | refine blk_drew ?_ | refine blk_alloc ?_ _)); exact BK635.out⟩, ⟨by repeat (first | (with_reducible first | exact HB.out | apply below_alloc | apply pw_below_drewN | apply below_drew1 | refine below_set ?_ GE635.out) | exact HB.out)⟩⟩
          ·rw [if_neg c15] at H
           have c15b0 : decide ((wrap64 (a0 - ((rd_T106 l1 x11_1).f1))) < ((rd_T106 l1 x11_1).f0)) = false := decide_eq_false c15
           clear c15
           by_cases c17 : (wrap64 (((rd_T106 l1 x11_1).f1) + (((rd_T106 l1 x11_1).f2).length : Int))) = 0
           ·rw [if_pos c17] at H
            have c17b0 : ((wrap64 (((rd_T106 l1 x11_1).f1) + (((rd_T106 l1 x11_1).f2).length : Int))) == 0) = true := beq_iff_eq.mpr c17
            have c17b1 : ((wrap64 (((rd_T106 l1 x11_1).f1) + (((rd_T106 l1 x11_1).f2).length : Int))) != 0) = false := bne_eq_false_iff_eq.mpr c17
            clear c17
            have H' := am H
            clear H
            have hcz18_0 : w7.cell? ⟨gb635, 0, none⟩ = some (.int .i64 0) := (blk_cell BK635.out 0).trans rfl
            have hcz18_1 : w7.cell? ⟨gb635, 1, none⟩ = some (.int .i64 0) := (blk_cell BK635.out 1).trans rfl
            have hcz18_2 : w7.cell? ⟨gb635, 2, none⟩ = some (.slice none 0 0) := (blk_cell BK635.out 2).trans rfl
            have hfz18_0 := blk_frozen BK635.out 0
            have hfz18_1 := blk_frozen BK635.out 1
            have hfz18_2 := blk_frozen BK635.out 2
            go_wp2
            repeat (go_quiet (fail); try go_wp2)
            go_meet
            case rel => exact ⟨_, (true), zf, H', ⟨by have := HK1.out; first | omega | exact Nat.le_refl _⟩, ⟨by (with_reducible repeat (first | refine blk_drewN ?_ _ | refine blk_drew ?_ | refine blk_alloc ?_ _)); refine blk_put (cs := #[.int .i64 ((rd_T106 l1 x11_1).f0), .int .i64 ((rd_T106 l1 x11_1).f1), .slice none 0 0]) ?_ 2 _ rfl; (with_reducible repeat (first | refine blk_drewN ?_ _ | refine blk_drew ?_ | refine blk_alloc ?_ _)); refine blk_put (cs := #[.int .i64 ((rd_T106 l1 x11_1).f0), .int .i64 0, .slice none 0 0]) ?_ 1 _ rfl; (with_reducible repeat (first | refine blk_drewN ?_ _ | refine blk_drew ?_ | refine blk_alloc ?_ _)); refine blk_put (cs := #[.int .i64 0, .int .i64 0, .slice none 0 0]) ?_ 0 _ rfl; (with_reducible repeat (first | refine blk_drewN ?_ _ | refine blk_drew ?_ | refine blk_alloc ?_ _)); exact BK635.out⟩, ⟨by repeat (first | (with_reducible first | exact HB.out | apply below_alloc | apply pw_below_drewN | apply below_drew1 | refine below_set ?_ GE635.out) | exact HB.out)⟩⟩
           ·rw [if_neg c17] at H
            have c17b0 : ((wrap64 (((rd_T106 l1 x11_1).f1) + (((rd_T106 l1 x11_1).f2).length : Int))) == 0) = false := beq_eq_false_iff_ne.mpr c17
            have c17b1 : ((wrap64 (((rd_T106 l1 x11_1).f1) + (((rd_T106 l1 x11_1).f2).length : Int))) != 0) = true := bne_iff_ne.mpr c17
            by_cases c19 : (((rd_T106 l1 x11_1).f2).length : Int) > 40
            ·rw [if_pos c19] at H
             have c19b0 : decide (40 < (((rd_T106 l1 x11_1).f2).length : Int)) = true := decide_eq_true c19
             have c19b1 : decide (40 < ((rd_T106 l1 x11_1).f2).length) = true := decide_eq_true (by omega)
             clear c19
             have H' := am H
             clear H
             have hcz20_0 : w7.cell? ⟨gb635, 0, none⟩ = some (.int .i64 0) := (blk_cell BK635.out 0).trans rfl
             have hcz20_1 : w7.cell? ⟨gb635, 1, none⟩ = some (.int .i64 0) := (blk_cell BK635.out 1).trans rfl
             have hcz20_2 : w7.cell? ⟨gb635, 2, none⟩ = some (.slice none 0 0) := (blk_cell BK635.out 2).trans rfl
             have hfz20_0 := blk_frozen BK635.out 0
             have hfz20_1 := blk_frozen BK635.out 1
             have hfz20_2 := blk_frozen BK635.out 2
             go_wp2
             repeat (go_quiet (fail); try go_wp2)
             go_meet
             case rel => exact ⟨_, (true), zf, H', ⟨by have := HK1.out; first | omega | exact Nat.le_refl _⟩, ⟨by (with_reducible repeat (first | refine blk_drewN ?_ _ | refine blk_drew ?_ | refine blk_alloc ?_ _)); refine blk_put (cs := #[.int .i64 ((rd_T106 l1 x11_1).f0), .int .i64 ((rd_T106 l1 x11_1).f1), .slice none 0 0]) ?_ 2 _ rfl; (with_reducible repeat (first | refine blk_drewN ?_ _ | refine blk_drew ?_ | refine blk_alloc ?_ _)); refine blk_put (cs := #[.int .i64 ((rd_T106 l1 x11_1).f0), .int .i64 0, .slice none 0 0]) ?_ 1 _ rfl; (with_reducible repeat (first | refine blk_drewN ?_ _ | refine blk_drew ?_ | refine blk_alloc ?_ _)); refine blk_put (cs := #[.int .i64 0, .int .i64 0, .slice none 0 0]) ?_ 0 _ rfl; (with_reducible repeat (first | refine blk_drewN ?_ _ | refine blk_drew ?_ | refine blk_alloc ?_ _)); exact BK635.out⟩, ⟨by repeat (first | (with_reducible first | exact HB.out | apply below_alloc | apply pw_below_drewN | apply below_drew1 | refine below_set ?_ GE635.out) | exact HB.out)⟩⟩
            ·rw [if_neg c19] at H
             have c19b0 : decide (40 < (((rd_T106 l1 x11_1).f2).length : Int)) = false := decide_eq_false c19
             have c19b1 : decide (40 < ((rd_T106 l1 x11_1).f2).length) = false := decide_eq_false (by omega)
             clear c19
             by_cases c21 : x11_1 > 0
             ·rw [if_pos c21] at H
              have c21b0 : decide (0 < x11_1) = true := decide_eq_true c21
              clear c21
              obtain ⟨ji22, hji22⟩ : ∃ j_ : Int, (wrap64 (x11_1 - 1)) = j_ := ⟨_, rfl⟩
              replace H : (if 0 ≤ (ji22) then (if (ji22) < (l1.length : Int) then (spec_l2Hunks.j1 k1 a0 l1 l1 (l1.length : Int) x11_1 (decide (((rd_T106 l1 x11_1).f0) ≤ (wrap64 (((rd_T106 l1 (ji22)).f0) + ((rd_T106 l1 (ji22)).f1))))) ((rd_T106 l1 x11_1).f0) ((rd_T106 l1 x11_1).f1) ((rd_T106 l1 x11_1).f2)) else (none)) else (none)) = some r := by first | (rw [hji22] at H; exact H) | (simp only [hji22] at H ⊢; exact H)
              have hji22w : (IntKind.i64.wrap (x11_1 - 1)) = ji22 := (i64_w _).trans hji22
              by_cases c23 : 0 ≤ (ji22)
              ·rw [if_pos c23] at H
               have c23b0 : decide (0 ≤ (ji22)) = true := decide_eq_true c23
               clear c23
               by_cases c24 : (ji22) < (l1.length : Int)
               ·rw [if_pos c24] at H
                have c24b0 : decide ((ji22) < (l1.length : Int)) = true := decide_eq_true c24
                clear c24
                have H' := am H
                clear H
                have hcz25_0 : w7.cell? ⟨gb635, 0, none⟩ = some (.int .i64 0) := (blk_cell BK635.out 0).trans rfl
                have hcz25_1 : w7.cell? ⟨gb635, 1, none⟩ = some (.int .i64 0) := (blk_cell BK635.out 1).trans rfl
                have hcz25_2 : w7.cell? ⟨gb635, 2, none⟩ = some (.slice none 0 0) := (blk_cell BK635.out 2).trans rfl
                have hfz25_0 := blk_frozen BK635.out 0
                have hfz25_1 := blk_frozen BK635.out 1
                have hfz25_2 := blk_frozen BK635.out 2
                have p636 : 0 ≤ ((ji22) : Int) := oa
                have q636 : (ji22) < (l1.length : Int) := oa
                obtain ⟨ad636, A636_2, c636_2, e636, hx636_0, hx636_1, hx636_2, hl636_2, hi636_2⟩ := at_T106 HR1.out (ji22) p636 q636
                obtain rfl : ad634 = ad636 := (by injection e636)
                have hn636_0 : ad634.block ≠ gb635 := Nat.ne_of_lt (Nat.lt_of_lt_of_le (zl hx636_0) GW635.out)
                have hn636_1 : ad634.block ≠ gb635 := Nat.ne_of_lt (Nat.lt_of_lt_of_le (zl hx636_0) GW635.out)
                have hn636_2 : ad634.block ≠ gb635 := Nat.ne_of_lt (Nat.lt_of_lt_of_le (zl hx636_0) GW635.out)
                replace hx636_0 := (HB.out.cell (World.block_lt_of_cell? w _ hx636_0)).trans hx636_0
                replace hx636_1 := (HB.out.cell (World.block_lt_of_cell? w _ hx636_1)).trans hx636_1
                replace hx636_2 := (HB.out.cell (World.block_lt_of_cell? w _ hx636_2)).trans hx636_2
                have HR636_2 := am hi636_2
                have HC636_2 := am hl636_2
                clear hi636_2 hl636_2
                replace hx636_0 := (cell_far (p := ⟨gb635, 0, none⟩) (zn hn636_0) (.int .i64 ((rd_T106 l1 x11_1).f0))).trans hx636_0
                replace hx636_1 := (cell_far (p := ⟨gb635, 0, none⟩) (zn hn636_0) (.int .i64 ((rd_T106 l1 x11_1).f0))).trans hx636_1
                replace hx636_2 := (cell_far (p := ⟨gb635, 0, none⟩) (zn hn636_0) (.int .i64 ((rd_T106 l1 x11_1).f0))).trans hx636_2
                replace hx636_0 := (cell_far (p := ⟨gb635, 1, none⟩) (zn hn636_1) (.int .i64 ((rd_T106 l1 x11_1).f1))).trans hx636_0
                replace hx636_1 := (cell_far (p := ⟨gb635, 1, none⟩) (zn hn636_1) (.int .i64 ((rd_T106 l1 x11_1).f1))).trans hx636_1
                replace hx636_2 := (cell_far (p := ⟨gb635, 1, none⟩) (zn hn636_1) (.int .i64 ((rd_T106 l1 x11_1).f1))).trans hx636_2
                replace hx636_0 := (cell_far (p := ⟨gb635, 2, none⟩) (zn hn636_2) (.slice A634_2 ((rd_T106 l1 x11_1).f2).length c634_2)).trans hx636_0
                replace hx636_1 := (cell_far (p := ⟨gb635, 2, none⟩) (zn hn636_2) (.slice A634_2 ((rd_T106 l1 x11_1).f2).length c634_2)).trans hx636_1
                replace hx636_2 := (cell_far (p := ⟨gb635, 2, none⟩) (zn hn636_2) (.slice A634_2 ((rd_T106 l1 x11_1).f2).length c634_2)).trans hx636_2
                (try have hy636_0 := fun (n_ : Nat) => (show (((((w7.drewN n_).setCell ⟨gb635, 0, none⟩ (.int .i64 ((rd_T106 l1 x11_1).f0))).setCell ⟨gb635, 1, none⟩ (.int .i64 ((rd_T106 l1 x11_1).f1))).setCell ⟨gb635, 2, none⟩ (.slice A634_2 ((rd_T106 l1 x11_1).f2).length c634_2))).cell? _ = some _ from hx636_0))
                (try have hy636_1 := fun (n_ : Nat) => (show (((((w7.drewN n_).setCell ⟨gb635, 0, none⟩ (.int .i64 ((rd_T106 l1 x11_1).f0))).setCell ⟨gb635, 1, none⟩ (.int .i64 ((rd_T106 l1 x11_1).f1))).setCell ⟨gb635, 2, none⟩ (.slice A634_2 ((rd_T106 l1 x11_1).f2).length c634_2))).cell? _ = some _ from hx636_1))
                (try have hy636_2 := fun (n_ : Nat) => (show (((((w7.drewN n_).setCell ⟨gb635, 0, none⟩ (.int .i64 ((rd_T106 l1 x11_1).f0))).setCell ⟨gb635, 1, none⟩ (.int .i64 ((rd_T106 l1 x11_1).f1))).setCell ⟨gb635, 2, none⟩ (.slice A634_2 ((rd_T106 l1 x11_1).f2).length c634_2))).cell? _ = some _ from hx636_2))
                clear hn636_0
                clear hn636_1
                clear hn636_2
                replace p636 := eq_true p636
                replace q636 := eq_true q636
                have p637 : 0 ≤ ((ji22) : Int) := oa
                have q637 : (ji22) < (l1.length : Int) := oa
                obtain ⟨ad637, A637_2, c637_2, e637, hx637_0, hx637_1, hx637_2, hl637_2, hi637_2⟩ := at_T106 HR1.out (ji22) p637 q637
                obtain rfl : ad634 = ad637 := (by injection e637)
                have hn637_0 : ad634.block ≠ gb635 := Nat.ne_of_lt (Nat.lt_of_lt_of_le (zl hx637_0) GW635.out)
                have hn637_1 : ad634.block ≠ gb635 := Nat.ne_of_lt (Nat.lt_of_lt_of_le (zl hx637_0) GW635.out)
                have hn637_2 : ad634.block ≠ gb635 := Nat.ne_of_lt (Nat.lt_of_lt_of_le (zl hx637_0) GW635.out)
                replace hx637_0 := (HB.out.cell (World.block_lt_of_cell? w _ hx637_0)).trans hx637_0
                replace hx637_1 := (HB.out.cell (World.block_lt_of_cell? w _ hx637_1)).trans hx637_1
                replace hx637_2 := (HB.out.cell (World.block_lt_of_cell? w _ hx637_2)).trans hx637_2
                have HR637_2 := am hi637_2
                have HC637_2 := am hl637_2
                clear hi637_2 hl637_2
                replace hx637_0 := (cell_far (p := ⟨gb635, 0, none⟩) (zn hn637_0) (.int .i64 ((rd_T106 l1 x11_1).f0))).trans hx637_0
                replace hx637_1 := (cell_far (p := ⟨gb635, 0, none⟩) (zn hn637_0) (.int .i64 ((rd_T106 l1 x11_1).f0))).trans hx637_1
                replace hx637_2 := (cell_far (p := ⟨gb635, 0, none⟩) (zn hn637_0) (.int .i64 ((rd_T106 l1 x11_1).f0))).trans hx637_2
                replace hx637_0 := (cell_far (p := ⟨gb635, 1, none⟩) (zn hn637_1) (.int .i64 ((rd_T106 l1 x11_1).f1))).trans hx637_0
                replace hx637_1 := (cell_far (p := ⟨gb635, 1, none⟩) (zn hn637_1) (.int .i64 ((rd_T106 l1 x11_1).f1))).trans hx637_1
                replace hx637_2 := (cell_far (p := ⟨gb635, 1, none⟩) (zn hn637_1) (.int .i64 ((rd_T106 l1 x11_1).f1))).trans hx637_2
                replace hx637_0 := (cell_far (p := ⟨gb635, 2, none⟩) (zn hn637_2) (.slice A634_2 ((rd_T106 l1 x11_1).f2).length c634_2)).trans hx637_0
                replace hx637_1 := (cell_far (p := ⟨gb635, 2, none⟩) (zn hn637_2) (.slice A634_2 ((rd_T106 l1 x11_1).f2).length c634_2)).trans hx637_1
                replace hx637_2 := (cell_far (p := ⟨gb635, 2, none⟩) (zn hn637_2) (.slice A634_2 ((rd_T106 l1 x11_1).f2).length c634_2)).trans hx637_2
                (try have hy637_0 := fun (n_ : Nat) => (show (((((w7.drewN n_).setCell ⟨gb635, 0, none⟩ (.int .i64 ((rd_T106 l1 x11_1).f0))).setCell ⟨gb635, 1, none⟩ (.int .i64 ((rd_T106 l1 x11_1).f1))).setCell ⟨gb635, 2, none⟩ (.slice A634_2 ((rd_T106 l1 x11_1).f2).length c634_2))).cell? _ = some _ from hx637_0))
                (try have hy637_1 := fun (n_ : Nat) => (show (((((w7.drewN n_).setCell ⟨gb635, 0, none⟩ (.int .i64 ((rd_T106 l1 x11_1).f0))).setCell ⟨gb635, 1, none⟩ (.int .i64 ((rd_T106 l1 x11_1).f1))).setCell ⟨gb635, 2, none⟩ (.slice A634_2 ((rd_T106 l1 x11_1).f2).length c634_2))).cell? _ = some _ from hx637_1))
                (try have hy637_2 := fun (n_ : Nat) => (show (((((w7.drewN n_).setCell ⟨gb635, 0, none⟩ (.int .i64 ((rd_T106 l1 x11_1).f0))).setCell ⟨gb635, 1, none⟩ (.int .i64 ((rd_T106 l1 x11_1).f1))).setCell ⟨gb635, 2, none⟩ (.slice A634_2 ((rd_T106 l1 x11_1).f2).length c634_2))).cell? _ = some _ from hx637_2))
                clear hn637_0
                clear hn637_1
                clear hn637_2
                replace p637 := eq_true p637
                replace q637 := eq_true q637
                have eb_ := Option.some.inj (hx636_2.symm.trans hx637_2)
                injection eb_ with ea_ en_ ec_
                subst ea_
                subst ec_
                clear en_
                go_wp2
                repeat (go_quiet (fail); try go_wp2)
                go_meet
                case rel => exact ⟨_, (decide (((rd_T106 l1 x11_1).f0) ≤ (wrap64 (((rd_T106 l1 (ji22)).f0) + ((rd_T106 l1 (ji22)).f1))))), (by first | rfl | (simp; done) | (simp only [← hji22] <;> (first | rfl | simp)) | (simp [*]; done)), H', ⟨by have := HK1.out; first | omega | exact Nat.le_refl _⟩, ⟨by (with_reducible repeat (first | refine blk_drewN ?_ _ | refine blk_drew ?_ | refine blk_alloc ?_ _)); refine blk_put (cs := #[.int .i64 ((rd_T106 l1 x11_1).f0), .int .i64 ((rd_T106 l1 x11_1).f1), .slice none 0 0]) ?_ 2 _ rfl; (with_reducible repeat (first | refine blk_drewN ?_ _ | refine blk_drew ?_ | refine blk_alloc ?_ _)); refine blk_put (cs := #[.int .i64 ((rd_T106 l1 x11_1).f0), .int .i64 0, .slice none 0 0]) ?_ 1 _ rfl; (with_reducible repeat (first | refine blk_drewN ?_ _ | refine blk_drew ?_ | refine blk_alloc ?_ _)); refine blk_put (cs := #[.int .i64 0, .int .i64 0, .slice none 0 0]) ?_ 0 _ rfl; (with_reducible repeat (first | refine blk_drewN ?_ _ | refine blk_drew ?_ | refine blk_alloc ?_ _)); exact BK635.out⟩, ⟨by repeat (first | (with_reducible first | exact HB.out | apply below_alloc | apply pw_below_drewN | apply below_drew1 | refine below_set ?_ GE635.out) | exact HB.out)⟩⟩
               ·rw [if_neg c24] at H
                exact absurd H (by simp)
              ·rw [if_neg c23] at H
               exact absurd H (by simp)
             ·rw [if_neg c21] at H
              have c21b0 : decide (0 < x11_1) = false := decide_eq_false c21
              clear c21
              have H' := am H
              clear H
              have hcz26_0 : w7.cell? ⟨gb635, 0, none⟩ = some (.int .i64 0) := (blk_cell BK635.out 0).trans rfl
              have hcz26_1 : w7.cell? ⟨gb635, 1, none⟩ = some (.int .i64 0) := (blk_cell BK635.out 1).trans rfl
              have hcz26_2 : w7.cell? ⟨gb635, 2, none⟩ = some (.slice none 0 0) := (blk_cell BK635.out 2).trans rfl
              have hfz26_0 := blk_frozen BK635.out 0
              have hfz26_1 := blk_frozen BK635.out 1
              have hfz26_2 := blk_frozen BK635.out 2
              go_wp2
              repeat (go_quiet (fail); try go_wp2)
              go_meet
              case rel => exact ⟨_, (false), zf, H', ⟨by have := HK1.out; first | omega | exact Nat.le_refl _⟩, ⟨by (with_reducible repeat (first | refine blk_drewN ?_ _ | refine blk_drew ?_ | refine blk_alloc ?_ _)); refine blk_put (cs := #[.int .i64 ((rd_T106 l1 x11_1).f0), .int .i64 ((rd_T106 l1 x11_1).f1), .slice none 0 0]) ?_ 2 _ rfl; (with_reducible repeat (first | refine blk_drewN ?_ _ | refine blk_drew ?_ | refine blk_alloc ?_ _)); refine blk_put (cs := #[.int .i64 ((rd_T106 l1 x11_1).f0), .int .i64 0, .slice none 0 0]) ?_ 1 _ rfl; (with_reducible repeat (first | refine blk_drewN ?_ _ | refine blk_drew ?_ | refine blk_alloc ?_ _)); refine blk_put (cs := #[.int .i64 0, .int .i64 0, .slice none 0 0]) ?_ 0 _ rfl; (with_reducible repeat (first | refine blk_drewN ?_ _ | refine blk_drew ?_ | refine blk_alloc ?_ _)); exact BK635.out⟩, ⟨by repeat (first | (with_reducible first | exact HB.out | apply below_alloc | apply pw_below_drewN | apply below_drew1 | refine below_set ?_ GE635.out) | exact HB.out)⟩⟩
      case rest =>
       clear HC6
       try clear c1
       try clear c2
       try clear p2
       try clear c3
       try clear c3b0
       try clear c4
       try clear c4b0
       try clear c5
       try clear c5b0
       try clear c6
       try clear p6
       try clear q6
       try clear hx6
       try clear c9
       try clear c9b0
       try clear c11
       try clear c11b0
       try clear c13
       try clear c13b0
       try clear c15
       try clear c15b0
       try clear c17
       try clear c17b0
       try clear c17b1
       try clear c19
       try clear c19b0
       try clear c19b1
       try clear c21
       try clear c21b0
       try clear c23
       try clear c23b0
       try clear c24
       try clear c24b0
       try clear hcz10_0
       try clear hcz10_1
       try clear hcz10_2
       try clear hcz12_0
       try clear hcz12_1
       try clear hcz12_2
       try clear hcz14_0
       try clear hcz14_1
       try clear hcz14_2
       try clear hcz16_0
       try clear hcz16_1
       try clear hcz16_2
       try clear hcz18_0
       try clear hcz18_1
       try clear hcz18_2
       try clear hcz20_0
       try clear hcz20_1
       try clear hcz20_2
       try clear hcz25_0
       try clear hcz25_1
       try clear hcz25_2
       try clear hcz26_0
       try clear hcz26_1
       try clear hcz26_2
       try clear hcz8_0
       try clear hcz8_1
       try clear hcz8_2
       try clear hfz10_0
       try clear hfz10_1
       try clear hfz10_2
       try clear hfz12_0
       try clear hfz12_1
       try clear hfz12_2
       try clear hfz14_0
       try clear hfz14_1
       try clear hfz14_2
       try clear hfz16_0
       try clear hfz16_1
       try clear hfz16_2
       try clear hfz18_0
       try clear hfz18_1
       try clear hfz18_2
       try clear hfz20_0
       try clear hfz20_1
       try clear hfz20_2
       try clear hfz25_0
       try clear hfz25_1
       try clear hfz25_2
       try clear hfz26_0
       try clear hfz26_1
       try clear hfz26_2
       try clear hfz8_0
       try clear hfz8_1
       try clear hfz8_2
       try clear hx634_0
       try clear hx634_1
       try clear hx634_2
       try clear hx636_0
       try clear hx636_1
       try clear hx636_2
       try clear hx637_0
       try clear hx637_1
       try clear hx637_2
       try clear p2
       try clear p634
       try clear p636
       try clear p637
       try clear q634
       try clear q636
       try clear q637
       obtain ⟨kq, x75_5, rfl, HA, HJ5, BK635, HB⟩ := hcut
       cases kq with
       | zero => exact absurd HA.out (by simp [spec_l2Hunks.j1])
       | succ kj5 =>
        have H := HA.out
        clear HA
        simp only [spec_l2Hunks.j1] at H
        by_cases c27 : x75_5 = true
        ·subst c27
         have H1 : (some false) = some r := by rw [if_pos rfl] at H; exact H
         clear H
         have H := H1
         clear H1
         obtain rfl := Option.some.inj H
         go_wp2
         repeat (go_quiet (fail); try go_wp2)
         go_ret
         exact ⟨by first | rfl | (simp [errW_none, errW_some] <;> rfl) | (simp [*, errW_none, errW_some] <;> rfl), by repeat (first | (with_reducible first | exact HB.out | apply below_alloc | apply pw_below_drewN | apply below_drew1 | refine below_set ?_ GE635.out) | exact HB.out)⟩
        ·replace c27 := Bool.eq_false_iff.mpr c27
         subst c27
         have H1 : (spec_l2Hunks.l1 kj5 a0 l1 l1 (l1.length : Int) x11_1 ((rd_T106 l1 x11_1).f2) (((rd_T106 l1 x11_1).f2).length : Int) 0) = some r := by rw [if_neg (show ¬ (false = true) by decide)] at H; exact H
         clear H
         have H := H1
         clear H1
         have H' := am H
         clear H
         have hcz28_0 : wc.cell? ⟨gb635, 0, none⟩ = some (.int .i64 ((rd_T106 l1 x11_1).f0)) := (blk_cell BK635.out 0).trans rfl
         have hcz28_1 : wc.cell? ⟨gb635, 1, none⟩ = some (.int .i64 ((rd_T106 l1 x11_1).f1)) := (blk_cell BK635.out 1).trans rfl
         have hcz28_2 : wc.cell? ⟨gb635, 2, none⟩ = some (.slice A634_2 ((rd_T106 l1 x11_1).f2).length c634_2) := (blk_cell BK635.out 2).trans rfl
         have hfz28_0 := blk_frozen BK635.out 0
         have hfz28_1 := blk_frozen BK635.out 1
         have hfz28_2 := blk_frozen BK635.out 2
         go_wp2
         repeat (go_quiet (fail); try go_wp2)
         go_loopg [79] kj5 (fun kq v79 w' => ∃ (x79_3 : Int), v79 = .int .i64 x79_3 ∧ Aside0 (spec_l2Hunks.l1 kq a0 l1 l1 (l1.length : Int) x11_1 ((rd_T106 l1 x11_1).f2) (((rd_T106 l1 x11_1).f2).length : Int) x79_3 = some r) ∧ Aside0 (kq ≤ kj5) ∧ Aside0 (w'.heap[gb635]? = some (.cells #[.int .i64 ((rd_T106 l1 x11_1).f0), .int .i64 ((rd_T106 l1 x11_1).f1), (.slice A634_2 ((rd_T106 l1 x11_1).f2).length c634_2)] 106 (0, 0))) ∧ Aside0 (Below w.heap.size w w'))
         case atStart => exact ⟨(0), zf, H', ⟨Nat.le_refl _⟩, ⟨by (with_reducible repeat (first | refine blk_drewN ?_ _ | refine blk_drew ?_ | refine blk_alloc ?_ _)); exact BK635.out⟩, ⟨by repeat (first | (with_reducible first | exact HB.out | apply below_alloc | apply pw_below_drewN | apply below_drew1 | refine below_set ?_ GE635.out) | exact HB.out)⟩⟩
         case round =>
          clear H'
          try clear c1
          try clear c2
          try clear p2
          try clear c3
          try clear c3b0
          try clear c4
          try clear c4b0
          try clear c5
          try clear c5b0
          try clear c6
          try clear p6
          try clear q6
          try clear hx6
          try clear c9
          try clear c9b0
          try clear c11
          try clear c11b0
          try clear c13
          try clear c13b0
          try clear c15
          try clear c15b0
          try clear c17
          try clear c17b0
          try clear c17b1
          try clear c19
          try clear c19b0
          try clear c19b1
          try clear c21
          try clear c21b0
          try clear c23
          try clear c23b0
          try clear c24
          try clear c24b0
          try clear c27
          try clear hcz10_0
          try clear hcz10_1
          try clear hcz10_2
          try clear hcz12_0
          try clear hcz12_1
          try clear hcz12_2
          try clear hcz14_0
          try clear hcz14_1
          try clear hcz14_2
          try clear hcz16_0
          try clear hcz16_1
          try clear hcz16_2
          try clear hcz18_0
          try clear hcz18_1
          try clear hcz18_2
          try clear hcz20_0
          try clear hcz20_1
          try clear hcz20_2
          try clear hcz25_0
          try clear hcz25_1
          try clear hcz25_2
          try clear hcz26_0
          try clear hcz26_1
          try clear hcz26_2
          try clear hcz28_0
          try clear hcz28_1
          try clear hcz28_2
          try clear hcz8_0
          try clear hcz8_1
          try clear hcz8_2
          try clear hfz10_0
          try clear hfz10_1
          try clear hfz10_2
          try clear hfz12_0
          try clear hfz12_1
          try clear hfz12_2
          try clear hfz14_0
          try clear hfz14_1
          try clear hfz14_2
          try clear hfz16_0
          try clear hfz16_1
          try clear hfz16_2
          try clear hfz18_0
          try clear hfz18_1
          try clear hfz18_2
          try clear hfz20_0
          try clear hfz20_1
          try clear hfz20_2
          try clear hfz25_0
          try clear hfz25_1
          try clear hfz25_2
          try clear hfz26_0
          try clear hfz26_1
          try clear hfz26_2
          try clear hfz28_0
          try clear hfz28_1
          try clear hfz28_2
          try clear hfz8_0
          try clear hfz8_1
          try clear hfz8_2
          try clear hx634_0
          try clear hx634_1
          try clear hx634_2
          try clear hx636_0
          try clear hx636_1
          try clear hx636_2
          try clear hx637_0
          try clear hx637_1
          try clear hx637_2
          try clear p2
          try clear p6
          try clear p634
          try clear p636
          try clear p637
          try clear q6
          try clear q634
          try clear q636
          try clear q637
          obtain ⟨x79_3, rfl, HA, HK3, BK635, HB⟩ := hrel
          cases gk with
          | zero => exact absurd HA.out (by simp [spec_l2Hunks.l1])
          | succ k3 =>
           have H := HA.out
           clear HA
           simp only [spec_l2Hunks.l1] at H
           by_cases c29 : x79_3 < (((rd_T106 l1 x11_1).f2).length : Int)
           ·rw [if_pos c29] at H
            have c29b0 : decide (x79_3 < (((rd_T106 l1 x11_1).f2).length : Int)) = true := decide_eq_true c29
            clear c29
            by_cases c30 : 0 ≤ x79_3
            ·rw [if_pos c30] at H
             have c30b0 : decide (0 ≤ x79_3) = true := decide_eq_true c30
             clear c30
             by_cases c31 : x79_3 < (((rd_T106 l1 x11_1).f2).length : Int)
             ·rw [if_pos c31] at H
              have c31b0 : decide (x79_3 < (((rd_T106 l1 x11_1).f2).length : Int)) = true := decide_eq_true c31
              clear c31
              replace H := Option.bind_eq_some_iff.mp H
              obtain ⟨t639, A320, H⟩ := H
              replace H : (if t639 = true then (spec_l2Hunks.l1 k3 a0 l1 l1 (l1.length : Int) x11_1 ((rd_T106 l1 x11_1).f2) (((rd_T106 l1 x11_1).f2).length : Int) (wrap64 (x79_3 + 1))) else (some false)) = some r := H
              have A32 := am A320
              clear A320
              by_cases c33 : t639 = true
              ·subst c33
               have H1 : (spec_l2Hunks.l1 k3 a0 l1 l1 (l1.length : Int) x11_1 ((rd_T106 l1 x11_1).f2) (((rd_T106 l1 x11_1).f2).length : Int) (wrap64 (x79_3 + 1))) = some r := by rw [if_pos rfl] at H; exact H
               clear H
               have H := H1
               clear H1
               have H' := am H
               clear H
               have p638 : 0 ≤ (x79_3 : Int) := oa
               have q638 : x79_3 < (((rd_T106 l1 x11_1).f2).length : Int) := oa
               obtain ⟨ad638, e638, hx638_0⟩ := Kd.at_string HR634_2.out x79_3 p638 q638
               cases e638
               replace hx638_0 := (HB.out.cell (World.block_lt_of_cell? w _ hx638_0)).trans hx638_0
               replace p638 := eq_true p638
               replace q638 := eq_true q638
               go_wp2_with (first | (go_at_call 73; (with_reducible refine (spec_l1Line.calls k3 (rdOf ByteArray.empty ((rd_T106 l1 x11_1).f2) x79_3) true _ A32.out).mono ?_); rintro e w' ⟨rfl, ⟨nd, rfl⟩⟩; (try exact zd)))
               repeat (go_quiet (first | (go_at_call 73; (with_reducible refine (spec_l1Line.calls k3 (rdOf ByteArray.empty ((rd_T106 l1 x11_1).f2) x79_3) true _ A32.out).mono ?_); rintro e w' ⟨rfl, ⟨nd, rfl⟩⟩; (try exact zd))); try go_wp2_with (first | (go_at_call 73; (with_reducible refine (spec_l1Line.calls k3 (rdOf ByteArray.empty ((rd_T106 l1 x11_1).f2) x79_3) true _ A32.out).mono ?_); rintro e w' ⟨rfl, ⟨nd, rfl⟩⟩; (try exact zd))))
               go_roundg k3
               case measure => have := HK1.out; have := HJ5.out; have := HK3.out; omega
               case rel => exact ⟨(wrap64 (x79_3 + 1)), zf, H', ⟨by have := HK1.out; have := HJ5.out; have := HK3.out; omega⟩, ⟨by (with_reducible repeat (first | refine blk_drewN ?_ _ | refine blk_drew ?_ | refine blk_alloc ?_ _)); exact BK635.out⟩, ⟨by repeat (first | (with_reducible first | exact HB.out | apply below_alloc | apply pw_below_drewN | apply below_drew1 | refine below_set ?_ GE635.out) | exact HB.out)⟩⟩
              ·replace c33 := Bool.eq_false_iff.mpr c33
               subst c33
               have H1 : (some false) = some r := by rw [if_neg (show ¬ (false = true) by decide)] at H; exact H
               clear H
               have H := H1
               clear H1
               obtain rfl := Option.some.inj H
               have p638 : 0 ≤ (x79_3 : Int) := oa
               have q638 : x79_3 < (((rd_T106 l1 x11_1).f2).length : Int) := oa
               obtain ⟨ad638, e638, hx638_0⟩ := Kd.at_string HR634_2.out x79_3 p638 q638
               cases e638
               replace hx638_0 := (HB.out.cell (World.block_lt_of_cell? w _ hx638_0)).trans hx638_0
               replace p638 := eq_true p638
               replace q638 := eq_true q638
               go_wp2_with (first | (go_at_call 73; (with_reducible refine (spec_l1Line.calls k3 (rdOf ByteArray.empty ((rd_T106 l1 x11_1).f2) x79_3) false _ A32.out).mono ?_); rintro e w' ⟨rfl, ⟨nd, rfl⟩⟩; (try exact zd)))
               repeat (go_quiet (first | (go_at_call 73; (with_reducible refine (spec_l1Line.calls k3 (rdOf ByteArray.empty ((rd_T106 l1 x11_1).f2) x79_3) false _ A32.out).mono ?_); rintro e w' ⟨rfl, ⟨nd, rfl⟩⟩; (try exact zd))); try go_wp2_with (first | (go_at_call 73; (with_reducible refine (spec_l1Line.calls k3 (rdOf ByteArray.empty ((rd_T106 l1 x11_1).f2) x79_3) false _ A32.out).mono ?_); rintro e w' ⟨rfl, ⟨nd, rfl⟩⟩; (try exact zd))))
               go_ret
               exact ⟨by first | rfl | (simp [errW_none, errW_some] <;> rfl) | (simp [*, errW_none, errW_some] <;> rfl), by repeat (first | (with_reducible first | exact HB.out | apply below_alloc | apply pw_below_drewN | apply below_drew1 | refine below_set ?_ GE635.out) | exact HB.out)⟩
             ·rw [if_neg c31] at H
              exact absurd H (by simp)
            ·rw [if_neg c30] at H
             exact absurd H (by simp)
           ·rw [if_neg c29] at H
            have c29b0 : decide (x79_3 < (((rd_T106 l1 x11_1).f2).length : Int)) = false := decide_eq_false c29
            clear c29
            have H' := am H
            clear H
            go_wp2
            repeat (go_quiet (fail); try go_wp2)
            go_roundg k3
            case measure => have := HK1.out; have := HJ5.out; have := HK3.out; omega
            case rel => exact ⟨(wrap64 (x11_1 + 1)), zf, H', ⟨by have := HK1.out; have := HJ5.out; have := HK3.out; omega⟩, ⟨by repeat (first | (with_reducible first | exact HB.out | apply below_alloc | apply pw_below_drewN | apply below_drew1 | refine below_set ?_ GE635.out) | exact HB.out)⟩⟩
     ·rw [if_neg c5] at H
      exact absurd H (by simp)
    ·rw [if_neg c4] at H
     exact absurd H (by simp)
   ·rw [if_neg c3] at H
    have c3b0 : decide (x11_1 < (l1.length : Int)) = false := decide_eq_false c3
    clear c3
    by_cases c34 : (l1.length : Int) ≤ 20
    ·rw [if_pos c34] at H
     have c34b0 : decide ((l1.length : Int) ≤ 20) = true := decide_eq_true c34
     have c34b1 : decide (l1.length ≤ 20) = true := decide_eq_true (by omega)
     clear c34
     replace H := Option.bind_eq_some_iff.mp H
     obtain ⟨t633, A350, H⟩ := H
     replace H : (some t633) = some r := H
     have A35 := am A350
     clear A350
     obtain rfl := Option.some.inj H
     go_wp2_with (first | (go_at_call 67; (with_reducible refine (spec_l1In.calls a0 0 40 t633 _ A35.out).mono ?_); rintro e w' ⟨rfl, ⟨nd, rfl⟩⟩; (try exact zd)))
     repeat (go_quiet (first | (go_at_call 67; (with_reducible refine (spec_l1In.calls a0 0 40 t633 _ A35.out).mono ?_); rintro e w' ⟨rfl, ⟨nd, rfl⟩⟩; (try exact zd))); try go_wp2_with (first | (go_at_call 67; (with_reducible refine (spec_l1In.calls a0 0 40 t633 _ A35.out).mono ?_); rintro e w' ⟨rfl, ⟨nd, rfl⟩⟩; (try exact zd))))
     go_ret
     exact ⟨by first | rfl | (simp [errW_none, errW_some] <;> rfl) | (simp [*, errW_none, errW_some] <;> rfl), by repeat (first | (with_reducible first | exact HB.out | apply below_alloc | apply pw_below_drewN | apply below_drew1) | exact HB.out)⟩
    ·rw [if_neg c34] at H
     have c34b0 : decide ((l1.length : Int) ≤ 20) = false := decide_eq_false c34
     have c34b1 : decide (l1.length ≤ 20) = false := decide_eq_false (by omega)
     clear c34
     obtain rfl := Option.some.inj H
     go_wp2
     repeat (go_quiet (fail); try go_wp2)
     go_ret
     exact ⟨by first | rfl | (simp [errW_none, errW_some] <;> rfl) | (simp [*, errW_none, errW_some] <;> rfl), by repeat (first | (with_reducible first | exact HB.out | apply below_alloc | apply pw_below_drewN | apply below_drew1) | exact HB.out)⟩
end Go.Proofs.Ytmcldkobejhaeaa.My
/- Written by this session's program (wip/gen): a plain function with the same answers as the Go function, and the proof that the Go code comes to them. Asked: that the plain function has an answer. -/
namespace Go.Proofs.Ytmcldkobejhaeaa.My
open Go.RowKit Go.Proofs.YtmcldkobejhaeaaW.PrintWords Go.Proofs.YtmcldkobejhaeaaW.PrintLast Go.Proofs.YtmcldkobejhaeaaW.PrintMore
attribute [local go_sem] max2_int min2_int max_two min_two max_three min_three max_four min_four
set_option linter.unusedVariables false
set_option linter.unusedSimpArgs false
def spec_l2Asked.f (k : Nat) (l0 : List ByteArray) (l1 : List (S106)) : Option (Bool) := (spec_l1Good.f k l0).bind fun t640 => (if t640 = true then ((spec_l2Hunks.f k (l0.length : Int) l1).bind fun t641 => (some t641)) else (some false))
set_option maxHeartbeats 8000000 in
set_option maxRecDepth 100000 in
theorem spec_l2Asked.calls (k : Nat) (A0 : Option Addr) (c0 : Nat) (l0 : List ByteArray) (A1 : Option Addr) (c1 : Nat) (l1 : List (S106)) (r : Bool) (w : World) (hr0 : Kd.C Kd.string w A0 l0.length l0) (hc0 : l0.length ≤ c0) (hr1 : Kd.C k106 w A1 l1.length l1) (hc1 : l1.length ≤ c1) (h : spec_l2Asked.f k l0 l1 = some r) :
  Calls Try.prog 84 #[.slice A0 l0.length c0, .slice A1 l1.length c1] w fun e w' => e = .returned (.bool r) ∧ Below w.heap.size w w' := by
 have HR0 := am hr0
 have HC0 := am hc0
 clear hr0 hc0
 have HR1 := am hr1
 have HC1 := am hc1
 clear hr1 hc1
 have HB := am (Below.refl w.heap.size w)
 have H : ((spec_l1Good.f k l0).bind fun t640 => (if t640 = true then ((spec_l2Hunks.f k (l0.length : Int) l1).bind fun t641 => (some t641)) else (some false))) = some r := h
 clear h
 replace H := Option.bind_eq_some_iff.mp H
 obtain ⟨t640, A30, H⟩ := H
 replace H : (if t640 = true then ((spec_l2Hunks.f k (l0.length : Int) l1).bind fun t641 => (some t641)) else (some false)) = some r := H
 have A3 := am A30
 clear A30
 by_cases c4 : t640 = true
 ·subst c4
  have H1 : ((spec_l2Hunks.f k (l0.length : Int) l1).bind fun t641 => (some t641)) = some r := by rw [if_pos rfl] at H; exact H
  clear H
  have H := H1
  clear H1
  replace H := Option.bind_eq_some_iff.mp H
  obtain ⟨t641, A50, H⟩ := H
  replace H : (some t641) = some r := H
  have A5 := am A50
  clear A50
  obtain rfl := Option.some.inj H
  go_enter Try.func84, Try.ntmps84
  go_wp2_with (first | ((with_reducible refine gateC (f := 66) rfl ?_); refine goesL_ (some 6) rfl rfl Try.func66 (by kernel_rfl) rfl #[.slice A0 l0.length c0] rfl zm ?_; (with_reducible refine (spec_l1Good.calls k _ _ l0 true _ ?side1 ?side2 A3.out).mono ?_); (case side1 => exact zq HR0.out); (case side2 => exact HC0.out); rintro e w' ⟨rfl, ⟨nd, rfl⟩⟩; refine ⟨_, rfl, ?_⟩) | (go_at_call 95; (with_reducible refine (spec_l2Hunks.calls k (l0.length : Int) _ _ l1 t641 _ ?side1 ?side2 A5.out).mono ?_); (case side1 => exact zq HR1.out); (case side2 => exact HC1.out); rintro e w6 ⟨rfl, hb⟩; have n0_ := am (below_step zb hb); clear HB; have HB := n0_; clear n0_; (try clear hb)))
  go_ret
  exact ⟨by first | rfl | (simp [errW_none, errW_some] <;> rfl) | (simp [*, errW_none, errW_some] <;> rfl), by repeat (first | (with_reducible first | exact HB.out | apply below_alloc | apply pw_below_drewN | apply below_drew1) | exact HB.out)⟩
 ·replace c4 := Bool.eq_false_iff.mpr c4
  subst c4
  have H1 : (some false) = some r := by rw [if_neg (show ¬ (false = true) by decide)] at H; exact H
  clear H
  have H := H1
  clear H1
  obtain rfl := Option.some.inj H
  go_enter Try.func84, Try.ntmps84
  go_wp2_with (first | ((with_reducible refine gateC (f := 66) rfl ?_); refine goesL_ (some 6) rfl rfl Try.func66 (by kernel_rfl) rfl #[.slice A0 l0.length c0] rfl zm ?_; (with_reducible refine (spec_l1Good.calls k _ _ l0 false _ ?side1 ?side2 A3.out).mono ?_); (case side1 => exact zq HR0.out); (case side2 => exact HC0.out); rintro e w' ⟨rfl, ⟨nd, rfl⟩⟩; refine ⟨_, rfl, ?_⟩))
  go_ret
  exact ⟨by first | rfl | (simp [errW_none, errW_some] <;> rfl) | (simp [*, errW_none, errW_some] <;> rfl), by repeat (first | (with_reducible first | exact HB.out | apply below_alloc | apply pw_below_drewN | apply below_drew1) | exact HB.out)⟩
end Go.Proofs.Ytmcldkobejhaeaa.My
/- Written by this session's program (wip/gen): a plain function with the same answers as the Go function, and the proof that the Go code comes to them. Asked: that the plain function has an answer. -/
namespace Go.Proofs.Ytmcldkobejhaeaa.My
open Go.RowKit Go.Proofs.YtmcldkobejhaeaaW.PrintWords Go.Proofs.YtmcldkobejhaeaaW.PrintLast Go.Proofs.YtmcldkobejhaeaaW.PrintMore
attribute [local go_sem] max2_int min2_int max_two min_two max_three min_three max_four min_four
set_option linter.unusedVariables false
set_option linter.unusedSimpArgs false
mutual
def spec_DrawTrimHunks.j0 : Nat → List ByteArray → List (S106) → Bool → List Int → Int → Int → Option (List ByteArray × (List (S106)) × Int × Int)
 | 0, _, _, _, _, _, _ => none
 | k + 1, x5, x6, x23, x1000, x1001, x1002 => if x23 = true then (spec_DrawTrimHunks.l0 k x5 x6 (x6.length : Int) 0 x1000 x1001 x1002) else (some (x5, x6, x1001, x1002))
def spec_DrawTrimHunks.l0 : Nat → List ByteArray → List (S106) → Int → Int → List Int → Int → Int → Option (List ByteArray × (List (S106)) × Int × Int)
 | 0, _, _, _, _, _, _, _ => none
 | k + 1, x5, x6, x25, x26, x1000, x1001, x1002 => if x26 < x25 then (if 0 ≤ x26 then (if x26 < (x6.length : Int) then (if ((rd_T106 x6 x26).f1) > 0 then (if 0 ≤ ((rd_T106 x6 x26).f0) then (if ((rd_T106 x6 x26).f0) < (x5.length : Int) then ((some (([rdOf ByteArray.empty x5 ((rd_T106 x6 x26).f0)] : List ByteArray) : List ByteArray)).bind fun y642 => (if y642.length + ((rd_T106 x6 x26).f2).length < 8796093022208 then (spec_DrawTrimHunks.l0 k x5 (x6.set (x26 : Int).toNat (⟨(rd_T106 x6 x26).f0, (rd_T106 x6 x26).f1, (y642 ++ ((rd_T106 x6 x26).f2))⟩ : S106)) x25 (wrap64 (x26 + 1)) x1000 x1001 x1002) else (none))) else (none)) else (none)) else (spec_DrawTrimHunks.l0 k x5 x6 x25 (wrap64 (x26 + 1)) x1000 x1001 x1002)) else (none)) else (none)) else (some (x5, x6, x1001, x1002))
end
def spec_DrawTrimHunks.g (k : Nat) (s0_0 : List Int) (s0_1 : Int) (s0_2 : Int) : Option (List ByteArray × (List (S106)) × Int × Int) := (spec_l1Cur_hunked.f k s0_0 s0_1 s0_2).bind fun bt627 => ((spec_l2Asked.f k bt627.1 bt627.2.1).bind fun t635 => (if t635 = true then ((spec_l1Cur_one.f s0_0 bt627.2.2.1 bt627.2.2.2 2).bind fun bt636 => (spec_DrawTrimHunks.j0 k bt627.1 bt627.2.1 bt636.1 s0_0 bt636.2.1 bt636.2.2)) else (spec_DrawTrimHunks.j0 k bt627.1 bt627.2.1 false s0_0 bt627.2.2.1 bt627.2.2.2)))
def spec_DrawTrimHunks.T8 : Bool × List (List Nat × List Nat) := (true, [([], []), ([], []), ([], []), ([], []), ([3], [3]), ([2, 4], [2, 4]), ([5], [5]), ([6], [6]), ([], []), ([8], [8]), ([7, 9], [7, 9]), ([0, 1, 0, 1, 2, 3, 4, 5, 6, 7, 8, 9, 10], [0, 1]), ([11, 0, 1, 2, 3, 4, 5, 6, 7, 8, 9, 10], [11]), ([12, 10, 10, 0, 1, 2, 3, 4, 5, 6, 7, 8, 9, 10], [10, 12])])
def spec_DrawTrimHunks.B8 : List Nat := [0, 0, 0, 0, 8, 28, 60, 124, 0, 256, 1020, 2047, 4095, 8191]
theorem spec_DrawTrimHunks.tab8 : rtab .any (opsOf Try.f28 8) = spec_DrawTrimHunks.T8 := by kernel_rfl
theorem spec_DrawTrimHunks.bits8 : waitsOk spec_DrawTrimHunks.T8.2 spec_DrawTrimHunks.B8 = true := by kernel_rfl
def spec_DrawTrimHunks.f (k : Nat) (l0 : List Int) : Option (List ByteArray × (List (S106))) := (spec_DrawTrimHunks.g k l0 0 0).bind fun r => some (r.1, r.2.1)
set_option maxHeartbeats 8000000 in
set_option maxRecDepth 100000 in
theorem spec_DrawTrimHunks.made (k : Nat) (A0 : Option Addr) (c0 : Nat) (l0 : List Int) (r1 : List ByteArray) (r2 : List (S106)) (r3 : Int) (r4 : Int) (w0 : World) (hr0 : Kd.C (Kd.int .u8) w0 A0 l0.length l0) (h : spec_DrawTrimHunks.g k l0 0 0 = some (r1, r2, r3, r4)) :
  Calls Try.prog 28 #[.slice A0 l0.length c0] w0 fun e w' => ∃ (g : Nat) (w : World), w0.heap.size ≤ w.heap.size ∧ ∃ v0_ v1_ : Value, e = .returned (.tuple #[v0_, v1_]) ∧ Kd.R Kd.string 9 w' w.heap.size (fun k_ => (w.heap.size ≤ k_)) v0_ r1 ∧ Kd.N k106 106 w' w.heap.size (fun k_ => (w.heap.size ≤ k_) ∧ some k_ ≠ (v0_ : Value).ownBlock) v1_ r2 ∧ IsS87 w0 w' g l0 r3 r4 ∧ Below w0.heap.size w0 w' ∧ KeepBut w w' g none := by
 have HR0 := am hr0
 clear hr0
 have HB := am (Below.refl w0.heap.size w0)
 have hu106 := Try.underlying106
 have H : ((spec_l1Cur_hunked.f k l0 0 0).bind fun bt627 => ((spec_l2Asked.f k bt627.1 bt627.2.1).bind fun t635 => (if t635 = true then ((spec_l1Cur_one.f l0 bt627.2.2.1 bt627.2.2.2 2).bind fun bt636 => (spec_DrawTrimHunks.j0 k bt627.1 bt627.2.1 bt636.1 l0 bt636.2.1 bt636.2.2)) else (spec_DrawTrimHunks.j0 k bt627.1 bt627.2.1 false l0 bt627.2.2.1 bt627.2.2.2)))) = some (r1, r2, r3, r4) := h
 clear h
 replace H := Option.bind_eq_some_iff.mp H
 obtain ⟨⟨t627, t630, t633, t634⟩, A20, H⟩ := H
 replace H : ((spec_l2Asked.f k t627 t630).bind fun t635 => (if t635 = true then ((spec_l1Cur_one.f l0 t633 t634 2).bind fun bt636 => (spec_DrawTrimHunks.j0 k t627 t630 bt636.1 l0 bt636.2.1 bt636.2.2)) else (spec_DrawTrimHunks.j0 k t627 t630 false l0 t633 t634))) = some (r1, r2, r3, r4) := H
 have A2 := am A20
 clear A20
 have HC3 := am H
 clear H
 go_enter Try.func28, Try.ntmps28
 go_upto_region 3 with (first | ((with_reducible refine gate_dst (N := 11) rfl ?_); refine box_event ?hg (N := 11) ?hd (cs := #[.slice A0 l0.length c0, .int .i64 0, .int .u64 0]) (t := 87) ?hr ?_; (case hd => rfl); (case hg => rfl); (case hr => first | (go_simp; done) | (go_simp; rfl)); intro g hg w hbox hb; have n0_ := am (show IsS87 w0 w g l0 0 0 from ⟨A0, c0, hbox, (by rw [hg]; exact below_size zb), HR0.out⟩); have n1_ := am (below_step zb hb); clear HB HR0; have HI0 := n0_; have HB := n1_; have HK := am (KeepBut.refl w g none); have HL := am HB.out.size; have HW0 := am HB.out.size; clear n0_ n1_ hb hbox hg) | ((with_reducible refine gateC (f := 83) rfl ?_); refine goesL_ (some 14) rfl rfl Try.func83 (by kernel_rfl) rfl #[.pointer (some ⟨g, 0, none⟩)] rfl zm ?_; (with_reducible refine (spec_l1Cur_hunked.calls k g l0 0 0 t627 t630 t633 t634 w0 _ ?side1 ?side2 A2.out).mono ?_); (case side1 => exact zi); (case side2 => exact zj); rintro e w4 ⟨v628, v631, rfl, ho0, ho1, hi, hb, hk⟩; refine ⟨_, rfl, ?_⟩; have n0_ := am (Kd.R_lower (Kd.R_newM (M := fun k_ => (w.heap.size ≤ k_)) ho0 (keep_size (w := w) (g := g) (row := none) zh) (fun k_ h_ => h_)) (keep_size (w := w) (g := g) (row := none) zh)); have n1_ := am (Kd.N_lower (Kd.N_mono (ok' := fun k_ => (w.heap.size ≤ k_) ∧ some k_ ≠ (v628 : Value).ownBlock ∧ k_ ≠ g) (Kd.S_N (Kd.S_bound ho1)) (fun k_ hk_ => ⟨(Nat.le_trans (keep_size (w := w) (g := g) (row := none) zh) hk_.2.1), hk_.1, (IsS87.fresh zi k_ hk_.2.1)⟩)) (keep_size (w := w) (g := g) (row := none) zh)); have n2_ := am (KeepBut.trans zh hk (.inl rfl)); have n3_ := am (hb); have n4_ := am (hi); clear HK; clear HB; clear HI0; have HO629 := n0_; have HO632 := n1_; have HK := n2_; have HB := n3_; have HI0 := n4_; clear n0_ n1_ n2_ n3_ n4_; (try clear hb); (try clear hk); (try clear hi); (try clear ho0); (try clear ho1)))
 (try simp only [Act.put, List.setIfInBounds_toArray, List.set_cons_zero, List.set_cons_succ])
 go_cut [23] (fun v23 wc => ∃ (kq : Nat) (x23_2 : Bool) (x1001_2 : Int) (x1002_2 : Int), v23 = .bool x23_2 ∧ Aside0 (spec_DrawTrimHunks.j0 kq t627 t630 x23_2 l0 x1001_2 x1002_2 = some (r1, r2, r3, r4)) ∧ Aside0 (kq ≤ k) ∧ Aside0 (Kd.R Kd.string 9 wc w.heap.size (fun k_ => (w.heap.size ≤ k_)) v628 t627) ∧ Aside0 (Kd.N k106 106 wc w.heap.size (fun k_ => (w.heap.size ≤ k_) ∧ some k_ ≠ (v628 : Value).ownBlock ∧ k_ ≠ g) v631 t630) ∧ Aside0 (IsS87 w0 wc g l0 x1001_2 x1002_2) ∧ Aside0 (KeepBut w wc g none) ∧ Aside0 (Below w0.heap.size w0 wc))
 case first =>
  have H := HC3.out
  clear HC3
  replace H := Option.bind_eq_some_iff.mp H
  obtain ⟨t635, A50, H⟩ := H
  replace H : (if t635 = true then ((spec_l1Cur_one.f l0 t633 t634 2).bind fun bt636 => (spec_DrawTrimHunks.j0 k t627 t630 bt636.1 l0 bt636.2.1 bt636.2.2)) else (spec_DrawTrimHunks.j0 k t627 t630 false l0 t633 t634)) = some (r1, r2, r3, r4) := H
  have A5 := am A50
  clear A50
  by_cases c6 : t635 = true
  ·subst c6
   have H1 : ((spec_l1Cur_one.f l0 t633 t634 2).bind fun bt636 => (spec_DrawTrimHunks.j0 k t627 t630 bt636.1 l0 bt636.2.1 bt636.2.2)) = some (r1, r2, r3, r4) := by rw [if_pos rfl] at H; exact H
   clear H
   have H := H1
   clear H1
   replace H := Option.bind_eq_some_iff.mp H
   obtain ⟨⟨t636, t637, t638⟩, A70, H⟩ := H
   replace H : (spec_DrawTrimHunks.j0 k t627 t630 t636 l0 t637 t638) = some (r1, r2, r3, r4) := H
   have A7 := am A70
   clear A70
   have H' := am H
   clear H
   obtain ⟨Ao8, co8, eo8⟩ := Kd.R_slice HO629.out
   subst eo8
   obtain ⟨Ao9, co9, eo9⟩ := Kd.N_slice HO632.out
   subst eo9
   go_wp2_with (first | ((with_reducible refine gateC (f := 84) rfl ?_); refine goesL_ (some 19) rfl rfl Try.func84 (by kernel_rfl) rfl #[.slice Ao8 t627.length co8, .slice Ao9 t630.length co9] rfl zm ?_; (with_reducible refine (spec_l2Asked.calls k _ _ t627 _ _ t630 true _ ?side1 ?side2 ?side3 ?side4 A5.out).mono ?_); (case side1 => repeat (first | exact (Kd.R_reads' HO629.out).2.2 | (with_reducible refine Kd.C_alloc ?_ _) | (with_reducible refine Kd.C_drewN ?_ _) | (with_reducible refine Kd.C_drew ?_))); (case side2 => exact (Kd.R_reads' HO629.out).2.1); (case side3 => repeat (first | exact (Kd.N_reads' HO632.out).2.2 | (with_reducible refine Kd.C_alloc ?_ _) | (with_reducible refine Kd.C_drewN ?_ _) | (with_reducible refine Kd.C_drew ?_))); (case side4 => exact (Kd.N_reads' HO632.out).2.1); rintro e w10 ⟨rfl, hb⟩; refine ⟨_, rfl, ?_⟩; have n0_ := am (Kd.R_below (zr HO629.out) hb); have n1_ := am (Kd.N_below (zN HO632.out) hb); have n2_ := am (IsS87.below zi hb); have n3_ := am (KeepBut.trans zh (KeepBut.of_below hb g none) (.inl rfl)); have n4_ := am (below_step zj hb); clear HO629; clear HO632; clear HI0; clear HK; clear HB; have HO629 := n0_; have HO632 := n1_; have HI0 := n2_; have HK := n3_; have HB := n4_; clear n0_ n1_ n2_ n3_ n4_; (try clear hb)) | (go_at_call 85; (with_reducible refine (spec_l1Cur_one.calls g l0 t633 t634 2 t636 t637 t638 w0 _ ?side1 ?side2 A7.out).mono ?_); (case side1 => exact zi); (case side2 => exact zj); rintro e w11 ⟨rfl, hi, hb, hk⟩; have n0_ := am (Kd.R_mono (Kd.R_keep (IsS87.apart (show IsS87 w0 _ g l0 t633 t634 from zi) (zr HO629.out) (by decide)) hk (fun _ h => h.2)) (fun _ h => h.1)); have n1_ := am (Kd.N_mono (Kd.N_keep (Kd.N_mono (ok := fun k_ => (((w.heap.size ≤ k_)) ∧ (some k_ ≠ (.slice Ao8 t627.length co8 : Value).ownBlock ∧ k_ ≠ g))) (zN HO632.out) (fun k_ hk_ => (⟨hk_, hk_.2.2⟩ : _ ∧ k_ ≠ g))) hk (fun _ h => h.2)) (fun _ h => h.1)); have n2_ := am (KeepBut.trans zh hk (.inl rfl)); have n3_ := am (hb); have n4_ := am (hi); clear HO629; clear HO632; clear HK; clear HB; clear HI0; have HO629 := n0_; have HO632 := n1_; have HK := n2_; have HB := n3_; have HI0 := n4_; clear n0_ n1_ n2_ n3_ n4_; (try clear hb); (try clear hk); (try clear hi)))
   go_meet
   case rel => exact ⟨_, (t636), (t637), (t638), zf, H', ⟨by first | omega | exact Nat.le_refl _⟩, ⟨by (with_reducible repeat (first | apply Kd.R_alloc | apply Kd.R_drewN | apply Kd.R_drew)); exact Kd.R_mono HO629.out (fun _ hk => hk.1)⟩, ⟨by (with_reducible repeat (first | apply Kd.N_alloc | apply Kd.N_drewN | apply Kd.N_drew)); exact HO632.out⟩, ⟨by repeat (first | (with_reducible first | exact HI0.out | apply IsS87.alloc | apply IsS87.drewN | apply IsS87.drew | apply IsS87.set_1 | apply IsS87.set_2) | exact HI0.out)⟩, ⟨by repeat (first | (with_reducible first | exact HK.out | apply KeepBut.set_ | apply keep_drewN | apply keep_drew | apply keep_alloc) | exact HK.out)⟩, ⟨by repeat (first | (with_reducible first | exact HB.out | apply below_alloc | apply pw_below_drewN | apply below_drew1 | refine below_set ?_ (IsS87.ge HI0.out)) | exact HB.out)⟩⟩
  ·replace c6 := Bool.eq_false_iff.mpr c6
   subst c6
   have H1 : (spec_DrawTrimHunks.j0 k t627 t630 false l0 t633 t634) = some (r1, r2, r3, r4) := by rw [if_neg (show ¬ (false = true) by decide)] at H; exact H
   clear H
   have H := H1
   clear H1
   have H' := am H
   clear H
   obtain ⟨Ao12, co12, eo12⟩ := Kd.R_slice HO629.out
   subst eo12
   obtain ⟨Ao13, co13, eo13⟩ := Kd.N_slice HO632.out
   subst eo13
   go_wp2_with (first | ((with_reducible refine gateC (f := 84) rfl ?_); refine goesL_ (some 19) rfl rfl Try.func84 (by kernel_rfl) rfl #[.slice Ao12 t627.length co12, .slice Ao13 t630.length co13] rfl zm ?_; (with_reducible refine (spec_l2Asked.calls k _ _ t627 _ _ t630 false _ ?side1 ?side2 ?side3 ?side4 A5.out).mono ?_); (case side1 => repeat (first | exact (Kd.R_reads' HO629.out).2.2 | (with_reducible refine Kd.C_alloc ?_ _) | (with_reducible refine Kd.C_drewN ?_ _) | (with_reducible refine Kd.C_drew ?_))); (case side2 => exact (Kd.R_reads' HO629.out).2.1); (case side3 => repeat (first | exact (Kd.N_reads' HO632.out).2.2 | (with_reducible refine Kd.C_alloc ?_ _) | (with_reducible refine Kd.C_drewN ?_ _) | (with_reducible refine Kd.C_drew ?_))); (case side4 => exact (Kd.N_reads' HO632.out).2.1); rintro e w14 ⟨rfl, hb⟩; refine ⟨_, rfl, ?_⟩; have n0_ := am (Kd.R_below (zr HO629.out) hb); have n1_ := am (Kd.N_below (zN HO632.out) hb); have n2_ := am (IsS87.below zi hb); have n3_ := am (KeepBut.trans zh (KeepBut.of_below hb g none) (.inl rfl)); have n4_ := am (below_step zj hb); clear HO629; clear HO632; clear HI0; clear HK; clear HB; have HO629 := n0_; have HO632 := n1_; have HI0 := n2_; have HK := n3_; have HB := n4_; clear n0_ n1_ n2_ n3_ n4_; (try clear hb)))
   go_meet
   case rel => exact ⟨_, (false), (t633), (t634), zf, H', ⟨by first | omega | exact Nat.le_refl _⟩, ⟨by (with_reducible repeat (first | apply Kd.R_alloc | apply Kd.R_drewN | apply Kd.R_drew)); exact Kd.R_mono HO629.out (fun _ hk => hk.1)⟩, ⟨by (with_reducible repeat (first | apply Kd.N_alloc | apply Kd.N_drewN | apply Kd.N_drew)); exact HO632.out⟩, ⟨by repeat (first | (with_reducible first | exact HI0.out | apply IsS87.alloc | apply IsS87.drewN | apply IsS87.drew | apply IsS87.set_1 | apply IsS87.set_2) | exact HI0.out)⟩, ⟨by repeat (first | (with_reducible first | exact HK.out | apply KeepBut.set_ | apply keep_drewN | apply keep_drew | apply keep_alloc) | exact HK.out)⟩, ⟨by repeat (first | (with_reducible first | exact HB.out | apply below_alloc | apply pw_below_drewN | apply below_drew1 | refine below_set ?_ (IsS87.ge HI0.out)) | exact HB.out)⟩⟩
 case rest =>
  clear HC3
  try clear c2
  try clear p2
  try clear c6
  try clear c8
  obtain ⟨kq, x23_2, x1001_2, x1002_2, rfl, HA, HJ2, HO_5, HO_6, HI0, HK, HB⟩ := hcut
  cases kq with
  | zero => exact absurd HA.out (by simp [spec_DrawTrimHunks.j0])
  | succ kj2 =>
   have H := HA.out
   clear HA
   simp only [spec_DrawTrimHunks.j0] at H
   by_cases c15 : x23_2 = true
   ·subst c15
    have H1 : (spec_DrawTrimHunks.l0 kj2 t627 t630 (t630.length : Int) 0 l0 x1001_2 x1002_2) = some (r1, r2, r3, r4) := by rw [if_pos rfl] at H; exact H
    clear H
    have H := H1
    clear H1
    have H' := am H
    clear H
    obtain ⟨Ao16, co16, eo16⟩ := Kd.N_slice HO_6.out
    subst eo16
    go_wp2
    go_loopg [26] kj2 (fun kq v26 w' => ∃ (x6_2 : List (S106)) (x26_2 : Int), v26 = .int .i64 x26_2 ∧ Aside0 (spec_DrawTrimHunks.l0 kq t627 x6_2 (t630.length : Int) x26_2 l0 x1001_2 x1002_2 = some (r1, r2, r3, r4)) ∧ Aside0 (kq ≤ kj2) ∧ Aside0 (Kd.R Kd.string 9 w' w.heap.size (fun k_ => (w.heap.size ≤ k_)) v628 t627) ∧ Aside0 (Kd.N k106 106 w' w.heap.size (fun k_ => (w.heap.size ≤ k_) ∧ some k_ ≠ (v628 : Value).ownBlock ∧ k_ ≠ g) (.slice Ao16 t630.length co16) x6_2) ∧ Aside0 (IsS87 w0 w' g l0 x1001_2 x1002_2) ∧ Aside0 (KeepBut w w' g none) ∧ Aside0 (Below w0.heap.size w0 w'))
    case atStart => exact ⟨(t630), (0), zf, H', ⟨Nat.le_refl _⟩, ⟨by (with_reducible repeat (first | apply Kd.R_alloc | apply Kd.R_drewN | apply Kd.R_drew)); exact HO_5.out⟩, ⟨by (with_reducible repeat (first | apply Kd.N_alloc | apply Kd.N_drewN | apply Kd.N_drew)); exact HO_6.out⟩, ⟨by repeat (first | (with_reducible first | exact HI0.out | apply IsS87.alloc | apply IsS87.drewN | apply IsS87.drew | apply IsS87.set_1 | apply IsS87.set_2) | exact HI0.out)⟩, ⟨by repeat (first | (with_reducible first | exact HK.out | apply KeepBut.set_ | apply keep_drewN | apply keep_drew | apply keep_alloc) | exact HK.out)⟩, ⟨by repeat (first | (with_reducible first | exact HB.out | apply below_alloc | apply pw_below_drewN | apply below_drew1 | refine below_set ?_ (IsS87.ge HI0.out)) | exact HB.out)⟩⟩
    case round =>
     clear H'
     try clear c1
     try clear c2
     try clear p2
     try clear c6
     try clear c8
     try clear c15
     try clear p2
     obtain ⟨x6_2, x26_2, rfl, HA, HK2, HO_5, HO_6, HI0, HK, HB⟩ := hrel
     have hl6_2 := (Kd.N_reads' HO_6.out).1
     rw [hl6_2] at HO_6
     (try simp only [hl6_2])
     (try simp only [hl6_2] at HO_5)
     cases gk with
     | zero => exact absurd HA.out (by simp [spec_DrawTrimHunks.l0])
     | succ k2 =>
      have H := HA.out
      clear HA
      simp only [spec_DrawTrimHunks.l0] at H
      by_cases c17 : x26_2 < (t630.length : Int)
      ·rw [if_pos c17] at H
       have c17b0 : decide (x26_2 < (t630.length : Int)) = true := decide_eq_true c17
       (try (have c17b0h := c17b0; simp only [hl6_2] at c17b0h))
       clear c17
       by_cases c18 : 0 ≤ x26_2
       ·rw [if_pos c18] at H
        have c18b0 : decide (0 ≤ x26_2) = true := decide_eq_true c18
        (try (have c18b0h := c18b0; simp only [hl6_2] at c18b0h))
        clear c18
        by_cases c19 : x26_2 < (x6_2.length : Int)
        ·rw [if_pos c19] at H
         have c19b0 : decide (x26_2 < (x6_2.length : Int)) = true := decide_eq_true c19
         (try (have c19b0h := c19b0; simp only [hl6_2] at c19b0h))
         clear c19
         by_cases c20 : ((rd_T106 x6_2 x26_2).f1) > 0
         ·rw [if_pos c20] at H
          have c20b0 : decide (0 < ((rd_T106 x6_2 x26_2).f1)) = true := decide_eq_true c20
          (try (have c20b0h := c20b0; simp only [hl6_2] at c20b0h))
          clear c20
          by_cases c21 : 0 ≤ ((rd_T106 x6_2 x26_2).f0)
          ·rw [if_pos c21] at H
           have c21b0 : decide (0 ≤ ((rd_T106 x6_2 x26_2).f0)) = true := decide_eq_true c21
           (try (have c21b0h := c21b0; simp only [hl6_2] at c21b0h))
           clear c21
           by_cases c22 : ((rd_T106 x6_2 x26_2).f0) < (t627.length : Int)
           ·rw [if_pos c22] at H
            have c22b0 : decide (((rd_T106 x6_2 x26_2).f0) < (t627.length : Int)) = true := decide_eq_true c22
            (try (have c22b0h := c22b0; simp only [hl6_2] at c22b0h))
            clear c22
            obtain ⟨y642, hy642⟩ : ∃ y_ : List ByteArray, y_ = (([rdOf ByteArray.empty t627 ((rd_T106 x6_2 x26_2).f0)] : List ByteArray)) := ⟨_, rfl⟩
            replace H : (if y642.length + ((rd_T106 x6_2 x26_2).f2).length < 8796093022208 then (spec_DrawTrimHunks.l0 k2 t627 (x6_2.set (x26_2 : Int).toNat (⟨(rd_T106 x6_2 x26_2).f0, (rd_T106 x6_2 x26_2).f1, (y642 ++ ((rd_T106 x6_2 x26_2).f2))⟩ : S106)) (t630.length : Int) (wrap64 (x26_2 + 1)) l0 x1001_2 x1002_2) else (none)) = some (r1, r2, r3, r4) := by first | (rw [hy642]; with_reducible exact H) | (have H2_ := (Option.bind_some _ _).symm.trans H; rw [hy642]; with_reducible exact H2_) | (have H2_ := (Option.bind_some _ _).symm.trans H; with_reducible exact H2_) | with_reducible exact H | (rw [hy642]; exact H) | exact H
            have Ny642 := am hy642
            clear hy642
            by_cases c23 : y642.length + ((rd_T106 x6_2 x26_2).f2).length < 8796093022208
            ·rw [if_pos c23] at H
             have LMc23 := am c23
             clear c23
             obtain ⟨y645, hy645⟩ : ∃ y_ : List ByteArray, y_ = (y642 ++ ((rd_T106 x6_2 x26_2).f2)) := ⟨_, rfl⟩
             replace H : (spec_DrawTrimHunks.l0 k2 t627 (x6_2.set (x26_2 : Int).toNat (⟨(rd_T106 x6_2 x26_2).f0, (rd_T106 x6_2 x26_2).f1, y645⟩ : S106)) (t630.length : Int) (wrap64 (x26_2 + 1)) l0 x1001_2 x1002_2) = some (r1, r2, r3, r4) := by first | (rw [hy645]; with_reducible exact H) | (have H2_ := (Option.bind_some _ _).symm.trans H; rw [hy645]; with_reducible exact H2_) | (have H2_ := (Option.bind_some _ _).symm.trans H; with_reducible exact H2_) | with_reducible exact H | (rw [hy645]; exact H) | exact H
             have Ny645 := am hy645
             clear hy645
             obtain ⟨y648, hy648⟩ : ∃ y_ : List (S106), y_ = (x6_2.set (x26_2 : Int).toNat (⟨(rd_T106 x6_2 x26_2).f0, (rd_T106 x6_2 x26_2).f1, y645⟩ : S106)) := ⟨_, rfl⟩
             replace H : (spec_DrawTrimHunks.l0 k2 t627 y648 (t630.length : Int) (wrap64 (x26_2 + 1)) l0 x1001_2 x1002_2) = some (r1, r2, r3, r4) := by first | (rw [hy648]; with_reducible exact H) | (have H2_ := (Option.bind_some _ _).symm.trans H; rw [hy648]; with_reducible exact H2_) | (have H2_ := (Option.bind_some _ _).symm.trans H; with_reducible exact H2_) | with_reducible exact H | (rw [hy648]; exact H) | exact H
             have Ny648 := am hy648
             clear hy648
             have H' := am H
             clear H
             have p639 : 0 ≤ (x26_2 : Int) := oa
             have q639 : x26_2 < (x6_2.length : Int) := oa
             obtain ⟨ad639, A639_2, c639_2, e639, hx639_0, hx639_1, hx639_2, hl639_2, hi639_2⟩ := at_T106 (Kd.N_reads' HO_6.out).2.2 x26_2 p639 q639
             cases e639
             obtain ⟨ce639, hce639, hMe639, hcc639⟩ := Kd.N_get HO_6.out z106 x26_2 p639 (by first | exact q639 | exact oa | (have e_ := (Kd.N_reads' HO_6.out).1; omega))
             obtain ⟨ua639_2, uc639_2, rfl, ul639_2, ge639_2⟩ := k106_openF hMe639
             have hv639_2 := hcc639 2 _ rfl
             rw [add_field _ _ 2 (by omega)] at hv639_2
             replace hv639_2 := Option.some.inj (hv639_2.symm.trans hx639_2)
             injection hv639_2 with hva_ hvn_ hvc_
             rw [hva_] at ge639_2
             rw [hvc_] at ul639_2
             have HL639_2 := am (show Kd.V Kd.string 9 _ w.heap.size _ _ ((rd_T106 x6_2 x26_2).f2) from Kd.V_mk ul639_2 ge639_2)
             clear hva_ hvn_ hvc_ ge639_2 ul639_2
             clear hcc639 hce639
             have HR639_2 := am hi639_2
             have HC639_2 := am hl639_2
             clear hi639_2 hl639_2
             replace p639 := eq_true p639
             replace q639 := eq_true q639
             try go_wp2_with (first | ((with_reducible refine gate_dst (N := 8) rfl ?_); refine box_event ?hg (N := 8) ?hd (cs := #[.int .i64 0, .int .i64 0, .slice none 0 0]) (t := 106) ?hr ?_; (case hd => rfl); (case hg => rfl); (case hr => first | (go_simp; done) | (go_simp; rfl)); intro gb640 hg w25 hbox hb; have n0_ := am (Kd.R_below (zr HO_5.out) hb); have n1_ := am (Kd.N_below (Kd.N_elderB (zN HO_6.out) gb640 (Nat.le_of_eq hg.symm)) hb); have n2_ := am (Kd.V_below (Kd.V_elderB (by (with_reducible repeat (first | apply Kd.V_alloc | apply Kd.V_drewN | apply Kd.V_drew)); exact HL639_2.out) gb640 (Nat.le_of_eq hg.symm)) hb); have n3_ := am (IsS87.below zi hb); have n4_ := am (Kd.C_below (by repeat (first | (with_reducible exact HR639_2.out) | (with_reducible refine Kd.C_alloc ?_ _) | (with_reducible refine Kd.C_drewN ?_ _) | (with_reducible refine Kd.C_drew ?_) | exact HR639_2.out)) hb); have n5_ := am (KeepBut.trans zh (KeepBut.of_below hb g none) (.inl rfl)); have n6_ := am (below_step zj hb); have n7_ := am (hbox); have n8_ := am ((by rw [hg]; exact (keep_size (w := w) (g := g) (row := none) zh) : w.heap.size ≤ gb640)); have n9_ := am ((Nat.le_trans HW0.out (by rw [hg]; exact (keep_size (w := w) (g := g) (row := none) zh) : w.heap.size ≤ gb640) : w0.heap.size ≤ gb640)); have n10_ := am ((by rw [hg]; exact Nat.ne_of_lt (IsS87.lt (show IsS87 w0 _ g l0 x1001_2 x1002_2 from zi)) : g ≠ gb640)); have n11_ := am ((by rw [hg]; exact Nat.ne_of_gt (IsS87.lt (show IsS87 w0 _ g l0 x1001_2 x1002_2 from zi)) : gb640 ≠ g)); clear HO_5; clear HO_6; clear HL639_2; clear HI0; clear HR639_2; clear HK; clear HB; have HO_5 := n0_; have HO_6 := n1_; have HL639_2 := n2_; have HI0 := n3_; have HR639_2 := n4_; have HK := n5_; have HB := n6_; have BK640 := n7_; have GW640 := n8_; have GE640 := n9_; have NB0_640 := n10_; have NB640_0 := n11_; clear n0_ n1_ n2_ n3_ n4_ n5_ n6_ n7_ n8_ n9_ n10_ n11_; clear hb hbox hg; have hnb26 := NB640_0.out; have hnc26 := NB0_640.out; have hcz27_0 : w25.cell? ⟨gb640, 0, none⟩ = some (.int .i64 0) := (blk_cell BK640.out 0).trans rfl; have hcz27_1 : w25.cell? ⟨gb640, 1, none⟩ = some (.int .i64 0) := (blk_cell BK640.out 1).trans rfl; have hcz27_2 : w25.cell? ⟨gb640, 2, none⟩ = some (.slice none 0 0) := (blk_cell BK640.out 2).trans rfl; have hfz27_0 := blk_frozen BK640.out 0; have hfz27_1 := blk_frozen BK640.out 1; have hfz27_2 := blk_frozen BK640.out 2))
             have n0_ : Aside0 (Kd.R Kd.string 9 (((w25.setCell ⟨gb640, 0, none⟩ (.int .i64 ((rd_T106 x6_2 x26_2).f0))).setCell ⟨gb640, 1, none⟩ (.int .i64 ((rd_T106 x6_2 x26_2).f1))).setCell ⟨gb640, 2, none⟩ (.slice A639_2 ((rd_T106 x6_2 x26_2).f2).length c639_2)) w.heap.size (fun k_ => (w.heap.size ≤ k_)) v628 t627) := ⟨by (with_reducible repeat (first | apply Kd.R_alloc | apply Kd.R_drewN | apply Kd.R_drew)); exact Kd.R_mono (Kd.R_far (p := ⟨gb640, 2, none⟩) (Kd.R_far (p := ⟨gb640, 1, none⟩) (Kd.R_far (p := ⟨gb640, 0, none⟩) (Kd.R_types HO_5.out BK640.out (by decide)) (fun _ hk => hk.2) (.int .i64 ((rd_T106 x6_2 x26_2).f0))) (fun _ hk => hk.2) (.int .i64 ((rd_T106 x6_2 x26_2).f1))) (fun _ hk => hk.2) (.slice A639_2 ((rd_T106 x6_2 x26_2).f2).length c639_2)) (fun _ hk => hk.1)⟩
             have n1_ : Aside0 (Kd.N k106 106 (((w25.setCell ⟨gb640, 0, none⟩ (.int .i64 ((rd_T106 x6_2 x26_2).f0))).setCell ⟨gb640, 1, none⟩ (.int .i64 ((rd_T106 x6_2 x26_2).f1))).setCell ⟨gb640, 2, none⟩ (.slice A639_2 ((rd_T106 x6_2 x26_2).f2).length c639_2)) w.heap.size (fun k_ => (w.heap.size ≤ k_) ∧ some k_ ≠ (v628 : Value).ownBlock ∧ k_ ≠ g ∧ k_ ≠ gb640) (.slice (some ad639) x6_2.length co16) x6_2) := ⟨by (with_reducible repeat (first | apply Kd.N_alloc | apply Kd.N_drewN | apply Kd.N_drew)); exact Kd.N_mono (Kd.N_far (p := ⟨gb640, 2, none⟩) (Kd.N_far (p := ⟨gb640, 1, none⟩) (Kd.N_far (p := ⟨gb640, 0, none⟩) (Kd.N_mono HO_6.out (fun k_ hk => (⟨hk, hk.2⟩ : _ ∧ k_ ≠ gb640))) (fun _ hk => hk.2) (.int .i64 ((rd_T106 x6_2 x26_2).f0))) (fun _ hk => hk.2) (.int .i64 ((rd_T106 x6_2 x26_2).f1))) (fun _ hk => hk.2) (.slice A639_2 ((rd_T106 x6_2 x26_2).f2).length c639_2)) (fun _ hk => ⟨hk.1.1.1, ⟨hk.1.1.2.1, ⟨hk.1.1.2.2, hk.1.2⟩⟩⟩)⟩
             have n2_ : Aside0 (Kd.V Kd.string 9 (((w25.setCell ⟨gb640, 0, none⟩ (.int .i64 ((rd_T106 x6_2 x26_2).f0))).setCell ⟨gb640, 1, none⟩ (.int .i64 ((rd_T106 x6_2 x26_2).f1))).setCell ⟨gb640, 2, none⟩ (.slice A639_2 ((rd_T106 x6_2 x26_2).f2).length c639_2)) w.heap.size (fun k_ => (w.heap.size ≤ k_) ∧ some k_ ≠ (v628 : Value).ownBlock ∧ some k_ ≠ (.slice (some ad639) x6_2.length co16 : Value).ownBlock ∧ k_ ≠ g ∧ k_ ≠ gb640) (.slice A639_2 ((rd_T106 x6_2 x26_2).f2).length c639_2) ((rd_T106 x6_2 x26_2).f2)) := ⟨by (with_reducible repeat (first | apply Kd.V_alloc | apply Kd.V_drewN | apply Kd.V_drew)); exact Kd.V_mono (Kd.V_far (p := ⟨gb640, 2, none⟩) (Kd.V_far (p := ⟨gb640, 1, none⟩) (Kd.V_far (p := ⟨gb640, 0, none⟩) (Kd.V_mono HL639_2.out (fun k_ hk => (⟨hk, hk.2⟩ : _ ∧ k_ ≠ gb640))) (fun _ hk => hk.2) (.int .i64 ((rd_T106 x6_2 x26_2).f0))) (fun _ hk => hk.2) (.int .i64 ((rd_T106 x6_2 x26_2).f1))) (fun _ hk => hk.2) (.slice A639_2 ((rd_T106 x6_2 x26_2).f2).length c639_2)) (fun _ hk => ⟨hk.1.1.1.1, ⟨hk.1.1.1.2.1, ⟨hk.1.1.2, ⟨hk.1.1.1.2.2, hk.1.2⟩⟩⟩⟩)⟩
             have n3_ : Aside0 ((((w25.setCell ⟨gb640, 0, none⟩ (.int .i64 ((rd_T106 x6_2 x26_2).f0))).setCell ⟨gb640, 1, none⟩ (.int .i64 ((rd_T106 x6_2 x26_2).f1))).setCell ⟨gb640, 2, none⟩ (.slice A639_2 ((rd_T106 x6_2 x26_2).f2).length c639_2)).heap[gb640]? = some (.cells #[.int .i64 ((rd_T106 x6_2 x26_2).f0), .int .i64 ((rd_T106 x6_2 x26_2).f1), .slice A639_2 ((rd_T106 x6_2 x26_2).f2).length c639_2] 106 (0, 0))) := ⟨by (with_reducible repeat (first | refine blk_drewN ?_ _ | refine blk_drew ?_ | refine blk_alloc ?_ _)); refine blk_put (cs := #[.int .i64 ((rd_T106 x6_2 x26_2).f0), .int .i64 ((rd_T106 x6_2 x26_2).f1), .slice none 0 0]) ?_ 2 _ rfl; (with_reducible repeat (first | refine blk_drewN ?_ _ | refine blk_drew ?_ | refine blk_alloc ?_ _)); refine blk_put (cs := #[.int .i64 ((rd_T106 x6_2 x26_2).f0), .int .i64 0, .slice none 0 0]) ?_ 1 _ rfl; (with_reducible repeat (first | refine blk_drewN ?_ _ | refine blk_drew ?_ | refine blk_alloc ?_ _)); refine blk_put (cs := #[.int .i64 0, .int .i64 0, .slice none 0 0]) ?_ 0 _ rfl; (with_reducible repeat (first | refine blk_drewN ?_ _ | refine blk_drew ?_ | refine blk_alloc ?_ _)); exact BK640.out⟩
             have n4_ : Aside0 (IsS87 w0 (((w25.setCell ⟨gb640, 0, none⟩ (.int .i64 ((rd_T106 x6_2 x26_2).f0))).setCell ⟨gb640, 1, none⟩ (.int .i64 ((rd_T106 x6_2 x26_2).f1))).setCell ⟨gb640, 2, none⟩ (.slice A639_2 ((rd_T106 x6_2 x26_2).f2).length c639_2)) g l0 x1001_2 x1002_2) := ⟨by repeat (first | (with_reducible first | exact HI0.out | apply IsS87.alloc | apply IsS87.drewN | apply IsS87.drew | apply IsS87.set_1 | apply IsS87.set_2 | refine IsS87.far ?_ NB0_640.out _) | exact HI0.out)⟩
             have n5_ : Aside0 (KeepBut w (((w25.setCell ⟨gb640, 0, none⟩ (.int .i64 ((rd_T106 x6_2 x26_2).f0))).setCell ⟨gb640, 1, none⟩ (.int .i64 ((rd_T106 x6_2 x26_2).f1))).setCell ⟨gb640, 2, none⟩ (.slice A639_2 ((rd_T106 x6_2 x26_2).f2).length c639_2)) g none) := ⟨by repeat (first | (with_reducible first | exact HK.out | apply KeepBut.set_ | apply keep_drewN | apply keep_drew | apply keep_alloc | refine keep_far ?_ GW640.out _) | exact HK.out)⟩
             have n6_ : Aside0 (Below w0.heap.size w0 (((w25.setCell ⟨gb640, 0, none⟩ (.int .i64 ((rd_T106 x6_2 x26_2).f0))).setCell ⟨gb640, 1, none⟩ (.int .i64 ((rd_T106 x6_2 x26_2).f1))).setCell ⟨gb640, 2, none⟩ (.slice A639_2 ((rd_T106 x6_2 x26_2).f2).length c639_2))) := ⟨by repeat (first | (with_reducible first | exact HB.out | apply below_alloc | apply pw_below_drewN | apply below_drew1 | refine below_set ?_ (IsS87.ge HI0.out) | refine below_set ?_ GE640.out) | exact HB.out)⟩
             (try clear HO_5)
             (try clear HO_6)
             (try clear HL639_2)
             (try clear BK640)
             (try clear HI0)
             (try clear HK)
             (try clear HB)
             (try simp only [show ∀ (w_ : World) (n_ : Nat) (p_ : Addr) (v_ : Value), (w_.drewN n_).setCell p_ v_ = (w_.setCell p_ v_).drewN n_ from fun _ _ _ _ => rfl])
             generalize (((w25.setCell ⟨gb640, 0, none⟩ (.int .i64 ((rd_T106 x6_2 x26_2).f0))).setCell ⟨gb640, 1, none⟩ (.int .i64 ((rd_T106 x6_2 x26_2).f1))).setCell ⟨gb640, 2, none⟩ (.slice A639_2 ((rd_T106 x6_2 x26_2).f2).length c639_2)) = w28 at n0_ n1_ n2_ n3_ n4_ n5_ n6_ ⊢
             have HO_5 := n0_
             have HO_6 := n1_
             have HL639_2 := n2_
             have BK640 := n3_
             have HI0 := n4_
             have HK := n5_
             have HB := n6_
             clear n0_ n1_ n2_ n3_ n4_ n5_ n6_
             have n0_ := am (Kd.R_drew HO_5.out)
             have n1_ := am (Kd.N_drew HO_6.out)
             have n2_ := am (Kd.V_drew HL639_2.out)
             have n3_ := am (blk_drew BK640.out)
             have n4_ := am (IsS87.drew HI0.out)
             have n5_ := am (keep_drew HK.out)
             have n6_ := am (below_drew1 HB.out)
             clear HO_5
             clear HO_6
             clear HL639_2
             clear BK640
             clear HI0
             clear HK
             clear HB
             have HO_5 := n0_
             have HO_6 := n1_
             have HL639_2 := n2_
             have BK640 := n3_
             have HI0 := n4_
             have HK := n5_
             have HB := n6_
             clear n0_ n1_ n2_ n3_ n4_ n5_ n6_
             obtain ⟨Ao30, co30, eo30⟩ := Kd.R_slice HO_5.out
             (first | subst eo30 | (injection eo30 with f1_ f2_ f3_; have f4_ := f1_.symm; have f5_ := f3_.symm; clear f1_ f2_ f3_; subst f4_; subst f5_))
             have p641 : 0 ≤ (((rd_T106 x6_2 x26_2).f0) : Int) := oa
             have q641 : ((rd_T106 x6_2 x26_2).f0) < (t627.length : Int) := oa
             obtain ⟨ad641, e641, hx641_0⟩ := Kd.at_string (Kd.R_reads' HO_5.out).2.2 ((rd_T106 x6_2 x26_2).f0) p641 q641
             cases e641
             replace p641 := eq_true p641
             replace q641 := eq_true q641
             refine start_ (n := 14) (S := fun w' => w'.cell? ⟨gb640, 0, none⟩ = some (.int .i64 ((rd_T106 x6_2 x26_2).f0)) ∧ w'.cell? ⟨gb640, 1, none⟩ = some (.int .i64 ((rd_T106 x6_2 x26_2).f1)) ∧ w'.cell? ⟨gb640, 2, none⟩ = some (.slice A639_2 ((rd_T106 x6_2 x26_2).f2).length c639_2) ∧ w'.cell? (ad641.add (((rd_T106 x6_2 x26_2).f0)).toNat) = some (.string (rdOf ByteArray.empty t627 ((rd_T106 x6_2 x26_2).f0)))) (ds := [10, 13]) #[O,O,O,O,O,O,O,O,O,O,O,O,O,O] (by kernel_rfl) rfl rfl ⟨(blk_cell BK640.out 0).trans rfl, (blk_cell BK640.out 1).trans rfl, (blk_cell BK640.out 2).trans rfl, hx641_0⟩ (fun hHeld => ?_); refine with_tabW spec_DrawTrimHunks.tab8 spec_DrawTrimHunks.bits8 (fun HT_ HW_ => ?_)
             generalize w28.drew = w29 at HO_5 HO_6 HL639_2 BK640 HI0 HK HB hx641_0 hHeld ⊢
             refine pure_ (i := 0) (N := some 34) (v := ?_) (a' := ?_) #[Y,O,O,O,O,O,O,O,O,O,O,O,O,O] rfl rfl zx (fun _ _ _ h => h) (Or.inl ⟨by rfl, ?_⟩) ?_ ?_
             rotate_left; (intro w'; go_simp; with_reducible rfl); rotate_left; (simp only [Act.put,qa,qb,qc,i64_w,i32_w]; rfl)
             refine pure_ (i := 1) (N := some 35) (v := ?_) (a' := ?_) #[Y,Y,O,O,O,O,O,O,O,O,O,O,O,O] rfl rfl zx (fun _ _ _ h => h) (Or.inl ⟨by rfl, ?_⟩) ?_ ?_
             rotate_left; (intro w'; go_simp; with_reducible rfl); rotate_left; (simp only [Act.put,qa,qb,qc,i64_w,i32_w]; rfl)
             refine pure_ (i := 2) (N := some 36) (v := ?_) (a' := ?_) #[Y,Y,Y,O,O,O,O,O,O,O,O,O,O,O] rfl rfl zx (fun _ _ _ h => h) (Or.inl ⟨by rfl, ?_⟩) ?_ ?_
             rotate_left; (intro w'; go_simp; with_reducible rfl); rotate_left; (simp only [Act.put,qa,qb,qc,i64_w,i32_w]; rfl)
             refine pure_ (i := 3) (N := some 37) (v := ?_) (a' := ?_) #[Y,Y,Y,Y,O,O,O,O,O,O,O,O,O,O] rfl rfl zx (fun _ _ _ h => h) (Or.inl ⟨by rfl, ?_⟩) ?_ ?_
             rotate_left; (intro w'; go_simp; with_reducible rfl); rotate_left; (simp only [Act.put,qa,qb,qc,i64_w,i32_w]; rfl)
             refine pure_ (i := 8) (N := some 42) (v := ?_) (a' := ?_) #[Y,Y,Y,Y,O,O,O,O,Y,O,O,O,O,O] rfl rfl zx (fun _ _ _ h => h) (Or.inl ⟨by rfl, ?_⟩) ?_ ?_
             rotate_left; (intro w'; go_simp; with_reducible rfl); rotate_left; (simp only [Act.put,qa,qb,qc,i64_w,i32_w]; rfl)
             refine take_ (i := 4) (N := some 38) (v := ?_) (a' := ?_) #[Y,Y,Y,Y,Y,O,O,O,Y,O,O,O,O,O] rfl rfl (take_ofW HT_.out HW_.out (by kernel_rfl)) (fun _ _ _ h => h) (Or.inl ⟨by rfl, ?_⟩) hHeld ?_ ?_
             rotate_left; (rintro w' ⟨s0, s1, s2, s3⟩; go_simp; with_reducible rfl); rotate_left; (simp only [Act.put,qa,qb,qc,i64_w,i32_w]; rfl)
             refine pure_ (i := 5) (N := some 39) (v := ?_) (a' := ?_) #[Y,Y,Y,Y,Y,Y,O,O,Y,O,O,O,O,O] rfl rfl zx (fun _ _ _ h => h) (Or.inl ⟨by rfl, ?_⟩) ?_ ?_
             rotate_left; (intro w'; go_simp; with_reducible rfl); rotate_left; (simp only [Act.put,qa,qb,qc,i64_w,i32_w]; rfl)
             refine take_ (i := 6) (N := some 40) (v := ?_) (a' := ?_) #[Y,Y,Y,Y,Y,Y,Y,O,Y,O,O,O,O,O] rfl rfl (take_ofW HT_.out HW_.out (by kernel_rfl)) (fun _ _ _ h => h) (Or.inl ⟨by rfl, ?_⟩) hHeld ?_ ?_
             rotate_left; (rintro w' ⟨s0, s1, s2, s3⟩; go_simp; with_reducible rfl); rotate_left; (simp only [Act.put,qa,qb,qc,i64_w,i32_w]; rfl)
             refine take_ (i := 9) (N := some 43) (v := ?_) (a' := ?_) #[Y,Y,Y,Y,Y,Y,Y,O,Y,Y,O,O,O,O] rfl rfl (take_ofW HT_.out HW_.out (by kernel_rfl)) (fun _ _ _ h => h) (Or.inl ⟨by rfl, ?_⟩) hHeld ?_ ?_
             rotate_left; (rintro w' ⟨s0, s1, s2, s3⟩; go_simp; with_reducible rfl); rotate_left; (simp only [Act.put,qa,qb,qc,i64_w,i32_w]; rfl)
             refine one_ (i := 7) (N := some 41) #[Y,Y,Y,Y,Y,Y,Y,Y,Y,Y,O,O,O,O] rfl rfl (one_of HT_.out (by kernel_rfl)) (by decide) (fun K hK => ?_)
             refine Kd.R_lit_step Kd.string _ 9 ?hg (N := 41) ?hd (xs := ([rdOf ByteArray.empty t627 ((rd_T106 x6_2 x26_2).f0)] : List ByteArray)) (inner := [.string (rdOf ByteArray.empty t627 ((rd_T106 x6_2 x26_2).f0))]) (ok := fun _ => True) (okp := fun _ => True) ?hr ?hp (fun _ hk => hk) trivial (Below.refl _ _) (Nat.le_refl _) (by simp) ?_; (case hd => rfl); (case hg => rfl); (case hr => first | (go_simp; done) | (go_simp; rfl)); (case hp => exact (Reps.one (show Kd.M Kd.string _ _ _ (rdOf ByteArray.empty t627 ((rd_T106 x6_2 x26_2).f0)) [.string (rdOf ByteArray.empty t627 ((rd_T106 x6_2 x26_2).f0))] from rfl) (Reps.none _ _)))
             intro v643 w31 ho32 hb hg_ hnew_
             have HS3_ := (hb.cell (World.block_lt_of_cell? _ _ (hHeld.2.2.2))).trans (hHeld.2.2.2)
             clear hg_ hnew_
             (first | rw [← Ny642.out] at ho32 | (simp only [Int.reduceToNat] at ho32; rw [← Ny642.out] at ho32))
             have n0_ := am (Kd.R_elder' (zr HO_5.out) (Kd.R_base ho32) hb)
             have n1_ := am (Kd.N_elder' (zN HO_6.out) (Kd.R_base ho32) hb)
             have n2_ := am (Kd.V_elder' (by (with_reducible repeat (first | apply Kd.V_alloc | apply Kd.V_drewN | apply Kd.V_drew)); exact HL639_2.out) (Kd.R_base ho32) hb)
             have n3_ := am (Kd.R_lower (Kd.R_new' (Kd.R_newM (M := fun k_ => (w.heap.size ≤ k_)) ho32 (keep_size (w := w) (g := g) (row := none) (by repeat (first | (with_reducible first | exact HK.out | apply KeepBut.set_ | apply keep_drewN | apply keep_drew | apply keep_alloc | refine keep_far ?_ GW640.out _) | exact HK.out))) (fun k_ h_ => h_)) (Kd.R_lt (zr HO_5.out))) (keep_size (w := w) (g := g) (row := none) (by repeat (first | (with_reducible first | exact HK.out | apply KeepBut.set_ | apply keep_drewN | apply keep_drew | apply keep_alloc | refine keep_far ?_ GW640.out _) | exact HK.out))))
             have n4_ := am (IsS87.below (by repeat (first | (with_reducible first | exact HI0.out | apply IsS87.alloc | apply IsS87.drewN | apply IsS87.drew | apply IsS87.set_1 | apply IsS87.set_2 | refine IsS87.far ?_ NB0_640.out _) | exact HI0.out)) hb)
             have n5_ := am (blk_below (g := gb640) (o := .cells #[.int .i64 ((rd_T106 x6_2 x26_2).f0), .int .i64 ((rd_T106 x6_2 x26_2).f1), .slice A639_2 ((rd_T106 x6_2 x26_2).f2).length c639_2] 106 (0, 0)) (zk BK640.out) hb)
             have n6_ := am (KeepBut.trans (by repeat (first | (with_reducible first | exact HK.out | apply KeepBut.set_ | apply keep_drewN | apply keep_drew | apply keep_alloc | refine keep_far ?_ GW640.out _) | exact HK.out)) (KeepBut.of_below hb g none) (.inl rfl))
             have n7_ := am (below_step (by repeat (first | (with_reducible first | exact HB.out | apply below_alloc | apply pw_below_drewN | apply below_drew1 | refine below_set ?_ (IsS87.ge HI0.out) | refine below_set ?_ GE640.out) | exact HB.out)) hb)
             clear HO_5
             clear HO_6
             clear HL639_2
             clear HI0
             clear BK640
             clear HK
             clear HB
             have HO_5 := n0_
             have HO_6 := n1_
             have HL639_2 := n2_
             have HO644 := n3_
             have HI0 := n4_
             have BK640 := n5_
             have HK := n6_
             have HB := n7_
             clear n0_ n1_ n2_ n3_ n4_ n5_ n6_ n7_
             clear hb ho32
             refine hK.out _ _ ⟨(blk_cell BK640.out 0).trans rfl, (blk_cell BK640.out 1).trans rfl, (blk_cell BK640.out 2).trans rfl, HS3_⟩ (fun hHeld => ?_)
             clear hK K
             refine norm_ (a' := ?_) ?_ ?_
             rotate_left
             ·show Act.put _ (some 41) _ = _
              simp only [Act.put,qa,qb,qc,i64_w,i32_w]
              rfl
             refine last_ (i := 10) (N := some 44) #[Y,Y,Y,Y,Y,Y,Y,Y,Y,Y,Y,O,O,O] rfl rfl (one_of HT_.out (by kernel_rfl)) (by decide) (fun K hK => ?_)
             refine Kd.R_append_rows_step Kd.string w.heap.size (by rfl) (.tmp 41) (.tmp 43) 24 9 (.string ⟨#[]⟩) 16 rfl Try.underlying24 info9 rfl (by decide) (by omega) v643 y642 ((rd_T106 x6_2 x26_2).f2) _ _ _ (fun k_ => (w.heap.size ≤ k_) ∧ some k_ ≠ (.slice (some ad641) t627.length co30 : Value).ownBlock) (fun _ => False) rfl rfl ?aO ?aR (fun _ _ h => h) (fun _ h => h.elim) ?aF (Below.refl _ _) ?aS ?aL ?_
             (case aR => repeat (first | exact ((Kd.V_reads' (HL639_2.out)).2.2) | (with_reducible refine Kd.C_alloc ?_ _) | (with_reducible refine Kd.C_drewN ?_ _) | (with_reducible refine Kd.C_drew ?_)))
             (case aF => exact (fun k_ hk => ⟨(Nat.le_trans (keep_size (w := w) (g := g) (row := none) (by repeat (first | (with_reducible first | exact HK.out | apply KeepBut.set_ | apply keep_drewN | apply keep_drew | apply keep_alloc | refine keep_far ?_ GW640.out _) | exact HK.out))) hk), Kd.fresh' (Kd.R_lt (zr HO_5.out)) k_ hk⟩))
             (case aO => exact (by (with_reducible repeat (first | apply Kd.R_alloc | apply Kd.R_drewN | apply Kd.R_drew)); exact Kd.R_mono HO644.out (fun _ hk => ⟨hk.1.1, hk.2⟩)))
             (case aS => exact (keep_size (w := w) (g := g) (row := none) (by repeat (first | (with_reducible first | exact HK.out | apply KeepBut.set_ | apply keep_drewN | apply keep_drew | apply keep_alloc | refine keep_far ?_ GW640.out _) | exact HK.out))))
             (case aL => have := LMc23.out; omega)
             intro v646 w33 ho hb hg hat
             rw [← Ny645.out] at ho
             have n0_ := am (Kd.R_after (ok := (fun k_ => (w.heap.size ≤ k_))) (zr HO_5.out) hg hat)
             have n1_ := am (Kd.N_afterv (ok := (fun k_ => (w.heap.size ≤ k_) ∧ some k_ ≠ (.slice (some ad641) t627.length co30 : Value).ownBlock ∧ k_ ≠ g ∧ k_ ≠ gb640)) (zN HO_6.out) hg hat)
             have n2_ := am (IsS87.grown (by repeat (first | (with_reducible first | exact HI0.out | apply IsS87.alloc | apply IsS87.drewN | apply IsS87.drew | apply IsS87.set_1 | apply IsS87.set_2 | refine IsS87.far ?_ NB0_640.out _) | exact HI0.out)) hg (IsS87.own_ne HI0.out HO644.out (by decide)))
             have n3_ := am (Kd.V_afterv (ok := (fun k_ => (w.heap.size ≤ k_) ∧ some k_ ≠ (.slice (some ad641) t627.length co30 : Value).ownBlock ∧ some k_ ≠ (.slice (some ad639) x6_2.length co16 : Value).ownBlock ∧ k_ ≠ g ∧ k_ ≠ gb640)) (by (with_reducible repeat (first | apply Kd.V_alloc | apply Kd.V_drewN | apply Kd.V_drew)); exact HL639_2.out) hg hat)
             have n4_ := am (blk_grown (g := gb640) (o := .cells #[.int .i64 ((rd_T106 x6_2 x26_2).f0), .int .i64 ((rd_T106 x6_2 x26_2).f1), .slice A639_2 ((rd_T106 x6_2 x26_2).f2).length c639_2] 106 (0, 0)) (zk BK640.out) hg (Kd.R_ne HO644.out BK640.out (by decide)))
             have n5_ := am (below_weaken (by repeat (first | (with_reducible first | exact HB.out | apply below_alloc | apply pw_below_drewN | apply below_drew1 | refine below_set ?_ (IsS87.ge HI0.out) | refine below_set ?_ GE640.out) | exact HB.out)) HL.out hb)
             have n6_ := am (KeepBut.trans (by repeat (first | (with_reducible first | exact HK.out | apply KeepBut.set_ | apply keep_drewN | apply keep_drew | apply keep_alloc | refine keep_far ?_ GW640.out _) | exact HK.out)) (KeepBut.of_grown hg g) (Kd.R_base2 HO644.out))
             have n7_ := am (ho)
             clear HO_5
             clear HO_6
             clear HI0
             clear HL639_2
             clear BK640
             clear HB
             clear HK
             clear HO644
             have HO_5 := n0_
             have HO_6 := n1_
             have HI0 := n2_
             have HL639_2 := n3_
             have BK640 := n4_
             have HB := n5_
             have HK := n6_
             have HO647 := n7_
             clear n0_ n1_ n2_ n3_ n4_ n5_ n6_ n7_
             clear ho hb hg hat
             obtain ⟨Av_, cv_, ev_⟩ := Kd.R_slice HO647.out
             subst ev_
             have p24 : 0 ≤ (x26_2 : Int) := oa
             have q24 : (x26_2 : Int) < ((x6_2.length : Int) : Int) := oa
             obtain ⟨go24, co24, eo24, gb24, gl24, cl24, HG24⟩ := Kd.N_form HO_6.out (by omega)
             (first | cases eo24 | (injection eo24 with ea_ en_ ec_; (first | subst ea_ | (injection ea_ with ea_; subst ea_)); subst ec_; clear en_))
             have GB24 := am gb24
             have GG24 := am HG24
             clear gb24 gl24 HG24
             (first | simp only [add_plain] at hx639_0 | skip)
             (first | simp only [add_plain] at hx639_1 | skip)
             (first | simp only [add_plain] at hx639_2 | skip)
             obtain ⟨ce24, hcl24, hM24, hcc24, hfr24⟩ := Kd.N_elem HO_6.out z106 (x26_2 : Int) p24 q24
             obtain ⟨ua24_2, uc24_2, rfl, ul24_2, ge24_2⟩ := k106_openF hM24
             have hx24_0 : World.cell? _ ⟨go24, (x26_2 : Int).toNat * 3, none⟩ = some (.int .i64 ((rd_T106 x6_2 x26_2).f0)) := hcc24 0 _ rfl
             have hx24_1 : World.cell? _ ⟨go24, (x26_2 : Int).toNat * 3 + 1, none⟩ = some (.int .i64 ((rd_T106 x6_2 x26_2).f1)) := hcc24 1 _ rfl
             have hx24_2 : World.cell? _ ⟨go24, (x26_2 : Int).toNat * 3 + 2, none⟩ = some (.slice ua24_2 ((rd_T106 x6_2 x26_2).f2).length uc24_2) := hcc24 2 _ rfl
             have hf24_0 : World.frozen? _ ⟨go24, (x26_2 : Int).toNat * 3, none⟩ = false := hfr24 0
             have hf24_1 : World.frozen? _ ⟨go24, (x26_2 : Int).toNat * 3 + 1, none⟩ = false := hfr24 1
             have hf24_2 : World.frozen? _ ⟨go24, (x26_2 : Int).toNat * 3 + 2, none⟩ = false := hfr24 2
             clear hcl24 hcc24 hfr24; (try clear hM24)
             replace p24 := eq_true p24
             replace q24 := eq_true q24
             have HN0_go24 := am (show g ≠ go24 from by have h_ := IsS87.own_neN HI0.out HO_6.out (by decide); intro e_; exact h_ (by rw [e_]; rfl))
             have HX34 := am (show Kd.N k106 106 _ w.heap.size (fun k_ => (w.heap.size ≤ k_) ∧ some k_ ≠ (.slice (some ad641) t627.length co30 : Value).ownBlock ∧ some k_ ≠ (.slice Av_ y645.length cv_ : Value).ownBlock ∧ k_ ≠ gb640 ∧ k_ ≠ g) (.slice (some ⟨go24, 0, none⟩) x6_2.length co16) x6_2 from (Kd.N_mono (HO_6.out) (fun k_ hk => ⟨hk.1.1, ⟨hk.1.2.1, ⟨hk.2, ⟨hk.1.2.2.2, hk.1.2.2.1⟩⟩⟩⟩)))
             replace HX34 := am (show Kd.N k106 106 _ w.heap.size (fun k_ => (w.heap.size ≤ k_) ∧ some k_ ≠ (.slice (some ad641) t627.length co30 : Value).ownBlock ∧ k_ ≠ gb640 ∧ k_ ≠ g) (.slice (some ⟨go24, 0, none⟩) x6_2.length co16) x6_2 from Kd.N_mono HX34.out (fun k_ hk => ⟨hk.1, ⟨hk.2.1, ⟨hk.2.2.2.1, hk.2.2.2.2⟩⟩⟩))
             obtain ⟨ce34, hcl34, hM34, hcc34, hfr34⟩ := Kd.N_elem HX34.out z106 (x26_2 : Int) oa (by have h_ : (x26_2 : Int) < ((x6_2.length : Int) : Int) := oa; first | exact h_ | (have e_ := (Kd.N_reads' HO_6.out).1; omega) | simpa using h_)
             obtain ⟨ua34_2, uc34_2, rfl, ul34_2, ge34_2⟩ := k106_openF hM34
             have HZ1 := Kd.R_apart' (HO647.out) (Kd.N_typed HO_6.out) (by decide)
             have HZ2 := Kd.R_types HZ1 BK640.out (by decide)
             have HZ3 := IsS87.apart HI0.out HZ2 (by decide)
             have HZ4 := Kd.R_mono (ok' := (fun k_ => ((fun k_ => (w.heap.size ≤ k_) ∧ some k_ ≠ (.slice (some ad641) t627.length co30 : Value).ownBlock ∧ k_ ≠ gb640 ∧ k_ ≠ g)) k_ ∧ k_ ≠ go24)) HZ3 (fun k_ hk => ⟨⟨hk.1.1.1.1, ⟨hk.1.1.1.2, ⟨hk.1.2, hk.2⟩⟩⟩, fun e_ => (hk.1.1.2) (by rw [e_]; rfl)⟩)
             clear HZ1 HZ2 HZ3
             have HP34 := (Kd.N_seg HX34.out (x26_2 : Int) oa (by have h_ : (x26_2 : Int) < ((x6_2.length : Int) : Int) := oa; first | exact h_ | (have e_ := (Kd.N_reads' HO_6.out).1; omega) | simpa using h_) (seg := [(.slice Av_ y645.length cv_)]) (j := 2) hcl34 hcc34 (show 3 ≤ 3 from by decide) (x' := (⟨(rd_T106 x6_2 x26_2).f0, (rd_T106 x6_2 x26_2).f1, y645⟩ : S106)) (k106_mkF _ _ (⟨(rd_T106 x6_2 x26_2).f0, (rd_T106 x6_2 x26_2).f1, y645⟩ : S106) (Kd.R_reads' HZ4).2.1 (Kd.R_F HZ4)) (fun _ hk => hk)).1
             rw [← Ny648.out] at HP34
             have HQ34 := am HP34
             clear hcl34 hcc34 hfr34 HP34; (try clear hM34)
             refine hK.out _ _ ?_
             clear hK K
             refine norm_ (a' := ?_) ?_ ?_
             rotate_left
             ·show Act.put _ (some 44) _ = _
              simp only [Act.put,qa,qb,qc,i64_w,i32_w]
              rfl
             refine pure_ (i := 11) (N := some 45) (v := ?_) (a' := ?_) #[Y,Y,Y,Y,Y,Y,Y,Y,Y,Y,Y,Y,O,O] rfl rfl zx (fun _ _ _ h => h) (Or.inl ⟨by rfl, ?_⟩) ?_ ?_
             rotate_left; (intro w'; go_simp; with_reducible rfl); rotate_left; (simp only [Act.put,qa,qb,qc,i64_w,i32_w]; rfl)
             refine pure_ (i := 12) (N := some 46) (v := ?_) (a' := ?_) #[Y,Y,Y,Y,Y,Y,Y,Y,Y,Y,Y,Y,Y,O] rfl rfl zx (fun _ _ _ h => h) (Or.inl ⟨by rfl, ?_⟩) ?_ ?_
             rotate_left; (intro w'; go_simp; with_reducible rfl); rotate_left; (simp only [Act.put,qa,qb,qc,i64_w,i32_w]; rfl)
             refine last_ (i := 13) (N := none) #[Y,Y,Y,Y,Y,Y,Y,Y,Y,Y,Y,Y,Y,Y] rfl rfl (one_of HT_.out (by kernel_rfl)) (by decide) (fun K hK => ?_)
             refine skip_ (w1 := ?_) (by rfl) rfl ?_ ?_
             rotate_left
             ·go_simp
              rfl
             refine hK.out _ _ ?_
             clear hK K
             refine done_ (done_of HT_.out (by kernel_rfl)) ?_
             try go_wp2
             (try simp only [← hl6_2])
             go_roundg k2
             case measure => have := HJ2.out; have := HK2.out; omega
             case rel => exact ⟨(y648), (wrap64 (x26_2 + 1)), zf, H', ⟨by have := HJ2.out; have := HK2.out; omega⟩, ⟨by (try simp only [hl6_2]); (with_reducible repeat (first | apply Kd.R_alloc | apply Kd.R_drewN | apply Kd.R_drew)); exact Kd.R_mono (Kd.R_far (p := ⟨go24, (x26_2 : Int).toNat * 3 + 2, none⟩) (Kd.R_types HO_5.out GG24.out (by decide)) (fun _ hk => hk.2) ((.slice Av_ y645.length cv_))) (fun _ hk => hk.1.1)⟩, ⟨by (try simp only [hl6_2]); (with_reducible repeat (first | apply Kd.N_alloc | apply Kd.N_drewN | apply Kd.N_drew)); exact Kd.N_mono HQ34.out (fun _ hk => ⟨hk.1, ⟨hk.2.1, hk.2.2.2⟩⟩)⟩, ⟨by repeat (first | (with_reducible first | exact HI0.out | apply IsS87.alloc | apply IsS87.drewN | apply IsS87.drew | apply IsS87.set_1 | apply IsS87.set_2 | refine IsS87.far ?_ HN0_go24.out _ | refine IsS87.far ?_ NB0_640.out _) | exact HI0.out)⟩, ⟨by repeat (first | (with_reducible first | exact HK.out | apply KeepBut.set_ | apply keep_drewN | apply keep_drew | apply keep_alloc | refine keep_far ?_ GB24.out _ | refine keep_far ?_ GW640.out _) | exact HK.out)⟩, ⟨by repeat (first | (with_reducible first | exact HB.out | apply below_alloc | apply pw_below_drewN | apply below_drew1 | refine below_set ?_ (Nat.le_trans HL.out GB24.out) | refine below_set ?_ (IsS87.ge HI0.out) | refine below_set ?_ GE640.out) | exact HB.out)⟩⟩
            ·rw [if_neg c23] at H
             exact absurd H (by simp)
           ·rw [if_neg c22] at H
            exact absurd H (by simp)
          ·rw [if_neg c21] at H
           exact absurd H (by simp)
         ·rw [if_neg c20] at H
          have c20b0 : decide (0 < ((rd_T106 x6_2 x26_2).f1)) = false := decide_eq_false c20
          (try (have c20b0h := c20b0; simp only [hl6_2] at c20b0h))
          clear c20
          have H' := am H
          clear H
          have p639 : 0 ≤ (x26_2 : Int) := oa
          have q639 : x26_2 < (x6_2.length : Int) := oa
          obtain ⟨ad639, A639_2, c639_2, e639, hx639_0, hx639_1, hx639_2, hl639_2, hi639_2⟩ := at_T106 (Kd.N_reads' HO_6.out).2.2 x26_2 p639 q639
          cases e639
          obtain ⟨ce639, hce639, hMe639, hcc639⟩ := Kd.N_get HO_6.out z106 x26_2 p639 (by first | exact q639 | exact oa | (have e_ := (Kd.N_reads' HO_6.out).1; omega))
          obtain ⟨ua639_2, uc639_2, rfl, ul639_2, ge639_2⟩ := k106_openF hMe639
          have hv639_2 := hcc639 2 _ rfl
          rw [add_field _ _ 2 (by omega)] at hv639_2
          replace hv639_2 := Option.some.inj (hv639_2.symm.trans hx639_2)
          injection hv639_2 with hva_ hvn_ hvc_
          rw [hva_] at ge639_2
          rw [hvc_] at ul639_2
          have HL639_2 := am (show Kd.V Kd.string 9 _ w.heap.size _ _ ((rd_T106 x6_2 x26_2).f2) from Kd.V_mk ul639_2 ge639_2)
          clear hva_ hvn_ hvc_ ge639_2 ul639_2
          clear hcc639 hce639
          have HR639_2 := am hi639_2
          have HC639_2 := am hl639_2
          clear hi639_2 hl639_2
          replace p639 := eq_true p639
          replace q639 := eq_true q639
          go_wp2_with (first | ((with_reducible refine gate_dst (N := 8) rfl ?_); refine box_event ?hg (N := 8) ?hd (cs := #[.int .i64 0, .int .i64 0, .slice none 0 0]) (t := 106) ?hr ?_; (case hd => rfl); (case hg => rfl); (case hr => first | (go_simp; done) | (go_simp; rfl)); intro gb640 hg w35 hbox hb; have n0_ := am (Kd.R_below (zr HO_5.out) hb); have n1_ := am (Kd.N_below (Kd.N_elderB (zN HO_6.out) gb640 (Nat.le_of_eq hg.symm)) hb); have n2_ := am (Kd.V_below (Kd.V_elderB (by (with_reducible repeat (first | apply Kd.V_alloc | apply Kd.V_drewN | apply Kd.V_drew)); exact HL639_2.out) gb640 (Nat.le_of_eq hg.symm)) hb); have n3_ := am (IsS87.below zi hb); have n4_ := am (Kd.C_below (by repeat (first | (with_reducible exact HR639_2.out) | (with_reducible refine Kd.C_alloc ?_ _) | (with_reducible refine Kd.C_drewN ?_ _) | (with_reducible refine Kd.C_drew ?_) | exact HR639_2.out)) hb); have n5_ := am (KeepBut.trans zh (KeepBut.of_below hb g none) (.inl rfl)); have n6_ := am (below_step zj hb); have n7_ := am (hbox); have n8_ := am ((by rw [hg]; exact (keep_size (w := w) (g := g) (row := none) zh) : w.heap.size ≤ gb640)); have n9_ := am ((Nat.le_trans HW0.out (by rw [hg]; exact (keep_size (w := w) (g := g) (row := none) zh) : w.heap.size ≤ gb640) : w0.heap.size ≤ gb640)); have n10_ := am ((by rw [hg]; exact Nat.ne_of_lt (IsS87.lt (show IsS87 w0 _ g l0 x1001_2 x1002_2 from zi)) : g ≠ gb640)); have n11_ := am ((by rw [hg]; exact Nat.ne_of_gt (IsS87.lt (show IsS87 w0 _ g l0 x1001_2 x1002_2 from zi)) : gb640 ≠ g)); clear HO_5; clear HO_6; clear HL639_2; clear HI0; clear HR639_2; clear HK; clear HB; have HO_5 := n0_; have HO_6 := n1_; have HL639_2 := n2_; have HI0 := n3_; have HR639_2 := n4_; have HK := n5_; have HB := n6_; have BK640 := n7_; have GW640 := n8_; have GE640 := n9_; have NB0_640 := n10_; have NB640_0 := n11_; clear n0_ n1_ n2_ n3_ n4_ n5_ n6_ n7_ n8_ n9_ n10_ n11_; clear hb hbox hg; have hnb36 := NB640_0.out; have hnc36 := NB0_640.out; have hcz37_0 : w35.cell? ⟨gb640, 0, none⟩ = some (.int .i64 0) := (blk_cell BK640.out 0).trans rfl; have hcz37_1 : w35.cell? ⟨gb640, 1, none⟩ = some (.int .i64 0) := (blk_cell BK640.out 1).trans rfl; have hcz37_2 : w35.cell? ⟨gb640, 2, none⟩ = some (.slice none 0 0) := (blk_cell BK640.out 2).trans rfl; have hfz37_0 := blk_frozen BK640.out 0; have hfz37_1 := blk_frozen BK640.out 1; have hfz37_2 := blk_frozen BK640.out 2))
          (try simp only [← hl6_2])
          go_roundg k2
          case measure => have := HJ2.out; have := HK2.out; omega
          case rel => exact ⟨(x6_2), (wrap64 (x26_2 + 1)), zf, H', ⟨by have := HJ2.out; have := HK2.out; omega⟩, ⟨by (try simp only [hl6_2]); (with_reducible repeat (first | apply Kd.R_alloc | apply Kd.R_drewN | apply Kd.R_drew)); exact Kd.R_mono (Kd.R_far (p := ⟨gb640, 2, none⟩) (Kd.R_far (p := ⟨gb640, 1, none⟩) (Kd.R_far (p := ⟨gb640, 0, none⟩) (Kd.R_types HO_5.out BK640.out (by decide)) (fun _ hk => hk.2) (.int .i64 ((rd_T106 x6_2 x26_2).f0))) (fun _ hk => hk.2) (.int .i64 ((rd_T106 x6_2 x26_2).f1))) (fun _ hk => hk.2) (.slice A639_2 ((rd_T106 x6_2 x26_2).f2).length c639_2)) (fun _ hk => hk.1)⟩, ⟨by (try simp only [hl6_2]); (with_reducible repeat (first | apply Kd.N_alloc | apply Kd.N_drewN | apply Kd.N_drew)); exact Kd.N_mono (Kd.N_far (p := ⟨gb640, 2, none⟩) (Kd.N_far (p := ⟨gb640, 1, none⟩) (Kd.N_far (p := ⟨gb640, 0, none⟩) (Kd.N_mono HO_6.out (fun k_ hk => (⟨hk, hk.2⟩ : _ ∧ k_ ≠ gb640))) (fun _ hk => hk.2) (.int .i64 ((rd_T106 x6_2 x26_2).f0))) (fun _ hk => hk.2) (.int .i64 ((rd_T106 x6_2 x26_2).f1))) (fun _ hk => hk.2) (.slice A639_2 ((rd_T106 x6_2 x26_2).f2).length c639_2)) (fun _ hk => ⟨hk.1.1.1, ⟨hk.1.1.2.1, hk.1.1.2.2⟩⟩)⟩, ⟨by repeat (first | (with_reducible first | exact HI0.out | apply IsS87.alloc | apply IsS87.drewN | apply IsS87.drew | apply IsS87.set_1 | apply IsS87.set_2 | refine IsS87.far ?_ NB0_640.out _) | exact HI0.out)⟩, ⟨by repeat (first | (with_reducible first | exact HK.out | apply KeepBut.set_ | apply keep_drewN | apply keep_drew | apply keep_alloc | refine keep_far ?_ GW640.out _) | exact HK.out)⟩, ⟨by repeat (first | (with_reducible first | exact HB.out | apply below_alloc | apply pw_below_drewN | apply below_drew1 | refine below_set ?_ (IsS87.ge HI0.out) | refine below_set ?_ GE640.out) | exact HB.out)⟩⟩
        ·rw [if_neg c19] at H
         exact absurd H (by simp)
       ·rw [if_neg c18] at H
        exact absurd H (by simp)
      ·rw [if_neg c17] at H
       have c17b0 : decide (x26_2 < (t630.length : Int)) = false := decide_eq_false c17
       (try (have c17b0h := c17b0; simp only [hl6_2] at c17b0h))
       clear c17
       simp only [Option.some.injEq, Prod.mk.injEq] at H
       obtain ⟨rfl, rfl, rfl, rfl⟩ := H
       go_wp2
       go_ret2
       exact ⟨g, w, HW0.out, _, _, by first | rfl | (simp [errW_none, errW_some] <;> rfl) | (simp [*, errW_none, errW_some] <;> rfl), by (with_reducible repeat (first | apply Kd.R_alloc | apply Kd.R_drewN | apply Kd.R_drew)); exact HO_5.out, by (with_reducible repeat (first | apply Kd.N_alloc | apply Kd.N_drewN | apply Kd.N_drew)); exact Kd.N_mono HO_6.out (fun _ hk => ⟨hk.1, hk.2.1⟩), zi, zj, zh⟩
   ·replace c15 := Bool.eq_false_iff.mpr c15
    subst c15
    have H1 : (some (t627, t630, x1001_2, x1002_2)) = some (r1, r2, r3, r4) := by rw [if_neg (show ¬ (false = true) by decide)] at H; exact H
    clear H
    have H := H1
    clear H1
    simp only [Option.some.injEq, Prod.mk.injEq] at H
    obtain ⟨rfl, rfl, rfl, rfl⟩ := H
    go_wp2
    go_ret2
    exact ⟨g, w, HW0.out, _, _, by first | rfl | (simp [errW_none, errW_some] <;> rfl) | (simp [*, errW_none, errW_some] <;> rfl), by (with_reducible repeat (first | apply Kd.R_alloc | apply Kd.R_drewN | apply Kd.R_drew)); exact HO_5.out, by (with_reducible repeat (first | apply Kd.N_alloc | apply Kd.N_drewN | apply Kd.N_drew)); exact Kd.N_mono HO_6.out (fun _ hk => ⟨hk.1, hk.2.1⟩), zi, zj, zh⟩
theorem spec_DrawTrimHunks.calls (k : Nat) (A0 : Option Addr) (c0 : Nat) (l0 : List Int) (r1 : List ByteArray) (r2 : List (S106)) (w0 : World) (hr0 : Kd.C (Kd.int .u8) w0 A0 l0.length l0) (hc0 : l0.length ≤ c0) (h : spec_DrawTrimHunks.f k l0 = some (r1, r2)) :
  Calls Try.prog 28 #[.slice A0 l0.length c0] w0 fun e w' => ∃ v0_ v1_ : Value, e = .returned (.tuple #[v0_, v1_]) ∧ Kd.R Kd.string 9 w' w0.heap.size (fun _ => True) v0_ r1 ∧ Kd.N k106 106 w' w0.heap.size (fun k_ => some k_ ≠ (v0_ : Value).ownBlock) v1_ r2 ∧ Below w0.heap.size w0 w' := by
  obtain ⟨q, hq, e⟩ := Option.bind_eq_some_iff.1 h
  obtain ⟨q0, q1, q2, q3⟩ := q
  injection e with e
  simp only [Prod.mk.injEq] at e
  obtain ⟨rfl, rfl⟩ := e
  refine (spec_DrawTrimHunks.made k A0 c0 l0 _ _ _ _ w0 hr0 hq).mono ?_
  rintro e w' ⟨g, w, hw, v0_, v1_, h0, h1, h2, _, hb, _⟩
  exact ⟨v0_, v1_, h0, Kd.R_mono (Kd.R_lower h1 hw) (fun _ _ => trivial), Kd.N_mono (Kd.N_lower h2 hw) (fun _ h_ => h_.2), hb⟩
end Go.Proofs.Ytmcldkobejhaeaa.My
/- Written by this session's program (wip/gen): a plain function with the same answers as the Go function, and the proof that the Go code comes to them. Asked: that the plain function has an answer. -/
namespace Go.Proofs.Ytmcldkobejhaeaa.My
open Go.RowKit Go.Proofs.YtmcldkobejhaeaaW.PrintWords Go.Proofs.YtmcldkobejhaeaaW.PrintLast Go.Proofs.YtmcldkobejhaeaaW.PrintMore
attribute [local go_sem] max2_int min2_int max_two min_two max_three min_three max_four min_four
set_option linter.unusedVariables false
set_option linter.unusedSimpArgs false
def spec_l2Place.l0 : Nat → Int → Int → List (S106) → Int → Int → Option (Int)
 | 0, _, _, _, _, _ => none
 | k + 1, x1, x5, x8, x9, x10 => if x10 < x9 then (if 0 ≤ x10 then (if x10 < (x8.length : Int) then (if (wrap64 (((rd_T106 x8 x10).f0) + ((rd_T106 x8 x10).f1))) ≤ x1 then (spec_l2Place.l0 k x1 (wrap64 (x5 + (wrap64 ((((rd_T106 x8 x10).f2).length : Int) - ((rd_T106 x8 x10).f1))))) x8 x9 (wrap64 (x10 + 1))) else (if ((rd_T106 x8 x10).f0) ≤ x1 then (some (-1)) else (spec_l2Place.l0 k x1 x5 x8 x9 (wrap64 (x10 + 1))))) else (none)) else (none)) else (some (wrap64 (x1 + x5)))
def spec_l2Place.f (k : Nat) (l0 : List (S106)) (a1 : Int) : Option (Int) := spec_l2Place.l0 k a1 0 l0 (l0.length : Int) 0
set_option maxHeartbeats 8000000 in
set_option maxRecDepth 100000 in
theorem spec_l2Place.calls (k : Nat) (A0 : Option Addr) (c0 : Nat) (l0 : List (S106)) (a1 : Int) (r : Int) (w : World) (hr0 : Kd.C k106 w A0 l0.length l0) (hc0 : l0.length ≤ c0) (h : spec_l2Place.f k l0 a1 = some r) :
  Calls Try.prog 96 #[.slice A0 l0.length c0, .int .i64 a1] w fun e w' => e = .returned (.int .i64 r) ∧ Below w.heap.size w w' := by
 have hu106 := Try.underlying106
 have HR0 := am hr0
 have HC0 := am hc0
 clear hr0 hc0
 have HB := am (Below.refl w.heap.size w)
 have H : (spec_l2Place.l0 k a1 0 l0 (l0.length : Int) 0) = some r := h
 clear h
 have H' := am H
 clear H
 go_enter Try.func96, Try.ntmps96
 go_wp2
 go_loopg [5, 10] k (fun kq v5 v10 w' => ∃ (x5_1 : Int) (x10_1 : Int), v5 = .int .i64 x5_1 ∧ v10 = .int .i64 x10_1 ∧ Aside0 (spec_l2Place.l0 kq a1 x5_1 l0 (l0.length : Int) x10_1 = some r) ∧ Aside0 (kq ≤ k) ∧ Aside0 (Below w.heap.size w w'))
 case atStart => exact ⟨(0), (0), zf, zf, H', ⟨Nat.le_refl _⟩, ⟨by repeat (first | (with_reducible first | exact HB.out | apply below_alloc | apply pw_below_drewN | apply below_drew1) | exact HB.out)⟩⟩
 case round =>
  clear H'
  try clear p2
  obtain ⟨x5_1, x10_1, rfl, rfl, HA, HK1, HB⟩ := hrel
  cases gk with
  | zero => exact absurd HA.out (by simp [spec_l2Place.l0])
  | succ k1 =>
   have H := HA.out
   clear HA
   simp only [spec_l2Place.l0] at H
   by_cases c3 : x10_1 < (l0.length : Int)
   ·rw [if_pos c3] at H
    have c3b0 : decide (x10_1 < (l0.length : Int)) = true := decide_eq_true c3
    clear c3
    by_cases c4 : 0 ≤ x10_1
    ·rw [if_pos c4] at H
     have c4b0 : decide (0 ≤ x10_1) = true := decide_eq_true c4
     clear c4
     by_cases c5 : x10_1 < (l0.length : Int)
     ·rw [if_pos c5] at H
      have c5b0 : decide (x10_1 < (l0.length : Int)) = true := decide_eq_true c5
      clear c5
      by_cases c6 : (wrap64 (((rd_T106 l0 x10_1).f0) + ((rd_T106 l0 x10_1).f1))) ≤ a1
      ·rw [if_pos c6] at H
       have c6b0 : decide ((wrap64 (((rd_T106 l0 x10_1).f0) + ((rd_T106 l0 x10_1).f1))) ≤ a1) = true := decide_eq_true c6
       clear c6
       have H' := am H
       clear H
       have p764 : 0 ≤ (x10_1 : Int) := oa
       have q764 : x10_1 < (l0.length : Int) := oa
       obtain ⟨ad764, A764_2, c764_2, e764, hx764_0, hx764_1, hx764_2, hl764_2, hi764_2⟩ := at_T106 HR0.out x10_1 p764 q764
       cases e764
       replace hx764_0 := (HB.out.cell (World.block_lt_of_cell? w _ hx764_0)).trans hx764_0
       replace hx764_1 := (HB.out.cell (World.block_lt_of_cell? w _ hx764_1)).trans hx764_1
       replace hx764_2 := (HB.out.cell (World.block_lt_of_cell? w _ hx764_2)).trans hx764_2
       have HR764_2 := am hi764_2
       have HC764_2 := am hl764_2
       clear hi764_2 hl764_2
       replace p764 := eq_true p764
       replace q764 := eq_true q764
       go_wp2_with (first | ((with_reducible refine gate_dst (N := 7) rfl ?_); refine box_event ?hg (N := 7) ?hd (cs := #[.int .i64 0, .int .i64 0, .slice none 0 0]) (t := 106) ?hr ?_; (case hd => rfl); (case hg => rfl); (case hr => first | (go_simp; done) | (go_simp; rfl)); intro gb765 hg w7 hbox hb; have n0_ := am (below_step zb hb); have n1_ := am (hbox); have n2_ := am ((by rw [hg]; exact (below_size zb) : w.heap.size ≤ gb765)); have n3_ := am ((by rw [hg]; exact (below_size zb) : w.heap.size ≤ gb765)); clear HB; have HB := n0_; have BK765 := n1_; have GW765 := n2_; have GE765 := n3_; clear n0_ n1_ n2_ n3_; clear hb hbox hg; have hcz8_0 : w7.cell? ⟨gb765, 0, none⟩ = some (.int .i64 0) := (blk_cell BK765.out 0).trans rfl; have hcz8_1 : w7.cell? ⟨gb765, 1, none⟩ = some (.int .i64 0) := (blk_cell BK765.out 1).trans rfl; have hcz8_2 : w7.cell? ⟨gb765, 2, none⟩ = some (.slice none 0 0) := (blk_cell BK765.out 2).trans rfl; have hfz8_0 := blk_frozen BK765.out 0; have hfz8_1 := blk_frozen BK765.out 1; have hfz8_2 := blk_frozen BK765.out 2))
       go_roundg k1
       case measure => have := HK1.out; omega
       case rel => exact ⟨(wrap64 (x5_1 + (wrap64 ((((rd_T106 l0 x10_1).f2).length : Int) - ((rd_T106 l0 x10_1).f1))))), (wrap64 (x10_1 + 1)), zf, zf, H', ⟨by have := HK1.out; omega⟩, ⟨by repeat (first | (with_reducible first | exact HB.out | apply below_alloc | apply pw_below_drewN | apply below_drew1 | refine below_set ?_ GE765.out) | exact HB.out)⟩⟩
      ·rw [if_neg c6] at H
       have c6b0 : decide ((wrap64 (((rd_T106 l0 x10_1).f0) + ((rd_T106 l0 x10_1).f1))) ≤ a1) = false := decide_eq_false c6
       clear c6
       by_cases c9 : ((rd_T106 l0 x10_1).f0) ≤ a1
       ·rw [if_pos c9] at H
        have c9b0 : decide (((rd_T106 l0 x10_1).f0) ≤ a1) = true := decide_eq_true c9
        clear c9
        obtain rfl := Option.some.inj H
        have p764 : 0 ≤ (x10_1 : Int) := oa
        have q764 : x10_1 < (l0.length : Int) := oa
        obtain ⟨ad764, A764_2, c764_2, e764, hx764_0, hx764_1, hx764_2, hl764_2, hi764_2⟩ := at_T106 HR0.out x10_1 p764 q764
        cases e764
        replace hx764_0 := (HB.out.cell (World.block_lt_of_cell? w _ hx764_0)).trans hx764_0
        replace hx764_1 := (HB.out.cell (World.block_lt_of_cell? w _ hx764_1)).trans hx764_1
        replace hx764_2 := (HB.out.cell (World.block_lt_of_cell? w _ hx764_2)).trans hx764_2
        have HR764_2 := am hi764_2
        have HC764_2 := am hl764_2
        clear hi764_2 hl764_2
        replace p764 := eq_true p764
        replace q764 := eq_true q764
        go_wp2_with (first | ((with_reducible refine gate_dst (N := 7) rfl ?_); refine box_event ?hg (N := 7) ?hd (cs := #[.int .i64 0, .int .i64 0, .slice none 0 0]) (t := 106) ?hr ?_; (case hd => rfl); (case hg => rfl); (case hr => first | (go_simp; done) | (go_simp; rfl)); intro gb765 hg w10 hbox hb; have n0_ := am (below_step zb hb); have n1_ := am (hbox); have n2_ := am ((by rw [hg]; exact (below_size zb) : w.heap.size ≤ gb765)); have n3_ := am ((by rw [hg]; exact (below_size zb) : w.heap.size ≤ gb765)); clear HB; have HB := n0_; have BK765 := n1_; have GW765 := n2_; have GE765 := n3_; clear n0_ n1_ n2_ n3_; clear hb hbox hg; have hcz11_0 : w10.cell? ⟨gb765, 0, none⟩ = some (.int .i64 0) := (blk_cell BK765.out 0).trans rfl; have hcz11_1 : w10.cell? ⟨gb765, 1, none⟩ = some (.int .i64 0) := (blk_cell BK765.out 1).trans rfl; have hcz11_2 : w10.cell? ⟨gb765, 2, none⟩ = some (.slice none 0 0) := (blk_cell BK765.out 2).trans rfl; have hfz11_0 := blk_frozen BK765.out 0; have hfz11_1 := blk_frozen BK765.out 1; have hfz11_2 := blk_frozen BK765.out 2))
        go_ret
        exact ⟨by first | rfl | (simp [errW_none, errW_some] <;> rfl) | (simp [*, errW_none, errW_some] <;> rfl), by repeat (first | (with_reducible first | exact HB.out | apply below_alloc | apply pw_below_drewN | apply below_drew1 | refine below_set ?_ GE765.out) | exact HB.out)⟩
       ·rw [if_neg c9] at H
        have c9b0 : decide (((rd_T106 l0 x10_1).f0) ≤ a1) = false := decide_eq_false c9
        clear c9
        have H' := am H
        clear H
        have p764 : 0 ≤ (x10_1 : Int) := oa
        have q764 : x10_1 < (l0.length : Int) := oa
        obtain ⟨ad764, A764_2, c764_2, e764, hx764_0, hx764_1, hx764_2, hl764_2, hi764_2⟩ := at_T106 HR0.out x10_1 p764 q764
        cases e764
        replace hx764_0 := (HB.out.cell (World.block_lt_of_cell? w _ hx764_0)).trans hx764_0
        replace hx764_1 := (HB.out.cell (World.block_lt_of_cell? w _ hx764_1)).trans hx764_1
        replace hx764_2 := (HB.out.cell (World.block_lt_of_cell? w _ hx764_2)).trans hx764_2
        have HR764_2 := am hi764_2
        have HC764_2 := am hl764_2
        clear hi764_2 hl764_2
        replace p764 := eq_true p764
        replace q764 := eq_true q764
        go_wp2_with (first | ((with_reducible refine gate_dst (N := 7) rfl ?_); refine box_event ?hg (N := 7) ?hd (cs := #[.int .i64 0, .int .i64 0, .slice none 0 0]) (t := 106) ?hr ?_; (case hd => rfl); (case hg => rfl); (case hr => first | (go_simp; done) | (go_simp; rfl)); intro gb765 hg w12 hbox hb; have n0_ := am (below_step zb hb); have n1_ := am (hbox); have n2_ := am ((by rw [hg]; exact (below_size zb) : w.heap.size ≤ gb765)); have n3_ := am ((by rw [hg]; exact (below_size zb) : w.heap.size ≤ gb765)); clear HB; have HB := n0_; have BK765 := n1_; have GW765 := n2_; have GE765 := n3_; clear n0_ n1_ n2_ n3_; clear hb hbox hg; have hcz13_0 : w12.cell? ⟨gb765, 0, none⟩ = some (.int .i64 0) := (blk_cell BK765.out 0).trans rfl; have hcz13_1 : w12.cell? ⟨gb765, 1, none⟩ = some (.int .i64 0) := (blk_cell BK765.out 1).trans rfl; have hcz13_2 : w12.cell? ⟨gb765, 2, none⟩ = some (.slice none 0 0) := (blk_cell BK765.out 2).trans rfl; have hfz13_0 := blk_frozen BK765.out 0; have hfz13_1 := blk_frozen BK765.out 1; have hfz13_2 := blk_frozen BK765.out 2))
        go_roundg k1
        case measure => have := HK1.out; omega
        case rel => exact ⟨(x5_1), (wrap64 (x10_1 + 1)), zf, zf, H', ⟨by have := HK1.out; omega⟩, ⟨by repeat (first | (with_reducible first | exact HB.out | apply below_alloc | apply pw_below_drewN | apply below_drew1 | refine below_set ?_ GE765.out) | exact HB.out)⟩⟩
     ·rw [if_neg c5] at H
      exact absurd H (by simp)
    ·rw [if_neg c4] at H
     exact absurd H (by simp)
   ·rw [if_neg c3] at H
    have c3b0 : decide (x10_1 < (l0.length : Int)) = false := decide_eq_false c3
    clear c3
    obtain rfl := Option.some.inj H
    go_wp2
    go_ret
    exact ⟨by first | rfl | (simp [errW_none, errW_some] <;> rfl) | (simp [*, errW_none, errW_some] <;> rfl), by repeat (first | (with_reducible first | exact HB.out | apply below_alloc | apply pw_below_drewN | apply below_drew1) | exact HB.out)⟩
end Go.Proofs.Ytmcldkobejhaeaa.My
/- Written by this session's program (wip/gen): a plain function with the same answers as the Go function, and the proof that the Go code comes to them. Asked: that the plain function has an answer. -/
namespace Go.Proofs.Ytmcldkobejhaeaa.My
open Go.RowKit Go.Proofs.YtmcldkobejhaeaaW.PrintWords Go.Proofs.YtmcldkobejhaeaaW.PrintLast Go.Proofs.YtmcldkobejhaeaaW.PrintMore
attribute [local go_sem] max2_int min2_int max_two min_two max_three min_three max_four min_four
set_option linter.unusedVariables false
set_option linter.unusedSimpArgs false
def spec_PlaceOf.f (k : Nat) (l0 : List (S106)) (a1 : Int) (a2 : Int) : Option (Int × Bool) := (spec_l2Hunks.f k a1 l0).bind fun t766 => (if t766 = true then ((spec_l1In.f a2 0 a1).bind fun t767 => (if t767 = true then ((spec_l2Place.f k l0 a2).bind fun t768 => (if t768 < 0 then (some (0, false)) else ((spec_l2Place.f k l0 a2).bind fun t769 => (some (t769, true))))) else (some (0, false)))) else (some (0, false)))
set_option maxHeartbeats 8000000 in
set_option maxRecDepth 100000 in
theorem spec_PlaceOf.calls (k : Nat) (A0 : Option Addr) (c0 : Nat) (l0 : List (S106)) (a1 : Int) (a2 : Int) (r1 : Int) (r2 : Bool) (w : World) (hr0 : Kd.C k106 w A0 l0.length l0) (hc0 : l0.length ≤ c0) (h : spec_PlaceOf.f k l0 a1 a2 = some (r1, r2)) :
  Calls Try.prog 36 #[.slice A0 l0.length c0, .int .i64 a1, .int .i64 a2] w fun e w' => e = .returned (.tuple #[.int .i64 r1, .bool r2]) ∧ Below w.heap.size w w' := by
 have HR0 := am hr0
 have HC0 := am hc0
 clear hr0 hc0
 have HB := am (Below.refl w.heap.size w)
 have H : ((spec_l2Hunks.f k a1 l0).bind fun t766 => (if t766 = true then ((spec_l1In.f a2 0 a1).bind fun t767 => (if t767 = true then ((spec_l2Place.f k l0 a2).bind fun t768 => (if t768 < 0 then (some (0, false)) else ((spec_l2Place.f k l0 a2).bind fun t769 => (some (t769, true))))) else (some (0, false)))) else (some (0, false)))) = some (r1, r2) := h
 clear h
 replace H := Option.bind_eq_some_iff.mp H
 obtain ⟨t766, A40, H⟩ := H
 replace H : (if t766 = true then ((spec_l1In.f a2 0 a1).bind fun t767 => (if t767 = true then ((spec_l2Place.f k l0 a2).bind fun t768 => (if t768 < 0 then (some (0, false)) else ((spec_l2Place.f k l0 a2).bind fun t769 => (some (t769, true))))) else (some (0, false)))) else (some (0, false))) = some (r1, r2) := H
 have A4 := am A40
 clear A40
 by_cases c5 : t766 = true
 ·subst c5
  have H1 : ((spec_l1In.f a2 0 a1).bind fun t767 => (if t767 = true then ((spec_l2Place.f k l0 a2).bind fun t768 => (if t768 < 0 then (some (0, false)) else ((spec_l2Place.f k l0 a2).bind fun t769 => (some (t769, true))))) else (some (0, false)))) = some (r1, r2) := by rw [if_pos rfl] at H; exact H
  clear H
  have H := H1
  clear H1
  replace H := Option.bind_eq_some_iff.mp H
  obtain ⟨t767, A60, H⟩ := H
  replace H : (if t767 = true then ((spec_l2Place.f k l0 a2).bind fun t768 => (if t768 < 0 then (some (0, false)) else ((spec_l2Place.f k l0 a2).bind fun t769 => (some (t769, true))))) else (some (0, false))) = some (r1, r2) := H
  have A6 := am A60
  clear A60
  by_cases c7 : t767 = true
  ·subst c7
   have H1 : ((spec_l2Place.f k l0 a2).bind fun t768 => (if t768 < 0 then (some (0, false)) else ((spec_l2Place.f k l0 a2).bind fun t769 => (some (t769, true))))) = some (r1, r2) := by rw [if_pos rfl] at H; exact H
   clear H
   have H := H1
   clear H1
   replace H := Option.bind_eq_some_iff.mp H
   obtain ⟨t768, A80, H⟩ := H
   replace H : (if t768 < 0 then (some (0, false)) else ((spec_l2Place.f k l0 a2).bind fun t769 => (some (t769, true)))) = some (r1, r2) := H
   have A8 := am A80
   clear A80
   by_cases c9 : t768 < 0
   ·rw [if_pos c9] at H
    have c9b0 : decide (t768 < 0) = true := decide_eq_true c9
    clear c9
    simp only [Option.some.injEq, Prod.mk.injEq] at H
    obtain ⟨rfl, rfl⟩ := H
    go_enter Try.func36, Try.ntmps36
    go_wp2_with (first | ((with_reducible refine gateC (f := 95) rfl ?_); refine goesL_ (some 10) rfl rfl Try.func95 (by kernel_rfl) rfl #[.int .i64 a1, .slice A0 l0.length c0] rfl zm ?_; (with_reducible refine (spec_l2Hunks.calls k a1 _ _ l0 true _ ?side1 ?side2 A4.out).mono ?_); (case side1 => exact zq HR0.out); (case side2 => exact HC0.out); rintro e w10 ⟨rfl, hb⟩; refine ⟨_, rfl, ?_⟩; have n0_ := am (below_step zb hb); clear HB; have HB := n0_; clear n0_; (try clear hb)) | (go_at_call 67; (with_reducible refine (spec_l1In.calls a2 0 a1 true _ A6.out).mono ?_); rintro e w' ⟨rfl, ⟨nd, rfl⟩⟩) | (go_at_call 96; (with_reducible refine (spec_l2Place.calls k _ _ l0 a2 t768 _ ?side1 ?side2 A8.out).mono ?_); (case side1 => repeat (first | exact (Kd.C_below HR0.out zb) | (with_reducible refine Kd.C_alloc ?_ _) | (with_reducible refine Kd.C_drewN ?_ _) | (with_reducible refine Kd.C_drew ?_))); (case side2 => exact HC0.out); rintro e w11 ⟨rfl, hb⟩; have n0_ := am (below_step zb hb); clear HB; have HB := n0_; clear n0_; (try clear hb)))
    go_ret2
    exact ⟨by first | rfl | (simp [errW_none, errW_some] <;> rfl) | (simp [*, errW_none, errW_some] <;> rfl), by repeat (first | (with_reducible first | exact HB.out | apply below_alloc | apply pw_below_drewN | apply below_drew1) | exact HB.out)⟩
   ·rw [if_neg c9] at H
    have c9b0 : decide (t768 < 0) = false := decide_eq_false c9
    clear c9
    replace H := Option.bind_eq_some_iff.mp H
    obtain ⟨t769, A120, H⟩ := H
    replace H : (some (t769, true)) = some (r1, r2) := H
    have A12 := am A120
    clear A120
    simp only [Option.some.injEq, Prod.mk.injEq] at H
    obtain ⟨rfl, rfl⟩ := H
    go_enter Try.func36, Try.ntmps36
    go_wp2_with (first | ((with_reducible refine gateC (f := 95) rfl ?_); refine goesL_ (some 10) rfl rfl Try.func95 (by kernel_rfl) rfl #[.int .i64 a1, .slice A0 l0.length c0] rfl zm ?_; (with_reducible refine (spec_l2Hunks.calls k a1 _ _ l0 true _ ?side1 ?side2 A4.out).mono ?_); (case side1 => exact zq HR0.out); (case side2 => exact HC0.out); rintro e w13 ⟨rfl, hb⟩; refine ⟨_, rfl, ?_⟩; have n0_ := am (below_step zb hb); clear HB; have HB := n0_; clear n0_; (try clear hb)) | (go_at_call 67; (with_reducible refine (spec_l1In.calls a2 0 a1 true _ A6.out).mono ?_); rintro e w' ⟨rfl, ⟨nd, rfl⟩⟩) | (go_at_call 96; (with_reducible refine (spec_l2Place.calls k _ _ l0 a2 t768 _ ?side1 ?side2 A8.out).mono ?_); (case side1 => repeat (first | exact (Kd.C_below HR0.out zb) | (with_reducible refine Kd.C_alloc ?_ _) | (with_reducible refine Kd.C_drewN ?_ _) | (with_reducible refine Kd.C_drew ?_))); (case side2 => exact HC0.out); rintro e w14 ⟨rfl, hb⟩; have n0_ := am (below_step zb hb); clear HB; have HB := n0_; clear n0_; (try clear hb)) | ((with_reducible refine gateC (f := 96) rfl ?_); refine goesL_ (some 26) rfl rfl Try.func96 (by kernel_rfl) rfl #[.slice A0 l0.length c0, .int .i64 a2] rfl zm ?_; (with_reducible refine (spec_l2Place.calls k _ _ l0 a2 t769 _ ?side1 ?side2 A12.out).mono ?_); (case side1 => exact zq (Kd.C_below HR0.out HB.out)); (case side2 => exact HC0.out); rintro e w15 ⟨rfl, hb⟩; refine ⟨_, rfl, ?_⟩; have n0_ := am (below_step zb hb); clear HB; have HB := n0_; clear n0_; (try clear hb)))
    go_ret2
    exact ⟨by first | rfl | (simp [errW_none, errW_some] <;> rfl) | (simp [*, errW_none, errW_some] <;> rfl), by repeat (first | (with_reducible first | exact HB.out | apply below_alloc | apply pw_below_drewN | apply below_drew1) | exact HB.out)⟩
  ·replace c7 := Bool.eq_false_iff.mpr c7
   subst c7
   have H1 : (some (0, false)) = some (r1, r2) := by rw [if_neg (show ¬ (false = true) by decide)] at H; exact H
   clear H
   have H := H1
   clear H1
   simp only [Option.some.injEq, Prod.mk.injEq] at H
   obtain ⟨rfl, rfl⟩ := H
   go_enter Try.func36, Try.ntmps36
   go_wp2_with (first | ((with_reducible refine gateC (f := 95) rfl ?_); refine goesL_ (some 10) rfl rfl Try.func95 (by kernel_rfl) rfl #[.int .i64 a1, .slice A0 l0.length c0] rfl zm ?_; (with_reducible refine (spec_l2Hunks.calls k a1 _ _ l0 true _ ?side1 ?side2 A4.out).mono ?_); (case side1 => exact zq HR0.out); (case side2 => exact HC0.out); rintro e w16 ⟨rfl, hb⟩; refine ⟨_, rfl, ?_⟩; have n0_ := am (below_step zb hb); clear HB; have HB := n0_; clear n0_; (try clear hb)) | (go_at_call 67; (with_reducible refine (spec_l1In.calls a2 0 a1 false _ A6.out).mono ?_); rintro e w' ⟨rfl, ⟨nd, rfl⟩⟩))
   go_ret2
   exact ⟨by first | rfl | (simp [errW_none, errW_some] <;> rfl) | (simp [*, errW_none, errW_some] <;> rfl), by repeat (first | (with_reducible first | exact HB.out | apply below_alloc | apply pw_below_drewN | apply below_drew1) | exact HB.out)⟩
 ·replace c5 := Bool.eq_false_iff.mpr c5
  subst c5
  have H1 : (some (0, false)) = some (r1, r2) := by rw [if_neg (show ¬ (false = true) by decide)] at H; exact H
  clear H
  have H := H1
  clear H1
  simp only [Option.some.injEq, Prod.mk.injEq] at H
  obtain ⟨rfl, rfl⟩ := H
  go_enter Try.func36, Try.ntmps36
  go_wp2_with (first | ((with_reducible refine gateC (f := 95) rfl ?_); refine goesL_ (some 10) rfl rfl Try.func95 (by kernel_rfl) rfl #[.int .i64 a1, .slice A0 l0.length c0] rfl zm ?_; (with_reducible refine (spec_l2Hunks.calls k a1 _ _ l0 false _ ?side1 ?side2 A4.out).mono ?_); (case side1 => exact zq HR0.out); (case side2 => exact HC0.out); rintro e w17 ⟨rfl, hb⟩; refine ⟨_, rfl, ?_⟩; have n0_ := am (below_step zb hb); clear HB; have HB := n0_; clear n0_; (try clear hb)))
  go_ret2
  exact ⟨by first | rfl | (simp [errW_none, errW_some] <;> rfl) | (simp [*, errW_none, errW_some] <;> rfl), by repeat (first | (with_reducible first | exact HB.out | apply below_alloc | apply pw_below_drewN | apply below_drew1) | exact HB.out)⟩
end Go.Proofs.Ytmcldkobejhaeaa.My
/- Written by this session's program (wip/gen): a plain function with the same answers as the Go function, and the proof that the Go code comes to them. Asked: that the plain function has an answer. -/
namespace Go.Proofs.Ytmcldkobejhaeaa.My
open Go.RowKit Go.Proofs.YtmcldkobejhaeaaW.PrintWords Go.Proofs.YtmcldkobejhaeaaW.PrintLast Go.Proofs.YtmcldkobejhaeaaW.PrintMore
attribute [local go_sem] max2_int min2_int max_two min_two max_three min_three max_four min_four
set_option linter.unusedVariables false
set_option linter.unusedSimpArgs false
def spec_l2Patch.l0 : Nat → List ByteArray → List ByteArray → Int → List (S106) → Int → Int → Option (List ByteArray)
 | 0, _, _, _, _, _, _ => none
 | k + 1, x0, x5, x6, x9, x10, x11 => if x11 < x10 then (if 0 ≤ x11 then (if x11 < (x9.length : Int) then (if 0 ≤ x6 then (if x6 ≤ ((rd_T106 x9 x11).f0) then (if ((rd_T106 x9 x11).f0) ≤ (x0.length : Int) then (if x5.length + ((x0.take (((rd_T106 x9 x11).f0) : Int).toNat).drop (x6 : Int).toNat).length < 8796093022208 then ((some (x5 ++ ((x0.take (((rd_T106 x9 x11).f0) : Int).toNat).drop (x6 : Int).toNat) : List ByteArray)).bind fun y706 => (if y706.length + ((rd_T106 x9 x11).f2).length < 8796093022208 then (spec_l2Patch.l0 k x0 (y706 ++ ((rd_T106 x9 x11).f2)) (wrap64 (((rd_T106 x9 x11).f0) + ((rd_T106 x9 x11).f1))) x9 x10 (wrap64 (x11 + 1))) else (none))) else (none)) else (none)) else (none)) else (none)) else (none)) else (none)) else (if 0 ≤ x6 then (if x6 ≤ (x0.length : Int) then (if x5.length + (x0.drop (x6 : Int).toNat).length < 8796093022208 then (some (x5 ++ (x0.drop (x6 : Int).toNat))) else (none)) else (none)) else (none))
def spec_l2Patch.f (k : Nat) (l0 : List ByteArray) (l1 : List (S106)) : Option (List ByteArray) := spec_l2Patch.l0 k l0 ([] : List ByteArray) 0 l1 (l1.length : Int) 0
set_option maxHeartbeats 8000000 in
set_option maxRecDepth 100000 in
theorem spec_l2Patch.calls (k : Nat) (A0 : Option Addr) (c0 : Nat) (l0 : List ByteArray) (A1 : Option Addr) (c1 : Nat) (l1 : List (S106)) (r : List ByteArray) (w : World) (hr0 : Kd.C Kd.string w A0 l0.length l0) (hc0 : l0.length ≤ c0) (hr1 : Kd.C k106 w A1 l1.length l1) (hc1 : l1.length ≤ c1) (h : spec_l2Patch.f k l0 l1 = some r) :
  Calls Try.prog 133 #[.slice A0 l0.length c0, .slice A1 l1.length c1] w fun e w' => ∃ v0_ : Value, e = .returned (v0_) ∧ Kd.R Kd.string 9 w' w.heap.size (fun _ => True) v0_ r ∧ Below w.heap.size w w' := by
 have hu106 := Try.underlying106
 have HR0 := am hr0
 have HC0 := am hc0
 clear hr0 hc0
 have HR1 := am hr1
 have HC1 := am hc1
 clear hr1 hc1
 have HB := am (Below.refl w.heap.size w)
 have H : (spec_l2Patch.l0 k l0 ([] : List ByteArray) 0 l1 (l1.length : Int) 0) = some r := h
 clear h
 have H' := am H
 clear H
 go_enter Try.func133, Try.ntmps133
 go_wp2
 go_loopg [5, 6, 11] k (fun kq v5 v6 v11 w' => ∃ (x5_1 : List ByteArray) (x6_1 : Int) (x11_1 : Int), v6 = .int .i64 x6_1 ∧ v11 = .int .i64 x11_1 ∧ Aside0 (spec_l2Patch.l0 kq l0 x5_1 x6_1 l1 (l1.length : Int) x11_1 = some r) ∧ Aside0 (kq ≤ k) ∧ Aside0 (Kd.R Kd.string 9 w' w.heap.size (fun _ => True) v5 x5_1) ∧ Aside0 (Below w.heap.size w w'))
 case atStart => exact ⟨(([] : List ByteArray)), (0), (0), zf, zf, H', ⟨Nat.le_refl _⟩, ⟨by first | exact Kd.R_nil _ _ _ _ _ | exact Kd.Q_nil _ _ _ _ _ | exact Kd.S_nil _ _ _ _ _⟩, ⟨by repeat (first | (with_reducible first | exact HB.out | apply below_alloc | apply pw_below_drewN | apply below_drew1) | exact HB.out)⟩⟩
 case round =>
  clear H'
  try clear c1
  try clear p2
  obtain ⟨x5_1, x6_1, x11_1, rfl, rfl, HA, HK1, HO_5, HB⟩ := hrel
  cases gk with
  | zero => exact absurd HA.out (by simp [spec_l2Patch.l0])
  | succ k1 =>
   have H := HA.out
   clear HA
   simp only [spec_l2Patch.l0] at H
   by_cases c3 : x11_1 < (l1.length : Int)
   ·rw [if_pos c3] at H
    have c3b0 : decide (x11_1 < (l1.length : Int)) = true := decide_eq_true c3
    clear c3
    by_cases c4 : 0 ≤ x11_1
    ·rw [if_pos c4] at H
     have c4b0 : decide (0 ≤ x11_1) = true := decide_eq_true c4
     clear c4
     by_cases c5 : x11_1 < (l1.length : Int)
     ·rw [if_pos c5] at H
      have c5b0 : decide (x11_1 < (l1.length : Int)) = true := decide_eq_true c5
      clear c5
      by_cases c6 : 0 ≤ x6_1
      ·rw [if_pos c6] at H
       have c6b0 := eq_true c6
       have c6b1 : decide (0 ≤ x6_1) = true := decide_eq_true c6
       clear c6
       by_cases c7 : x6_1 ≤ ((rd_T106 l1 x11_1).f0)
       ·rw [if_pos c7] at H
        have c7b0 := eq_true c7
        have c7b1 : decide (x6_1 ≤ ((rd_T106 l1 x11_1).f0)) = true := decide_eq_true c7
        clear c7
        by_cases c8 : ((rd_T106 l1 x11_1).f0) ≤ (l0.length : Int)
        ·rw [if_pos c8] at H
         have c8b0 := eq_true c8
         have c8b1 : decide (((rd_T106 l1 x11_1).f0) ≤ (l0.length : Int)) = true := decide_eq_true c8
         clear c8
         by_cases c9 : x5_1.length + ((l0.take (((rd_T106 l1 x11_1).f0) : Int).toNat).drop (x6_1 : Int).toNat).length < 8796093022208
         ·rw [if_pos c9] at H
          have LMc9 := am c9
          clear c9
          obtain ⟨y706, hy706⟩ : ∃ y_ : List ByteArray, y_ = (x5_1 ++ ((l0.take (((rd_T106 l1 x11_1).f0) : Int).toNat).drop (x6_1 : Int).toNat)) := ⟨_, rfl⟩
          replace H : (if y706.length + ((rd_T106 l1 x11_1).f2).length < 8796093022208 then (spec_l2Patch.l0 k1 l0 (y706 ++ ((rd_T106 l1 x11_1).f2)) (wrap64 (((rd_T106 l1 x11_1).f0) + ((rd_T106 l1 x11_1).f1))) l1 (l1.length : Int) (wrap64 (x11_1 + 1))) else (none)) = some r := by first | (rw [hy706]; with_reducible exact H) | (have H2_ := (Option.bind_some _ _).symm.trans H; rw [hy706]; with_reducible exact H2_) | (have H2_ := (Option.bind_some _ _).symm.trans H; with_reducible exact H2_) | with_reducible exact H | (rw [hy706]; exact H) | exact H
          have Ny706 := am hy706
          clear hy706
          by_cases c10 : y706.length + ((rd_T106 l1 x11_1).f2).length < 8796093022208
          ·rw [if_pos c10] at H
           have LMc10 := am c10
           clear c10
           obtain ⟨y709, hy709⟩ : ∃ y_ : List ByteArray, y_ = (y706 ++ ((rd_T106 l1 x11_1).f2)) := ⟨_, rfl⟩
           replace H : (spec_l2Patch.l0 k1 l0 y709 (wrap64 (((rd_T106 l1 x11_1).f0) + ((rd_T106 l1 x11_1).f1))) l1 (l1.length : Int) (wrap64 (x11_1 + 1))) = some r := by first | (rw [hy709]; with_reducible exact H) | (have H2_ := (Option.bind_some _ _).symm.trans H; rw [hy709]; with_reducible exact H2_) | (have H2_ := (Option.bind_some _ _).symm.trans H; with_reducible exact H2_) | with_reducible exact H | (rw [hy709]; exact H) | exact H
           have Ny709 := am hy709
           clear hy709
           have H' := am H
           clear H
           have p703 : 0 ≤ (x11_1 : Int) := oa
           have q703 : x11_1 < (l1.length : Int) := oa
           obtain ⟨ad703, A703_2, c703_2, e703, hx703_0, hx703_1, hx703_2, hl703_2, hi703_2⟩ := at_T106 HR1.out x11_1 p703 q703
           cases e703
           replace hx703_0 := (HB.out.cell (World.block_lt_of_cell? w _ hx703_0)).trans hx703_0
           replace hx703_1 := (HB.out.cell (World.block_lt_of_cell? w _ hx703_1)).trans hx703_1
           replace hx703_2 := (HB.out.cell (World.block_lt_of_cell? w _ hx703_2)).trans hx703_2
           have HR703_2 := am hi703_2
           have HC703_2 := am hl703_2
           clear hi703_2 hl703_2
           replace p703 := eq_true p703
           replace q703 := eq_true q703
           go_wp2_with (first | ((with_reducible refine gate_dst (N := 8) rfl ?_); refine box_event ?hg (N := 8) ?hd (cs := #[.int .i64 0, .int .i64 0, .slice none 0 0]) (t := 106) ?hr ?_; (case hd => rfl); (case hg => rfl); (case hr => first | (go_simp; done) | (go_simp; rfl)); intro gb704 hg w11 hbox hb; have n0_ := am (Kd.R_below (zr HO_5.out) hb); have n1_ := am (below_step zb hb); have n2_ := am (hbox); have n3_ := am ((by rw [hg]; exact (below_size zb) : w.heap.size ≤ gb704)); have n4_ := am ((by rw [hg]; exact (below_size zb) : w.heap.size ≤ gb704)); clear HO_5; clear HB; have HO_5 := n0_; have HB := n1_; have BK704 := n2_; have GW704 := n3_; have GE704 := n4_; clear n0_ n1_ n2_ n3_ n4_; clear hb hbox hg; have hcz12_0 : w11.cell? ⟨gb704, 0, none⟩ = some (.int .i64 0) := (blk_cell BK704.out 0).trans rfl; have hcz12_1 : w11.cell? ⟨gb704, 1, none⟩ = some (.int .i64 0) := (blk_cell BK704.out 1).trans rfl; have hcz12_2 : w11.cell? ⟨gb704, 2, none⟩ = some (.slice none 0 0) := (blk_cell BK704.out 2).trans rfl; have hfz12_0 := blk_frozen BK704.out 0; have hfz12_1 := blk_frozen BK704.out 1; have hfz12_2 := blk_frozen BK704.out 2; obtain ⟨i013, hi013, _, hsz13, _⟩ := info_parts info9; obtain ⟨A13, hcut13, hA13, hC13⟩ := print_mid_of (P := Try.prog) Value.string (⟨#[]⟩ : ByteArray) 24 9 .i64 .i64 Try.underlying24 hi013 hsz13 A0 c0 l0 x6_1 ((rd_T106 l1 x11_1).f0) oa (by first | omega | exact oa) oa HC0.out; have HR705 := am (Kd.C_of_reads (h1 := fun _ => rfl) (hA13 _ (Kd.reads_of_C HR0.out))); have HC705 := am hC13; clear hA13 hC13 hi013 hsz13) | ((with_reducible refine gateB (b := .append) (xs := #[.tmp 15, .tmp 20]) rfl ?_); at_builtin; refine Kd.R_append_rows Kd.string (w0 := w) w.heap.size rfl (.tmp 15) (.tmp 20) 24 9 (.string ⟨#[]⟩) 16 rfl Try.underlying24 info9 rfl (by decide) (by omega) u5 x5_1 ((l0.take (((rd_T106 l1 x11_1).f0) : Int).toNat).drop (x6_1 : Int).toNat) _ _ _ (fun _ => True) (fun _ => False) rfl rfl ?aO ?aR (fun _ _ h => h) (fun _ h => h.elim) ?aF ?aB ?aS ?aL ?_; (case aR => first | (rw [← show ((l0.take (((rd_T106 l1 x11_1).f0) : Int).toNat).drop (x6_1 : Int).toNat).length = (((rd_T106 l1 x11_1).f0).toNat - x6_1.toNat) from (by rw [List.length_drop, List.length_take]; have h_ : (((rd_T106 l1 x11_1).f0) : Int) ≤ (l0.length : Int) := oa; omega)]; exact Kd.C_below HR705.out (by repeat (first | (with_reducible first | exact HB.out | apply below_alloc | apply pw_below_drewN | apply below_drew1 | refine below_set ?_ GE704.out) | exact HB.out))) | (exact Kd.C_below HR705.out (by repeat (first | (with_reducible first | exact HB.out | apply below_alloc | apply pw_below_drewN | apply below_drew1 | refine below_set ?_ GE704.out) | exact HB.out)))); (case aB => exact (by repeat (first | (with_reducible first | exact HB.out | apply below_alloc | apply pw_below_drewN | apply below_drew1 | refine below_set ?_ GE704.out) | exact HB.out))); (case aF => exact (fun _ _ => trivial)); (case aO => exact (by (with_reducible repeat (first | apply Kd.R_alloc | apply Kd.R_drewN | apply Kd.R_drew)); exact Kd.R_mono (Kd.R_far (p := ⟨gb704, 2, none⟩) (Kd.R_far (p := ⟨gb704, 1, none⟩) (Kd.R_far (p := ⟨gb704, 0, none⟩) (Kd.R_types HO_5.out BK704.out (by decide)) (fun _ hk => hk.2) (.int .i64 ((rd_T106 l1 x11_1).f0))) (fun _ hk => hk.2) (.int .i64 ((rd_T106 l1 x11_1).f1))) (fun _ hk => hk.2) (.slice A703_2 ((rd_T106 l1 x11_1).f2).length c703_2)) (fun _ hk => trivial))); (case aS => exact (below_size (by repeat (first | (with_reducible first | exact HB.out | apply below_alloc | apply pw_below_drewN | apply below_drew1 | refine below_set ?_ GE704.out) | exact HB.out)))); (case aL => have := LMc9.out; have hlx_ := (show ((l0.take (((rd_T106 l1 x11_1).f0) : Int).toNat).drop (x6_1 : Int).toNat).length = (((rd_T106 l1 x11_1).f0).toNat - x6_1.toNat) from (by rw [List.length_drop, List.length_take]; have h_ : (((rd_T106 l1 x11_1).f0) : Int) ≤ (l0.length : Int) := oa; omega)); omega); intro v707 w14 ho hb hg hat; rw [← Ny706.out] at ho; have n0_ := am (blk_grown (g := gb704) (o := .cells #[.int .i64 ((rd_T106 l1 x11_1).f0), .int .i64 ((rd_T106 l1 x11_1).f1), .slice A703_2 ((rd_T106 l1 x11_1).f2).length c703_2] 106 (0, 0)) (by (with_reducible repeat (first | refine blk_drewN ?_ _ | refine blk_drew ?_ | refine blk_alloc ?_ _)); refine blk_put (cs := #[.int .i64 ((rd_T106 l1 x11_1).f0), .int .i64 ((rd_T106 l1 x11_1).f1), .slice none 0 0]) ?_ 2 _ rfl; (with_reducible repeat (first | refine blk_drewN ?_ _ | refine blk_drew ?_ | refine blk_alloc ?_ _)); refine blk_put (cs := #[.int .i64 ((rd_T106 l1 x11_1).f0), .int .i64 0, .slice none 0 0]) ?_ 1 _ rfl; (with_reducible repeat (first | refine blk_drewN ?_ _ | refine blk_drew ?_ | refine blk_alloc ?_ _)); refine blk_put (cs := #[.int .i64 0, .int .i64 0, .slice none 0 0]) ?_ 0 _ rfl; (with_reducible repeat (first | refine blk_drewN ?_ _ | refine blk_drew ?_ | refine blk_alloc ?_ _)); exact BK704.out) hg (Kd.R_ne HO_5.out BK704.out (by decide))); have n1_ := am (hb); have n2_ := am (ho); clear BK704; clear HB; clear HO_5; have BK704 := n0_; have HB := n1_; have HO708 := n2_; clear n0_ n1_ n2_; clear ho hb hg hat; have hcz15_0 : w14.cell? ⟨gb704, 0, none⟩ = some (.int .i64 ((rd_T106 l1 x11_1).f0)) := (blk_cell BK704.out 0).trans rfl; have hcz15_1 : w14.cell? ⟨gb704, 1, none⟩ = some (.int .i64 ((rd_T106 l1 x11_1).f1)) := (blk_cell BK704.out 1).trans rfl; have hcz15_2 : w14.cell? ⟨gb704, 2, none⟩ = some (.slice A703_2 ((rd_T106 l1 x11_1).f2).length c703_2) := (blk_cell BK704.out 2).trans rfl; have hfz15_0 := blk_frozen BK704.out 0; have hfz15_1 := blk_frozen BK704.out 1; have hfz15_2 := blk_frozen BK704.out 2) | ((with_reducible refine gateB (b := .append) (xs := #[.tmp 22, .tmp 24]) rfl ?_); at_builtin; refine Kd.R_append_rows Kd.string (w0 := w) w.heap.size rfl (.tmp 22) (.tmp 24) 24 9 (.string ⟨#[]⟩) 16 rfl Try.underlying24 info9 rfl (by decide) (by omega) v707 y706 ((rd_T106 l1 x11_1).f2) _ _ _ (fun _ => True) (fun _ => False) rfl rfl ?aO ?aR (fun _ _ h => h) (fun _ h => h.elim) ?aF ?aB ?aS ?aL ?_; (case aR => exact zq (Kd.C_below HR703_2.out HB.out)); (case aB => exact (by repeat (first | (with_reducible first | exact HB.out | apply below_alloc | apply pw_below_drewN | apply below_drew1 | refine below_set ?_ GE704.out) | exact HB.out))); (case aF => exact (fun _ _ => trivial)); (case aO => exact (zr HO708.out)); (case aS => exact (below_size (by repeat (first | (with_reducible first | exact HB.out | apply below_alloc | apply pw_below_drewN | apply below_drew1 | refine below_set ?_ GE704.out) | exact HB.out)))); (case aL => have := LMc10.out; omega); intro v710 w16 ho hb hg hat; rw [← Ny709.out] at ho; have n0_ := am (blk_grown (g := gb704) (o := .cells #[.int .i64 ((rd_T106 l1 x11_1).f0), .int .i64 ((rd_T106 l1 x11_1).f1), .slice A703_2 ((rd_T106 l1 x11_1).f2).length c703_2] 106 (0, 0)) (zk BK704.out) hg (Kd.R_ne HO708.out BK704.out (by decide))); have n1_ := am (hb); have n2_ := am (ho); clear BK704; clear HB; clear HO708; have BK704 := n0_; have HB := n1_; have HO711 := n2_; clear n0_ n1_ n2_; clear ho hb hg hat; have hcz17_0 : w16.cell? ⟨gb704, 0, none⟩ = some (.int .i64 ((rd_T106 l1 x11_1).f0)) := (blk_cell BK704.out 0).trans rfl; have hcz17_1 : w16.cell? ⟨gb704, 1, none⟩ = some (.int .i64 ((rd_T106 l1 x11_1).f1)) := (blk_cell BK704.out 1).trans rfl; have hcz17_2 : w16.cell? ⟨gb704, 2, none⟩ = some (.slice A703_2 ((rd_T106 l1 x11_1).f2).length c703_2) := (blk_cell BK704.out 2).trans rfl; have hfz17_0 := blk_frozen BK704.out 0; have hfz17_1 := blk_frozen BK704.out 1; have hfz17_2 := blk_frozen BK704.out 2))
           go_roundg k1
           case measure => have := HK1.out; omega
           case rel => exact ⟨(y709), (wrap64 (((rd_T106 l1 x11_1).f0) + ((rd_T106 l1 x11_1).f1))), (wrap64 (x11_1 + 1)), zf, zf, H', ⟨by have := HK1.out; omega⟩, ⟨by (with_reducible repeat (first | apply Kd.R_alloc | apply Kd.R_drewN | apply Kd.R_drew)); exact HO711.out⟩, ⟨by repeat (first | (with_reducible first | exact HB.out | apply below_alloc | apply pw_below_drewN | apply below_drew1 | refine below_set ?_ GE704.out) | exact HB.out)⟩⟩
          ·rw [if_neg c10] at H
           exact absurd H (by simp)
         ·rw [if_neg c9] at H
          exact absurd H (by simp)
        ·rw [if_neg c8] at H
         exact absurd H (by simp)
       ·rw [if_neg c7] at H
        exact absurd H (by simp)
      ·rw [if_neg c6] at H
       exact absurd H (by simp)
     ·rw [if_neg c5] at H
      exact absurd H (by simp)
    ·rw [if_neg c4] at H
     exact absurd H (by simp)
   ·rw [if_neg c3] at H
    have c3b0 : decide (x11_1 < (l1.length : Int)) = false := decide_eq_false c3
    clear c3
    by_cases c18 : 0 ≤ x6_1
    ·rw [if_pos c18] at H
     have c18b0 := eq_true c18
     have c18b1 : decide (0 ≤ x6_1) = true := decide_eq_true c18
     clear c18
     by_cases c19 : x6_1 ≤ (l0.length : Int)
     ·rw [if_pos c19] at H
      have c19b0 := eq_true c19
      have c19b1 : decide (x6_1 ≤ (l0.length : Int)) = true := decide_eq_true c19
      clear c19
      by_cases c20 : x5_1.length + (l0.drop (x6_1 : Int).toNat).length < 8796093022208
      ·rw [if_pos c20] at H
       have LMc20 := am c20
       clear c20
       obtain ⟨y713, hy713⟩ : ∃ y_ : List ByteArray, y_ = (x5_1 ++ (l0.drop (x6_1 : Int).toNat)) := ⟨_, rfl⟩
       replace H : (some y713) = some r := by first | (rw [hy713]; with_reducible exact H) | (have H2_ := (Option.bind_some _ _).symm.trans H; rw [hy713]; with_reducible exact H2_) | (have H2_ := (Option.bind_some _ _).symm.trans H; with_reducible exact H2_) | with_reducible exact H | (rw [hy713]; exact H) | exact H
       have Ny713 := am hy713
       clear hy713
       obtain rfl := Option.some.inj H
       obtain ⟨i021, hi021, _, hsz21, _⟩ := info_parts info9
       obtain ⟨A21, hcut21, hA21, hC21⟩ := print_drop_of (P := Try.prog) Value.string (⟨#[]⟩ : ByteArray) 24 9 .i64 Try.underlying24 hi021 hsz21 A0 c0 l0 x6_1 oa oa HC0.out
       have HR712 := am (Kd.C_of_reads (h1 := fun _ => rfl) (hA21 _ (Kd.reads_of_C HR0.out)))
       have HC712 := am hC21
       clear hA21 hC21 hi021 hsz21
       go_wp2_with (first | ((with_reducible refine gateB (b := .append) (xs := #[.tmp 32, .tmp 35]) rfl ?_); at_builtin; refine Kd.R_append_rows Kd.string (w0 := w) w.heap.size rfl (.tmp 32) (.tmp 35) 24 9 (.string ⟨#[]⟩) 16 rfl Try.underlying24 info9 rfl (by decide) (by omega) u5 x5_1 (l0.drop (x6_1 : Int).toNat) _ _ _ (fun _ => True) (fun _ => False) rfl rfl ?aO ?aR (fun _ _ h => h) (fun _ h => h.elim) ?aF ?aB ?aS ?aL ?_; (case aR => first | (rw [← show (l0.drop (x6_1 : Int).toNat).length = (l0.length - x6_1.toNat) from List.length_drop]; exact zq (Kd.C_below HR712.out HB.out)) | (exact zq (Kd.C_below HR712.out HB.out))); (case aB => exact zb); (case aF => exact (fun _ _ => trivial)); (case aO => exact (zr HO_5.out)); (case aS => exact (below_size zb)); (case aL => have := LMc20.out; have hlx_ := (show (l0.drop (x6_1 : Int).toNat).length = (l0.length - x6_1.toNat) from List.length_drop); omega); intro v714 w22 ho hb hg hat; rw [← Ny713.out] at ho; have n0_ := am (hb); have n1_ := am (ho); clear HB; clear HO_5; have HB := n0_; have HO715 := n1_; clear n0_ n1_; clear ho hb hg hat))
       go_ret
       exact ⟨_, by first | rfl | (simp [errW_none, errW_some] <;> rfl) | (simp [*, errW_none, errW_some] <;> rfl), by (with_reducible repeat (first | apply Kd.R_alloc | apply Kd.R_drewN | apply Kd.R_drew)); exact HO715.out, by repeat (first | (with_reducible first | exact HB.out | apply below_alloc | apply pw_below_drewN | apply below_drew1) | exact HB.out)⟩
      ·rw [if_neg c20] at H
       exact absurd H (by simp)
     ·rw [if_neg c19] at H
      exact absurd H (by simp)
    ·rw [if_neg c18] at H
     exact absurd H (by simp)
end Go.Proofs.Ytmcldkobejhaeaa.My
/- Written by this session's program (wip/gen): a plain function with the same answers as the Go function, and the proof that the Go code comes to them. Asked: that the plain function has an answer. -/
namespace Go.Proofs.Ytmcldkobejhaeaa.My
open Go.RowKit Go.Proofs.YtmcldkobejhaeaaW.PrintWords Go.Proofs.YtmcldkobejhaeaaW.PrintLast Go.Proofs.YtmcldkobejhaeaaW.PrintMore
attribute [local go_sem] max2_int min2_int max_two min_two max_three min_three max_four min_four
set_option linter.unusedVariables false
set_option linter.unusedSimpArgs false
def spec_Patch.f (k : Nat) (l0 : List ByteArray) (l1 : List (S106)) : Option (List ByteArray × Bool) := (spec_l2Asked.f k l0 l1).bind fun t716 => (if t716 = true then ((spec_l2Patch.f k l0 l1).bind fun t717 => ((spec_l1Good.f k t717).bind fun t720 => (if t720 = true then (some (t717, true)) else (some (([] : List ByteArray), false))))) else (some (([] : List ByteArray), false)))
set_option maxHeartbeats 8000000 in
set_option maxRecDepth 100000 in
theorem spec_Patch.calls (k : Nat) (A0 : Option Addr) (c0 : Nat) (l0 : List ByteArray) (A1 : Option Addr) (c1 : Nat) (l1 : List (S106)) (r1 : List ByteArray) (r2 : Bool) (w : World) (hr0 : Kd.C Kd.string w A0 l0.length l0) (hc0 : l0.length ≤ c0) (hr1 : Kd.C k106 w A1 l1.length l1) (hc1 : l1.length ≤ c1) (h : spec_Patch.f k l0 l1 = some (r1, r2)) :
  Calls Try.prog 88 #[.slice A0 l0.length c0, .slice A1 l1.length c1] w fun e w' => ∃ v0_ : Value, e = .returned (.tuple #[v0_, .bool r2]) ∧ Kd.R Kd.string 9 w' w.heap.size (fun _ => True) v0_ r1 ∧ Below w.heap.size w w' := by
 have HR0 := am hr0
 have HC0 := am hc0
 clear hr0 hc0
 have HR1 := am hr1
 have HC1 := am hc1
 clear hr1 hc1
 have HB := am (Below.refl w.heap.size w)
 have H : ((spec_l2Asked.f k l0 l1).bind fun t716 => (if t716 = true then ((spec_l2Patch.f k l0 l1).bind fun t717 => ((spec_l1Good.f k t717).bind fun t720 => (if t720 = true then (some (t717, true)) else (some (([] : List ByteArray), false))))) else (some (([] : List ByteArray), false)))) = some (r1, r2) := h
 clear h
 replace H := Option.bind_eq_some_iff.mp H
 obtain ⟨t716, A30, H⟩ := H
 replace H : (if t716 = true then ((spec_l2Patch.f k l0 l1).bind fun t717 => ((spec_l1Good.f k t717).bind fun t720 => (if t720 = true then (some (t717, true)) else (some (([] : List ByteArray), false))))) else (some (([] : List ByteArray), false))) = some (r1, r2) := H
 have A3 := am A30
 clear A30
 by_cases c4 : t716 = true
 ·subst c4
  have H1 : ((spec_l2Patch.f k l0 l1).bind fun t717 => ((spec_l1Good.f k t717).bind fun t720 => (if t720 = true then (some (t717, true)) else (some (([] : List ByteArray), false))))) = some (r1, r2) := by rw [if_pos rfl] at H; exact H
  clear H
  have H := H1
  clear H1
  replace H := Option.bind_eq_some_iff.mp H
  obtain ⟨t717, A50, H⟩ := H
  replace H : ((spec_l1Good.f k t717).bind fun t720 => (if t720 = true then (some (t717, true)) else (some (([] : List ByteArray), false)))) = some (r1, r2) := H
  have A5 := am A50
  clear A50
  replace H := Option.bind_eq_some_iff.mp H
  obtain ⟨t720, A60, H⟩ := H
  replace H : (if t720 = true then (some (t717, true)) else (some (([] : List ByteArray), false))) = some (r1, r2) := H
  have A6 := am A60
  clear A60
  by_cases c7 : t720 = true
  ·subst c7
   have H1 : (some (t717, true)) = some (r1, r2) := by rw [if_pos rfl] at H; exact H
   clear H
   have H := H1
   clear H1
   simp only [Option.some.injEq, Prod.mk.injEq] at H
   obtain ⟨rfl, rfl⟩ := H
   go_enter Try.func88, Try.ntmps88
   go_wp2_with (first | ((with_reducible refine gateC (f := 84) rfl ?_); refine goesL_ (some 9) rfl rfl Try.func84 (by kernel_rfl) rfl #[.slice A0 l0.length c0, .slice A1 l1.length c1] rfl zm ?_; (with_reducible refine (spec_l2Asked.calls k _ _ l0 _ _ l1 true _ ?side1 ?side2 ?side3 ?side4 A3.out).mono ?_); (case side1 => exact zq HR0.out); (case side2 => exact HC0.out); (case side3 => exact zq HR1.out); (case side4 => exact HC1.out); rintro e w8 ⟨rfl, hb⟩; refine ⟨_, rfl, ?_⟩; have n0_ := am (below_step zb hb); clear HB; have HB := n0_; clear n0_; (try clear hb)) | ((with_reducible refine gateC (f := 133) rfl ?_); refine goesL_ (some 13) rfl rfl Try.func133 (by kernel_rfl) rfl #[.slice A0 l0.length c0, .slice A1 l1.length c1] rfl zm ?_; (with_reducible refine (spec_l2Patch.calls k _ _ l0 _ _ l1 t717 _ ?side1 ?side2 ?side3 ?side4 A5.out).mono ?_); (case side1 => exact zq (Kd.C_below HR0.out HB.out)); (case side2 => exact HC0.out); (case side3 => exact zq (Kd.C_below HR1.out HB.out)); (case side4 => exact HC1.out); rintro e w9 ⟨v718, rfl, ho0, hb⟩; refine ⟨_, rfl, ?_⟩; have n0_ := am (Kd.R_lower ho0 (below_size zb)); have n1_ := am (below_step zb hb); clear HB; have HO719 := n0_; have HB := n1_; clear n0_ n1_; (try clear hb); (try clear ho0); obtain ⟨Ao10, co10, eo10⟩ := Kd.R_slice HO719.out; subst eo10) | ((with_reducible refine gateC (f := 66) rfl ?_); refine goesL_ (some 15) rfl rfl Try.func66 (by kernel_rfl) rfl #[.slice Ao10 t717.length co10] rfl zm ?_; (with_reducible refine (spec_l1Good.calls k _ _ t717 true _ ?side1 ?side2 A6.out).mono ?_); (case side1 => repeat (first | exact (Kd.R_reads' HO719.out).2.2 | (with_reducible refine Kd.C_alloc ?_ _) | (with_reducible refine Kd.C_drewN ?_ _) | (with_reducible refine Kd.C_drew ?_))); (case side2 => exact (Kd.R_reads' HO719.out).2.1); rintro e w' ⟨rfl, ⟨nd, rfl⟩⟩; refine ⟨_, rfl, ?_⟩))
   go_ret2
   exact ⟨_, by first | rfl | (simp [errW_none, errW_some] <;> rfl) | (simp [*, errW_none, errW_some] <;> rfl), by (with_reducible repeat (first | apply Kd.R_alloc | apply Kd.R_drewN | apply Kd.R_drew)); exact HO719.out, by repeat (first | (with_reducible first | exact HB.out | apply below_alloc | apply pw_below_drewN | apply below_drew1) | exact HB.out)⟩
  ·replace c7 := Bool.eq_false_iff.mpr c7
   subst c7
   have H1 : (some (([] : List ByteArray), false)) = some (r1, r2) := by rw [if_neg (show ¬ (false = true) by decide)] at H; exact H
   clear H
   have H := H1
   clear H1
   simp only [Option.some.injEq, Prod.mk.injEq] at H
   obtain ⟨rfl, rfl⟩ := H
   go_enter Try.func88, Try.ntmps88
   go_wp2_with (first | ((with_reducible refine gateC (f := 84) rfl ?_); refine goesL_ (some 9) rfl rfl Try.func84 (by kernel_rfl) rfl #[.slice A0 l0.length c0, .slice A1 l1.length c1] rfl zm ?_; (with_reducible refine (spec_l2Asked.calls k _ _ l0 _ _ l1 true _ ?side1 ?side2 ?side3 ?side4 A3.out).mono ?_); (case side1 => exact zq HR0.out); (case side2 => exact HC0.out); (case side3 => exact zq HR1.out); (case side4 => exact HC1.out); rintro e w11 ⟨rfl, hb⟩; refine ⟨_, rfl, ?_⟩; have n0_ := am (below_step zb hb); clear HB; have HB := n0_; clear n0_; (try clear hb)) | ((with_reducible refine gateC (f := 133) rfl ?_); refine goesL_ (some 13) rfl rfl Try.func133 (by kernel_rfl) rfl #[.slice A0 l0.length c0, .slice A1 l1.length c1] rfl zm ?_; (with_reducible refine (spec_l2Patch.calls k _ _ l0 _ _ l1 t717 _ ?side1 ?side2 ?side3 ?side4 A5.out).mono ?_); (case side1 => exact zq (Kd.C_below HR0.out HB.out)); (case side2 => exact HC0.out); (case side3 => exact zq (Kd.C_below HR1.out HB.out)); (case side4 => exact HC1.out); rintro e w12 ⟨v718, rfl, ho0, hb⟩; refine ⟨_, rfl, ?_⟩; have n0_ := am (Kd.R_lower ho0 (below_size zb)); have n1_ := am (below_step zb hb); clear HB; have HO719 := n0_; have HB := n1_; clear n0_ n1_; (try clear hb); (try clear ho0); obtain ⟨Ao13, co13, eo13⟩ := Kd.R_slice HO719.out; subst eo13) | ((with_reducible refine gateC (f := 66) rfl ?_); refine goesL_ (some 15) rfl rfl Try.func66 (by kernel_rfl) rfl #[.slice Ao13 t717.length co13] rfl zm ?_; (with_reducible refine (spec_l1Good.calls k _ _ t717 false _ ?side1 ?side2 A6.out).mono ?_); (case side1 => repeat (first | exact (Kd.R_reads' HO719.out).2.2 | (with_reducible refine Kd.C_alloc ?_ _) | (with_reducible refine Kd.C_drewN ?_ _) | (with_reducible refine Kd.C_drew ?_))); (case side2 => exact (Kd.R_reads' HO719.out).2.1); rintro e w' ⟨rfl, ⟨nd, rfl⟩⟩; refine ⟨_, rfl, ?_⟩))
   go_ret2
   exact ⟨_, by first | rfl | (simp [errW_none, errW_some] <;> rfl) | (simp [*, errW_none, errW_some] <;> rfl), by first | exact Kd.R_nil _ _ _ _ _ | exact Kd.Q_nil _ _ _ _ _ | exact Kd.S_nil _ _ _ _ _, by repeat (first | (with_reducible first | exact HB.out | apply below_alloc | apply pw_below_drewN | apply below_drew1) | exact HB.out)⟩
 ·replace c4 := Bool.eq_false_iff.mpr c4
  subst c4
  have H1 : (some (([] : List ByteArray), false)) = some (r1, r2) := by rw [if_neg (show ¬ (false = true) by decide)] at H; exact H
  clear H
  have H := H1
  clear H1
  simp only [Option.some.injEq, Prod.mk.injEq] at H
  obtain ⟨rfl, rfl⟩ := H
  go_enter Try.func88, Try.ntmps88
  go_wp2_with (first | ((with_reducible refine gateC (f := 84) rfl ?_); refine goesL_ (some 9) rfl rfl Try.func84 (by kernel_rfl) rfl #[.slice A0 l0.length c0, .slice A1 l1.length c1] rfl zm ?_; (with_reducible refine (spec_l2Asked.calls k _ _ l0 _ _ l1 false _ ?side1 ?side2 ?side3 ?side4 A3.out).mono ?_); (case side1 => exact zq HR0.out); (case side2 => exact HC0.out); (case side3 => exact zq HR1.out); (case side4 => exact HC1.out); rintro e w14 ⟨rfl, hb⟩; refine ⟨_, rfl, ?_⟩; have n0_ := am (below_step zb hb); clear HB; have HB := n0_; clear n0_; (try clear hb)))
  go_ret2
  exact ⟨_, by first | rfl | (simp [errW_none, errW_some] <;> rfl) | (simp [*, errW_none, errW_some] <;> rfl), by first | exact Kd.R_nil _ _ _ _ _ | exact Kd.Q_nil _ _ _ _ _ | exact Kd.S_nil _ _ _ _ _, by repeat (first | (with_reducible first | exact HB.out | apply below_alloc | apply pw_below_drewN | apply below_drew1) | exact HB.out)⟩
end Go.Proofs.Ytmcldkobejhaeaa.My
/- Written by this session's program (wip/gen): a plain function with the same answers as the Go function, and the proof that the Go code comes to them. Asked: that the plain function has an answer. -/
namespace Go.Proofs.Ytmcldkobejhaeaa.My
open Go.RowKit Go.Proofs.YtmcldkobejhaeaaW.PrintWords Go.Proofs.YtmcldkobejhaeaaW.PrintLast Go.Proofs.YtmcldkobejhaeaaW.PrintMore
attribute [local go_sem] max2_int min2_int max_two min_two max_three min_three max_four min_four
set_option linter.unusedVariables false
set_option linter.unusedSimpArgs false
def spec_l1Ahead.l0 : Nat → List ByteArray → List ByteArray → Int → Option (Int)
 | 0, _, _, _ => none
 | k + 1, x0, x1, x5 => if x5 < (x0.length : Int) then (if x5 < (x1.length : Int) then (if 0 ≤ x5 then (if (rdOf ByteArray.empty x0 x5).toList = (rdOf ByteArray.empty x1 x5).toList then (spec_l1Ahead.l0 k x0 x1 (wrap64 (x5 + 1))) else (some x5)) else (none)) else (some x5)) else (some x5)
def spec_l1Ahead.f (k : Nat) (l0 : List ByteArray) (l1 : List ByteArray) : Option (Int) := spec_l1Ahead.l0 k l0 l1 0
set_option maxHeartbeats 8000000 in
set_option maxRecDepth 100000 in
theorem spec_l1Ahead.calls (k : Nat) (A0 : Option Addr) (c0 : Nat) (l0 : List ByteArray) (A1 : Option Addr) (c1 : Nat) (l1 : List ByteArray) (r : Int) (w : World) (hr0 : Kd.C Kd.string w A0 l0.length l0) (hc0 : l0.length ≤ c0) (hr1 : Kd.C Kd.string w A1 l1.length l1) (hc1 : l1.length ≤ c1) (h : spec_l1Ahead.f k l0 l1 = some r) :
  Calls Try.prog 134 #[.slice A0 l0.length c0, .slice A1 l1.length c1] w fun e w' => e = .returned (.int .i64 r) ∧ Drawn0 w w' := by
 have HR0 := am hr0
 have HC0 := am hc0
 clear hr0 hc0
 have HR1 := am hr1
 have HC1 := am hc1
 clear hr1 hc1
 have H : (spec_l1Ahead.l0 k l0 l1 0) = some r := h
 clear h
 have H' := am H
 clear H
 go_enter Try.func134, Try.ntmps134
 go_wp2
 repeat (go_quiet (fail); try go_wp2)
 go_loopg [5] k (fun kq v5 w' => ∃ (x5_1 : Int), v5 = .int .i64 x5_1 ∧ Aside0 (spec_l1Ahead.l0 kq l0 l1 x5_1 = some r) ∧ Aside0 (kq ≤ k) ∧ Drawn0 w w')
 case atStart => exact ⟨(0), zf, H', ⟨Nat.le_refl _⟩, by repeat (first | exact Drawn0.refl _ | apply Drawn0.step)⟩
 case round =>
  clear H'
  try clear c1
  try clear p2
  obtain ⟨x5_1, rfl, HA, HK1, ⟨m1, rfl⟩⟩ := hrel
  cases gk with
  | zero => exact absurd HA.out (by simp [spec_l1Ahead.l0])
  | succ k1 =>
   have H := HA.out
   clear HA
   simp only [spec_l1Ahead.l0] at H
   by_cases c3 : x5_1 < (l0.length : Int)
   ·rw [if_pos c3] at H
    have c3b0 : decide (x5_1 < (l0.length : Int)) = true := decide_eq_true c3
    clear c3
    by_cases c4 : x5_1 < (l1.length : Int)
    ·rw [if_pos c4] at H
     have c4b0 : decide (x5_1 < (l1.length : Int)) = true := decide_eq_true c4
     clear c4
     by_cases c5 : 0 ≤ x5_1
     ·rw [if_pos c5] at H
      have c5b0 : decide (0 ≤ x5_1) = true := decide_eq_true c5
      clear c5
      by_cases c6 : (rdOf ByteArray.empty l0 x5_1).toList = (rdOf ByteArray.empty l1 x5_1).toList
      ·rw [if_pos c6] at H
       have c6b0 : ((rdOf ByteArray.empty l0 x5_1).toList == (rdOf ByteArray.empty l1 x5_1).toList) = true := beq_iff_eq.mpr c6
       have c6b1 : ((rdOf ByteArray.empty l0 x5_1).toList != (rdOf ByteArray.empty l1 x5_1).toList) = false := bne_eq_false_iff_eq.mpr c6
       clear c6
       have H' := am H
       clear H
       have p721 : 0 ≤ (x5_1 : Int) := oa
       have q721 : x5_1 < (l0.length : Int) := oa
       obtain ⟨ad721, e721, hx721_0⟩ := Kd.at_string HR0.out x5_1 p721 q721
       cases e721
       replace p721 := eq_true p721
       replace q721 := eq_true q721
       have p722 : 0 ≤ (x5_1 : Int) := oa
       have q722 : x5_1 < (l1.length : Int) := oa
       obtain ⟨ad722, e722, hx722_0⟩ := Kd.at_string HR1.out x5_1 p722 q722
       cases e722
       replace p722 := eq_true p722
       replace q722 := eq_true q722
       go_wp2
       repeat (go_quiet (fail); try go_wp2)
       go_roundg k1
       case measure => have := HK1.out; omega
       case rel => exact ⟨(wrap64 (x5_1 + 1)), zf, H', ⟨by have := HK1.out; omega⟩, by repeat (first | exact Drawn0.refl _ | apply Drawn0.step)⟩
      ·rw [if_neg c6] at H
       have c6b0 : ((rdOf ByteArray.empty l0 x5_1).toList == (rdOf ByteArray.empty l1 x5_1).toList) = false := beq_eq_false_iff_ne.mpr c6
       have c6b1 : ((rdOf ByteArray.empty l0 x5_1).toList != (rdOf ByteArray.empty l1 x5_1).toList) = true := bne_iff_ne.mpr c6
       obtain rfl := Option.some.inj H
       have p721 : 0 ≤ (x5_1 : Int) := oa
       have q721 : x5_1 < (l0.length : Int) := oa
       obtain ⟨ad721, e721, hx721_0⟩ := Kd.at_string HR0.out x5_1 p721 q721
       cases e721
       replace p721 := eq_true p721
       replace q721 := eq_true q721
       have p722 : 0 ≤ (x5_1 : Int) := oa
       have q722 : x5_1 < (l1.length : Int) := oa
       obtain ⟨ad722, e722, hx722_0⟩ := Kd.at_string HR1.out x5_1 p722 q722
       cases e722
       replace p722 := eq_true p722
       replace q722 := eq_true q722
       go_wp2
       repeat (go_quiet (fail); try go_wp2)
       go_ret
       exact ⟨by first | rfl | (simp; done) | (simp [*]; done), by repeat (first | exact Drawn0.refl _ | apply Drawn0.step)⟩
     ·rw [if_neg c5] at H
      exact absurd H (by simp)
    ·rw [if_neg c4] at H
     have c4b0 : decide (x5_1 < (l1.length : Int)) = false := decide_eq_false c4
     clear c4
     obtain rfl := Option.some.inj H
     go_wp2
     repeat (go_quiet (fail); try go_wp2)
     go_ret
     exact ⟨by first | rfl | (simp; done) | (simp [*]; done), by repeat (first | exact Drawn0.refl _ | apply Drawn0.step)⟩
   ·rw [if_neg c3] at H
    have c3b0 : decide (x5_1 < (l0.length : Int)) = false := decide_eq_false c3
    clear c3
    obtain rfl := Option.some.inj H
    go_wp2
    repeat (go_quiet (fail); try go_wp2)
    go_ret
    exact ⟨by first | rfl | (simp; done) | (simp [*]; done), by repeat (first | exact Drawn0.refl _ | apply Drawn0.step)⟩
end Go.Proofs.Ytmcldkobejhaeaa.My
/- Written by this session's program (wip/gen): a plain function with the same answers as the Go function, and the proof that the Go code comes to them. Asked: that the plain function has an answer. -/
namespace Go.Proofs.Ytmcldkobejhaeaa.My
open Go.RowKit Go.Proofs.YtmcldkobejhaeaaW.PrintWords Go.Proofs.YtmcldkobejhaeaaW.PrintLast Go.Proofs.YtmcldkobejhaeaaW.PrintMore
attribute [local go_sem] max2_int min2_int max_two min_two max_three min_three max_four min_four
set_option linter.unusedVariables false
set_option linter.unusedSimpArgs false
def spec_l1Behind.l0 : Nat → List ByteArray → List ByteArray → Int → Int → Option (Int)
 | 0, _, _, _, _ => none
 | k + 1, x0, x1, x5, x6 => if x6 < x5 then (if 0 ≤ (wrap64 ((wrap64 ((x0.length : Int) - 1)) - x6)) then (if (wrap64 ((wrap64 ((x0.length : Int) - 1)) - x6)) < (x0.length : Int) then (if 0 ≤ (wrap64 ((wrap64 ((x1.length : Int) - 1)) - x6)) then (if (wrap64 ((wrap64 ((x1.length : Int) - 1)) - x6)) < (x1.length : Int) then (if (rdOf ByteArray.empty x0 (wrap64 ((wrap64 ((x0.length : Int) - 1)) - x6))).toList = (rdOf ByteArray.empty x1 (wrap64 ((wrap64 ((x1.length : Int) - 1)) - x6))).toList then (spec_l1Behind.l0 k x0 x1 x5 (wrap64 (x6 + 1))) else (some x6)) else (none)) else (none)) else (none)) else (none)) else (some x6)
def spec_l1Behind.f (k : Nat) (l0 : List ByteArray) (l1 : List ByteArray) : Option (Int) := (spec_l1Least.f (l0.length : Int) (l1.length : Int)).bind fun t723 => ((spec_l1Ahead.f k l0 l1).bind fun t724 => (spec_l1Behind.l0 k l0 l1 (wrap64 (t723 - t724)) 0))
set_option maxHeartbeats 8000000 in
set_option maxRecDepth 100000 in
theorem spec_l1Behind.calls (k : Nat) (A0 : Option Addr) (c0 : Nat) (l0 : List ByteArray) (A1 : Option Addr) (c1 : Nat) (l1 : List ByteArray) (r : Int) (w : World) (hr0 : Kd.C Kd.string w A0 l0.length l0) (hc0 : l0.length ≤ c0) (hr1 : Kd.C Kd.string w A1 l1.length l1) (hc1 : l1.length ≤ c1) (h : spec_l1Behind.f k l0 l1 = some r) :
  Calls Try.prog 135 #[.slice A0 l0.length c0, .slice A1 l1.length c1] w fun e w' => e = .returned (.int .i64 r) ∧ Drawn0 w w' := by
 have HR0 := am hr0
 have HC0 := am hc0
 clear hr0 hc0
 have HR1 := am hr1
 have HC1 := am hc1
 clear hr1 hc1
 have H : ((spec_l1Least.f (l0.length : Int) (l1.length : Int)).bind fun t723 => ((spec_l1Ahead.f k l0 l1).bind fun t724 => (spec_l1Behind.l0 k l0 l1 (wrap64 (t723 - t724)) 0))) = some r := h
 clear h
 replace H := Option.bind_eq_some_iff.mp H
 obtain ⟨t723, A30, H⟩ := H
 replace H : ((spec_l1Ahead.f k l0 l1).bind fun t724 => (spec_l1Behind.l0 k l0 l1 (wrap64 (t723 - t724)) 0)) = some r := H
 have A3 := am A30
 clear A30
 replace H := Option.bind_eq_some_iff.mp H
 obtain ⟨t724, A40, H⟩ := H
 replace H : (spec_l1Behind.l0 k l0 l1 (wrap64 (t723 - t724)) 0) = some r := H
 have A4 := am A40
 clear A40
 have H' := am H
 clear H
 go_enter Try.func135, Try.ntmps135
 go_wp2_with (first | (go_at_call 155; (with_reducible refine (spec_l1Least.calls (l0.length : Int) (l1.length : Int) t723 _ A3.out).mono ?_); rintro e w' ⟨rfl, ⟨nd, rfl⟩⟩; (try exact zd)) | (go_at_call 134; (with_reducible refine (spec_l1Ahead.calls k _ _ l0 _ _ l1 t724 _ ?side1 ?side2 ?side3 ?side4 A4.out).mono ?_); (case side1 => exact zq HR0.out); (case side2 => exact HC0.out); (case side3 => exact zq HR1.out); (case side4 => exact HC1.out); rintro e w' ⟨rfl, ⟨nd, rfl⟩⟩; (try exact zd)))
 repeat (go_quiet (first | (go_at_call 155; (with_reducible refine (spec_l1Least.calls (l0.length : Int) (l1.length : Int) t723 _ A3.out).mono ?_); rintro e w' ⟨rfl, ⟨nd, rfl⟩⟩; (try exact zd)) | (go_at_call 134; (with_reducible refine (spec_l1Ahead.calls k _ _ l0 _ _ l1 t724 _ ?side1 ?side2 ?side3 ?side4 A4.out).mono ?_); (case side1 => exact zq HR0.out); (case side2 => exact HC0.out); (case side3 => exact zq HR1.out); (case side4 => exact HC1.out); rintro e w' ⟨rfl, ⟨nd, rfl⟩⟩; (try exact zd))); try go_wp2_with (first | (go_at_call 155; (with_reducible refine (spec_l1Least.calls (l0.length : Int) (l1.length : Int) t723 _ A3.out).mono ?_); rintro e w' ⟨rfl, ⟨nd, rfl⟩⟩; (try exact zd)) | (go_at_call 134; (with_reducible refine (spec_l1Ahead.calls k _ _ l0 _ _ l1 t724 _ ?side1 ?side2 ?side3 ?side4 A4.out).mono ?_); (case side1 => exact zq HR0.out); (case side2 => exact HC0.out); (case side3 => exact zq HR1.out); (case side4 => exact HC1.out); rintro e w' ⟨rfl, ⟨nd, rfl⟩⟩; (try exact zd))))
 go_loopg [6] k (fun kq v6 w' => ∃ (x6_1 : Int), v6 = .int .i64 x6_1 ∧ Aside0 (spec_l1Behind.l0 kq l0 l1 (wrap64 (t723 - t724)) x6_1 = some r) ∧ Aside0 (kq ≤ k) ∧ Drawn0 w w')
 case atStart => exact ⟨(0), zf, H', ⟨Nat.le_refl _⟩, by repeat (first | exact Drawn0.refl _ | apply Drawn0.step)⟩
 case round =>
  clear H'
  try clear c1
  try clear p2
  obtain ⟨x6_1, rfl, HA, HK1, ⟨m1, rfl⟩⟩ := hrel
  cases gk with
  | zero => exact absurd HA.out (by simp [spec_l1Behind.l0])
  | succ k1 =>
   have H := HA.out
   clear HA
   simp only [spec_l1Behind.l0] at H
   by_cases c5 : x6_1 < (wrap64 (t723 - t724))
   ·rw [if_pos c5] at H
    have c5b0 : decide (x6_1 < (wrap64 (t723 - t724))) = true := decide_eq_true c5
    clear c5
    obtain ⟨ji6, hji6⟩ : ∃ j_ : Int, (wrap64 ((wrap64 ((l0.length : Int) - 1)) - x6_1)) = j_ := ⟨_, rfl⟩
    replace H : (if 0 ≤ (ji6) then (if (ji6) < (l0.length : Int) then (if 0 ≤ (wrap64 ((wrap64 ((l1.length : Int) - 1)) - x6_1)) then (if (wrap64 ((wrap64 ((l1.length : Int) - 1)) - x6_1)) < (l1.length : Int) then (if (rdOf ByteArray.empty l0 (ji6)).toList = (rdOf ByteArray.empty l1 (wrap64 ((wrap64 ((l1.length : Int) - 1)) - x6_1))).toList then (spec_l1Behind.l0 k1 l0 l1 (wrap64 (t723 - t724)) (wrap64 (x6_1 + 1))) else (some x6_1)) else (none)) else (none)) else (none)) else (none)) = some r := by first | (rw [hji6] at H; exact H) | (simp only [hji6] at H ⊢; exact H)
    have hji6w : (IntKind.i64.wrap ((wrap64 ((l0.length : Int) - 1)) - x6_1)) = ji6 := (i64_w _).trans hji6
    by_cases c7 : 0 ≤ (ji6)
    ·rw [if_pos c7] at H
     have c7b0 : decide (0 ≤ (ji6)) = true := decide_eq_true c7
     clear c7
     by_cases c8 : (ji6) < (l0.length : Int)
     ·rw [if_pos c8] at H
      have c8b0 : decide ((ji6) < (l0.length : Int)) = true := decide_eq_true c8
      clear c8
      obtain ⟨ji9, hji9⟩ : ∃ j_ : Int, (wrap64 ((wrap64 ((l1.length : Int) - 1)) - x6_1)) = j_ := ⟨_, rfl⟩
      replace H : (if 0 ≤ (ji9) then (if (ji9) < (l1.length : Int) then (if (rdOf ByteArray.empty l0 (ji6)).toList = (rdOf ByteArray.empty l1 (ji9)).toList then (spec_l1Behind.l0 k1 l0 l1 (wrap64 (t723 - t724)) (wrap64 (x6_1 + 1))) else (some x6_1)) else (none)) else (none)) = some r := by first | (rw [hji9] at H; exact H) | (simp only [hji9] at H ⊢; exact H)
      have hji9w : (IntKind.i64.wrap ((wrap64 ((l1.length : Int) - 1)) - x6_1)) = ji9 := (i64_w _).trans hji9
      by_cases c10 : 0 ≤ (ji9)
      ·rw [if_pos c10] at H
       have c10b0 : decide (0 ≤ (ji9)) = true := decide_eq_true c10
       clear c10
       by_cases c11 : (ji9) < (l1.length : Int)
       ·rw [if_pos c11] at H
        have c11b0 : decide ((ji9) < (l1.length : Int)) = true := decide_eq_true c11
        clear c11
        by_cases c12 : (rdOf ByteArray.empty l0 (ji6)).toList = (rdOf ByteArray.empty l1 (ji9)).toList
        ·rw [if_pos c12] at H
         have c12b0 : ((rdOf ByteArray.empty l0 (ji6)).toList == (rdOf ByteArray.empty l1 (ji9)).toList) = true := beq_iff_eq.mpr c12
         have c12b1 : ((rdOf ByteArray.empty l0 (ji6)).toList != (rdOf ByteArray.empty l1 (ji9)).toList) = false := bne_eq_false_iff_eq.mpr c12
         clear c12
         have H' := am H
         clear H
         have p725 : 0 ≤ ((ji6) : Int) := oa
         have q725 : (ji6) < (l0.length : Int) := oa
         obtain ⟨ad725, e725, hx725_0⟩ := Kd.at_string HR0.out (ji6) p725 q725
         cases e725
         replace p725 := eq_true p725
         replace q725 := eq_true q725
         have p726 : 0 ≤ ((ji9) : Int) := oa
         have q726 : (ji9) < (l1.length : Int) := oa
         obtain ⟨ad726, e726, hx726_0⟩ := Kd.at_string HR1.out (ji9) p726 q726
         cases e726
         replace p726 := eq_true p726
         replace q726 := eq_true q726
         go_wp2
         repeat (go_quiet (fail); try go_wp2)
         go_roundg k1
         case measure => have := HK1.out; omega
         case rel => exact ⟨(wrap64 (x6_1 + 1)), zf, H', ⟨by have := HK1.out; omega⟩, by repeat (first | exact Drawn0.refl _ | apply Drawn0.step)⟩
        ·rw [if_neg c12] at H
         have c12b0 : ((rdOf ByteArray.empty l0 (ji6)).toList == (rdOf ByteArray.empty l1 (ji9)).toList) = false := beq_eq_false_iff_ne.mpr c12
         have c12b1 : ((rdOf ByteArray.empty l0 (ji6)).toList != (rdOf ByteArray.empty l1 (ji9)).toList) = true := bne_iff_ne.mpr c12
         obtain rfl := Option.some.inj H
         have p725 : 0 ≤ ((ji6) : Int) := oa
         have q725 : (ji6) < (l0.length : Int) := oa
         obtain ⟨ad725, e725, hx725_0⟩ := Kd.at_string HR0.out (ji6) p725 q725
         cases e725
         replace p725 := eq_true p725
         replace q725 := eq_true q725
         have p726 : 0 ≤ ((ji9) : Int) := oa
         have q726 : (ji9) < (l1.length : Int) := oa
         obtain ⟨ad726, e726, hx726_0⟩ := Kd.at_string HR1.out (ji9) p726 q726
         cases e726
         replace p726 := eq_true p726
         replace q726 := eq_true q726
         go_wp2
         repeat (go_quiet (fail); try go_wp2)
         go_ret
         exact ⟨by first | rfl | (simp; done) | (simp only [← hji6, ← hji9] <;> (first | rfl | simp)) | (simp [*]; done), by repeat (first | exact Drawn0.refl _ | apply Drawn0.step)⟩
       ·rw [if_neg c11] at H
        exact absurd H (by simp)
      ·rw [if_neg c10] at H
       exact absurd H (by simp)
     ·rw [if_neg c8] at H
      exact absurd H (by simp)
    ·rw [if_neg c7] at H
     exact absurd H (by simp)
   ·rw [if_neg c5] at H
    have c5b0 : decide (x6_1 < (wrap64 (t723 - t724))) = false := decide_eq_false c5
    clear c5
    obtain rfl := Option.some.inj H
    go_wp2
    repeat (go_quiet (fail); try go_wp2)
    go_ret
    exact ⟨by first | rfl | (simp; done) | (simp [*]; done), by repeat (first | exact Drawn0.refl _ | apply Drawn0.step)⟩
end Go.Proofs.Ytmcldkobejhaeaa.My
/- Written by this session's program (wip/gen): a plain function with the same answers as the Go function, and the proof that the Go code comes to them. Asked: that the plain function has an answer. -/
namespace Go.Proofs.Ytmcldkobejhaeaa.My
open Go.RowKit Go.Proofs.YtmcldkobejhaeaaW.PrintWords Go.Proofs.YtmcldkobejhaeaaW.PrintLast Go.Proofs.YtmcldkobejhaeaaW.PrintMore
attribute [local go_sem] max2_int min2_int max_two min_two max_three min_three max_four min_four
set_option linter.unusedVariables false
set_option linter.unusedSimpArgs false
def spec_l1OwnT.f (l0 : List ByteArray) : Option (List ByteArray) := (some (([] : List ByteArray) : List ByteArray)).bind fun y187 => (if y187.length + l0.length < 8796093022208 then (some (y187 ++ l0)) else (none))
set_option maxHeartbeats 8000000 in
set_option maxRecDepth 100000 in
theorem spec_l1OwnT.calls (A0 : Option Addr) (c0 : Nat) (l0 : List ByteArray) (r : List ByteArray) (w : World) (hr0 : Kd.C Kd.string w A0 l0.length l0) (hc0 : l0.length ≤ c0) (h : spec_l1OwnT.f l0 = some r) :
  Calls Try.prog 68 #[.slice A0 l0.length c0] w fun e w' => ∃ v0_ : Value, e = .returned (v0_) ∧ Kd.R Kd.string 9 w' w.heap.size (fun _ => True) v0_ r ∧ Below w.heap.size w w' := by
 have HR0 := am hr0
 have HC0 := am hc0
 clear hr0 hc0
 have HB := am (Below.refl w.heap.size w)
 have H : ((some (([] : List ByteArray) : List ByteArray)).bind fun y187 => (if y187.length + l0.length < 8796093022208 then (some (y187 ++ l0)) else (none))) = some r := h
 clear h
 obtain ⟨y187, hy187⟩ : ∃ y_ : List ByteArray, y_ = (([] : List ByteArray)) := ⟨_, rfl⟩
 replace H : (if y187.length + l0.length < 8796093022208 then (some (y187 ++ l0)) else (none)) = some r := by first | (rw [hy187]; with_reducible exact H) | (have H2_ := (Option.bind_some _ _).symm.trans H; rw [hy187]; with_reducible exact H2_) | (have H2_ := (Option.bind_some _ _).symm.trans H; with_reducible exact H2_) | with_reducible exact H | (rw [hy187]; exact H) | exact H
 have Ny187 := am hy187
 clear hy187
 by_cases c2 : y187.length + l0.length < 8796093022208
 ·rw [if_pos c2] at H
  have LMc2 := am c2
  clear c2
  obtain ⟨y190, hy190⟩ : ∃ y_ : List ByteArray, y_ = (y187 ++ l0) := ⟨_, rfl⟩
  replace H : (some y190) = some r := by first | (rw [hy190]; with_reducible exact H) | (have H2_ := (Option.bind_some _ _).symm.trans H; rw [hy190]; with_reducible exact H2_) | (have H2_ := (Option.bind_some _ _).symm.trans H; with_reducible exact H2_) | with_reducible exact H | (rw [hy190]; exact H) | exact H
  have Ny190 := am hy190
  clear hy190
  obtain rfl := Option.some.inj H
  go_enter Try.func68, Try.ntmps68
  go_wp2_with (first | ((with_reducible refine gate_dst (N := 3) rfl ?_); refine Kd.R_lit Kd.string _ 9 ?hg (N := 3) ?hd (xs := ([] : List ByteArray)) (inner := []) (ok := fun _ => True) (okp := fun _ => True) ?hr ?hp (fun _ hk => hk) trivial (Below.refl _ _) (Nat.le_refl _) (by simp) ?_; (case hd => rfl); (case hg => rfl); (case hr => first | (go_simp; done) | (go_simp; rfl)); (case hp => exact (Reps.none _ _)); intro v188 w3 ho4 hb hg_ hnew_; clear hg_ hnew_; (first | rw [← Ny187.out] at ho4 | (simp only [Int.reduceToNat] at ho4; rw [← Ny187.out] at ho4)); have n0_ := am (Kd.R_lower ho4 (below_size zb)); have n1_ := am (below_step zb hb); clear HB; have HO189 := n0_; have HB := n1_; clear n0_ n1_; clear hb ho4) | ((with_reducible refine gateB (b := .append) (xs := #[.tmp 3, .tmp 4]) rfl ?_); at_builtin; refine Kd.R_append_rows Kd.string (w0 := w) w.heap.size rfl (.tmp 3) (.tmp 4) 24 9 (.string ⟨#[]⟩) 16 rfl Try.underlying24 info9 rfl (by decide) (by omega) v188 y187 l0 _ _ _ (fun _ => True) (fun _ => False) rfl rfl ?aO ?aR (fun _ _ h => h) (fun _ h => h.elim) ?aF ?aB ?aS ?aL ?_; (case aR => exact zq (Kd.C_below HR0.out HB.out)); (case aB => exact zb); (case aF => exact (fun _ _ => trivial)); (case aO => exact (zr HO189.out)); (case aS => exact (below_size zb)); (case aL => have := LMc2.out; omega); intro v191 w5 ho hb hg hat; rw [← Ny190.out] at ho; have n0_ := am (hb); have n1_ := am (ho); clear HB; clear HO189; have HB := n0_; have HO192 := n1_; clear n0_ n1_; clear ho hb hg hat))
  go_ret
  exact ⟨_, by first | rfl | (simp [errW_none, errW_some] <;> rfl) | (simp [*, errW_none, errW_some] <;> rfl), by (with_reducible repeat (first | apply Kd.R_alloc | apply Kd.R_drewN | apply Kd.R_drew)); exact HO192.out, by repeat (first | (with_reducible first | exact HB.out | apply below_alloc | apply pw_below_drewN | apply below_drew1) | exact HB.out)⟩
 ·rw [if_neg c2] at H
  exact absurd H (by simp)
end Go.Proofs.Ytmcldkobejhaeaa.My