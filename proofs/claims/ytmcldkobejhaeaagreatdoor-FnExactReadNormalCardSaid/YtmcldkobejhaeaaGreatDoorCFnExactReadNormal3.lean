/- Part 3 of 6 of a proof of this sentence: The Go function loop.example/g00825/laws.FnExactReadNormal returns true for every input, and each argument reads afterwards as it read before. No condition. -/
import Derived.Lib.Strings
import Derived.Lib.Slices
import Derived.Lib.Walk
import Derived.Lib.Bytealg
import Derived.Test.YtmcldkobejhaeaaGreatDoorCFnExactReadNormal2
namespace Go.Proofs.YtmcldkobejhaeaaGreatDoor.My
open Go.RowKit Go.Proofs.YtmcldkobejhaeaaGreatDoorW.PrintWords Go.Proofs.YtmcldkobejhaeaaGreatDoorW.PrintLast Go.Proofs.YtmcldkobejhaeaaGreatDoorW.PrintMore
attribute [local go_sem] max2_int min2_int max_two min_two max_three min_three max_four min_four
set_option linter.unusedVariables false
set_option linter.unusedSimpArgs false
mutual
def spec_l5Text.l0 : Nat → ByteArray → List (S52) → Int → Int → Option (ByteArray)
 | 0, _, _, _, _ => none
 | k + 1, x3, x11, x12, x13 => if x13 < x12 then (if 0 ≤ x13 then (if x13 < (x11.length : Int) then (if (((rd_T52 x11 x13).f2).length : Int) = 0 then (spec_l5Text.j1 k x3 (⟨#[97]⟩ : ByteArray) x11 x12 x13 ((rd_T52 x11 x13).f0) ((rd_T52 x11 x13).f1) ((rd_T52 x11 x13).f2) ((rd_T52 x11 x13).f3) ((rd_T52 x11 x13).f4) ((rd_T52 x11 x13).f5)) else (if (((rd_T52 x11 x13).f5).length : Int) = 0 then (spec_l5Text.j1 k x3 (⟨#[100]⟩ : ByteArray) x11 x12 x13 ((rd_T52 x11 x13).f0) ((rd_T52 x11 x13).f1) ((rd_T52 x11 x13).f2) ((rd_T52 x11 x13).f3) ((rd_T52 x11 x13).f4) ((rd_T52 x11 x13).f5)) else (spec_l5Text.j1 k x3 (⟨#[99]⟩ : ByteArray) x11 x12 x13 ((rd_T52 x11 x13).f0) ((rd_T52 x11 x13).f1) ((rd_T52 x11 x13).f2) ((rd_T52 x11 x13).f3) ((rd_T52 x11 x13).f4) ((rd_T52 x11 x13).f5)))) else (none)) else (none)) else (some x3)
def spec_l5Text.j1 : Nat → ByteArray → ByteArray → List (S52) → Int → Int → Int → Int → List ByteArray → Int → Int → List ByteArray → Option (ByteArray)
 | 0, _, _, _, _, _, _, _, _, _, _, _ => none
 | k + 1, x3, x6, x11, x12, x13, x178000, x178001, x178002, x178003, x178004, x178005 => (spec_l5Numbers.f k x178000 x178001).bind fun t178 => (if t178.size + x6.size ≤ 9223372036854775807 then ((spec_l5Numbers.f k x178003 x178004).bind fun t179 => (if (t178 ++ x6).size + t179.size ≤ 9223372036854775807 then (if ((t178 ++ x6) ++ t179).size + 1 ≤ 9223372036854775807 then (if x3.size + (((t178 ++ x6) ++ t179) ++ (⟨#[10]⟩ : ByteArray)).size ≤ 9223372036854775807 then (spec_l5Text.l1 k (x3 ++ (((t178 ++ x6) ++ t179) ++ (⟨#[10]⟩ : ByteArray))) x6 x11 x12 x13 x178002 (x178002.length : Int) 0 x178000 x178001 x178002 x178003 x178004 x178005) else (none)) else (none)) else (none))) else (none))
def spec_l5Text.l1 : Nat → ByteArray → ByteArray → List (S52) → Int → Int → List ByteArray → Int → Int → Int → Int → List ByteArray → Int → Int → List ByteArray → Option (ByteArray)
 | 0, _, _, _, _, _, _, _, _, _, _, _, _, _, _ => none
 | k + 1, x3, x6, x11, x12, x13, x44, x45, x46, x178000, x178001, x178002, x178003, x178004, x178005 => if x46 < x45 then (if 0 ≤ x46 then (if x46 < (x44.length : Int) then ((spec_l5Shown.f (⟨#[60, 32]⟩ : ByteArray) (rdOf ByteArray.empty x44 x46)).bind fun t181 => (if x3.size + t181.size ≤ 9223372036854775807 then (spec_l5Text.l1 k (x3 ++ t181) x6 x11 x12 x13 x44 x45 (wrap64 (x46 + 1)) x178000 x178001 x178002 x178003 x178004 x178005) else (none))) else (none)) else (none)) else (if x6.toList = ([99] : List UInt8) then (if x3.size + 4 ≤ 9223372036854775807 then (spec_l5Text.j3 k (x3 ++ (⟨#[45, 45, 45, 10]⟩ : ByteArray)) x11 x12 x13 x178000 x178001 x178002 x178003 x178004 x178005) else (none)) else (spec_l5Text.j3 k x3 x11 x12 x13 x178000 x178001 x178002 x178003 x178004 x178005))
def spec_l5Text.j3 : Nat → ByteArray → List (S52) → Int → Int → Int → Int → List ByteArray → Int → Int → List ByteArray → Option (ByteArray)
 | 0, _, _, _, _, _, _, _, _, _, _ => none
 | k + 1, x3, x11, x12, x13, x178000, x178001, x178002, x178003, x178004, x178005 => spec_l5Text.l2 k x3 x11 x12 x13 x178005 (x178005.length : Int) 0
def spec_l5Text.l2 : Nat → ByteArray → List (S52) → Int → Int → List ByteArray → Int → Int → Option (ByteArray)
 | 0, _, _, _, _, _, _, _ => none
 | k + 1, x3, x11, x12, x13, x60, x61, x62 => if x62 < x61 then (if 0 ≤ x62 then (if x62 < (x60.length : Int) then ((spec_l5Shown.f (⟨#[62, 32]⟩ : ByteArray) (rdOf ByteArray.empty x60 x62)).bind fun t183 => (if x3.size + t183.size ≤ 9223372036854775807 then (spec_l5Text.l2 k (x3 ++ t183) x11 x12 x13 x60 x61 (wrap64 (x62 + 1))) else (none))) else (none)) else (none)) else (spec_l5Text.l0 k x3 x11 x12 (wrap64 (x13 + 1)))
end
def spec_l5Text.f (k : Nat) (l0 : List (S52)) : Option (ByteArray) := spec_l5Text.l0 k (⟨#[]⟩ : ByteArray) l0 (l0.length : Int) 0
def spec_l5Text.T10 : Bool × List (List Nat × List Nat) := (true, [([], []), ([], []), ([1], [1]), ([], []), ([3], [3]), ([2, 4], [2, 4]), ([], []), ([5, 6], [5, 6]), ([], []), ([8], [8]), ([], []), ([10], [10]), ([9, 11, 5], [9, 11]), ([7, 12], [7, 12]), ([13], [13]), ([0, 14], [0, 14]), ([15, 12, 0, 1, 2, 3, 4, 5, 6, 7, 8, 9, 10, 11, 12, 13, 14, 15], [0, 15])])
def spec_l5Text.B10 : List Nat := [0, 0, 2, 0, 8, 30, 0, 126, 0, 256, 0, 1024, 3902, 8190, 16382, 32767, 65535]
theorem spec_l5Text.tab10 : rtab .any (opsOf Tryz.f49 10) = spec_l5Text.T10 := by kernel_rfl
theorem spec_l5Text.bits10 : waitsOk spec_l5Text.T10.2 spec_l5Text.B10 = true := by kernel_rfl
set_option maxHeartbeats 8000000 in
set_option maxRecDepth 100000 in
theorem spec_l5Text.calls (k : Nat) (A0 : Option Addr) (c0 : Nat) (l0 : List (S52)) (r : ByteArray) (w : World) (hr0 : Kd.C k52 w A0 l0.length l0) (hc0 : l0.length ≤ c0) (h : spec_l5Text.f k l0 = some r) :
  Calls Tryz.prog 49 #[.slice A0 l0.length c0] w fun e w' => e = .returned (.string r) ∧ Below w.heap.size w w' := by
 have hu52 := Tryz.underlying52
 have HR0 := am hr0
 have HC0 := am hc0
 clear hr0 hc0
 have HB := am (Below.refl w.heap.size w)
 have H : (spec_l5Text.l0 k (⟨#[]⟩ : ByteArray) l0 (l0.length : Int) 0) = some r := h
 clear h
 have H' := am H
 clear H
 go_enter Tryz.func49, Tryz.ntmps49
 go_wp2
 go_loopg [3, 13] k (fun kq v3 v13 w' => ∃ (x3_1 : ByteArray) (x13_1 : Int), v3 = .string x3_1 ∧ v13 = .int .i64 x13_1 ∧ Aside0 (spec_l5Text.l0 kq x3_1 l0 (l0.length : Int) x13_1 = some r) ∧ Aside0 (kq ≤ k) ∧ Aside0 (Below w.heap.size w w'))
 case atStart => exact ⟨((⟨#[]⟩ : ByteArray)), (0), zf, zf, H', ⟨Nat.le_refl _⟩, ⟨zb⟩⟩
 case round =>
  clear H'
  obtain ⟨x3_1, x13_1, rfl, rfl, HA, HK1, HB⟩ := hrel
  cases gk with
  | zero => exact absurd HA.out (by simp [spec_l5Text.l0])
  | succ k1 =>
   have H := HA.out
   clear HA
   simp only [spec_l5Text.l0] at H
   by_cases c2 : x13_1 < (l0.length : Int)
   ·rw [if_pos c2] at H
    have c2b0 : decide (x13_1 < (l0.length : Int)) = true := decide_eq_true c2
    clear c2
    by_cases c3 : 0 ≤ x13_1
    ·rw [if_pos c3] at H
     have c3b0 : decide (0 ≤ x13_1) = true := decide_eq_true c3
     clear c3
     by_cases c4 : x13_1 < (l0.length : Int)
     ·rw [if_pos c4] at H
      have c4b0 : decide (x13_1 < (l0.length : Int)) = true := decide_eq_true c4
      clear c4
      have HC5 := am H
      clear H
      have p176 : 0 ≤ (x13_1 : Int) := oa
      have q176 : x13_1 < (l0.length : Int) := oa
      obtain ⟨ad176, A176_2, c176_2, A176_5, c176_5, e176, hx176_0, hx176_1, hx176_2, hx176_3, hx176_4, hx176_5, hl176_2, hi176_2, hl176_5, hi176_5⟩ := at_T52 HR0.out x13_1 p176 q176
      cases e176
      replace hx176_0 := (HB.out.cell (World.block_lt_of_cell? w _ hx176_0)).trans hx176_0
      replace hx176_1 := (HB.out.cell (World.block_lt_of_cell? w _ hx176_1)).trans hx176_1
      replace hx176_2 := (HB.out.cell (World.block_lt_of_cell? w _ hx176_2)).trans hx176_2
      replace hx176_3 := (HB.out.cell (World.block_lt_of_cell? w _ hx176_3)).trans hx176_3
      replace hx176_4 := (HB.out.cell (World.block_lt_of_cell? w _ hx176_4)).trans hx176_4
      replace hx176_5 := (HB.out.cell (World.block_lt_of_cell? w _ hx176_5)).trans hx176_5
      have HR176_2 := am hi176_2
      have HC176_2 := am hl176_2
      clear hi176_2 hl176_2
      have HR176_5 := am hi176_5
      have HC176_5 := am hl176_5
      clear hi176_5 hl176_5
      replace p176 := eq_true p176
      replace q176 := eq_true q176
      go_upto_block 2 with (first | ((with_reducible refine gate_dst (N := 5) rfl ?_); refine box_event ?hg (N := 5) ?hd (cs := #[.int .i64 0, .int .i64 0, .slice none 0 0, .int .i64 0, .int .i64 0, .slice none 0 0]) (t := 52) ?hr ?_; (case hd => rfl); (case hg => rfl); (case hr => first | (go_simp; done) | (go_simp; rfl)); intro gb177 hg w6 hbox hb; have n0_ := am (below_step zb hb); have n1_ := am (hbox); have n2_ := am ((by rw [hg]; exact (below_size zb) : w.heap.size ≤ gb177)); have n3_ := am ((by rw [hg]; exact (below_size zb) : w.heap.size ≤ gb177)); clear HB; have HB := n0_; have BK177 := n1_; have GW177 := n2_; have GE177 := n3_; clear n0_ n1_ n2_ n3_; clear hb hbox hg; have hcz7_0 : w6.cell? ⟨gb177, 0, none⟩ = some (.int .i64 0) := (blk_cell BK177.out 0).trans rfl; have hcz7_1 : w6.cell? ⟨gb177, 1, none⟩ = some (.int .i64 0) := (blk_cell BK177.out 1).trans rfl; have hcz7_2 : w6.cell? ⟨gb177, 2, none⟩ = some (.slice none 0 0) := (blk_cell BK177.out 2).trans rfl; have hcz7_3 : w6.cell? ⟨gb177, 3, none⟩ = some (.int .i64 0) := (blk_cell BK177.out 3).trans rfl; have hcz7_4 : w6.cell? ⟨gb177, 4, none⟩ = some (.int .i64 0) := (blk_cell BK177.out 4).trans rfl; have hcz7_5 : w6.cell? ⟨gb177, 5, none⟩ = some (.slice none 0 0) := (blk_cell BK177.out 5).trans rfl; have hfz7_0 := blk_frozen BK177.out 0; have hfz7_1 := blk_frozen BK177.out 1; have hfz7_2 := blk_frozen BK177.out 2; have hfz7_3 := blk_frozen BK177.out 3; have hfz7_4 := blk_frozen BK177.out 4; have hfz7_5 := blk_frozen BK177.out 5))
      (try simp only [Act.put, List.setIfInBounds_toArray, List.set_cons_zero, List.set_cons_succ])
      go_cut [6] (fun v6 wc => ∃ (kq : Nat) (x6_4 : ByteArray), v6 = .string x6_4 ∧ Aside0 (spec_l5Text.j1 kq x3_1 x6_4 l0 (l0.length : Int) x13_1 ((rd_T52 l0 x13_1).f0) ((rd_T52 l0 x13_1).f1) ((rd_T52 l0 x13_1).f2) ((rd_T52 l0 x13_1).f3) ((rd_T52 l0 x13_1).f4) ((rd_T52 l0 x13_1).f5) = some r) ∧ Aside0 (kq ≤ k1) ∧ Aside0 (wc.heap[gb177]? = some (.cells #[.int .i64 ((rd_T52 l0 x13_1).f0), .int .i64 ((rd_T52 l0 x13_1).f1), (.slice A176_2 ((rd_T52 l0 x13_1).f2).length c176_2), .int .i64 ((rd_T52 l0 x13_1).f3), .int .i64 ((rd_T52 l0 x13_1).f4), (.slice A176_5 ((rd_T52 l0 x13_1).f5).length c176_5)] 52 (0, 0))) ∧ Aside0 (Below w.heap.size w wc))
      case first =>
       have H := HC5.out
       clear HC5
       by_cases c8 : (((rd_T52 l0 x13_1).f2).length : Int) = 0
       ·rw [if_pos c8] at H
        have c8b0 : ((((rd_T52 l0 x13_1).f2).length : Int) == 0) = true := beq_iff_eq.mpr c8
        have c8b1 : ((((rd_T52 l0 x13_1).f2).length : Int) != 0) = false := bne_eq_false_iff_eq.mpr c8
        clear c8
        (first | rw [c8b0] | (simp only [i64_w, i32_w]; rw [c8b0]) | skip)
        have H' := am H
        clear H
        have hcz9_0 : w6.cell? ⟨gb177, 0, none⟩ = some (.int .i64 0) := (blk_cell BK177.out 0).trans rfl
        have hcz9_1 : w6.cell? ⟨gb177, 1, none⟩ = some (.int .i64 0) := (blk_cell BK177.out 1).trans rfl
        have hcz9_2 : w6.cell? ⟨gb177, 2, none⟩ = some (.slice none 0 0) := (blk_cell BK177.out 2).trans rfl
        have hcz9_3 : w6.cell? ⟨gb177, 3, none⟩ = some (.int .i64 0) := (blk_cell BK177.out 3).trans rfl
        have hcz9_4 : w6.cell? ⟨gb177, 4, none⟩ = some (.int .i64 0) := (blk_cell BK177.out 4).trans rfl
        have hcz9_5 : w6.cell? ⟨gb177, 5, none⟩ = some (.slice none 0 0) := (blk_cell BK177.out 5).trans rfl
        have hfz9_0 := blk_frozen BK177.out 0
        have hfz9_1 := blk_frozen BK177.out 1
        have hfz9_2 := blk_frozen BK177.out 2
        have hfz9_3 := blk_frozen BK177.out 3
        have hfz9_4 := blk_frozen BK177.out 4
        have hfz9_5 := blk_frozen BK177.out 5
        go_wp2
        go_meet
        case rel => exact ⟨_, ((⟨#[97]⟩ : ByteArray)), zf, H', ⟨by have := HK1.out; first | omega | exact Nat.le_refl _⟩, ⟨by (with_reducible repeat (first | refine blk_drewN ?_ _ | refine blk_drew ?_ | refine blk_alloc ?_ _)); refine blk_put (cs := #[.int .i64 ((rd_T52 l0 x13_1).f0), .int .i64 ((rd_T52 l0 x13_1).f1), .slice A176_2 ((rd_T52 l0 x13_1).f2).length c176_2, .int .i64 ((rd_T52 l0 x13_1).f3), .int .i64 ((rd_T52 l0 x13_1).f4), .slice none 0 0]) ?_ 5 _ rfl; (with_reducible repeat (first | refine blk_drewN ?_ _ | refine blk_drew ?_ | refine blk_alloc ?_ _)); refine blk_put (cs := #[.int .i64 ((rd_T52 l0 x13_1).f0), .int .i64 ((rd_T52 l0 x13_1).f1), .slice A176_2 ((rd_T52 l0 x13_1).f2).length c176_2, .int .i64 ((rd_T52 l0 x13_1).f3), .int .i64 0, .slice none 0 0]) ?_ 4 _ rfl; (with_reducible repeat (first | refine blk_drewN ?_ _ | refine blk_drew ?_ | refine blk_alloc ?_ _)); refine blk_put (cs := #[.int .i64 ((rd_T52 l0 x13_1).f0), .int .i64 ((rd_T52 l0 x13_1).f1), .slice A176_2 ((rd_T52 l0 x13_1).f2).length c176_2, .int .i64 0, .int .i64 0, .slice none 0 0]) ?_ 3 _ rfl; (with_reducible repeat (first | refine blk_drewN ?_ _ | refine blk_drew ?_ | refine blk_alloc ?_ _)); refine blk_put (cs := #[.int .i64 ((rd_T52 l0 x13_1).f0), .int .i64 ((rd_T52 l0 x13_1).f1), .slice none 0 0, .int .i64 0, .int .i64 0, .slice none 0 0]) ?_ 2 _ rfl; (with_reducible repeat (first | refine blk_drewN ?_ _ | refine blk_drew ?_ | refine blk_alloc ?_ _)); refine blk_put (cs := #[.int .i64 ((rd_T52 l0 x13_1).f0), .int .i64 0, .slice none 0 0, .int .i64 0, .int .i64 0, .slice none 0 0]) ?_ 1 _ rfl; (with_reducible repeat (first | refine blk_drewN ?_ _ | refine blk_drew ?_ | refine blk_alloc ?_ _)); refine blk_put (cs := #[.int .i64 0, .int .i64 0, .slice none 0 0, .int .i64 0, .int .i64 0, .slice none 0 0]) ?_ 0 _ rfl; (with_reducible repeat (first | refine blk_drewN ?_ _ | refine blk_drew ?_ | refine blk_alloc ?_ _)); exact BK177.out⟩, ⟨zw⟩⟩
       ·rw [if_neg c8] at H
        have c8b0 : ((((rd_T52 l0 x13_1).f2).length : Int) == 0) = false := beq_eq_false_iff_ne.mpr c8
        have c8b1 : ((((rd_T52 l0 x13_1).f2).length : Int) != 0) = true := bne_iff_ne.mpr c8
        have c8b2 : ¬ (((rd_T52 l0 x13_1).f2) = []) := fun h_ => c8 (by rw [h_]; rfl)
        (first | rw [c8b0] | (simp only [i64_w, i32_w]; rw [c8b0]) | skip)
        by_cases c10 : (((rd_T52 l0 x13_1).f5).length : Int) = 0
        ·rw [if_pos c10] at H
         have c10b0 : ((((rd_T52 l0 x13_1).f5).length : Int) == 0) = true := beq_iff_eq.mpr c10
         have c10b1 : ((((rd_T52 l0 x13_1).f5).length : Int) != 0) = false := bne_eq_false_iff_eq.mpr c10
         clear c10
         have H' := am H
         clear H
         have hcz11_0 : w6.cell? ⟨gb177, 0, none⟩ = some (.int .i64 0) := (blk_cell BK177.out 0).trans rfl
         have hcz11_1 : w6.cell? ⟨gb177, 1, none⟩ = some (.int .i64 0) := (blk_cell BK177.out 1).trans rfl
         have hcz11_2 : w6.cell? ⟨gb177, 2, none⟩ = some (.slice none 0 0) := (blk_cell BK177.out 2).trans rfl
         have hcz11_3 : w6.cell? ⟨gb177, 3, none⟩ = some (.int .i64 0) := (blk_cell BK177.out 3).trans rfl
         have hcz11_4 : w6.cell? ⟨gb177, 4, none⟩ = some (.int .i64 0) := (blk_cell BK177.out 4).trans rfl
         have hcz11_5 : w6.cell? ⟨gb177, 5, none⟩ = some (.slice none 0 0) := (blk_cell BK177.out 5).trans rfl
         have hfz11_0 := blk_frozen BK177.out 0
         have hfz11_1 := blk_frozen BK177.out 1
         have hfz11_2 := blk_frozen BK177.out 2
         have hfz11_3 := blk_frozen BK177.out 3
         have hfz11_4 := blk_frozen BK177.out 4
         have hfz11_5 := blk_frozen BK177.out 5
         go_wp2
         go_meet
         case rel => exact ⟨_, ((⟨#[100]⟩ : ByteArray)), zf, H', ⟨by have := HK1.out; first | omega | exact Nat.le_refl _⟩, ⟨by (with_reducible repeat (first | refine blk_drewN ?_ _ | refine blk_drew ?_ | refine blk_alloc ?_ _)); refine blk_put (cs := #[.int .i64 ((rd_T52 l0 x13_1).f0), .int .i64 ((rd_T52 l0 x13_1).f1), .slice A176_2 ((rd_T52 l0 x13_1).f2).length c176_2, .int .i64 ((rd_T52 l0 x13_1).f3), .int .i64 ((rd_T52 l0 x13_1).f4), .slice none 0 0]) ?_ 5 _ rfl; (with_reducible repeat (first | refine blk_drewN ?_ _ | refine blk_drew ?_ | refine blk_alloc ?_ _)); refine blk_put (cs := #[.int .i64 ((rd_T52 l0 x13_1).f0), .int .i64 ((rd_T52 l0 x13_1).f1), .slice A176_2 ((rd_T52 l0 x13_1).f2).length c176_2, .int .i64 ((rd_T52 l0 x13_1).f3), .int .i64 0, .slice none 0 0]) ?_ 4 _ rfl; (with_reducible repeat (first | refine blk_drewN ?_ _ | refine blk_drew ?_ | refine blk_alloc ?_ _)); refine blk_put (cs := #[.int .i64 ((rd_T52 l0 x13_1).f0), .int .i64 ((rd_T52 l0 x13_1).f1), .slice A176_2 ((rd_T52 l0 x13_1).f2).length c176_2, .int .i64 0, .int .i64 0, .slice none 0 0]) ?_ 3 _ rfl; (with_reducible repeat (first | refine blk_drewN ?_ _ | refine blk_drew ?_ | refine blk_alloc ?_ _)); refine blk_put (cs := #[.int .i64 ((rd_T52 l0 x13_1).f0), .int .i64 ((rd_T52 l0 x13_1).f1), .slice none 0 0, .int .i64 0, .int .i64 0, .slice none 0 0]) ?_ 2 _ rfl; (with_reducible repeat (first | refine blk_drewN ?_ _ | refine blk_drew ?_ | refine blk_alloc ?_ _)); refine blk_put (cs := #[.int .i64 ((rd_T52 l0 x13_1).f0), .int .i64 0, .slice none 0 0, .int .i64 0, .int .i64 0, .slice none 0 0]) ?_ 1 _ rfl; (with_reducible repeat (first | refine blk_drewN ?_ _ | refine blk_drew ?_ | refine blk_alloc ?_ _)); refine blk_put (cs := #[.int .i64 0, .int .i64 0, .slice none 0 0, .int .i64 0, .int .i64 0, .slice none 0 0]) ?_ 0 _ rfl; (with_reducible repeat (first | refine blk_drewN ?_ _ | refine blk_drew ?_ | refine blk_alloc ?_ _)); exact BK177.out⟩, ⟨zw⟩⟩
        ·rw [if_neg c10] at H
         have c10b0 : ((((rd_T52 l0 x13_1).f5).length : Int) == 0) = false := beq_eq_false_iff_ne.mpr c10
         have c10b1 : ((((rd_T52 l0 x13_1).f5).length : Int) != 0) = true := bne_iff_ne.mpr c10
         have c10b2 : ¬ (((rd_T52 l0 x13_1).f5) = []) := fun h_ => c10 (by rw [h_]; rfl)
         have H' := am H
         clear H
         have hcz12_0 : w6.cell? ⟨gb177, 0, none⟩ = some (.int .i64 0) := (blk_cell BK177.out 0).trans rfl
         have hcz12_1 : w6.cell? ⟨gb177, 1, none⟩ = some (.int .i64 0) := (blk_cell BK177.out 1).trans rfl
         have hcz12_2 : w6.cell? ⟨gb177, 2, none⟩ = some (.slice none 0 0) := (blk_cell BK177.out 2).trans rfl
         have hcz12_3 : w6.cell? ⟨gb177, 3, none⟩ = some (.int .i64 0) := (blk_cell BK177.out 3).trans rfl
         have hcz12_4 : w6.cell? ⟨gb177, 4, none⟩ = some (.int .i64 0) := (blk_cell BK177.out 4).trans rfl
         have hcz12_5 : w6.cell? ⟨gb177, 5, none⟩ = some (.slice none 0 0) := (blk_cell BK177.out 5).trans rfl
         have hfz12_0 := blk_frozen BK177.out 0
         have hfz12_1 := blk_frozen BK177.out 1
         have hfz12_2 := blk_frozen BK177.out 2
         have hfz12_3 := blk_frozen BK177.out 3
         have hfz12_4 := blk_frozen BK177.out 4
         have hfz12_5 := blk_frozen BK177.out 5
         go_wp2
         go_meet
         case rel => exact ⟨_, ((⟨#[99]⟩ : ByteArray)), zf, H', ⟨by have := HK1.out; first | omega | exact Nat.le_refl _⟩, ⟨by (with_reducible repeat (first | refine blk_drewN ?_ _ | refine blk_drew ?_ | refine blk_alloc ?_ _)); refine blk_put (cs := #[.int .i64 ((rd_T52 l0 x13_1).f0), .int .i64 ((rd_T52 l0 x13_1).f1), .slice A176_2 ((rd_T52 l0 x13_1).f2).length c176_2, .int .i64 ((rd_T52 l0 x13_1).f3), .int .i64 ((rd_T52 l0 x13_1).f4), .slice none 0 0]) ?_ 5 _ rfl; (with_reducible repeat (first | refine blk_drewN ?_ _ | refine blk_drew ?_ | refine blk_alloc ?_ _)); refine blk_put (cs := #[.int .i64 ((rd_T52 l0 x13_1).f0), .int .i64 ((rd_T52 l0 x13_1).f1), .slice A176_2 ((rd_T52 l0 x13_1).f2).length c176_2, .int .i64 ((rd_T52 l0 x13_1).f3), .int .i64 0, .slice none 0 0]) ?_ 4 _ rfl; (with_reducible repeat (first | refine blk_drewN ?_ _ | refine blk_drew ?_ | refine blk_alloc ?_ _)); refine blk_put (cs := #[.int .i64 ((rd_T52 l0 x13_1).f0), .int .i64 ((rd_T52 l0 x13_1).f1), .slice A176_2 ((rd_T52 l0 x13_1).f2).length c176_2, .int .i64 0, .int .i64 0, .slice none 0 0]) ?_ 3 _ rfl; (with_reducible repeat (first | refine blk_drewN ?_ _ | refine blk_drew ?_ | refine blk_alloc ?_ _)); refine blk_put (cs := #[.int .i64 ((rd_T52 l0 x13_1).f0), .int .i64 ((rd_T52 l0 x13_1).f1), .slice none 0 0, .int .i64 0, .int .i64 0, .slice none 0 0]) ?_ 2 _ rfl; (with_reducible repeat (first | refine blk_drewN ?_ _ | refine blk_drew ?_ | refine blk_alloc ?_ _)); refine blk_put (cs := #[.int .i64 ((rd_T52 l0 x13_1).f0), .int .i64 0, .slice none 0 0, .int .i64 0, .int .i64 0, .slice none 0 0]) ?_ 1 _ rfl; (with_reducible repeat (first | refine blk_drewN ?_ _ | refine blk_drew ?_ | refine blk_alloc ?_ _)); refine blk_put (cs := #[.int .i64 0, .int .i64 0, .slice none 0 0, .int .i64 0, .int .i64 0, .slice none 0 0]) ?_ 0 _ rfl; (with_reducible repeat (first | refine blk_drewN ?_ _ | refine blk_drew ?_ | refine blk_alloc ?_ _)); exact BK177.out⟩, ⟨zw⟩⟩
      case rest =>
       clear HC5
       try clear c1
       try clear p1
       try clear q1
       try clear hx1
       try clear c2
       try clear c2b0
       try clear p2
       try clear c3
       try clear c3b0
       try clear c4
       try clear c4b0
       try clear c8
       try clear c8b0
       try clear c8b1
       try clear c8b2
       try clear c10
       try clear c10b0
       try clear c10b1
       try clear c10b2
       try clear hcz11_0
       try clear hcz11_1
       try clear hcz11_2
       try clear hcz11_3
       try clear hcz11_4
       try clear hcz11_5
       try clear hcz12_0
       try clear hcz12_1
       try clear hcz12_2
       try clear hcz12_3
       try clear hcz12_4
       try clear hcz12_5
       try clear hcz7_0
       try clear hcz7_1
       try clear hcz7_2
       try clear hcz7_3
       try clear hcz7_4
       try clear hcz7_5
       try clear hcz9_0
       try clear hcz9_1
       try clear hcz9_2
       try clear hcz9_3
       try clear hcz9_4
       try clear hcz9_5
       try clear hfz11_0
       try clear hfz11_1
       try clear hfz11_2
       try clear hfz11_3
       try clear hfz11_4
       try clear hfz11_5
       try clear hfz12_0
       try clear hfz12_1
       try clear hfz12_2
       try clear hfz12_3
       try clear hfz12_4
       try clear hfz12_5
       try clear hfz7_0
       try clear hfz7_1
       try clear hfz7_2
       try clear hfz7_3
       try clear hfz7_4
       try clear hfz7_5
       try clear hfz9_0
       try clear hfz9_1
       try clear hfz9_2
       try clear hfz9_3
       try clear hfz9_4
       try clear hfz9_5
       try clear hx176_0
       try clear hx176_1
       try clear hx176_2
       try clear hx176_3
       try clear hx176_4
       try clear hx176_5
       try clear p176
       try clear q176
       obtain ⟨kq, x6_4, rfl, HA, HJ4, BK177, HB⟩ := hcut
       cases kq with
       | zero => exact absurd HA.out (by simp [spec_l5Text.j1])
       | succ kj4 =>
        have H := HA.out
        clear HA
        simp only [spec_l5Text.j1] at H
        replace H := Option.bind_eq_some_iff.mp H
        obtain ⟨t178, A130, H⟩ := H
        replace H : (if t178.size + x6_4.size ≤ 9223372036854775807 then ((spec_l5Numbers.f kj4 ((rd_T52 l0 x13_1).f3) ((rd_T52 l0 x13_1).f4)).bind fun t179 => (if (t178 ++ x6_4).size + t179.size ≤ 9223372036854775807 then (if ((t178 ++ x6_4) ++ t179).size + 1 ≤ 9223372036854775807 then (if x3_1.size + (((t178 ++ x6_4) ++ t179) ++ (⟨#[10]⟩ : ByteArray)).size ≤ 9223372036854775807 then (spec_l5Text.l1 kj4 (x3_1 ++ (((t178 ++ x6_4) ++ t179) ++ (⟨#[10]⟩ : ByteArray))) x6_4 l0 (l0.length : Int) x13_1 ((rd_T52 l0 x13_1).f2) (((rd_T52 l0 x13_1).f2).length : Int) 0 ((rd_T52 l0 x13_1).f0) ((rd_T52 l0 x13_1).f1) ((rd_T52 l0 x13_1).f2) ((rd_T52 l0 x13_1).f3) ((rd_T52 l0 x13_1).f4) ((rd_T52 l0 x13_1).f5)) else (none)) else (none)) else (none))) else (none)) = some r := H
        have A13 := am A130
        clear A130
        by_cases c14 : t178.size + x6_4.size ≤ 9223372036854775807
        ·rw [if_pos c14] at H
         have c14b0 := eq_true c14
         have c14b1 : decide (t178.size + x6_4.size ≤ 9223372036854775807) = true := decide_eq_true c14
         try have c14b2 : (9223372036854775807 < t178.size + x6_4.size) = False := eq_false (Nat.not_lt.2 c14)
         replace H := Option.bind_eq_some_iff.mp H
         obtain ⟨t179, A150, H⟩ := H
         replace H : (if (t178 ++ x6_4).size + t179.size ≤ 9223372036854775807 then (if ((t178 ++ x6_4) ++ t179).size + 1 ≤ 9223372036854775807 then (if x3_1.size + (((t178 ++ x6_4) ++ t179) ++ (⟨#[10]⟩ : ByteArray)).size ≤ 9223372036854775807 then (spec_l5Text.l1 kj4 (x3_1 ++ (((t178 ++ x6_4) ++ t179) ++ (⟨#[10]⟩ : ByteArray))) x6_4 l0 (l0.length : Int) x13_1 ((rd_T52 l0 x13_1).f2) (((rd_T52 l0 x13_1).f2).length : Int) 0 ((rd_T52 l0 x13_1).f0) ((rd_T52 l0 x13_1).f1) ((rd_T52 l0 x13_1).f2) ((rd_T52 l0 x13_1).f3) ((rd_T52 l0 x13_1).f4) ((rd_T52 l0 x13_1).f5)) else (none)) else (none)) else (none)) = some r := H
         have A15 := am A150
         clear A150
         by_cases c16 : (t178 ++ x6_4).size + t179.size ≤ 9223372036854775807
         ·rw [if_pos c16] at H
          have c16b0 := eq_true c16
          have c16b1 : decide ((t178 ++ x6_4).size + t179.size ≤ 9223372036854775807) = true := decide_eq_true c16
          try have c16b2 : (9223372036854775807 < (t178 ++ x6_4).size + t179.size) = False := eq_false (Nat.not_lt.2 c16)
          try have c16b9 := c16
          try simp only [ByteArray.size_append] at c16b9
          try have c16b8 := eq_false (Nat.not_lt.2 c16b9)
          try replace c16b9 := eq_true c16b9
          by_cases c17 : ((t178 ++ x6_4) ++ t179).size + 1 ≤ 9223372036854775807
          ·rw [if_pos c17] at H
           have c17b0 := eq_true c17
           have c17b1 : decide (((t178 ++ x6_4) ++ t179).size + 1 ≤ 9223372036854775807) = true := decide_eq_true c17
           try have c17b2 : (9223372036854775807 < ((t178 ++ x6_4) ++ t179).size + 1) = False := eq_false (Nat.not_lt.2 c17)
           try have c17b9 := c17
           try simp only [ByteArray.size_append] at c17b9
           try have c17b8 := eq_false (Nat.not_lt.2 c17b9)
           try replace c17b9 := eq_true c17b9
           by_cases c18 : x3_1.size + (((t178 ++ x6_4) ++ t179) ++ (⟨#[10]⟩ : ByteArray)).size ≤ 9223372036854775807
           ·rw [if_pos c18] at H
            have c18b0 := eq_true c18
            have c18b1 : decide (x3_1.size + (((t178 ++ x6_4) ++ t179) ++ (⟨#[10]⟩ : ByteArray)).size ≤ 9223372036854775807) = true := decide_eq_true c18
            try have c18b2 : (9223372036854775807 < x3_1.size + (((t178 ++ x6_4) ++ t179) ++ (⟨#[10]⟩ : ByteArray)).size) = False := eq_false (Nat.not_lt.2 c18)
            try have c18b9 := c18
            try simp only [ByteArray.size_append, show (⟨#[10]⟩ : ByteArray).size = 1 from rfl] at c18b9
            try have c18b8 := eq_false (Nat.not_lt.2 c18b9)
            try replace c18b9 := eq_true c18b9
            have H' := am H
            clear H
            try go_wp2
            have n0_ := am (blk_drew BK177.out)
            have n1_ := am (below_drew1 HB.out)
            clear BK177
            clear HB
            have BK177 := n0_
            have HB := n1_
            clear n0_ n1_
            refine start_ (n := 17) (S := fun w' => w'.cell? ⟨gb177, 0, none⟩ = some (.int .i64 ((rd_T52 l0 x13_1).f0)) ∧ w'.cell? ⟨gb177, 1, none⟩ = some (.int .i64 ((rd_T52 l0 x13_1).f1)) ∧ w'.cell? ⟨gb177, 2, none⟩ = some (.slice A176_2 ((rd_T52 l0 x13_1).f2).length c176_2) ∧ w'.cell? ⟨gb177, 3, none⟩ = some (.int .i64 ((rd_T52 l0 x13_1).f3)) ∧ w'.cell? ⟨gb177, 4, none⟩ = some (.int .i64 ((rd_T52 l0 x13_1).f4)) ∧ w'.cell? ⟨gb177, 5, none⟩ = some (.slice A176_5 ((rd_T52 l0 x13_1).f5).length c176_5)) (ds := []) #[O,O,O,O,O,O,O,O,O,O,O,O,O,O,O,O,O] (by kernel_rfl) rfl rfl ⟨(blk_cell BK177.out 0).trans rfl, (blk_cell BK177.out 1).trans rfl, (blk_cell BK177.out 2).trans rfl, (blk_cell BK177.out 3).trans rfl, (blk_cell BK177.out 4).trans rfl, (blk_cell BK177.out 5).trans rfl⟩ (fun hHeld => ?_); refine with_tabW spec_l5Text.tab10 spec_l5Text.bits10 (fun HT_ HW_ => ?_)
            generalize wc.drew = w19 at BK177 HB hHeld ⊢
            refine pure_ (i := 0) (N := some 27) (v := ?_) (a' := ?_) #[Y,O,O,O,O,O,O,O,O,O,O,O,O,O,O,O,O] rfl rfl zx (fun _ _ _ h => h) (Or.inl ⟨by rfl, ?_⟩) ?_ ?_
            rotate_left; (intro w'; go_simp; with_reducible rfl); rotate_left; (simp only [Act.put,qa,qb,qc,i64_w,i32_w]; rfl)
            refine pure_ (i := 1) (N := some 28) (v := ?_) (a' := ?_) #[Y,Y,O,O,O,O,O,O,O,O,O,O,O,O,O,O,O] rfl rfl zx (fun _ _ _ h => h) (Or.inl ⟨by rfl, ?_⟩) ?_ ?_
            rotate_left; (intro w'; go_simp; with_reducible rfl); rotate_left; (simp only [Act.put,qa,qb,qc,i64_w,i32_w]; rfl)
            refine pure_ (i := 3) (N := some 30) (v := ?_) (a' := ?_) #[Y,Y,O,Y,O,O,O,O,O,O,O,O,O,O,O,O,O] rfl rfl zx (fun _ _ _ h => h) (Or.inl ⟨by rfl, ?_⟩) ?_ ?_
            rotate_left; (intro w'; go_simp; with_reducible rfl); rotate_left; (simp only [Act.put,qa,qb,qc,i64_w,i32_w]; rfl)
            refine pure_ (i := 6) (N := some 33) (v := ?_) (a' := ?_) #[Y,Y,O,Y,O,O,Y,O,O,O,O,O,O,O,O,O,O] rfl rfl zx (fun _ _ _ h => h) (Or.inl ⟨by rfl, ?_⟩) ?_ ?_
            rotate_left; (intro w'; go_simp; with_reducible rfl); rotate_left; (simp only [Act.put,qa,qb,qc,i64_w,i32_w]; rfl)
            refine pure_ (i := 8) (N := some 35) (v := ?_) (a' := ?_) #[Y,Y,O,Y,O,O,Y,O,Y,O,O,O,O,O,O,O,O] rfl rfl zx (fun _ _ _ h => h) (Or.inl ⟨by rfl, ?_⟩) ?_ ?_
            rotate_left; (intro w'; go_simp; with_reducible rfl); rotate_left; (simp only [Act.put,qa,qb,qc,i64_w,i32_w]; rfl)
            refine pure_ (i := 10) (N := some 37) (v := ?_) (a' := ?_) #[Y,Y,O,Y,O,O,Y,O,Y,O,Y,O,O,O,O,O,O] rfl rfl zx (fun _ _ _ h => h) (Or.inl ⟨by rfl, ?_⟩) ?_ ?_
            rotate_left; (intro w'; go_simp; with_reducible rfl); rotate_left; (simp only [Act.put,qa,qb,qc,i64_w,i32_w]; rfl)
            refine take_ (i := 2) (N := some 29) (v := ?_) (a' := ?_) #[Y,Y,Y,Y,O,O,Y,O,Y,O,Y,O,O,O,O,O,O] rfl rfl (take_ofW HT_.out HW_.out (by kernel_rfl)) (fun _ _ _ h => h) (Or.inl ⟨by rfl, ?_⟩) hHeld ?_ ?_
            rotate_left; (rintro w' ⟨s0, s1, s2, s3, s4, s5⟩; go_simp; with_reducible rfl); rotate_left; (simp only [Act.put,qa,qb,qc,i64_w,i32_w]; rfl)
            refine take_ (i := 4) (N := some 31) (v := ?_) (a' := ?_) #[Y,Y,Y,Y,Y,O,Y,O,Y,O,Y,O,O,O,O,O,O] rfl rfl (take_ofW HT_.out HW_.out (by kernel_rfl)) (fun _ _ _ h => h) (Or.inl ⟨by rfl, ?_⟩) hHeld ?_ ?_
            rotate_left; (rintro w' ⟨s0, s1, s2, s3, s4, s5⟩; go_simp; with_reducible rfl); rotate_left; (simp only [Act.put,qa,qb,qc,i64_w,i32_w]; rfl)
            refine take_ (i := 9) (N := some 36) (v := ?_) (a' := ?_) #[Y,Y,Y,Y,Y,O,Y,O,Y,Y,Y,O,O,O,O,O,O] rfl rfl (take_ofW HT_.out HW_.out (by kernel_rfl)) (fun _ _ _ h => h) (Or.inl ⟨by rfl, ?_⟩) hHeld ?_ ?_
            rotate_left; (rintro w' ⟨s0, s1, s2, s3, s4, s5⟩; go_simp; with_reducible rfl); rotate_left; (simp only [Act.put,qa,qb,qc,i64_w,i32_w]; rfl)
            refine take_ (i := 11) (N := some 38) (v := ?_) (a' := ?_) #[Y,Y,Y,Y,Y,O,Y,O,Y,Y,Y,Y,O,O,O,O,O] rfl rfl (take_ofW HT_.out HW_.out (by kernel_rfl)) (fun _ _ _ h => h) (Or.inl ⟨by rfl, ?_⟩) hHeld ?_ ?_
            rotate_left; (rintro w' ⟨s0, s1, s2, s3, s4, s5⟩; go_simp; with_reducible rfl); rotate_left; (simp only [Act.put,qa,qb,qc,i64_w,i32_w]; rfl)
            refine one_ (i := 5) (N := some 32) #[Y,Y,Y,Y,Y,Y,Y,O,Y,Y,Y,Y,O,O,O,O,O] rfl rfl (one_of HT_.out (by kernel_rfl)) (by decide) (fun K hK => ?_)
            refine goes_ Tryz.func78 (by kernel_rfl) rfl #[.int .i64 ((rd_T52 l0 x13_1).f0), .int .i64 ((rd_T52 l0 x13_1).f1)] (by rfl) rfl rfl zm ?_
            with_reducible refine (spec_l5Numbers.calls kj4 ((rd_T52 l0 x13_1).f0) ((rd_T52 l0 x13_1).f1) t178 _ A13.out).mono ?_
            rintro e w20 ⟨rfl, hb⟩
            refine ⟨_, rfl, ?_⟩
            have n0_ := am (blk_below (g := gb177) (o := .cells #[.int .i64 ((rd_T52 l0 x13_1).f0), .int .i64 ((rd_T52 l0 x13_1).f1), .slice A176_2 ((rd_T52 l0 x13_1).f2).length c176_2, .int .i64 ((rd_T52 l0 x13_1).f3), .int .i64 ((rd_T52 l0 x13_1).f4), .slice A176_5 ((rd_T52 l0 x13_1).f5).length c176_5] 52 (0, 0)) (zk BK177.out) hb)
            have n1_ := am (below_step zw hb)
            clear BK177
            clear HB
            have BK177 := n0_
            have HB := n1_
            clear n0_ n1_
            (try clear hb)
            (try clear hb2)
            (try clear hk)
            (try clear hi)
            refine hK.out _ _ ⟨(blk_cell BK177.out 0).trans rfl, (blk_cell BK177.out 1).trans rfl, (blk_cell BK177.out 2).trans rfl, (blk_cell BK177.out 3).trans rfl, (blk_cell BK177.out 4).trans rfl, (blk_cell BK177.out 5).trans rfl⟩ (fun hHeld => ?_)
            clear hK K
            refine norm_ (a' := ?_) ?_ ?_
            rotate_left
            ·show Act.put _ (some 32) _ = _
             simp only [Act.put,qa,qb,qc,i64_w,i32_w]
             rfl
            refine pure_ (i := 7) (N := some 34) (v := ?_) (a' := ?_) #[Y,Y,Y,Y,Y,Y,Y,Y,Y,Y,Y,Y,O,O,O,O,O] rfl rfl zx (fun _ _ _ h => h) (Or.inl ⟨by rfl, ?_⟩) ?_ ?_
            rotate_left; (intro w'; go_simp; with_reducible rfl); rotate_left; (simp only [Act.put,qa,qb,qc,i64_w,i32_w]; rfl)
            refine one_ (i := 12) (N := some 39) #[Y,Y,Y,Y,Y,Y,Y,Y,Y,Y,Y,Y,Y,O,O,O,O] rfl rfl (one_of HT_.out (by kernel_rfl)) (by decide) (fun K hK => ?_)
            refine goes_ Tryz.func78 (by kernel_rfl) rfl #[.int .i64 ((rd_T52 l0 x13_1).f3), .int .i64 ((rd_T52 l0 x13_1).f4)] (by rfl) rfl rfl zm ?_
            with_reducible refine (spec_l5Numbers.calls kj4 ((rd_T52 l0 x13_1).f3) ((rd_T52 l0 x13_1).f4) t179 _ A15.out).mono ?_
            rintro e w21 ⟨rfl, hb⟩
            refine ⟨_, rfl, ?_⟩
            have n0_ := am (blk_below (g := gb177) (o := .cells #[.int .i64 ((rd_T52 l0 x13_1).f0), .int .i64 ((rd_T52 l0 x13_1).f1), .slice A176_2 ((rd_T52 l0 x13_1).f2).length c176_2, .int .i64 ((rd_T52 l0 x13_1).f3), .int .i64 ((rd_T52 l0 x13_1).f4), .slice A176_5 ((rd_T52 l0 x13_1).f5).length c176_5] 52 (0, 0)) (zk BK177.out) hb)
            have n1_ := am (below_step zw hb)
            clear BK177
            clear HB
            have BK177 := n0_
            have HB := n1_
            clear n0_ n1_
            (try clear hb)
            (try clear hb2)
            (try clear hk)
            (try clear hi)
            refine hK.out _ _ ⟨(blk_cell BK177.out 0).trans rfl, (blk_cell BK177.out 1).trans rfl, (blk_cell BK177.out 2).trans rfl, (blk_cell BK177.out 3).trans rfl, (blk_cell BK177.out 4).trans rfl, (blk_cell BK177.out 5).trans rfl⟩ (fun hHeld => ?_)
            clear hK K
            refine norm_ (a' := ?_) ?_ ?_
            rotate_left
            ·show Act.put _ (some 39) _ = _
             simp only [Act.put,qa,qb,qc,i64_w,i32_w]
             rfl
            refine pure_ (i := 13) (N := some 40) (v := ?_) (a' := ?_) #[Y,Y,Y,Y,Y,Y,Y,Y,Y,Y,Y,Y,Y,Y,O,O,O] rfl rfl zx (fun _ _ _ h => h) (Or.inl ⟨by rfl, ?_⟩) ?_ ?_
            rotate_left; (intro w'; go_simp; with_reducible rfl); rotate_left; (simp only [Act.put,qa,qb,qc,i64_w,i32_w]; rfl)
            refine pure_ (i := 14) (N := some 41) (v := ?_) (a' := ?_) #[Y,Y,Y,Y,Y,Y,Y,Y,Y,Y,Y,Y,Y,Y,Y,O,O] rfl rfl zx (fun _ _ _ h => h) (Or.inl ⟨by rfl, ?_⟩) ?_ ?_
            rotate_left; (intro w'; go_simp; with_reducible rfl); rotate_left; (simp only [Act.put,qa,qb,qc,i64_w,i32_w]; rfl)
            refine pure_ (i := 15) (N := some 42) (v := ?_) (a' := ?_) #[Y,Y,Y,Y,Y,Y,Y,Y,Y,Y,Y,Y,Y,Y,Y,Y,O] rfl rfl zx (fun _ _ _ h => h) (Or.inl ⟨by rfl, ?_⟩) ?_ ?_
            rotate_left; (intro w'; go_simp; with_reducible rfl); rotate_left; (simp only [Act.put,qa,qb,qc,i64_w,i32_w]; rfl)
            refine pure_ (i := 16) (N := some 3) (v := ?_) (a' := ?_) #[Y,Y,Y,Y,Y,Y,Y,Y,Y,Y,Y,Y,Y,Y,Y,Y,Y] rfl rfl zx (fun _ _ _ h => h) (Or.inl ⟨by rfl, ?_⟩) ?_ ?_
            rotate_left; (intro w'; go_simp; with_reducible rfl); rotate_left; (simp only [Act.put,qa,qb,qc,i64_w,i32_w]; rfl)
            refine done_ (done_of HT_.out (by kernel_rfl)) ?_
            have hcz22_0 : w21.cell? ⟨gb177, 0, none⟩ = some (.int .i64 ((rd_T52 l0 x13_1).f0)) := (blk_cell BK177.out 0).trans rfl
            have hcz22_1 : w21.cell? ⟨gb177, 1, none⟩ = some (.int .i64 ((rd_T52 l0 x13_1).f1)) := (blk_cell BK177.out 1).trans rfl
            have hcz22_2 : w21.cell? ⟨gb177, 2, none⟩ = some (.slice A176_2 ((rd_T52 l0 x13_1).f2).length c176_2) := (blk_cell BK177.out 2).trans rfl
            have hcz22_3 : w21.cell? ⟨gb177, 3, none⟩ = some (.int .i64 ((rd_T52 l0 x13_1).f3)) := (blk_cell BK177.out 3).trans rfl
            have hcz22_4 : w21.cell? ⟨gb177, 4, none⟩ = some (.int .i64 ((rd_T52 l0 x13_1).f4)) := (blk_cell BK177.out 4).trans rfl
            have hcz22_5 : w21.cell? ⟨gb177, 5, none⟩ = some (.slice A176_5 ((rd_T52 l0 x13_1).f5).length c176_5) := (blk_cell BK177.out 5).trans rfl
            have hfz22_0 := blk_frozen BK177.out 0
            have hfz22_1 := blk_frozen BK177.out 1
            have hfz22_2 := blk_frozen BK177.out 2
            have hfz22_3 := blk_frozen BK177.out 3
            have hfz22_4 := blk_frozen BK177.out 4
            have hfz22_5 := blk_frozen BK177.out 5
            try go_wp2
            go_loopg [3, 46] kj4 (fun kq v3 v46 w' => ∃ (x3_3 : ByteArray) (x46_3 : Int), v3 = .string x3_3 ∧ v46 = .int .i64 x46_3 ∧ Aside0 (spec_l5Text.l1 kq x3_3 x6_4 l0 (l0.length : Int) x13_1 ((rd_T52 l0 x13_1).f2) (((rd_T52 l0 x13_1).f2).length : Int) x46_3 ((rd_T52 l0 x13_1).f0) ((rd_T52 l0 x13_1).f1) ((rd_T52 l0 x13_1).f2) ((rd_T52 l0 x13_1).f3) ((rd_T52 l0 x13_1).f4) ((rd_T52 l0 x13_1).f5) = some r) ∧ Aside0 (kq ≤ kj4) ∧ Aside0 (w'.heap[gb177]? = some (.cells #[.int .i64 ((rd_T52 l0 x13_1).f0), .int .i64 ((rd_T52 l0 x13_1).f1), (.slice A176_2 ((rd_T52 l0 x13_1).f2).length c176_2), .int .i64 ((rd_T52 l0 x13_1).f3), .int .i64 ((rd_T52 l0 x13_1).f4), (.slice A176_5 ((rd_T52 l0 x13_1).f5).length c176_5)] 52 (0, 0))) ∧ Aside0 (Below w.heap.size w w'))
            case atStart => exact ⟨(x3_1 ++ (((t178 ++ x6_4) ++ t179) ++ (⟨#[10]⟩ : ByteArray))), (0), zf, zf, H', ⟨Nat.le_refl _⟩, ⟨zk BK177.out⟩, ⟨zw⟩⟩
            case round =>
             clear H'
             try clear c1
             try clear p1
             try clear q1
             try clear hx1
             try clear c2
             try clear c2b0
             try clear p2
             try clear c3
             try clear c3b0
             try clear c4
             try clear c4b0
             try clear c7
             try clear c8
             try clear c8b0
             try clear c8b1
             try clear c8b2
             try clear c10
             try clear c10b0
             try clear c10b1
             try clear c10b2
             try clear c14
             try clear c14b0
             try clear c14b1
             try clear c14b2
             try clear c16
             try clear c16b0
             try clear c16b1
             try clear c16b2
             try clear c17
             try clear c17b0
             try clear c17b1
             try clear c17b2
             try clear p17
             try clear q17
             try clear hx17
             try clear c18
             try clear c18b0
             try clear c18b1
             try clear c18b2
             try clear hcz11_0
             try clear hcz11_1
             try clear hcz11_2
             try clear hcz11_3
             try clear hcz11_4
             try clear hcz11_5
             try clear hcz12_0
             try clear hcz12_1
             try clear hcz12_2
             try clear hcz12_3
             try clear hcz12_4
             try clear hcz12_5
             try clear hcz22_0
             try clear hcz22_1
             try clear hcz22_2
             try clear hcz22_3
             try clear hcz22_4
             try clear hcz22_5
             try clear hcz7_0
             try clear hcz7_1
             try clear hcz7_2
             try clear hcz7_3
             try clear hcz7_4
             try clear hcz7_5
             try clear hcz9_0
             try clear hcz9_1
             try clear hcz9_2
             try clear hcz9_3
             try clear hcz9_4
             try clear hcz9_5
             try clear hfz11_0
             try clear hfz11_1
             try clear hfz11_2
             try clear hfz11_3
             try clear hfz11_4
             try clear hfz11_5
             try clear hfz12_0
             try clear hfz12_1
             try clear hfz12_2
             try clear hfz12_3
             try clear hfz12_4
             try clear hfz12_5
             try clear hfz22_0
             try clear hfz22_1
             try clear hfz22_2
             try clear hfz22_3
             try clear hfz22_4
             try clear hfz22_5
             try clear hfz7_0
             try clear hfz7_1
             try clear hfz7_2
             try clear hfz7_3
             try clear hfz7_4
             try clear hfz7_5
             try clear hfz9_0
             try clear hfz9_1
             try clear hfz9_2
             try clear hfz9_3
             try clear hfz9_4
             try clear hfz9_5
             try clear hx176_0
             try clear hx176_1
             try clear hx176_2
             try clear hx176_3
             try clear hx176_4
             try clear hx176_5
             try clear p1
             try clear p176
             try clear p2
             try clear q1
             try clear q176
             obtain ⟨x3_3, x46_3, rfl, rfl, HA, HK3, BK177, HB⟩ := hrel
             cases gk with
             | zero => exact absurd HA.out (by simp [spec_l5Text.l1])
             | succ k3 =>
              have H := HA.out
              clear HA
              simp only [spec_l5Text.l1] at H
              by_cases c23 : x46_3 < (((rd_T52 l0 x13_1).f2).length : Int)
              ·rw [if_pos c23] at H
               have c23b0 : decide (x46_3 < (((rd_T52 l0 x13_1).f2).length : Int)) = true := decide_eq_true c23
               clear c23
               by_cases c24 : 0 ≤ x46_3
               ·rw [if_pos c24] at H
                have c24b0 : decide (0 ≤ x46_3) = true := decide_eq_true c24
                clear c24
                by_cases c25 : x46_3 < (((rd_T52 l0 x13_1).f2).length : Int)
                ·rw [if_pos c25] at H
                 have c25b0 : decide (x46_3 < (((rd_T52 l0 x13_1).f2).length : Int)) = true := decide_eq_true c25
                 clear c25
                 replace H := Option.bind_eq_some_iff.mp H
                 obtain ⟨t181, A260, H⟩ := H
                 replace H : (if x3_3.size + t181.size ≤ 9223372036854775807 then (spec_l5Text.l1 k3 (x3_3 ++ t181) x6_4 l0 (l0.length : Int) x13_1 ((rd_T52 l0 x13_1).f2) (((rd_T52 l0 x13_1).f2).length : Int) (wrap64 (x46_3 + 1)) ((rd_T52 l0 x13_1).f0) ((rd_T52 l0 x13_1).f1) ((rd_T52 l0 x13_1).f2) ((rd_T52 l0 x13_1).f3) ((rd_T52 l0 x13_1).f4) ((rd_T52 l0 x13_1).f5)) else (none)) = some r := H
                 have A26 := am A260
                 clear A260
                 by_cases c27 : x3_3.size + t181.size ≤ 9223372036854775807
                 ·rw [if_pos c27] at H
                  have c27b0 := eq_true c27
                  have c27b1 : decide (x3_3.size + t181.size ≤ 9223372036854775807) = true := decide_eq_true c27
                  try have c27b2 : (9223372036854775807 < x3_3.size + t181.size) = False := eq_false (Nat.not_lt.2 c27)
                  have H' := am H
                  clear H
                  have p180 : 0 ≤ (x46_3 : Int) := oa
                  have q180 : x46_3 < (((rd_T52 l0 x13_1).f2).length : Int) := oa
                  obtain ⟨ad180, e180, hx180_0⟩ := Kd.at_string HR176_2.out x46_3 p180 q180
                  cases e180
                  replace hx180_0 := (HB.out.cell (World.block_lt_of_cell? w _ hx180_0)).trans hx180_0
                  replace p180 := eq_true p180
                  replace q180 := eq_true q180
                  go_wp2_with (first | ((with_reducible refine gateC (f := 79) rfl ?_); refine goesL_ (some 52) rfl rfl Tryz.func79 (by kernel_rfl) rfl #[.string (⟨#[60, 32]⟩ : ByteArray), .string (rdOf ByteArray.empty ((rd_T52 l0 x13_1).f2) x46_3)] rfl zm ?_; (with_reducible refine (spec_l5Shown.calls (⟨#[60, 32]⟩ : ByteArray) (rdOf ByteArray.empty ((rd_T52 l0 x13_1).f2) x46_3) t181 _ A26.out).mono ?_); rintro e w' ⟨rfl, ⟨nd, rfl⟩⟩; refine ⟨_, rfl, ?_⟩))
                  go_roundg k3
                  case measure => have := HK1.out; have := HJ4.out; have := HK3.out; omega
                  case rel => exact ⟨(x3_3 ++ t181), (wrap64 (x46_3 + 1)), zf, zf, H', ⟨by have := HK1.out; have := HJ4.out; have := HK3.out; omega⟩, ⟨zk BK177.out⟩, ⟨zw⟩⟩
                 ·rw [if_neg c27] at H
                  exact absurd H (by simp)
                ·rw [if_neg c25] at H
                 exact absurd H (by simp)
               ·rw [if_neg c24] at H
                exact absurd H (by simp)
              ·rw [if_neg c23] at H
               have c23b0 : decide (x46_3 < (((rd_T52 l0 x13_1).f2).length : Int)) = false := decide_eq_false c23
               clear c23
               have HC28 := am H
               clear H
               go_upto_if 56 with (fail)
               go_cut [3] (fun v3 wc => ∃ (kq : Nat) (x3_27 : ByteArray), v3 = .string x3_27 ∧ Aside0 (spec_l5Text.j3 kq x3_27 l0 (l0.length : Int) x13_1 ((rd_T52 l0 x13_1).f0) ((rd_T52 l0 x13_1).f1) ((rd_T52 l0 x13_1).f2) ((rd_T52 l0 x13_1).f3) ((rd_T52 l0 x13_1).f4) ((rd_T52 l0 x13_1).f5) = some r) ∧ Aside0 (kq ≤ k3) ∧ Aside0 (wc.heap[gb177]? = some (.cells #[.int .i64 ((rd_T52 l0 x13_1).f0), .int .i64 ((rd_T52 l0 x13_1).f1), (.slice A176_2 ((rd_T52 l0 x13_1).f2).length c176_2), .int .i64 ((rd_T52 l0 x13_1).f3), .int .i64 ((rd_T52 l0 x13_1).f4), (.slice A176_5 ((rd_T52 l0 x13_1).f5).length c176_5)] 52 (0, 0))) ∧ Aside0 (Below w.heap.size w wc))
               case first =>
                have H := HC28.out
                clear HC28
                by_cases c29 : x6_4.toList = ([99] : List UInt8)
                ·rw [if_pos c29] at H
                 have c29b0 : (x6_4.toList == ([99] : List UInt8)) = true := beq_iff_eq.mpr c29
                 have c29b1 : (x6_4.toList != ([99] : List UInt8)) = false := bne_eq_false_iff_eq.mpr c29
                 clear c29
                 (first | rw [c29b0] | (simp only [i64_w, i32_w]; rw [c29b0]) | skip)
                 by_cases c30 : x3_3.size + 4 ≤ 9223372036854775807
                 ·rw [if_pos c30] at H
                  have c30b0 := eq_true c30
                  have c30b1 : decide (x3_3.size + 4 ≤ 9223372036854775807) = true := decide_eq_true c30
                  try have c30b2 : (9223372036854775807 < x3_3.size + 4) = False := eq_false (Nat.not_lt.2 c30)
                  have H' := am H
                  clear H
                  go_wp2
                  go_meet
                  case rel => exact ⟨_, (x3_3 ++ (⟨#[45, 45, 45, 10]⟩ : ByteArray)), zf, H', ⟨by have := HK1.out; have := HJ4.out; have := HK3.out; first | omega | exact Nat.le_refl _⟩, ⟨zk BK177.out⟩, ⟨zw⟩⟩
                 ·rw [if_neg c30] at H
                  exact absurd H (by simp)
                ·rw [if_neg c29] at H
                 have c29b0 : (x6_4.toList == ([99] : List UInt8)) = false := beq_eq_false_iff_ne.mpr c29
                 have c29b1 : (x6_4.toList != ([99] : List UInt8)) = true := bne_iff_ne.mpr c29
                 (first | rw [c29b0] | (simp only [i64_w, i32_w]; rw [c29b0]) | skip)
                 have H' := am H
                 clear H
                 go_wp2
                 go_meet
                 case rel => exact ⟨_, (x3_3), zf, H', ⟨by have := HK1.out; have := HJ4.out; have := HK3.out; first | omega | exact Nat.le_refl _⟩, ⟨zk BK177.out⟩, ⟨zw⟩⟩
               case rest =>
                clear HC28
                try clear c1
                try clear p1
                try clear q1
                try clear hx1
                try clear c2
                try clear c2b0
                try clear p2
                try clear c3
                try clear c3b0
                try clear c4
                try clear c4b0
                try clear p6
                try clear c7
                try clear c8
                try clear c8b0
                try clear c8b1
                try clear c8b2
                try clear c10
                try clear c10b0
                try clear c10b1
                try clear c10b2
                try clear c14
                try clear c14b0
                try clear c14b1
                try clear c14b2
                try clear c16
                try clear c16b0
                try clear c16b1
                try clear c16b2
                try clear c17
                try clear c17b0
                try clear c17b1
                try clear c17b2
                try clear p17
                try clear q17
                try clear hx17
                try clear c18
                try clear c18b0
                try clear c18b1
                try clear c18b2
                try clear p18
                try clear q18
                try clear hx18
                try clear c23
                try clear c23b0
                try clear c24
                try clear c24b0
                try clear c25
                try clear c25b0
                try clear c27
                try clear c27b0
                try clear c27b1
                try clear c27b2
                try clear c29
                try clear c29b0
                try clear c29b1
                try clear c30
                try clear c30b0
                try clear c30b1
                try clear c30b2
                try clear hcz11_0
                try clear hcz11_1
                try clear hcz11_2
                try clear hcz11_3
                try clear hcz11_4
                try clear hcz11_5
                try clear hcz12_0
                try clear hcz12_1
                try clear hcz12_2
                try clear hcz12_3
                try clear hcz12_4
                try clear hcz12_5
                try clear hcz22_0
                try clear hcz22_1
                try clear hcz22_2
                try clear hcz22_3
                try clear hcz22_4
                try clear hcz22_5
                try clear hcz7_0
                try clear hcz7_1
                try clear hcz7_2
                try clear hcz7_3
                try clear hcz7_4
                try clear hcz7_5
                try clear hcz9_0
                try clear hcz9_1
                try clear hcz9_2
                try clear hcz9_3
                try clear hcz9_4
                try clear hcz9_5
                try clear hfz11_0
                try clear hfz11_1
                try clear hfz11_2
                try clear hfz11_3
                try clear hfz11_4
                try clear hfz11_5
                try clear hfz12_0
                try clear hfz12_1
                try clear hfz12_2
                try clear hfz12_3
                try clear hfz12_4
                try clear hfz12_5
                try clear hfz22_0
                try clear hfz22_1
                try clear hfz22_2
                try clear hfz22_3
                try clear hfz22_4
                try clear hfz22_5
                try clear hfz7_0
                try clear hfz7_1
                try clear hfz7_2
                try clear hfz7_3
                try clear hfz7_4
                try clear hfz7_5
                try clear hfz9_0
                try clear hfz9_1
                try clear hfz9_2
                try clear hfz9_3
                try clear hfz9_4
                try clear hfz9_5
                try clear hx176_0
                try clear hx176_1
                try clear hx176_2
                try clear hx176_3
                try clear hx176_4
                try clear hx176_5
                try clear hx180_0
                try clear p1
                try clear p17
                try clear p176
                try clear p180
                try clear p2
                try clear q1
                try clear q17
                try clear q176
                try clear q180
                obtain ⟨kq, x3_27, rfl, HA, HJ27, BK177, HB⟩ := hcut
                cases kq with
                | zero => exact absurd HA.out (by simp [spec_l5Text.j3])
                | succ kj27 =>
                 have H := HA.out
                 clear HA
                 simp only [spec_l5Text.j3] at H
                 have H' := am H
                 clear H
                 have hcz31_0 : wc.cell? ⟨gb177, 0, none⟩ = some (.int .i64 ((rd_T52 l0 x13_1).f0)) := (blk_cell BK177.out 0).trans rfl
                 have hcz31_1 : wc.cell? ⟨gb177, 1, none⟩ = some (.int .i64 ((rd_T52 l0 x13_1).f1)) := (blk_cell BK177.out 1).trans rfl
                 have hcz31_2 : wc.cell? ⟨gb177, 2, none⟩ = some (.slice A176_2 ((rd_T52 l0 x13_1).f2).length c176_2) := (blk_cell BK177.out 2).trans rfl
                 have hcz31_3 : wc.cell? ⟨gb177, 3, none⟩ = some (.int .i64 ((rd_T52 l0 x13_1).f3)) := (blk_cell BK177.out 3).trans rfl
                 have hcz31_4 : wc.cell? ⟨gb177, 4, none⟩ = some (.int .i64 ((rd_T52 l0 x13_1).f4)) := (blk_cell BK177.out 4).trans rfl
                 have hcz31_5 : wc.cell? ⟨gb177, 5, none⟩ = some (.slice A176_5 ((rd_T52 l0 x13_1).f5).length c176_5) := (blk_cell BK177.out 5).trans rfl
                 have hfz31_0 := blk_frozen BK177.out 0
                 have hfz31_1 := blk_frozen BK177.out 1
                 have hfz31_2 := blk_frozen BK177.out 2
                 have hfz31_3 := blk_frozen BK177.out 3
                 have hfz31_4 := blk_frozen BK177.out 4
                 have hfz31_5 := blk_frozen BK177.out 5
                 go_wp2
                 go_loopg [3, 62] kj27 (fun kq v3 v62 w' => ∃ (x3_5 : ByteArray) (x62_5 : Int), v3 = .string x3_5 ∧ v62 = .int .i64 x62_5 ∧ Aside0 (spec_l5Text.l2 kq x3_5 l0 (l0.length : Int) x13_1 ((rd_T52 l0 x13_1).f5) (((rd_T52 l0 x13_1).f5).length : Int) x62_5 = some r) ∧ Aside0 (kq ≤ kj27) ∧ Aside0 (w'.heap[gb177]? = some (.cells #[.int .i64 ((rd_T52 l0 x13_1).f0), .int .i64 ((rd_T52 l0 x13_1).f1), (.slice A176_2 ((rd_T52 l0 x13_1).f2).length c176_2), .int .i64 ((rd_T52 l0 x13_1).f3), .int .i64 ((rd_T52 l0 x13_1).f4), (.slice A176_5 ((rd_T52 l0 x13_1).f5).length c176_5)] 52 (0, 0))) ∧ Aside0 (Below w.heap.size w w'))
                 case atStart => exact ⟨(x3_27), (0), zf, zf, H', ⟨Nat.le_refl _⟩, ⟨zk BK177.out⟩, ⟨zw⟩⟩
                 case round =>
                  clear H'
                  try clear c1
                  try clear p1
                  try clear q1
                  try clear hx1
                  try clear c2
                  try clear c2b0
                  try clear p2
                  try clear c3
                  try clear c3b0
                  try clear c4
                  try clear c4b0
                  try clear p6
                  try clear c7
                  try clear c8
                  try clear c8b0
                  try clear c8b1
                  try clear c8b2
                  try clear c10
                  try clear c10b0
                  try clear c10b1
                  try clear c10b2
                  try clear c14
                  try clear c14b0
                  try clear c14b1
                  try clear c14b2
                  try clear c16
                  try clear c16b0
                  try clear c16b1
                  try clear c16b2
                  try clear c17
                  try clear c17b0
                  try clear c17b1
                  try clear c17b2
                  try clear p17
                  try clear q17
                  try clear hx17
                  try clear c18
                  try clear c18b0
                  try clear c18b1
                  try clear c18b2
                  try clear p18
                  try clear q18
                  try clear hx18
                  try clear c23
                  try clear c23b0
                  try clear c24
                  try clear c24b0
                  try clear c25
                  try clear c25b0
                  try clear c27
                  try clear c27b0
                  try clear c27b1
                  try clear c27b2
                  try clear c29
                  try clear c29b0
                  try clear c29b1
                  try clear c30
                  try clear c30b0
                  try clear c30b1
                  try clear c30b2
                  try clear hcz11_0
                  try clear hcz11_1
                  try clear hcz11_2
                  try clear hcz11_3
                  try clear hcz11_4
                  try clear hcz11_5
                  try clear hcz12_0
                  try clear hcz12_1
                  try clear hcz12_2
                  try clear hcz12_3
                  try clear hcz12_4
                  try clear hcz12_5
                  try clear hcz22_0
                  try clear hcz22_1
                  try clear hcz22_2
                  try clear hcz22_3
                  try clear hcz22_4
                  try clear hcz22_5
                  try clear hcz31_0
                  try clear hcz31_1
                  try clear hcz31_2
                  try clear hcz31_3
                  try clear hcz31_4
                  try clear hcz31_5
                  try clear hcz7_0
                  try clear hcz7_1
                  try clear hcz7_2
                  try clear hcz7_3
                  try clear hcz7_4
                  try clear hcz7_5
                  try clear hcz9_0
                  try clear hcz9_1
                  try clear hcz9_2
                  try clear hcz9_3
                  try clear hcz9_4
                  try clear hcz9_5
                  try clear hfz11_0
                  try clear hfz11_1
                  try clear hfz11_2
                  try clear hfz11_3
                  try clear hfz11_4
                  try clear hfz11_5
                  try clear hfz12_0
                  try clear hfz12_1
                  try clear hfz12_2
                  try clear hfz12_3
                  try clear hfz12_4
                  try clear hfz12_5
                  try clear hfz22_0
                  try clear hfz22_1
                  try clear hfz22_2
                  try clear hfz22_3
                  try clear hfz22_4
                  try clear hfz22_5
                  try clear hfz31_0
                  try clear hfz31_1
                  try clear hfz31_2
                  try clear hfz31_3
                  try clear hfz31_4
                  try clear hfz31_5
                  try clear hfz7_0
                  try clear hfz7_1
                  try clear hfz7_2
                  try clear hfz7_3
                  try clear hfz7_4
                  try clear hfz7_5
                  try clear hfz9_0
                  try clear hfz9_1
                  try clear hfz9_2
                  try clear hfz9_3
                  try clear hfz9_4
                  try clear hfz9_5
                  try clear hx176_0
                  try clear hx176_1
                  try clear hx176_2
                  try clear hx176_3
                  try clear hx176_4
                  try clear hx176_5
                  try clear hx180_0
                  try clear p1
                  try clear p17
                  try clear p176
                  try clear p18
                  try clear p180
                  try clear p2
                  try clear p6
                  try clear q1
                  try clear q17
                  try clear q176
                  try clear q18
                  try clear q180
                  obtain ⟨x3_5, x62_5, rfl, rfl, HA, HK5, BK177, HB⟩ := hrel
                  cases gk with
                  | zero => exact absurd HA.out (by simp [spec_l5Text.l2])
                  | succ k5 =>
                   have H := HA.out
                   clear HA
                   simp only [spec_l5Text.l2] at H
                   by_cases c32 : x62_5 < (((rd_T52 l0 x13_1).f5).length : Int)
                   ·rw [if_pos c32] at H
                    have c32b0 : decide (x62_5 < (((rd_T52 l0 x13_1).f5).length : Int)) = true := decide_eq_true c32
                    clear c32
                    by_cases c33 : 0 ≤ x62_5
                    ·rw [if_pos c33] at H
                     have c33b0 : decide (0 ≤ x62_5) = true := decide_eq_true c33
                     clear c33
                     by_cases c34 : x62_5 < (((rd_T52 l0 x13_1).f5).length : Int)
                     ·rw [if_pos c34] at H
                      have c34b0 : decide (x62_5 < (((rd_T52 l0 x13_1).f5).length : Int)) = true := decide_eq_true c34
                      clear c34
                      replace H := Option.bind_eq_some_iff.mp H
                      obtain ⟨t183, A350, H⟩ := H
                      replace H : (if x3_5.size + t183.size ≤ 9223372036854775807 then (spec_l5Text.l2 k5 (x3_5 ++ t183) l0 (l0.length : Int) x13_1 ((rd_T52 l0 x13_1).f5) (((rd_T52 l0 x13_1).f5).length : Int) (wrap64 (x62_5 + 1))) else (none)) = some r := H
                      have A35 := am A350
                      clear A350
                      by_cases c36 : x3_5.size + t183.size ≤ 9223372036854775807
                      ·rw [if_pos c36] at H
                       have c36b0 := eq_true c36
                       have c36b1 : decide (x3_5.size + t183.size ≤ 9223372036854775807) = true := decide_eq_true c36
                       try have c36b2 : (9223372036854775807 < x3_5.size + t183.size) = False := eq_false (Nat.not_lt.2 c36)
                       have H' := am H
                       clear H
                       have p182 : 0 ≤ (x62_5 : Int) := oa
                       have q182 : x62_5 < (((rd_T52 l0 x13_1).f5).length : Int) := oa
                       obtain ⟨ad182, e182, hx182_0⟩ := Kd.at_string HR176_5.out x62_5 p182 q182
                       cases e182
                       replace hx182_0 := (HB.out.cell (World.block_lt_of_cell? w _ hx182_0)).trans hx182_0
                       replace p182 := eq_true p182
                       replace q182 := eq_true q182
                       go_wp2_with (first | ((with_reducible refine gateC (f := 79) rfl ?_); refine goesL_ (some 68) rfl rfl Tryz.func79 (by kernel_rfl) rfl #[.string (⟨#[62, 32]⟩ : ByteArray), .string (rdOf ByteArray.empty ((rd_T52 l0 x13_1).f5) x62_5)] rfl zm ?_; (with_reducible refine (spec_l5Shown.calls (⟨#[62, 32]⟩ : ByteArray) (rdOf ByteArray.empty ((rd_T52 l0 x13_1).f5) x62_5) t183 _ A35.out).mono ?_); rintro e w' ⟨rfl, ⟨nd, rfl⟩⟩; refine ⟨_, rfl, ?_⟩))
                       go_roundg k5
                       case measure => have := HK1.out; have := HJ4.out; have := HK3.out; have := HJ27.out; have := HK5.out; omega
                       case rel => exact ⟨(x3_5 ++ t183), (wrap64 (x62_5 + 1)), zf, zf, H', ⟨by have := HK1.out; have := HJ4.out; have := HK3.out; have := HJ27.out; have := HK5.out; omega⟩, ⟨zk BK177.out⟩, ⟨zw⟩⟩
                      ·rw [if_neg c36] at H
                       exact absurd H (by simp)
                     ·rw [if_neg c34] at H
                      exact absurd H (by simp)
                    ·rw [if_neg c33] at H
                     exact absurd H (by simp)
                   ·rw [if_neg c32] at H
                    have c32b0 : decide (x62_5 < (((rd_T52 l0 x13_1).f5).length : Int)) = false := decide_eq_false c32
                    clear c32
                    have H' := am H
                    clear H
                    go_wp2
                    go_roundg k5
                    case measure => have := HK1.out; have := HJ4.out; have := HK3.out; have := HJ27.out; have := HK5.out; omega
                    case rel => exact ⟨(x3_5), (wrap64 (x13_1 + 1)), zf, zf, H', ⟨by have := HK1.out; have := HJ4.out; have := HK3.out; have := HJ27.out; have := HK5.out; omega⟩, ⟨zw⟩⟩
           ·rw [if_neg c18] at H
            exact absurd H (by simp)
          ·rw [if_neg c17] at H
           exact absurd H (by simp)
         ·rw [if_neg c16] at H
          exact absurd H (by simp)
        ·rw [if_neg c14] at H
         exact absurd H (by simp)
     ·rw [if_neg c4] at H
      exact absurd H (by simp)
    ·rw [if_neg c3] at H
     exact absurd H (by simp)
   ·rw [if_neg c2] at H
    have c2b0 : decide (x13_1 < (l0.length : Int)) = false := decide_eq_false c2
    clear c2
    obtain rfl := Option.some.inj H
    go_wp2
    go_ret
    exact ⟨by first | rfl | (simp [errW_none, errW_some] <;> rfl) | (simp [*, errW_none, errW_some] <;> rfl), zb⟩

mutual
def spec_ReadNormal.l0 : Nat → ByteArray → List ByteArray → List (S52) → Option ((List (S52)) × Int × Bool)
 | 0, _, _, _ => none
 | k + 1, x0, x5, x6 => if (x5.length : Int) > 0 then (if 0 < (x5.length : Int) then ((spec_l1Plain.f (rdOf ByteArray.empty x5 0)).bind fun t188 => ((spec_l5Head.f k t188).bind fun bt189 => (if bt189.2.2.2.2.2.2.2 = true then (if 1 ≤ (x5.length : Int) then ((some (x5.drop (1 : Int).toNat : List ByteArray)).bind fun y202 => (if bt189.2.2.2.2.2.2.1 = 97 then (spec_ReadNormal.j1 k x0 y202 x6 bt189.2.2.2.2.2.2.1 bt189.1 bt189.2.1 bt189.2.2.1 bt189.2.2.2.1 bt189.2.2.2.2.1 bt189.2.2.2.2.2.1) else ((spec_l5Take.f k y202 (⟨#[60, 32]⟩ : ByteArray)).bind fun bt205 => (if 0 ≤ bt205.2 then (if bt205.2 ≤ (y202.length : Int) then (spec_ReadNormal.j1 k x0 (y202.drop (bt205.2 : Int).toNat) x6 bt189.2.2.2.2.2.2.1 bt189.1 bt189.2.1 bt205.1 bt189.2.2.2.1 bt189.2.2.2.2.1 bt189.2.2.2.2.2.1) else (none)) else (none))))) else (none)) else (some (([] : List (S52)), 1, false))))) else (none)) else (spec_ReadNormal.l1 k x0 x6 x6 (x6.length : Int) 0)
def spec_ReadNormal.j1 : Nat → ByteArray → List ByteArray → List (S52) → Int → Int → Int → List ByteArray → Int → Int → List ByteArray → Option ((List (S52)) × Int × Bool)
 | 0, _, _, _, _, _, _, _, _, _, _ => none
 | k + 1, x0, x5, x6, x8, x202000, x202001, x202002, x202003, x202004, x202005 => if x8 = 99 then (spec_ReadNormal.j2 k x0 x5 x6 x8 (decide ((x5.length : Int) > 0)) x202000 x202001 x202002 x202003 x202004 x202005) else (spec_ReadNormal.j2 k x0 x5 x6 x8 false x202000 x202001 x202002 x202003 x202004 x202005)
def spec_ReadNormal.j2 : Nat → ByteArray → List ByteArray → List (S52) → Int → Bool → Int → Int → List ByteArray → Int → Int → List ByteArray → Option ((List (S52)) × Int × Bool)
 | 0, _, _, _, _, _, _, _, _, _, _, _ => none
 | k + 1, x0, x5, x6, x8, x57, x202000, x202001, x202002, x202003, x202004, x202005 => if x57 = true then (if 1 ≤ (x5.length : Int) then ((some (x5.drop (1 : Int).toNat : List ByteArray)).bind fun y212 => (if x8 = 100 then (if x6.length < 1759218604441 then (spec_ReadNormal.l0 k x0 y212 (x6 ++ [(⟨x202000, x202001, x202002, x202003, x202004, x202005⟩ : S52)])) else (none)) else ((spec_l5Take.f k y212 (⟨#[62, 32]⟩ : ByteArray)).bind fun bt218 => (if 0 ≤ bt218.2 then (if bt218.2 ≤ (y212.length : Int) then (if x6.length < 1759218604441 then (spec_ReadNormal.l0 k x0 (y212.drop (bt218.2 : Int).toNat) (x6 ++ [(⟨x202000, x202001, x202002, x202003, x202004, bt218.1⟩ : S52)])) else (none)) else (none)) else (none))))) else (none)) else (if x8 = 100 then (if x6.length < 1759218604441 then (spec_ReadNormal.l0 k x0 x5 (x6 ++ [(⟨x202000, x202001, x202002, x202003, x202004, x202005⟩ : S52)])) else (none)) else ((spec_l5Take.f k x5 (⟨#[62, 32]⟩ : ByteArray)).bind fun bt231 => (if 0 ≤ bt231.2 then (if bt231.2 ≤ (x5.length : Int) then (if x6.length < 1759218604441 then (spec_ReadNormal.l0 k x0 (x5.drop (bt231.2 : Int).toNat) (x6 ++ [(⟨x202000, x202001, x202002, x202003, x202004, bt231.1⟩ : S52)])) else (none)) else (none)) else (none))))
def spec_ReadNormal.l1 : Nat → ByteArray → List (S52) → List (S52) → Int → Int → Option ((List (S52)) × Int × Bool)
 | 0, _, _, _, _, _ => none
 | k + 1, x0, x6, x76, x77, x78 => if x78 < x77 then (if 0 ≤ x78 then (if x78 < (x76.length : Int) then ((spec_l1OwnT.f ((rd_T52 x76 x78).f2)).bind fun t243 => (if t243.length + ((rd_T52 x76 x78).f5).length < 8796093022208 then ((some (t243 ++ ((rd_T52 x76 x78).f5) : List ByteArray)).bind fun y246 => (spec_ReadNormal.l2 k x0 x6 x76 x77 x78 y246 (y246.length : Int) 0)) else (none))) else (none)) else (none)) else ((spec_GoodSteps.f k x6).bind fun t250 => (if t250 = true then ((spec_l5Text.f k x6).bind fun t251 => (if t251.toList = x0.toList then (some (x6, 0, true)) else (some (([] : List (S52)), 1, false)))) else (some (([] : List (S52)), 1, false))))
def spec_ReadNormal.l2 : Nat → ByteArray → List (S52) → List (S52) → Int → Int → List ByteArray → Int → Int → Option ((List (S52)) × Int × Bool)
 | 0, _, _, _, _, _, _, _, _ => none
 | k + 1, x0, x6, x76, x77, x78, x87, x88, x89 => if x89 < x88 then (if 0 ≤ x89 then (if x89 < (x87.length : Int) then (if (rdOf ByteArray.empty x87 x89).toList = ([] : List UInt8) then (some (([] : List (S52)), 1, false)) else (spec_ReadNormal.l2 k x0 x6 x76 x77 x78 x87 x88 (wrap64 (x89 + 1)))) else (none)) else (none)) else (spec_ReadNormal.l1 k x0 x6 x76 x77 (wrap64 (x78 + 1)))
end
def spec_ReadNormal.f (k : Nat) (a0 : ByteArray) : Option ((List (S52)) × Int × Bool) := if (a0.size : Int) > 3000 then (some (([] : List (S52)), 1, false)) else ((spec_l1Cut.f k a0).bind fun t184 => (spec_ReadNormal.l0 k a0 t184 ([] : List (S52))))
def spec_ReadNormal.T24 : Bool × List (List Nat × List Nat) := (true, [([], []), ([0], [0]), ([1], [1]), ([], []), ([3], [3]), ([2, 4, 2], [2, 4]), ([5], [5]), ([], [])])
def spec_ReadNormal.B24 : List Nat := [0, 1, 3, 0, 8, 31, 63, 0]
theorem spec_ReadNormal.tab24 : rtab .any (opsOf Tryz.f21 24) = spec_ReadNormal.T24 := by kernel_rfl
theorem spec_ReadNormal.bits24 : waitsOk spec_ReadNormal.T24.2 spec_ReadNormal.B24 = true := by kernel_rfl
set_option maxHeartbeats 8000000 in
set_option maxRecDepth 100000 in
theorem spec_ReadNormal.calls (k : Nat) (a0 : ByteArray) (r1 : List (S52)) (r2 : Int) (r3 : Bool) (w : World) (h : spec_ReadNormal.f k a0 = some (r1, r2, r3)) :
  Calls Tryz.prog 21 #[.string a0] w fun e w' => ∃ v0_ : Value, e = .returned (.tuple #[v0_, .int .i64 r2, .bool r3]) ∧ Kd.S k52 52 w' w.heap.size (fun _ => True) v0_ r1 ∧ Below w.heap.size w w' := by
 have hu52 := Tryz.underlying52
 have HB := am (Below.refl w.heap.size w)
 have H : (if (a0.size : Int) > 3000 then (some (([] : List (S52)), 1, false)) else ((spec_l1Cut.f k a0).bind fun t184 => (spec_ReadNormal.l0 k a0 t184 ([] : List (S52))))) = some (r1, r2, r3) := h
 clear h
 by_cases c2 : (a0.size : Int) > 3000
 ·rw [if_pos c2] at H
  have c2b0 : decide (3000 < (a0.size : Int)) = true := decide_eq_true c2
  have c2b1 : decide (3000 < a0.size) = true := decide_eq_true (by omega)
  clear c2
  simp only [Option.some.injEq, Prod.mk.injEq] at H
  obtain ⟨rfl, rfl, rfl⟩ := H
  go_enter Tryz.func21, Tryz.ntmps21
  go_wp2
  go_ret3
  exact ⟨_, by first | rfl | (simp [errW_none, errW_some] <;> rfl) | (simp [*, errW_none, errW_some] <;> rfl), by first | exact Kd.S_nil _ _ _ _ _ | exact Kd.Q_nil _ _ _ _ _ | exact Kd.R_nil _ _ _ _ _, zb⟩
 ·rw [if_neg c2] at H
  have c2b0 : decide (3000 < (a0.size : Int)) = false := decide_eq_false c2
  have c2b1 : decide (3000 < a0.size) = false := decide_eq_false (by omega)
  clear c2
  replace H := Option.bind_eq_some_iff.mp H
  obtain ⟨t184, A30, H⟩ := H
  replace H : (spec_ReadNormal.l0 k a0 t184 ([] : List (S52))) = some (r1, r2, r3) := H
  have A3 := am A30
  clear A30
  have H' := am H
  clear H
  go_enter Tryz.func21, Tryz.ntmps21
  go_wp2_with (first | ((with_reducible refine gateC (f := 44) rfl ?_); refine goesL_ (some 22) rfl rfl Tryz.func44 (by kernel_rfl) rfl #[.string a0] rfl zm ?_; (with_reducible refine (spec_l1Cut.calls k a0 t184 _ A3.out).mono ?_); rintro e w4 ⟨v185, rfl, ho0, hb⟩; refine ⟨_, rfl, ?_⟩; have n0_ := am (Kd.R_lower ho0 (below_size zb)); have n1_ := am (below_step zb hb); clear HB; have HO186 := n0_; have HB := n1_; clear n0_ n1_; (try clear hb); (try clear ho0)))
  go_loopg [5, 6] k (fun kq v5 v6 w' => ∃ (x5_1 : List ByteArray) (x6_1 : List (S52)), Aside0 (spec_ReadNormal.l0 kq a0 x5_1 x6_1 = some (r1, r2, r3)) ∧ Aside0 (kq ≤ k) ∧ Aside0 (Kd.Q Kd.string 9 w' w.heap.size (fun _ => True) v5 x5_1) ∧ Aside0 (Kd.S k52 52 w' w.heap.size (fun k_ => some k_ ≠ (v5 : Value).ownBlock) v6 x6_1) ∧ Aside0 (Below w.heap.size w w'))
  case atStart => exact ⟨(t184), (([] : List (S52))), H', ⟨Nat.le_refl _⟩, ⟨Kd.Q_of_R (zr HO186.out)⟩, ⟨by first | exact Kd.S_nil _ _ _ _ _ | exact Kd.Q_nil _ _ _ _ _ | exact Kd.R_nil _ _ _ _ _⟩, ⟨zb⟩⟩
  case round =>
   clear H'
   try clear c2
   try clear c2b0
   try clear c2b1
   try clear p2
   try clear c4
   obtain ⟨x5_1, x6_1, HA, HK1, HO_5, HO_6, HB⟩ := hrel
   cases gk with
   | zero => exact absurd HA.out (by simp [spec_ReadNormal.l0])
   | succ k1 =>
    have H := HA.out
    clear HA
    simp only [spec_ReadNormal.l0] at H
    by_cases c5 : (x5_1.length : Int) > 0
    ·rw [if_pos c5] at H
     have c5b0 : decide (0 < (x5_1.length : Int)) = true := decide_eq_true c5
     have c5b1 : decide (0 < x5_1.length) = true := decide_eq_true (by omega)
     clear c5
     by_cases c6 : 0 < (x5_1.length : Int)
     ·rw [if_pos c6] at H
      have c6b0 : decide (0 < (x5_1.length : Int)) = true := decide_eq_true c6
      have c6b1 : decide (0 < x5_1.length) = true := decide_eq_true (by omega)
      clear c6
      replace H := Option.bind_eq_some_iff.mp H
      obtain ⟨t188, A70, H⟩ := H
      replace H : ((spec_l5Head.f k1 t188).bind fun bt189 => (if bt189.2.2.2.2.2.2.2 = true then (if 1 ≤ (x5_1.length : Int) then ((some (x5_1.drop (1 : Int).toNat : List ByteArray)).bind fun y202 => (if bt189.2.2.2.2.2.2.1 = 97 then (spec_ReadNormal.j1 k1 a0 y202 x6_1 bt189.2.2.2.2.2.2.1 bt189.1 bt189.2.1 bt189.2.2.1 bt189.2.2.2.1 bt189.2.2.2.2.1 bt189.2.2.2.2.2.1) else ((spec_l5Take.f k1 y202 (⟨#[60, 32]⟩ : ByteArray)).bind fun bt205 => (if 0 ≤ bt205.2 then (if bt205.2 ≤ (y202.length : Int) then (spec_ReadNormal.j1 k1 a0 (y202.drop (bt205.2 : Int).toNat) x6_1 bt189.2.2.2.2.2.2.1 bt189.1 bt189.2.1 bt205.1 bt189.2.2.2.1 bt189.2.2.2.2.1 bt189.2.2.2.2.2.1) else (none)) else (none))))) else (none)) else (some (([] : List (S52)), 1, false)))) = some (r1, r2, r3) := H
      have A7 := am A70
      clear A70
      replace H := Option.bind_eq_some_iff.mp H
      obtain ⟨⟨t189, t190, t191, t194, t195, t196, t199, t200⟩, A80, H⟩ := H
      replace H : (if t200 = true then (if 1 ≤ (x5_1.length : Int) then ((some (x5_1.drop (1 : Int).toNat : List ByteArray)).bind fun y202 => (if t199 = 97 then (spec_ReadNormal.j1 k1 a0 y202 x6_1 t199 t189 t190 t191 t194 t195 t196) else ((spec_l5Take.f k1 y202 (⟨#[60, 32]⟩ : ByteArray)).bind fun bt205 => (if 0 ≤ bt205.2 then (if bt205.2 ≤ (y202.length : Int) then (spec_ReadNormal.j1 k1 a0 (y202.drop (bt205.2 : Int).toNat) x6_1 t199 t189 t190 bt205.1 t194 t195 t196) else (none)) else (none))))) else (none)) else (some (([] : List (S52)), 1, false))) = some (r1, r2, r3) := H
      have A8 := am A80
      clear A80
      by_cases c9 : t200 = true
      ·subst c9
       have H1 : (if 1 ≤ (x5_1.length : Int) then ((some (x5_1.drop (1 : Int).toNat : List ByteArray)).bind fun y202 => (if t199 = 97 then (spec_ReadNormal.j1 k1 a0 y202 x6_1 t199 t189 t190 t191 t194 t195 t196) else ((spec_l5Take.f k1 y202 (⟨#[60, 32]⟩ : ByteArray)).bind fun bt205 => (if 0 ≤ bt205.2 then (if bt205.2 ≤ (y202.length : Int) then (spec_ReadNormal.j1 k1 a0 (y202.drop (bt205.2 : Int).toNat) x6_1 t199 t189 t190 bt205.1 t194 t195 t196) else (none)) else (none))))) else (none)) = some (r1, r2, r3) := by rw [if_pos rfl] at H; exact H
       clear H
       have H := H1
       clear H1
       by_cases c10 : 1 ≤ (x5_1.length : Int)
       ·rw [if_pos c10] at H
        have c10b0 := eq_true c10
        have c10b1 : decide (1 ≤ (x5_1.length : Int)) = true := decide_eq_true c10
        clear c10
        obtain ⟨y202, hy202⟩ : ∃ y_ : List ByteArray, y_ = (x5_1.drop (1 : Int).toNat) := ⟨_, rfl⟩
        replace H : (if t199 = 97 then (spec_ReadNormal.j1 k1 a0 y202 x6_1 t199 t189 t190 t191 t194 t195 t196) else ((spec_l5Take.f k1 y202 (⟨#[60, 32]⟩ : ByteArray)).bind fun bt205 => (if 0 ≤ bt205.2 then (if bt205.2 ≤ (y202.length : Int) then (spec_ReadNormal.j1 k1 a0 (y202.drop (bt205.2 : Int).toNat) x6_1 t199 t189 t190 bt205.1 t194 t195 t196) else (none)) else (none)))) = some (r1, r2, r3) := by first | (rw [hy202]; with_reducible exact H) | (have H2_ := (Option.bind_some _ _).symm.trans H; rw [hy202]; with_reducible exact H2_) | (have H2_ := (Option.bind_some _ _).symm.trans H; with_reducible exact H2_) | with_reducible exact H | (rw [hy202]; exact H) | exact H
        have Ny202 := am hy202
        clear hy202
        have HC11 := am H
        clear H
        obtain ⟨Ao12, co12, eo12, _⟩ := Kd.Q_slice HO_5.out
        subst eo12
        have p187 : 0 ≤ (0 : Int) := (by omega)
        have q187 : 0 < (x5_1.length : Int) := oa
        obtain ⟨ad187, e187, hx187_0⟩ := Kd.at_string (Kd.Q_reads' HO_5.out).2.2 0 p187 q187
        cases e187
        have qi187 : (0 < x5_1.length) = True := eq_true (by omega)
        (try rw [show ((0 : Int)).toNat = 0 from rfl] at hx187_0)
        (try rw [Addr.add_zero'] at hx187_0)
        replace p187 := eq_true p187
        replace q187 := eq_true q187
        go_upto_if 40 with (first | ((with_reducible refine gateC (f := 46) rfl ?_); refine goesL_ (some 30) rfl rfl Tryz.func46 (by kernel_rfl) rfl #[.string (rdOf ByteArray.empty x5_1 0)] rfl zm ?_; (with_reducible refine (spec_l1Plain.calls (rdOf ByteArray.empty x5_1 0) t188 _ A7.out).mono ?_); rintro e w' ⟨rfl, ⟨nd, rfl⟩⟩; refine ⟨_, rfl, ?_⟩; (try (rw [drewN_self wr]; generalize hq_ : World.drewN wr _ = wr; have n0_ : Aside0 (Kd.Q Kd.string 9 wr w.heap.size (fun _ => True) (.slice (some ad187) x5_1.length co12) x5_1) := ⟨by rw [← hq_]; exact (zo HO_5.out)⟩; have n1_ : Aside0 (Kd.S k52 52 wr w.heap.size (fun k_ => some k_ ≠ (.slice (some ad187) x5_1.length co12 : Value).ownBlock) u6 x6_1) := ⟨by rw [← hq_]; exact (zs HO_6.out)⟩; have n2_ : Aside0 (Below w.heap.size w wr) := ⟨by rw [← hq_]; exact zb⟩; clear HO_5 HO_6 HB hq_; have HO_5 := n0_; have HO_6 := n1_; have HB := n2_; clear n0_ n1_ n2_))) | ((with_reducible refine gateC (f := 45) rfl ?_); refine goesL_ (some 31) rfl rfl Tryz.func45 (by kernel_rfl) rfl #[.string t188] rfl zm ?_; (with_reducible refine (spec_l5Head.calls k1 t188 t189 t190 t191 t194 t195 t196 t199 true _ A8.out).mono ?_); rintro e w13 ⟨v192, v197, rfl, ho0, ho1, hb⟩; refine ⟨_, rfl, ?_⟩; have n0_ := am (Kd.Q_mono (Kd.Q_told (Kd.Q_told (Kd.Q_old (zo HO_5.out) hb) (Kd.R_base ho0)) (Kd.R_base ho1)) (fun _ h_ => h_.1)); have n1_ := am (Kd.S_mono (Kd.S_told (Kd.S_told (Kd.S_old (zs HO_6.out) hb) (Kd.R_base ho0)) (Kd.R_base ho1)) (fun _ h_ => h_.1)); have n2_ := am (Kd.R_lower (Kd.R_new' ho0 (Kd.Q_lt (zo HO_5.out))) (below_size zb)); have n3_ := am (Kd.R_lower (Kd.R_new' ho1 (Kd.Q_lt (zo HO_5.out))) (below_size zb)); have n4_ := am (below_step zb hb); clear HO_5; clear HO_6; clear HB; have HO_5 := n0_; have HO_6 := n1_; have HO193 := n2_; have HO198 := n3_; have HB := n4_; clear n0_ n1_ n2_ n3_ n4_; (try clear hb); (try clear ho0); (try clear ho1)) | ((with_reducible refine gate_dst (N := 7) rfl ?_); (try (refine gate_guard (by rfl) ?_; dsimp only)); refine box_event ?hg (N := 7) ?hd (cs := #[.int .i64 0, .int .i64 0, .slice none 0 0, .int .i64 0, .int .i64 0, .slice none 0 0]) (t := 52) ?hr ?_; (case hd => rfl); (case hg => rfl); (case hr => first | (go_simp; done) | (go_simp; rfl)); intro gb201 hg w14 hbox hb; have n0_ := am (Kd.Q_below (zo HO_5.out) hb); have n1_ := am (Kd.S_below (Kd.S_elderB (zs HO_6.out) gb201 (Nat.le_of_eq hg.symm)) hb); have n2_ := am (Kd.R_below (zr HO193.out) hb); have n3_ := am (Kd.R_below (zr HO198.out) hb); have n4_ := am (below_step zb hb); have n5_ := am (hbox); have n6_ := am ((by rw [hg]; exact (below_size zb) : w.heap.size ≤ gb201)); have n7_ := am ((by rw [hg]; exact (below_size zb) : w.heap.size ≤ gb201)); clear HO_5; clear HO_6; clear HO193; clear HO198; clear HB; have HO_5 := n0_; have HO_6 := n1_; have HO193 := n2_; have HO198 := n3_; have HB := n4_; have BK201 := n5_; have GW201 := n6_; have GE201 := n7_; clear n0_ n1_ n2_ n3_ n4_ n5_ n6_ n7_; clear hb hbox hg; have hcz15_0 : w14.cell? ⟨gb201, 0, none⟩ = some (.int .i64 0) := (blk_cell BK201.out 0).trans rfl; have hcz15_1 : w14.cell? ⟨gb201, 1, none⟩ = some (.int .i64 0) := (blk_cell BK201.out 1).trans rfl; have hcz15_2 : w14.cell? ⟨gb201, 2, none⟩ = some (.slice none 0 0) := (blk_cell BK201.out 2).trans rfl; have hcz15_3 : w14.cell? ⟨gb201, 3, none⟩ = some (.int .i64 0) := (blk_cell BK201.out 3).trans rfl; have hcz15_4 : w14.cell? ⟨gb201, 4, none⟩ = some (.int .i64 0) := (blk_cell BK201.out 4).trans rfl; have hcz15_5 : w14.cell? ⟨gb201, 5, none⟩ = some (.slice none 0 0) := (blk_cell BK201.out 5).trans rfl; have hfz15_0 := blk_frozen BK201.out 0; have hfz15_1 := blk_frozen BK201.out 1; have hfz15_2 := blk_frozen BK201.out 2; have hfz15_3 := blk_frozen BK201.out 3; have hfz15_4 := blk_frozen BK201.out 4; have hfz15_5 := blk_frozen BK201.out 5; obtain ⟨Ao16, co16, eo16⟩ := Kd.R_slice HO193.out; subst eo16; obtain ⟨Ao17, co17, eo17⟩ := Kd.R_slice HO198.out; subst eo17) | ((with_reducible refine gate_store (t := 52) (p := 7) rfl ?_); refine store_event (t := 52) (p := 7) (v := ?vo_w18) (w1 := ((((((w14.setCell ⟨gb201, 0, none⟩ (.int .i64 t189)).setCell ⟨gb201, 1, none⟩ (.int .i64 t190)).setCell ⟨gb201, 2, none⟩ (.slice Ao16 t191.length co16)).setCell ⟨gb201, 3, none⟩ (.int .i64 t194)).setCell ⟨gb201, 4, none⟩ (.int .i64 t195)).setCell ⟨gb201, 5, none⟩ (.slice Ao17 t196.length co17))) ?hg ?ho ?hn ?hr ?_; (case ho => rfl); (case hg => rfl); (case hn => rfl); (case hr => first | (go_simp; done) | (go_simp; rfl)); intro w18 hw; have n0_ : Aside0 (Kd.Q Kd.string 9 w18 w.heap.size (fun k_ => some k_ ≠ (.slice Ao16 t191.length co16 : Value).ownBlock ∧ some k_ ≠ (.slice Ao17 t196.length co17 : Value).ownBlock) (.slice (some ad187) x5_1.length co12) x5_1) := ⟨(by rw [hw]; exact (by (with_reducible repeat (first | apply Kd.Q_alloc | apply Kd.Q_drewN | apply Kd.Q_drew)); exact Kd.Q_mono (Kd.Q_far (p := ⟨gb201, 5, none⟩) (Kd.Q_far (p := ⟨gb201, 4, none⟩) (Kd.Q_far (p := ⟨gb201, 3, none⟩) (Kd.Q_far (p := ⟨gb201, 2, none⟩) (Kd.Q_far (p := ⟨gb201, 1, none⟩) (Kd.Q_far (p := ⟨gb201, 0, none⟩) (Kd.Q_types HO_5.out BK201.out (by decide)) (fun _ hk => hk.2) (.int .i64 t189)) (fun _ hk => hk.2) (.int .i64 t190)) (fun _ hk => hk.2) (.slice Ao16 t191.length co16)) (fun _ hk => hk.2) (.int .i64 t194)) (fun _ hk => hk.2) (.int .i64 t195)) (fun _ hk => hk.2) (.slice Ao17 t196.length co17)) (fun _ hk => ⟨hk.1.1.2, hk.1.2⟩)))⟩; have n1_ : Aside0 (Kd.S k52 52 w18 w.heap.size (fun k_ => some k_ ≠ (.slice (some ad187) x5_1.length co12 : Value).ownBlock ∧ some k_ ≠ (.slice Ao16 t191.length co16 : Value).ownBlock ∧ some k_ ≠ (.slice Ao17 t196.length co17 : Value).ownBlock ∧ k_ ≠ gb201) u6 x6_1) := ⟨(by rw [hw]; exact (by (with_reducible repeat (first | apply Kd.S_alloc | apply Kd.S_drewN | apply Kd.S_drew)); exact Kd.S_mono (Kd.S_far (p := ⟨gb201, 5, none⟩) (Kd.S_far (p := ⟨gb201, 4, none⟩) (Kd.S_far (p := ⟨gb201, 3, none⟩) (Kd.S_far (p := ⟨gb201, 2, none⟩) (Kd.S_far (p := ⟨gb201, 1, none⟩) (Kd.S_far (p := ⟨gb201, 0, none⟩) (Kd.S_mono HO_6.out (fun k_ hk => (⟨hk, hk.2⟩ : _ ∧ k_ ≠ gb201))) (fun _ hk => hk.2) (.int .i64 t189)) (fun _ hk => hk.2) (.int .i64 t190)) (fun _ hk => hk.2) (.slice Ao16 t191.length co16)) (fun _ hk => hk.2) (.int .i64 t194)) (fun _ hk => hk.2) (.int .i64 t195)) (fun _ hk => hk.2) (.slice Ao17 t196.length co17)) (fun _ hk => ⟨hk.1.1.1.1, ⟨hk.1.1.1.2, ⟨hk.1.1.2, hk.1.2⟩⟩⟩)))⟩; have n2_ : Aside0 (Kd.R Kd.string 9 w18 w.heap.size (fun k_ => some k_ ≠ (.slice (some ad187) x5_1.length co12 : Value).ownBlock ∧ some k_ ≠ (.slice Ao17 t196.length co17 : Value).ownBlock) (.slice Ao16 t191.length co16) t191) := ⟨(by rw [hw]; exact (by (with_reducible repeat (first | apply Kd.R_alloc | apply Kd.R_drewN | apply Kd.R_drew)); exact Kd.R_mono (Kd.R_far (p := ⟨gb201, 5, none⟩) (Kd.R_far (p := ⟨gb201, 4, none⟩) (Kd.R_far (p := ⟨gb201, 3, none⟩) (Kd.R_far (p := ⟨gb201, 2, none⟩) (Kd.R_far (p := ⟨gb201, 1, none⟩) (Kd.R_far (p := ⟨gb201, 0, none⟩) (Kd.R_types HO193.out BK201.out (by decide)) (fun _ hk => hk.2) (.int .i64 t189)) (fun _ hk => hk.2) (.int .i64 t190)) (fun _ hk => hk.2) (.slice Ao16 t191.length co16)) (fun _ hk => hk.2) (.int .i64 t194)) (fun _ hk => hk.2) (.int .i64 t195)) (fun _ hk => hk.2) (.slice Ao17 t196.length co17)) (fun _ hk => ⟨hk.1.2, hk.1.1⟩)))⟩; have n3_ : Aside0 (Kd.R Kd.string 9 w18 w.heap.size (fun k_ => some k_ ≠ (.slice (some ad187) x5_1.length co12 : Value).ownBlock ∧ some k_ ≠ (.slice Ao16 t191.length co16 : Value).ownBlock) (.slice Ao17 t196.length co17) t196) := ⟨(by rw [hw]; exact (by (with_reducible repeat (first | apply Kd.R_alloc | apply Kd.R_drewN | apply Kd.R_drew)); exact Kd.R_mono (Kd.R_far (p := ⟨gb201, 5, none⟩) (Kd.R_far (p := ⟨gb201, 4, none⟩) (Kd.R_far (p := ⟨gb201, 3, none⟩) (Kd.R_far (p := ⟨gb201, 2, none⟩) (Kd.R_far (p := ⟨gb201, 1, none⟩) (Kd.R_far (p := ⟨gb201, 0, none⟩) (Kd.R_types HO198.out BK201.out (by decide)) (fun _ hk => hk.2) (.int .i64 t189)) (fun _ hk => hk.2) (.int .i64 t190)) (fun _ hk => hk.2) (.slice Ao16 t191.length co16)) (fun _ hk => hk.2) (.int .i64 t194)) (fun _ hk => hk.2) (.int .i64 t195)) (fun _ hk => hk.2) (.slice Ao17 t196.length co17)) (fun _ hk => ⟨hk.1.2, hk.1.1⟩)))⟩; have n4_ : Aside0 (w18.heap[gb201]? = some (.cells #[.int .i64 t189, .int .i64 t190, .slice Ao16 t191.length co16, .int .i64 t194, .int .i64 t195, .slice Ao17 t196.length co17] 52 (0, 0))) := ⟨(by rw [hw]; exact (by (with_reducible repeat (first | refine blk_drewN ?_ _ | refine blk_drew ?_ | refine blk_alloc ?_ _)); refine blk_put (cs := #[.int .i64 t189, .int .i64 t190, .slice Ao16 t191.length co16, .int .i64 t194, .int .i64 t195, .slice none 0 0]) ?_ 5 _ rfl; (with_reducible repeat (first | refine blk_drewN ?_ _ | refine blk_drew ?_ | refine blk_alloc ?_ _)); refine blk_put (cs := #[.int .i64 t189, .int .i64 t190, .slice Ao16 t191.length co16, .int .i64 t194, .int .i64 0, .slice none 0 0]) ?_ 4 _ rfl; (with_reducible repeat (first | refine blk_drewN ?_ _ | refine blk_drew ?_ | refine blk_alloc ?_ _)); refine blk_put (cs := #[.int .i64 t189, .int .i64 t190, .slice Ao16 t191.length co16, .int .i64 0, .int .i64 0, .slice none 0 0]) ?_ 3 _ rfl; (with_reducible repeat (first | refine blk_drewN ?_ _ | refine blk_drew ?_ | refine blk_alloc ?_ _)); refine blk_put (cs := #[.int .i64 t189, .int .i64 t190, .slice none 0 0, .int .i64 0, .int .i64 0, .slice none 0 0]) ?_ 2 _ rfl; (with_reducible repeat (first | refine blk_drewN ?_ _ | refine blk_drew ?_ | refine blk_alloc ?_ _)); refine blk_put (cs := #[.int .i64 t189, .int .i64 0, .slice none 0 0, .int .i64 0, .int .i64 0, .slice none 0 0]) ?_ 1 _ rfl; (with_reducible repeat (first | refine blk_drewN ?_ _ | refine blk_drew ?_ | refine blk_alloc ?_ _)); refine blk_put (cs := #[.int .i64 0, .int .i64 0, .slice none 0 0, .int .i64 0, .int .i64 0, .slice none 0 0]) ?_ 0 _ rfl; (with_reducible repeat (first | refine blk_drewN ?_ _ | refine blk_drew ?_ | refine blk_alloc ?_ _)); exact BK201.out))⟩; have n5_ : Aside0 (Below w.heap.size w w18) := ⟨(by rw [hw]; exact zw)⟩; clear hw; clear HO_5; clear HO_6; clear HO193; clear HO198; clear BK201; clear HB; have HO_5 := n0_; have HO_6 := n1_; have HO193 := n2_; have HO198 := n3_; have BK201 := n4_; have HB := n5_; clear n0_ n1_ n2_ n3_ n4_ n5_; have q19 : (1 : Int) ≤ ((x5_1.length : Int) : Int) := oa; obtain ⟨i019, hi019, _, hsz19, _⟩ := info_parts info9; have hcut19 := cut_from (P := Tryz.prog) 24 9 .i64 Tryz.underlying24 hi019 1 hsz19 (some ad187) x5_1.length co12 1 (by omega) q19; have hr19 := Kd.Q_drop (k := (1 : Int).toNat) HO_5.out (by omega); obtain ⟨A19, hA19⟩ : ∃ A1, A1 = (if co12 = (1 : Int).toNat then (some ad187) else ((some ad187) : Option Addr).map (·.add ((1 : Int).toNat * 1))) := ⟨_, rfl⟩; obtain ⟨c19, hc19⟩ : ∃ c1, c1 = co12 - (1 : Int).toNat := ⟨_, rfl⟩; have hy19 : y202.length = x5_1.length - (1 : Int).toNat := (by rw [Ny202.out, List.length_drop]); rw [← Ny202.out] at hr19; rw [← hy19, ← hA19, ← hc19] at hcut19; replace hr19 : Kd.Q Kd.string 9 w18 w.heap.size (fun k_ => some k_ ≠ (.slice Ao16 t191.length co16 : Value).ownBlock ∧ some k_ ≠ (.slice Ao17 t196.length co17 : Value).ownBlock) (.slice A19 y202.length c19) y202 := (by rw [hA19, hc19, hy19]; exact hr19); have HE19 : Aside0 ((Value.slice A19 y202.length c19).ownBlock = (.slice (some ad187) x5_1.length co12 : Value).ownBlock) := ⟨by rw [hA19]; split <;> (cases ((some ad187) : Option Addr) <;> rfl)⟩; clear hy19 hi019 hsz19 HO_5 hA19 hc19; have HO204 := am hr19; clear hr19; replace q19 := eq_true q19; have n_ := am (Kd.S_mono (ok' := fun k_ => (some k_ ≠ (.slice A19 y202.length c19 : Value).ownBlock ∧ (some k_ ≠ (.slice Ao16 t191.length co16 : Value).ownBlock ∧ (some k_ ≠ (.slice Ao17 t196.length co17 : Value).ownBlock ∧ k_ ≠ gb201)))) HO_6.out (fun k_ hk => ⟨(by rw [HE19.out]; exact hk.1), ⟨hk.2.1, ⟨hk.2.2.1, hk.2.2.2⟩⟩⟩)); clear HO_6; have HO_6 := n_; clear n_; have n_ := am (Kd.R_mono (ok' := fun k_ => (some k_ ≠ (.slice A19 y202.length c19 : Value).ownBlock ∧ some k_ ≠ (.slice Ao17 t196.length co17 : Value).ownBlock)) HO193.out (fun k_ hk => ⟨(by rw [HE19.out]; exact hk.1), hk.2⟩)); clear HO193; have HO193 := n_; clear n_; have n_ := am (Kd.R_mono (ok' := fun k_ => (some k_ ≠ (.slice A19 y202.length c19 : Value).ownBlock ∧ some k_ ≠ (.slice Ao16 t191.length co16 : Value).ownBlock)) HO198.out (fun k_ hk => ⟨(by rw [HE19.out]; exact hk.1), hk.2⟩)); clear HO198; have HO198 := n_; clear n_))
        (try simp only [Act.put, List.setIfInBounds_toArray, List.set_cons_zero, List.set_cons_succ])
        go_cut [5] (fun v5 wc => ∃ (kq : Nat) (x5_10 : List ByteArray) (x202002_10 : List ByteArray) (u202002 : Value), Aside0 (spec_ReadNormal.j1 kq a0 x5_10 x6_1 t199 t189 t190 x202002_10 t194 t195 t196 = some (r1, r2, r3)) ∧ Aside0 (kq ≤ k1) ∧ Aside0 (Kd.Q Kd.string 9 wc w.heap.size (fun k_ => some k_ ≠ (u202002 : Value).ownBlock ∧ some k_ ≠ ((.slice Ao17 t196.length co17) : Value).ownBlock) v5 x5_10) ∧ Aside0 (Kd.S k52 52 wc w.heap.size (fun k_ => some k_ ≠ (v5 : Value).ownBlock ∧ some k_ ≠ (u202002 : Value).ownBlock ∧ some k_ ≠ ((.slice Ao17 t196.length co17) : Value).ownBlock ∧ k_ ≠ gb201) u6 x6_1) ∧ Aside0 (Kd.R Kd.string 9 wc w.heap.size (fun k_ => some k_ ≠ (v5 : Value).ownBlock ∧ some k_ ≠ ((.slice Ao17 t196.length co17) : Value).ownBlock) u202002 x202002_10) ∧ Aside0 (Kd.R Kd.string 9 wc w.heap.size (fun k_ => some k_ ≠ (v5 : Value).ownBlock ∧ some k_ ≠ (u202002 : Value).ownBlock) (.slice Ao17 t196.length co17) t196) ∧ Aside0 (wc.heap[gb201]? = some (.cells #[.int .i64 t189, .int .i64 t190, u202002, .int .i64 t194, .int .i64 t195, (.slice Ao17 t196.length co17)] 52 (0, 0))) ∧ Aside0 (Below w.heap.size w wc))
        case first =>
         have H := HC11.out
         clear HC11
         by_cases c20 : t199 = 97
         ·rw [if_pos c20] at H
          have c20b0 : (t199 == 97) = true := beq_iff_eq.mpr c20
          have c20b1 : (t199 != 97) = false := bne_eq_false_iff_eq.mpr c20
          clear c20
          (first | rw [c20b0] | (simp only [i64_w, i32_w]; rw [c20b0]) | skip)
          have H' := am H
          clear H
          go_wp2
          go_meet
          case rel => exact ⟨_, (y202), (t191), (.slice Ao16 t191.length co16), H', ⟨by have := HK1.out; first | omega | exact Nat.le_refl _⟩, ⟨zo HO204.out⟩, ⟨zs HO_6.out⟩, ⟨zr HO193.out⟩, ⟨zr HO198.out⟩, ⟨zk BK201.out⟩, ⟨zw⟩⟩
         ·rw [if_neg c20] at H
          have c20b0 : (t199 == 97) = false := beq_eq_false_iff_ne.mpr c20
          have c20b1 : (t199 != 97) = true := bne_iff_ne.mpr c20
          (first | rw [c20b0] | (simp only [i64_w, i32_w]; rw [c20b0]) | skip)
          replace H := Option.bind_eq_some_iff.mp H
          obtain ⟨⟨t205, t206⟩, A210, H⟩ := H
          replace H : (if 0 ≤ t206 then (if t206 ≤ (y202.length : Int) then (spec_ReadNormal.j1 k1 a0 (y202.drop (t206 : Int).toNat) x6_1 t199 t189 t190 t205 t194 t195 t196) else (none)) else (none)) = some (r1, r2, r3) := H
          have A21 := am A210
          clear A210
          by_cases c22 : 0 ≤ t206
          ·rw [if_pos c22] at H
           have c22b0 := eq_true c22
           have c22b1 : decide (0 ≤ t206) = true := decide_eq_true c22
           clear c22
           by_cases c23 : t206 ≤ (y202.length : Int)
           ·rw [if_pos c23] at H
            have c23b0 := eq_true c23
            have c23b1 : decide (t206 ≤ (y202.length : Int)) = true := decide_eq_true c23
            clear c23
            obtain ⟨y209, hy209⟩ : ∃ y_ : List ByteArray, y_ = (y202.drop (t206 : Int).toNat) := ⟨_, rfl⟩
            replace H : (spec_ReadNormal.j1 k1 a0 y209 x6_1 t199 t189 t190 t205 t194 t195 t196) = some (r1, r2, r3) := by first | (rw [hy209]; with_reducible exact H) | (have H2_ := (Option.bind_some _ _).symm.trans H; rw [hy209]; with_reducible exact H2_) | (have H2_ := (Option.bind_some _ _).symm.trans H; with_reducible exact H2_) | with_reducible exact H | (rw [hy209]; exact H) | exact H
            have Ny209 := am hy209
            clear hy209
            have H' := am H
            clear H
            go_wp2_with (first | ((with_reducible refine gateC (f := 47) rfl ?_); refine goesL_ (some 43) rfl rfl Tryz.func47 (by kernel_rfl) rfl #[.slice A19 y202.length c19, .string (⟨#[60, 32]⟩ : ByteArray)] rfl zm ?_; (with_reducible refine (spec_l5Take.calls k1 _ _ y202 (⟨#[60, 32]⟩ : ByteArray) t205 t206 _ ?side1 ?side2 A21.out).mono ?_); (case side1 => repeat (first | exact (Kd.Q_reads' HO204.out).2.2 | (with_reducible refine Kd.C_alloc ?_ _) | (with_reducible refine Kd.C_drewN ?_ _) | (with_reducible refine Kd.C_drew ?_))); (case side2 => exact (Kd.Q_reads' HO204.out).2.1); rintro e w24 ⟨v207, rfl, ho0, hb⟩; refine ⟨_, rfl, ?_⟩; have n0_ := am (Kd.Q_elder' (zo HO204.out) (Kd.R_base ho0) hb); have n1_ := am (Kd.S_elder' (zs HO_6.out) (Kd.R_base ho0) hb); have n2_ := am (Kd.R_elder' (zr HO193.out) (Kd.R_base ho0) hb); have n3_ := am (Kd.R_elder' (zr HO198.out) (Kd.R_base ho0) hb); have n4_ := am (Kd.R_lower (Kd.R_new' (Kd.R_new' (Kd.R_new' ho0 (Kd.Q_lt (zo HO204.out))) (Kd.R_lt (zr HO193.out))) (Kd.R_lt (zr HO198.out))) (below_size zw)); have n5_ := am (blk_below (g := gb201) (o := .cells #[.int .i64 t189, .int .i64 t190, .slice Ao16 t191.length co16, .int .i64 t194, .int .i64 t195, .slice Ao17 t196.length co17] 52 (0, 0)) (zk BK201.out) hb); have n6_ := am (below_step zw hb); clear HO204; clear HO_6; clear HO193; clear HO198; clear BK201; clear HB; have HO204 := n0_; have HO_6 := n1_; have HO193 := n2_; have HO198 := n3_; have HO208 := n4_; have BK201 := n5_; have HB := n6_; clear n0_ n1_ n2_ n3_ n4_ n5_ n6_; (try clear hb); (try clear ho0); obtain ⟨Ao25, co25, eo25⟩ := Kd.R_slice HO208.out; subst eo25; have hcz26_0 : w24.cell? ⟨gb201, 0, none⟩ = some (.int .i64 t189) := (blk_cell BK201.out 0).trans rfl; have hcz26_1 : w24.cell? ⟨gb201, 1, none⟩ = some (.int .i64 t190) := (blk_cell BK201.out 1).trans rfl; have hcz26_2 : w24.cell? ⟨gb201, 2, none⟩ = some (.slice Ao16 t191.length co16) := (blk_cell BK201.out 2).trans rfl; have hcz26_3 : w24.cell? ⟨gb201, 3, none⟩ = some (.int .i64 t194) := (blk_cell BK201.out 3).trans rfl; have hcz26_4 : w24.cell? ⟨gb201, 4, none⟩ = some (.int .i64 t195) := (blk_cell BK201.out 4).trans rfl; have hcz26_5 : w24.cell? ⟨gb201, 5, none⟩ = some (.slice Ao17 t196.length co17) := (blk_cell BK201.out 5).trans rfl; have hfz26_0 := blk_frozen BK201.out 0; have hfz26_1 := blk_frozen BK201.out 1; have hfz26_2 := blk_frozen BK201.out 2; have hfz26_3 := blk_frozen BK201.out 3; have hfz26_4 := blk_frozen BK201.out 4; have hfz26_5 := blk_frozen BK201.out 5) | ((with_reducible refine gate_store (t := 24) (p := 47) rfl ?_); refine store_event (t := 24) (p := 47) (v := ?vo_w27) (w1 := (w24.setCell ⟨gb201, 2, none⟩ (.slice Ao25 t205.length co25))) ?hg ?ho ?hn ?hr ?_; (case ho => rfl); (case hg => rfl); (case hn => rfl); (case hr => first | (go_simp; done) | (go_simp; rfl)); intro w27 hw; have n0_ : Aside0 (Kd.Q Kd.string 9 w27 w.heap.size (fun k_ => some k_ ≠ (.slice Ao16 t191.length co16 : Value).ownBlock ∧ some k_ ≠ (.slice Ao17 t196.length co17 : Value).ownBlock ∧ some k_ ≠ (.slice Ao25 t205.length co25 : Value).ownBlock) (.slice A19 y202.length c19) y202) := ⟨(by rw [hw]; exact (by (with_reducible repeat (first | apply Kd.Q_alloc | apply Kd.Q_drewN | apply Kd.Q_drew)); exact Kd.Q_mono (Kd.Q_far (p := ⟨gb201, 2, none⟩) (Kd.Q_types HO204.out BK201.out (by decide)) (fun _ hk => hk.2) (.slice Ao25 t205.length co25)) (fun _ hk => ⟨hk.1.1.1, ⟨hk.1.1.2, hk.1.2⟩⟩)))⟩; have n1_ : Aside0 (Kd.S k52 52 w27 w.heap.size (fun k_ => some k_ ≠ (.slice A19 y202.length c19 : Value).ownBlock ∧ some k_ ≠ (.slice Ao16 t191.length co16 : Value).ownBlock ∧ some k_ ≠ (.slice Ao17 t196.length co17 : Value).ownBlock ∧ some k_ ≠ (.slice Ao25 t205.length co25 : Value).ownBlock ∧ k_ ≠ gb201) u6 x6_1) := ⟨(by rw [hw]; exact (by (with_reducible repeat (first | apply Kd.S_alloc | apply Kd.S_drewN | apply Kd.S_drew)); exact Kd.S_mono (Kd.S_far (p := ⟨gb201, 2, none⟩) (Kd.S_mono HO_6.out (fun k_ hk => (⟨hk, hk.1.2.2.2⟩ : _ ∧ k_ ≠ gb201))) (fun _ hk => hk.2) (.slice Ao25 t205.length co25)) (fun _ hk => ⟨hk.1.1.1, ⟨hk.1.1.2.1, ⟨hk.1.1.2.2.1, ⟨hk.1.2, hk.1.1.2.2.2⟩⟩⟩⟩)))⟩; have n2_ : Aside0 (Kd.R Kd.string 9 w27 w.heap.size (fun k_ => some k_ ≠ (.slice A19 y202.length c19 : Value).ownBlock ∧ some k_ ≠ (.slice Ao17 t196.length co17 : Value).ownBlock ∧ some k_ ≠ (.slice Ao25 t205.length co25 : Value).ownBlock) (.slice Ao16 t191.length co16) t191) := ⟨(by rw [hw]; exact (by (with_reducible repeat (first | apply Kd.R_alloc | apply Kd.R_drewN | apply Kd.R_drew)); exact Kd.R_mono (Kd.R_far (p := ⟨gb201, 2, none⟩) (Kd.R_types HO193.out BK201.out (by decide)) (fun _ hk => hk.2) (.slice Ao25 t205.length co25)) (fun _ hk => ⟨hk.1.1.1, ⟨hk.1.1.2, hk.1.2⟩⟩)))⟩; have n3_ : Aside0 (Kd.R Kd.string 9 w27 w.heap.size (fun k_ => some k_ ≠ (.slice A19 y202.length c19 : Value).ownBlock ∧ some k_ ≠ (.slice Ao16 t191.length co16 : Value).ownBlock ∧ some k_ ≠ (.slice Ao25 t205.length co25 : Value).ownBlock) (.slice Ao17 t196.length co17) t196) := ⟨(by rw [hw]; exact (by (with_reducible repeat (first | apply Kd.R_alloc | apply Kd.R_drewN | apply Kd.R_drew)); exact Kd.R_mono (Kd.R_far (p := ⟨gb201, 2, none⟩) (Kd.R_types HO198.out BK201.out (by decide)) (fun _ hk => hk.2) (.slice Ao25 t205.length co25)) (fun _ hk => ⟨hk.1.1.1, ⟨hk.1.1.2, hk.1.2⟩⟩)))⟩; have n4_ : Aside0 (Kd.R Kd.string 9 w27 w.heap.size (fun k_ => some k_ ≠ (.slice A19 y202.length c19 : Value).ownBlock ∧ some k_ ≠ (.slice Ao16 t191.length co16 : Value).ownBlock ∧ some k_ ≠ (.slice Ao17 t196.length co17 : Value).ownBlock) (.slice Ao25 t205.length co25) t205) := ⟨(by rw [hw]; exact (by (with_reducible repeat (first | apply Kd.R_alloc | apply Kd.R_drewN | apply Kd.R_drew)); exact Kd.R_mono (Kd.R_far (p := ⟨gb201, 2, none⟩) (Kd.R_types HO208.out BK201.out (by decide)) (fun _ hk => hk.2) (.slice Ao25 t205.length co25)) (fun _ hk => ⟨hk.1.1.1.2, ⟨hk.1.1.2, hk.1.2⟩⟩)))⟩; have n5_ : Aside0 (w27.heap[gb201]? = some (.cells #[.int .i64 t189, .int .i64 t190, .slice Ao25 t205.length co25, .int .i64 t194, .int .i64 t195, .slice Ao17 t196.length co17] 52 (0, 0))) := ⟨(by rw [hw]; exact (by (with_reducible repeat (first | refine blk_drewN ?_ _ | refine blk_drew ?_ | refine blk_alloc ?_ _)); refine blk_put (cs := #[.int .i64 t189, .int .i64 t190, .slice Ao16 t191.length co16, .int .i64 t194, .int .i64 t195, .slice Ao17 t196.length co17]) ?_ 2 _ rfl; (with_reducible repeat (first | refine blk_drewN ?_ _ | refine blk_drew ?_ | refine blk_alloc ?_ _)); exact BK201.out))⟩; have n6_ : Aside0 (Below w.heap.size w w27) := ⟨(by rw [hw]; exact zw)⟩; clear hw; clear HO204; clear HO_6; clear HO193; clear HO198; clear HO208; clear BK201; clear HB; have HO204 := n0_; have HO_6 := n1_; have HO193 := n2_; have HO198 := n3_; have HO208 := n4_; have BK201 := n5_; have HB := n6_; clear n0_ n1_ n2_ n3_ n4_ n5_ n6_; have q28 : (t206 : Int) ≤ ((y202.length : Int) : Int) := oa; obtain ⟨i028, hi028, _, hsz28, _⟩ := info_parts info9; have hcut28 := cut_from (P := Tryz.prog) 24 9 .i64 Tryz.underlying24 hi028 1 hsz28 A19 y202.length c19 t206 oa q28; have hr28 := Kd.Q_drop (k := (t206 : Int).toNat) HO204.out (by omega); obtain ⟨A28, hA28⟩ : ∃ A1, A1 = (if c19 = (t206 : Int).toNat then A19 else (A19 : Option Addr).map (·.add ((t206 : Int).toNat * 1))) := ⟨_, rfl⟩; obtain ⟨c28, hc28⟩ : ∃ c1, c1 = c19 - (t206 : Int).toNat := ⟨_, rfl⟩; have hy28 : y209.length = y202.length - (t206 : Int).toNat := (by rw [Ny209.out, List.length_drop]); rw [← Ny209.out] at hr28; rw [← hy28, ← hA28, ← hc28] at hcut28; replace hr28 : Kd.Q Kd.string 9 w27 w.heap.size (fun k_ => some k_ ≠ (.slice Ao16 t191.length co16 : Value).ownBlock ∧ some k_ ≠ (.slice Ao17 t196.length co17 : Value).ownBlock ∧ some k_ ≠ (.slice Ao25 t205.length co25 : Value).ownBlock) (.slice A28 y209.length c28) y209 := (by rw [hA28, hc28, hy28]; exact hr28); have HE28 : Aside0 ((Value.slice A28 y209.length c28).ownBlock = (.slice A19 y202.length c19 : Value).ownBlock) := ⟨by rw [hA28]; split <;> (cases (A19 : Option Addr) <;> first | rfl | (simp only [Option.map, Value.ownBlock, Addr.add]; split <;> rfl))⟩; clear hy28 hi028 hsz28 HO204 hA28 hc28; have HO211 := am hr28; clear hr28; replace q28 := eq_true q28; have n_ := am (Kd.S_mono (ok' := fun k_ => (some k_ ≠ (.slice A28 y209.length c28 : Value).ownBlock ∧ (some k_ ≠ (.slice Ao16 t191.length co16 : Value).ownBlock ∧ (some k_ ≠ (.slice Ao17 t196.length co17 : Value).ownBlock ∧ (some k_ ≠ (.slice Ao25 t205.length co25 : Value).ownBlock ∧ k_ ≠ gb201))))) HO_6.out (fun k_ hk => ⟨(by rw [HE28.out]; exact hk.1), ⟨hk.2.1, ⟨hk.2.2.1, ⟨hk.2.2.2.1, hk.2.2.2.2⟩⟩⟩⟩)); clear HO_6; have HO_6 := n_; clear n_; have n_ := am (Kd.R_mono (ok' := fun k_ => (some k_ ≠ (.slice A28 y209.length c28 : Value).ownBlock ∧ (some k_ ≠ (.slice Ao17 t196.length co17 : Value).ownBlock ∧ some k_ ≠ (.slice Ao25 t205.length co25 : Value).ownBlock))) HO193.out (fun k_ hk => ⟨(by rw [HE28.out]; exact hk.1), ⟨hk.2.1, hk.2.2⟩⟩)); clear HO193; have HO193 := n_; clear n_; have n_ := am (Kd.R_mono (ok' := fun k_ => (some k_ ≠ (.slice A28 y209.length c28 : Value).ownBlock ∧ (some k_ ≠ (.slice Ao16 t191.length co16 : Value).ownBlock ∧ some k_ ≠ (.slice Ao25 t205.length co25 : Value).ownBlock))) HO198.out (fun k_ hk => ⟨(by rw [HE28.out]; exact hk.1), ⟨hk.2.1, hk.2.2⟩⟩)); clear HO198; have HO198 := n_; clear n_; have n_ := am (Kd.R_mono (ok' := fun k_ => (some k_ ≠ (.slice A28 y209.length c28 : Value).ownBlock ∧ (some k_ ≠ (.slice Ao16 t191.length co16 : Value).ownBlock ∧ some k_ ≠ (.slice Ao17 t196.length co17 : Value).ownBlock))) HO208.out (fun k_ hk => ⟨(by rw [HE28.out]; exact hk.1), ⟨hk.2.1, hk.2.2⟩⟩)); clear HO208; have HO208 := n_; clear n_))
            go_meet
            case rel => exact ⟨_, (y209), (t205), (.slice Ao25 t205.length co25), H', ⟨by have := HK1.out; first | omega | exact Nat.le_refl _⟩, ⟨by (with_reducible repeat (first | apply Kd.Q_alloc | apply Kd.Q_drewN | apply Kd.Q_drew)); exact Kd.Q_mono HO211.out (fun _ hk => ⟨hk.2.2, hk.2.1⟩)⟩, ⟨by (with_reducible repeat (first | apply Kd.S_alloc | apply Kd.S_drewN | apply Kd.S_drew)); exact Kd.S_mono HO_6.out (fun _ hk => ⟨hk.1, ⟨hk.2.2.2.1, ⟨hk.2.2.1, hk.2.2.2.2⟩⟩⟩)⟩, ⟨by (with_reducible repeat (first | apply Kd.R_alloc | apply Kd.R_drewN | apply Kd.R_drew)); exact Kd.R_mono HO208.out (fun _ hk => ⟨hk.1, hk.2.2⟩)⟩, ⟨by (with_reducible repeat (first | apply Kd.R_alloc | apply Kd.R_drewN | apply Kd.R_drew)); exact Kd.R_mono HO198.out (fun _ hk => ⟨hk.1, hk.2.2⟩)⟩, ⟨zk BK201.out⟩, ⟨zw⟩⟩
           ·rw [if_neg c23] at H
            exact absurd H (by simp)
          ·rw [if_neg c22] at H
           exact absurd H (by simp)
        case rest =>
         clear HC11
         try clear c1
         try clear p1
         try clear q1
         try clear hx1
         try clear qi1
         try clear c2
         try clear c2b0
         try clear c2b1
         try clear p2
         try clear q2
         try clear c4
         try clear c5
         try clear c5b0
         try clear c5b1
         try clear c6
         try clear c6b0
         try clear c6b1
         try clear c9
         try clear c10
         try clear c10b0
         try clear c10b1
         try clear p18
         try clear q18
         try clear hx18
         try clear qi18
         try clear c19
         try clear q19
         try clear c20
         try clear c20b0
         try clear c20b1
         try clear c21
         try clear c22
         try clear c22b0
         try clear c22b1
         try clear c23
         try clear c23b0
         try clear c23b1
         try clear c28
         try clear q28
         try clear hcz15_0
         try clear hcz15_1
         try clear hcz15_2
         try clear hcz15_3
         try clear hcz15_4
         try clear hcz15_5
         try clear hcz26_0
         try clear hcz26_1
         try clear hcz26_2
         try clear hcz26_3
         try clear hcz26_4
         try clear hcz26_5
         try clear hfz15_0
         try clear hfz15_1
         try clear hfz15_2
         try clear hfz15_3
         try clear hfz15_4
         try clear hfz15_5
         try clear hfz26_0
         try clear hfz26_1
         try clear hfz26_2
         try clear hfz26_3
         try clear hfz26_4
         try clear hfz26_5
         try clear hx187_0
         try clear p187
         try clear p2
         try clear q187
         try clear q19
         try clear q28
         obtain ⟨kq, x5_10, x202002_10, u202002, HA, HJ10, HO_5, HO_6, HO_202002, HO_202005, BK201, HB⟩ := hcut
         cases kq with
         | zero => exact absurd HA.out (by simp [spec_ReadNormal.j1])
         | succ kj10 =>
          have H := HA.out
          clear HA
          simp only [spec_ReadNormal.j1] at H
          have HC29 := am H
          clear H
          go_upto_region 14 with (fail)
          go_cut [57] (fun v57 wc => ∃ (kq : Nat) (x57_28 : Bool), v57 = .bool x57_28 ∧ Aside0 (spec_ReadNormal.j2 kq a0 x5_10 x6_1 t199 x57_28 t189 t190 x202002_10 t194 t195 t196 = some (r1, r2, r3)) ∧ Aside0 (kq ≤ kj10) ∧ Aside0 (Kd.Q Kd.string 9 wc w.heap.size (fun k_ => some k_ ≠ (u202002 : Value).ownBlock ∧ some k_ ≠ ((.slice Ao17 t196.length co17) : Value).ownBlock) u5 x5_10) ∧ Aside0 (Kd.S k52 52 wc w.heap.size (fun k_ => some k_ ≠ (u5 : Value).ownBlock ∧ some k_ ≠ (u202002 : Value).ownBlock ∧ some k_ ≠ ((.slice Ao17 t196.length co17) : Value).ownBlock ∧ k_ ≠ gb201) u6 x6_1) ∧ Aside0 (Kd.R Kd.string 9 wc w.heap.size (fun k_ => some k_ ≠ (u5 : Value).ownBlock ∧ some k_ ≠ ((.slice Ao17 t196.length co17) : Value).ownBlock) u202002 x202002_10) ∧ Aside0 (Kd.R Kd.string 9 wc w.heap.size (fun k_ => some k_ ≠ (u5 : Value).ownBlock ∧ some k_ ≠ (u202002 : Value).ownBlock) (.slice Ao17 t196.length co17) t196) ∧ Aside0 (wc.heap[gb201]? = some (.cells #[.int .i64 t189, .int .i64 t190, u202002, .int .i64 t194, .int .i64 t195, (.slice Ao17 t196.length co17)] 52 (0, 0))) ∧ Aside0 (Below w.heap.size w wc))
          case first =>
           have H := HC29.out
           clear HC29
           by_cases c30 : t199 = 99
           ·rw [if_pos c30] at H
            have c30b0 : (t199 == 99) = true := beq_iff_eq.mpr c30
            have c30b1 : (t199 != 99) = false := bne_eq_false_iff_eq.mpr c30
            clear c30
            (first | rw [c30b0] | (simp only [i64_w, i32_w]; rw [c30b0]) | skip)
            have H' := am H
            clear H
            obtain ⟨Ao31, co31, eo31, _⟩ := Kd.Q_slice HO_5.out
            subst eo31
            go_wp2
            go_meet
            case rel => exact ⟨_, (decide ((x5_10.length : Int) > 0)), zf, H', ⟨by have := HK1.out; have := HJ10.out; first | omega | exact Nat.le_refl _⟩, ⟨zo HO_5.out⟩, ⟨zs HO_6.out⟩, ⟨zr HO_202002.out⟩, ⟨zr HO_202005.out⟩, ⟨zk BK201.out⟩, ⟨zw⟩⟩
           ·rw [if_neg c30] at H
            have c30b0 : (t199 == 99) = false := beq_eq_false_iff_ne.mpr c30
            have c30b1 : (t199 != 99) = true := bne_iff_ne.mpr c30
            (first | rw [c30b0] | (simp only [i64_w, i32_w]; rw [c30b0]) | skip)
            have H' := am H
            clear H
            go_wp2
            go_meet
            case rel => exact ⟨_, (false), zf, H', ⟨by have := HK1.out; have := HJ10.out; first | omega | exact Nat.le_refl _⟩, ⟨zo HO_5.out⟩, ⟨zs HO_6.out⟩, ⟨zr HO_202002.out⟩, ⟨zr HO_202005.out⟩, ⟨zk BK201.out⟩, ⟨zw⟩⟩
          case rest =>
           clear HC29
           try clear c1
           try clear p1
           try clear q1
           try clear hx1
           try clear qi1
           try clear c2
           try clear c2b0
           try clear c2b1
           try clear p2
           try clear q2
           try clear c3
           try clear c4
           try clear c5
           try clear c5b0
           try clear c5b1
           try clear c6
           try clear c6b0
           try clear c6b1
           try clear c9
           try clear c10
           try clear c10b0
           try clear c10b1
           try clear p18
           try clear q18
           try clear hx18
           try clear qi18
           try clear c19
           try clear q19
           try clear c20
           try clear c20b0
           try clear c20b1
           try clear c21
           try clear c22
           try clear c22b0
           try clear c22b1
           try clear c23
           try clear c23b0
           try clear c23b1
           try clear c28
           try clear q28
           try clear c30
           try clear c30b0
           try clear c30b1
           try clear hcz15_0
           try clear hcz15_1
           try clear hcz15_2
           try clear hcz15_3
           try clear hcz15_4
           try clear hcz15_5
           try clear hcz26_0
           try clear hcz26_1
           try clear hcz26_2
           try clear hcz26_3
           try clear hcz26_4
           try clear hcz26_5
           try clear hfz15_0
           try clear hfz15_1
           try clear hfz15_2
           try clear hfz15_3
           try clear hfz15_4
           try clear hfz15_5
           try clear hfz26_0
           try clear hfz26_1
           try clear hfz26_2
           try clear hfz26_3
           try clear hfz26_4
           try clear hfz26_5
           try clear hx187_0
           try clear p1
           try clear p18
           try clear p187
           try clear p2
           try clear q1
           try clear q18
           try clear q187
           try clear q19
           try clear q2
           try clear q28
           obtain ⟨kq, x57_28, rfl, HA, HJ28, HO_5, HO_6, HO_202002, HO_202005, BK201, HB⟩ := hcut
           cases kq with
           | zero => exact absurd HA.out (by simp [spec_ReadNormal.j2])
           | succ kj28 =>
            have H := HA.out
            clear HA
            simp only [spec_ReadNormal.j2] at H
            by_cases c32 : x57_28 = true
            ·subst c32
             have H1 : (if 1 ≤ (x5_10.length : Int) then ((some (x5_10.drop (1 : Int).toNat : List ByteArray)).bind fun y212 => (if t199 = 100 then (if x6_1.length < 1759218604441 then (spec_ReadNormal.l0 kj28 a0 y212 (x6_1 ++ [(⟨t189, t190, x202002_10, t194, t195, t196⟩ : S52)])) else (none)) else ((spec_l5Take.f kj28 y212 (⟨#[62, 32]⟩ : ByteArray)).bind fun bt218 => (if 0 ≤ bt218.2 then (if bt218.2 ≤ (y212.length : Int) then (if x6_1.length < 1759218604441 then (spec_ReadNormal.l0 kj28 a0 (y212.drop (bt218.2 : Int).toNat) (x6_1 ++ [(⟨t189, t190, x202002_10, t194, t195, bt218.1⟩ : S52)])) else (none)) else (none)) else (none))))) else (none)) = some (r1, r2, r3) := by rw [if_pos rfl] at H; exact H
             clear H
             have H := H1
             clear H1
             by_cases c33 : 1 ≤ (x5_10.length : Int)
             ·rw [if_pos c33] at H
              have c33b0 := eq_true c33
              have c33b1 : decide (1 ≤ (x5_10.length : Int)) = true := decide_eq_true c33
              clear c33
              obtain ⟨y212, hy212⟩ : ∃ y_ : List ByteArray, y_ = (x5_10.drop (1 : Int).toNat) := ⟨_, rfl⟩
              replace H : (if t199 = 100 then (if x6_1.length < 1759218604441 then (spec_ReadNormal.l0 kj28 a0 y212 (x6_1 ++ [(⟨t189, t190, x202002_10, t194, t195, t196⟩ : S52)])) else (none)) else ((spec_l5Take.f kj28 y212 (⟨#[62, 32]⟩ : ByteArray)).bind fun bt218 => (if 0 ≤ bt218.2 then (if bt218.2 ≤ (y212.length : Int) then (if x6_1.length < 1759218604441 then (spec_ReadNormal.l0 kj28 a0 (y212.drop (bt218.2 : Int).toNat) (x6_1 ++ [(⟨t189, t190, x202002_10, t194, t195, bt218.1⟩ : S52)])) else (none)) else (none)) else (none)))) = some (r1, r2, r3) := by first | (rw [hy212]; with_reducible exact H) | (have H2_ := (Option.bind_some _ _).symm.trans H; rw [hy212]; with_reducible exact H2_) | (have H2_ := (Option.bind_some _ _).symm.trans H; with_reducible exact H2_) | with_reducible exact H | (rw [hy212]; exact H) | exact H
              have Ny212 := am hy212
              clear hy212
              by_cases c34 : t199 = 100
              ·rw [if_pos c34] at H
               have c34b0 : (t199 == 100) = true := beq_iff_eq.mpr c34
               have c34b1 : (t199 != 100) = false := bne_eq_false_iff_eq.mpr c34
               clear c34
               by_cases c35 : x6_1.length < 1759218604441
               ·rw [if_pos c35] at H
                have LMc35 := am c35
                clear c35
                obtain ⟨y215, hy215⟩ : ∃ y_ : List (S52), y_ = (x6_1 ++ [(⟨t189, t190, x202002_10, t194, t195, t196⟩ : S52)]) := ⟨_, rfl⟩
                replace H : (spec_ReadNormal.l0 kj28 a0 y212 y215) = some (r1, r2, r3) := by first | (rw [hy215]; with_reducible exact H) | (have H2_ := (Option.bind_some _ _).symm.trans H; rw [hy215]; with_reducible exact H2_) | (have H2_ := (Option.bind_some _ _).symm.trans H; with_reducible exact H2_) | with_reducible exact H | (rw [hy215]; exact H) | exact H
                have Ny215 := am hy215
                clear hy215
                have H' := am H
                clear H
                obtain ⟨Ao36, co36, eo36, _⟩ := Kd.Q_slice HO_5.out
                subst eo36
                have q37 : (1 : Int) ≤ ((x5_10.length : Int) : Int) := oa
                obtain ⟨i037, hi037, _, hsz37, _⟩ := info_parts info9
                have hcut37 := cut_from (P := Tryz.prog) 24 9 .i64 Tryz.underlying24 hi037 1 hsz37 Ao36 x5_10.length co36 1 (by omega) q37
                have hr37 := Kd.Q_drop (k := (1 : Int).toNat) HO_5.out (by omega)
                obtain ⟨A37, hA37⟩ : ∃ A1, A1 = (if co36 = (1 : Int).toNat then Ao36 else (Ao36 : Option Addr).map (·.add ((1 : Int).toNat * 1))) := ⟨_, rfl⟩
                obtain ⟨c37, hc37⟩ : ∃ c1, c1 = co36 - (1 : Int).toNat := ⟨_, rfl⟩
                have hy37 : y212.length = x5_10.length - (1 : Int).toNat := (by rw [Ny212.out, List.length_drop])
                rw [← Ny212.out] at hr37
                rw [← hy37, ← hA37, ← hc37] at hcut37
                replace hr37 : Kd.Q Kd.string 9 wc w.heap.size (fun k_ => some k_ ≠ (u202002 : Value).ownBlock ∧ some k_ ≠ (.slice Ao17 t196.length co17 : Value).ownBlock) (.slice A37 y212.length c37) y212 := (by rw [hA37, hc37, hy37]; exact hr37)
                have HE37 : Aside0 ((Value.slice A37 y212.length c37).ownBlock = (.slice Ao36 x5_10.length co36 : Value).ownBlock) := ⟨by rw [hA37]; split <;> (cases (Ao36 : Option Addr) <;> first | rfl | (simp only [Option.map, Value.ownBlock, Addr.add]; split <;> rfl))⟩
                clear hy37 hi037 hsz37 HO_5 hA37 hc37
                have HO214 := am hr37
                clear hr37
                replace q37 := eq_true q37
                have n_ := am (Kd.S_mono (ok' := fun k_ => (some k_ ≠ (.slice A37 y212.length c37 : Value).ownBlock ∧ (some k_ ≠ (u202002 : Value).ownBlock ∧ (some k_ ≠ (.slice Ao17 t196.length co17 : Value).ownBlock ∧ k_ ≠ gb201)))) HO_6.out (fun k_ hk => ⟨(by rw [HE37.out]; exact hk.1), ⟨hk.2.1, ⟨hk.2.2.1, hk.2.2.2⟩⟩⟩))
                clear HO_6
                have HO_6 := n_
                clear n_
                have n_ := am (Kd.R_mono (ok' := fun k_ => (some k_ ≠ (.slice A37 y212.length c37 : Value).ownBlock ∧ some k_ ≠ (.slice Ao17 t196.length co17 : Value).ownBlock)) HO_202002.out (fun k_ hk => ⟨(by rw [HE37.out]; exact hk.1), hk.2⟩))
                clear HO_202002
                have HO_202002 := n_
                clear n_
                have n_ := am (Kd.R_mono (ok' := fun k_ => (some k_ ≠ (.slice A37 y212.length c37 : Value).ownBlock ∧ some k_ ≠ (u202002 : Value).ownBlock)) HO_202005.out (fun k_ hk => ⟨(by rw [HE37.out]; exact hk.1), hk.2⟩))
                clear HO_202005
                have HO_202005 := n_
                clear n_
                have hcz38_0 : wc.cell? ⟨gb201, 0, none⟩ = some (.int .i64 t189) := (blk_cell BK201.out 0).trans rfl
                have hcz38_1 : wc.cell? ⟨gb201, 1, none⟩ = some (.int .i64 t190) := (blk_cell BK201.out 1).trans rfl
                have hcz38_2 : wc.cell? ⟨gb201, 2, none⟩ = some (u202002) := (blk_cell BK201.out 2).trans rfl
                have hcz38_3 : wc.cell? ⟨gb201, 3, none⟩ = some (.int .i64 t194) := (blk_cell BK201.out 3).trans rfl
                have hcz38_4 : wc.cell? ⟨gb201, 4, none⟩ = some (.int .i64 t195) := (blk_cell BK201.out 4).trans rfl
                have hcz38_5 : wc.cell? ⟨gb201, 5, none⟩ = some (.slice Ao17 t196.length co17) := (blk_cell BK201.out 5).trans rfl
                have hfz38_0 := blk_frozen BK201.out 0
                have hfz38_1 := blk_frozen BK201.out 1
                have hfz38_2 := blk_frozen BK201.out 2
                have hfz38_3 := blk_frozen BK201.out 3
                have hfz38_4 := blk_frozen BK201.out 4
                have hfz38_5 := blk_frozen BK201.out 5
                obtain ⟨Ao40, co40, eo40⟩ := Kd.R_slice HO_202002.out
                subst eo40
                go_wp2_with (first | ((with_reducible refine gateB (b := .append) (xs := #[.tmp 72, .tmp 74]) rfl ?_); (try (refine gate_guard (by rfl) ?_; dsimp only)); at_builtin; refine Kd.S_append k52 (w0 := w) w.heap.size rfl (.tmp 72) (.tmp 74) 28 52 (.agg #[(.int .i64 0), (.int .i64 0), (.slice none 0 0), (.int .i64 0), (.int .i64 0), (.slice none 0 0)]) 80 rfl Tryz.underlying28 info52 rfl (by decide) (by omega) u6 x6_1 (⟨t189, t190, x202002_10, t194, t195, t196⟩ : S52) [.int .i64 t189, .int .i64 t190, .slice Ao40 x202002_10.length co40, .int .i64 t194, .int .i64 t195, .slice Ao17 t196.length co17] (fun k_ => some k_ ≠ (.slice A37 y212.length c37 : Value).ownBlock ∧ k_ ≠ gb201) (fun k_ => some k_ = (.slice Ao40 x202002_10.length co40 : Value).ownBlock ∨ some k_ = (.slice Ao17 t196.length co17 : Value).ownBlock) rfl rfl ?aP (fun k_ hk_ => hk_.elim (fun h_ => ((Kd.R_mono (ok' := fun k_ => ((fun k_ => some k_ ≠ (.slice A37 y212.length c37 : Value).ownBlock ∧ k_ ≠ gb201)) k_ ∧ some k_ ≠ (u6 : Value).ownBlock) (Kd.R_types (Kd.R_apart' (HO_202002.out) (Kd.S_typed HO_6.out) (by decide)) BK201.out (by decide)) (fun k_ hk => ⟨⟨hk.1.1.1, hk.2⟩, hk.1.2⟩))).1 k_ h_.symm) (fun h_ => ((Kd.R_mono (ok' := fun k_ => ((fun k_ => some k_ ≠ (.slice A37 y212.length c37 : Value).ownBlock ∧ k_ ≠ gb201)) k_ ∧ some k_ ≠ (u6 : Value).ownBlock) (Kd.R_types (Kd.R_apart' (HO_202005.out) (Kd.S_typed HO_6.out) (by decide)) BK201.out (by decide)) (fun k_ hk => ⟨⟨hk.1.1.1, hk.2⟩, hk.1.2⟩))).1 k_ h_.symm)) ?aF ?aO ?aB ?aS ?aL ?_; (case aP => exact k52_mkM zy _ _ _ (⟨t189, t190, x202002_10, t194, t195, t196⟩ : S52) (Kd.R_mono (Kd.R_tight rfl (Kd.R_mono (ok' := fun k_ => ((fun k_ => some k_ ≠ (.slice A37 y212.length c37 : Value).ownBlock ∧ k_ ≠ gb201)) k_ ∧ some k_ ≠ (u6 : Value).ownBlock) (Kd.R_types (Kd.R_apart' (HO_202002.out) (Kd.S_typed HO_6.out) (by decide)) BK201.out (by decide)) (fun k_ hk => ⟨⟨hk.1.1.1, hk.2⟩, hk.1.2⟩))) (fun _ h_ => Or.inl h_)) (Kd.R_mono (Kd.R_tight rfl (Kd.R_mono (ok' := fun k_ => ((fun k_ => some k_ ≠ (.slice A37 y212.length c37 : Value).ownBlock ∧ k_ ≠ gb201)) k_ ∧ some k_ ≠ (u6 : Value).ownBlock) (Kd.R_types (Kd.R_apart' (HO_202005.out) (Kd.S_typed HO_6.out) (by decide)) BK201.out (by decide)) (fun k_ hk => ⟨⟨hk.1.1.1, hk.2⟩, hk.1.2⟩))) (fun _ h_ => Or.inr (h_)))); (case aB => exact zw); (case aF => exact (fun k_ hk => ⟨Kd.fresh' (Kd.Q_lt (zo HO214.out)) k_ hk, Kd.freshB (g := gb201) (o := .cells #[.int .i64 t189, .int .i64 t190, .slice Ao40 x202002_10.length co40, .int .i64 t194, .int .i64 t195, .slice Ao17 t196.length co17] 52 (0, 0)) (zk BK201.out) k_ hk⟩)); (case aO => exact (by (with_reducible repeat (first | apply Kd.S_alloc | apply Kd.S_drewN | apply Kd.S_drew)); exact Kd.S_mono HO_6.out (fun k_ hk => ⟨⟨hk.1, hk.2.2.2⟩, fun e_ => e_.elim (fun h_ => hk.2.1 h_) (fun h_ => hk.2.2.1 h_)⟩))); (case aS => exact (below_size zw)); (case aL => have := LMc35.out; omega); intro v216 w39 ho hb hg hat; rw [← Ny215.out] at ho; have n0_ := am (Kd.Q_over' (zo HO214.out) (Kd.S_typed (zs HO_6.out)) (by decide) hg); have n1_ := am (blk_grown (g := gb201) (o := .cells #[.int .i64 t189, .int .i64 t190, .slice Ao40 x202002_10.length co40, .int .i64 t194, .int .i64 t195, .slice Ao17 t196.length co17] 52 (0, 0)) (zk BK201.out) hg (Kd.S_away HO_6.out (fun _ hk => hk.2.2.2))); have n2_ := am (hb); have n3_ := am (ho); clear HO214; clear BK201; clear HB; clear HO_6; clear HO_202002; clear HO_202005; have HO214 := n0_; have BK201 := n1_; have HB := n2_; have HO217 := n3_; clear n0_ n1_ n2_ n3_; clear ho hb hg hat))
                go_roundg kj28
                case measure => have := HK1.out; have := HJ10.out; have := HJ28.out; omega
                case rel => exact ⟨(y212), (y215), H', ⟨by have := HK1.out; have := HJ10.out; have := HJ28.out; omega⟩, ⟨by (with_reducible repeat (first | apply Kd.Q_alloc | apply Kd.Q_drewN | apply Kd.Q_drew)); exact Kd.Q_mono HO214.out (fun _ hk => trivial)⟩, ⟨by (with_reducible repeat (first | apply Kd.S_alloc | apply Kd.S_drewN | apply Kd.S_drew)); exact Kd.S_mono HO217.out (fun _ hk => hk.1)⟩, ⟨zw⟩⟩
               ·rw [if_neg c35] at H
                exact absurd H (by simp)
              ·rw [if_neg c34] at H
               have c34b0 : (t199 == 100) = false := beq_eq_false_iff_ne.mpr c34
               have c34b1 : (t199 != 100) = true := bne_iff_ne.mpr c34
               replace H := Option.bind_eq_some_iff.mp H
               obtain ⟨⟨t218, t219⟩, A410, H⟩ := H
               replace H : (if 0 ≤ t219 then (if t219 ≤ (y212.length : Int) then (if x6_1.length < 1759218604441 then (spec_ReadNormal.l0 kj28 a0 (y212.drop (t219 : Int).toNat) (x6_1 ++ [(⟨t189, t190, x202002_10, t194, t195, t218⟩ : S52)])) else (none)) else (none)) else (none)) = some (r1, r2, r3) := H
               have A41 := am A410
               clear A410
               by_cases c42 : 0 ≤ t219
               ·rw [if_pos c42] at H
                have c42b0 := eq_true c42
                have c42b1 : decide (0 ≤ t219) = true := decide_eq_true c42
                clear c42
                by_cases c43 : t219 ≤ (y212.length : Int)
                ·rw [if_pos c43] at H
                 have c43b0 := eq_true c43
                 have c43b1 : decide (t219 ≤ (y212.length : Int)) = true := decide_eq_true c43
                 clear c43
                 obtain ⟨y222, hy222⟩ : ∃ y_ : List ByteArray, y_ = (y212.drop (t219 : Int).toNat) := ⟨_, rfl⟩
                 replace H : (if x6_1.length < 1759218604441 then (spec_ReadNormal.l0 kj28 a0 y222 (x6_1 ++ [(⟨t189, t190, x202002_10, t194, t195, t218⟩ : S52)])) else (none)) = some (r1, r2, r3) := by first | (rw [hy222]; with_reducible exact H) | (have H2_ := (Option.bind_some _ _).symm.trans H; rw [hy222]; with_reducible exact H2_) | (have H2_ := (Option.bind_some _ _).symm.trans H; with_reducible exact H2_) | with_reducible exact H | (rw [hy222]; exact H) | exact H
                 have Ny222 := am hy222
                 clear hy222
                 by_cases c44 : x6_1.length < 1759218604441
                 ·rw [if_pos c44] at H
                  have LMc44 := am c44
                  clear c44
                  obtain ⟨y225, hy225⟩ : ∃ y_ : List (S52), y_ = (x6_1 ++ [(⟨t189, t190, x202002_10, t194, t195, t218⟩ : S52)]) := ⟨_, rfl⟩
                  replace H : (spec_ReadNormal.l0 kj28 a0 y222 y225) = some (r1, r2, r3) := by first | (rw [hy225]; with_reducible exact H) | (have H2_ := (Option.bind_some _ _).symm.trans H; rw [hy225]; with_reducible exact H2_) | (have H2_ := (Option.bind_some _ _).symm.trans H; with_reducible exact H2_) | with_reducible exact H | (rw [hy225]; exact H) | exact H
                  have Ny225 := am hy225
                  clear hy225
                  have H' := am H
                  clear H
                  obtain ⟨Ao45, co45, eo45, _⟩ := Kd.Q_slice HO_5.out
                  subst eo45
                  have q46 : (1 : Int) ≤ ((x5_10.length : Int) : Int) := oa
                  obtain ⟨i046, hi046, _, hsz46, _⟩ := info_parts info9
                  have hcut46 := cut_from (P := Tryz.prog) 24 9 .i64 Tryz.underlying24 hi046 1 hsz46 Ao45 x5_10.length co45 1 (by omega) q46
                  have hr46 := Kd.Q_drop (k := (1 : Int).toNat) HO_5.out (by omega)
                  obtain ⟨A46, hA46⟩ : ∃ A1, A1 = (if co45 = (1 : Int).toNat then Ao45 else (Ao45 : Option Addr).map (·.add ((1 : Int).toNat * 1))) := ⟨_, rfl⟩
                  obtain ⟨c46, hc46⟩ : ∃ c1, c1 = co45 - (1 : Int).toNat := ⟨_, rfl⟩
                  have hy46 : y212.length = x5_10.length - (1 : Int).toNat := (by rw [Ny212.out, List.length_drop])
                  rw [← Ny212.out] at hr46
                  rw [← hy46, ← hA46, ← hc46] at hcut46
                  replace hr46 : Kd.Q Kd.string 9 wc w.heap.size (fun k_ => some k_ ≠ (u202002 : Value).ownBlock ∧ some k_ ≠ (.slice Ao17 t196.length co17 : Value).ownBlock) (.slice A46 y212.length c46) y212 := (by rw [hA46, hc46, hy46]; exact hr46)
                  have HE46 : Aside0 ((Value.slice A46 y212.length c46).ownBlock = (.slice Ao45 x5_10.length co45 : Value).ownBlock) := ⟨by rw [hA46]; split <;> (cases (Ao45 : Option Addr) <;> first | rfl | (simp only [Option.map, Value.ownBlock, Addr.add]; split <;> rfl))⟩
                  clear hy46 hi046 hsz46 HO_5 hA46 hc46
                  have HO214 := am hr46
                  clear hr46
                  replace q46 := eq_true q46
                  have n_ := am (Kd.S_mono (ok' := fun k_ => (some k_ ≠ (.slice A46 y212.length c46 : Value).ownBlock ∧ (some k_ ≠ (u202002 : Value).ownBlock ∧ (some k_ ≠ (.slice Ao17 t196.length co17 : Value).ownBlock ∧ k_ ≠ gb201)))) HO_6.out (fun k_ hk => ⟨(by rw [HE46.out]; exact hk.1), ⟨hk.2.1, ⟨hk.2.2.1, hk.2.2.2⟩⟩⟩))
                  clear HO_6
                  have HO_6 := n_
                  clear n_
                  have n_ := am (Kd.R_mono (ok' := fun k_ => (some k_ ≠ (.slice A46 y212.length c46 : Value).ownBlock ∧ some k_ ≠ (.slice Ao17 t196.length co17 : Value).ownBlock)) HO_202002.out (fun k_ hk => ⟨(by rw [HE46.out]; exact hk.1), hk.2⟩))
                  clear HO_202002
                  have HO_202002 := n_
                  clear n_
                  have n_ := am (Kd.R_mono (ok' := fun k_ => (some k_ ≠ (.slice A46 y212.length c46 : Value).ownBlock ∧ some k_ ≠ (u202002 : Value).ownBlock)) HO_202005.out (fun k_ hk => ⟨(by rw [HE46.out]; exact hk.1), hk.2⟩))
                  clear HO_202005
                  have HO_202005 := n_
                  clear n_
                  go_wp2_with (first | ((with_reducible refine gateC (f := 47) rfl ?_); refine goesL_ (some 64) rfl rfl Tryz.func47 (by kernel_rfl) rfl #[.slice A46 y212.length c46, .string (⟨#[62, 32]⟩ : ByteArray)] rfl zm ?_; (with_reducible refine (spec_l5Take.calls kj28 _ _ y212 (⟨#[62, 32]⟩ : ByteArray) t218 t219 _ ?side1 ?side2 A41.out).mono ?_); (case side1 => repeat (first | exact (Kd.Q_reads' HO214.out).2.2 | (with_reducible refine Kd.C_alloc ?_ _) | (with_reducible refine Kd.C_drewN ?_ _) | (with_reducible refine Kd.C_drew ?_))); (case side2 => exact (Kd.Q_reads' HO214.out).2.1); rintro e w47 ⟨v220, rfl, ho0, hb⟩; refine ⟨_, rfl, ?_⟩; have n0_ := am (Kd.Q_elder' (zo HO214.out) (Kd.R_base ho0) hb); have n1_ := am (Kd.S_elder' (zs HO_6.out) (Kd.R_base ho0) hb); have n2_ := am (Kd.R_elder' (zr HO_202002.out) (Kd.R_base ho0) hb); have n3_ := am (Kd.R_elder' (zr HO_202005.out) (Kd.R_base ho0) hb); have n4_ := am (Kd.R_lower (Kd.R_new' (Kd.R_new' (Kd.R_new' ho0 (Kd.Q_lt (zo HO214.out))) (Kd.R_lt (zr HO_202002.out))) (Kd.R_lt (zr HO_202005.out))) (below_size zw)); have n5_ := am (blk_below (g := gb201) (o := .cells #[.int .i64 t189, .int .i64 t190, u202002, .int .i64 t194, .int .i64 t195, .slice Ao17 t196.length co17] 52 (0, 0)) (zk BK201.out) hb); have n6_ := am (below_step zw hb); clear HO214; clear HO_6; clear HO_202002; clear HO_202005; clear BK201; clear HB; have HO214 := n0_; have HO_6 := n1_; have HO_202002 := n2_; have HO_202005 := n3_; have HO221 := n4_; have BK201 := n5_; have HB := n6_; clear n0_ n1_ n2_ n3_ n4_ n5_ n6_; (try clear hb); (try clear ho0); obtain ⟨Ao48, co48, eo48⟩ := Kd.R_slice HO221.out; subst eo48; have hcz49_0 : w47.cell? ⟨gb201, 0, none⟩ = some (.int .i64 t189) := (blk_cell BK201.out 0).trans rfl; have hcz49_1 : w47.cell? ⟨gb201, 1, none⟩ = some (.int .i64 t190) := (blk_cell BK201.out 1).trans rfl; have hcz49_2 : w47.cell? ⟨gb201, 2, none⟩ = some (u202002) := (blk_cell BK201.out 2).trans rfl; have hcz49_3 : w47.cell? ⟨gb201, 3, none⟩ = some (.int .i64 t194) := (blk_cell BK201.out 3).trans rfl; have hcz49_4 : w47.cell? ⟨gb201, 4, none⟩ = some (.int .i64 t195) := (blk_cell BK201.out 4).trans rfl; have hcz49_5 : w47.cell? ⟨gb201, 5, none⟩ = some (.slice Ao17 t196.length co17) := (blk_cell BK201.out 5).trans rfl; have hfz49_0 := blk_frozen BK201.out 0; have hfz49_1 := blk_frozen BK201.out 1; have hfz49_2 := blk_frozen BK201.out 2; have hfz49_3 := blk_frozen BK201.out 3; have hfz49_4 := blk_frozen BK201.out 4; have hfz49_5 := blk_frozen BK201.out 5) | ((with_reducible refine gate_store (t := 24) (p := 68) rfl ?_); refine store_event (t := 24) (p := 68) (v := ?vo_w50) (w1 := (w47.setCell ⟨gb201, 5, none⟩ (.slice Ao48 t218.length co48))) ?hg ?ho ?hn ?hr ?_; (case ho => rfl); (case hg => rfl); (case hn => rfl); (case hr => first | (go_simp; done) | (go_simp; rfl)); intro w50 hw; have n0_ : Aside0 (Kd.Q Kd.string 9 w50 w.heap.size (fun k_ => some k_ ≠ (u202002 : Value).ownBlock ∧ some k_ ≠ (.slice Ao17 t196.length co17 : Value).ownBlock ∧ some k_ ≠ (.slice Ao48 t218.length co48 : Value).ownBlock) (.slice A46 y212.length c46) y212) := ⟨(by rw [hw]; exact (by (with_reducible repeat (first | apply Kd.Q_alloc | apply Kd.Q_drewN | apply Kd.Q_drew)); exact Kd.Q_mono (Kd.Q_far (p := ⟨gb201, 5, none⟩) (Kd.Q_types HO214.out BK201.out (by decide)) (fun _ hk => hk.2) (.slice Ao48 t218.length co48)) (fun _ hk => ⟨hk.1.1.1, ⟨hk.1.1.2, hk.1.2⟩⟩)))⟩; have n1_ : Aside0 (Kd.S k52 52 w50 w.heap.size (fun k_ => some k_ ≠ (.slice A46 y212.length c46 : Value).ownBlock ∧ some k_ ≠ (u202002 : Value).ownBlock ∧ some k_ ≠ (.slice Ao17 t196.length co17 : Value).ownBlock ∧ some k_ ≠ (.slice Ao48 t218.length co48 : Value).ownBlock ∧ k_ ≠ gb201) u6 x6_1) := ⟨(by rw [hw]; exact (by (with_reducible repeat (first | apply Kd.S_alloc | apply Kd.S_drewN | apply Kd.S_drew)); exact Kd.S_mono (Kd.S_far (p := ⟨gb201, 5, none⟩) (Kd.S_mono HO_6.out (fun k_ hk => (⟨hk, hk.1.2.2.2⟩ : _ ∧ k_ ≠ gb201))) (fun _ hk => hk.2) (.slice Ao48 t218.length co48)) (fun _ hk => ⟨hk.1.1.1, ⟨hk.1.1.2.1, ⟨hk.1.1.2.2.1, ⟨hk.1.2, hk.1.1.2.2.2⟩⟩⟩⟩)))⟩; have n2_ : Aside0 (Kd.R Kd.string 9 w50 w.heap.size (fun k_ => some k_ ≠ (.slice A46 y212.length c46 : Value).ownBlock ∧ some k_ ≠ (.slice Ao17 t196.length co17 : Value).ownBlock ∧ some k_ ≠ (.slice Ao48 t218.length co48 : Value).ownBlock) u202002 x202002_10) := ⟨(by rw [hw]; exact (by (with_reducible repeat (first | apply Kd.R_alloc | apply Kd.R_drewN | apply Kd.R_drew)); exact Kd.R_mono (Kd.R_far (p := ⟨gb201, 5, none⟩) (Kd.R_types HO_202002.out BK201.out (by decide)) (fun _ hk => hk.2) (.slice Ao48 t218.length co48)) (fun _ hk => ⟨hk.1.1.1, ⟨hk.1.1.2, hk.1.2⟩⟩)))⟩; have n3_ : Aside0 (Kd.R Kd.string 9 w50 w.heap.size (fun k_ => some k_ ≠ (.slice A46 y212.length c46 : Value).ownBlock ∧ some k_ ≠ (u202002 : Value).ownBlock ∧ some k_ ≠ (.slice Ao48 t218.length co48 : Value).ownBlock) (.slice Ao17 t196.length co17) t196) := ⟨(by rw [hw]; exact (by (with_reducible repeat (first | apply Kd.R_alloc | apply Kd.R_drewN | apply Kd.R_drew)); exact Kd.R_mono (Kd.R_far (p := ⟨gb201, 5, none⟩) (Kd.R_types HO_202005.out BK201.out (by decide)) (fun _ hk => hk.2) (.slice Ao48 t218.length co48)) (fun _ hk => ⟨hk.1.1.1, ⟨hk.1.1.2, hk.1.2⟩⟩)))⟩; have n4_ : Aside0 (Kd.R Kd.string 9 w50 w.heap.size (fun k_ => some k_ ≠ (.slice A46 y212.length c46 : Value).ownBlock ∧ some k_ ≠ (u202002 : Value).ownBlock ∧ some k_ ≠ (.slice Ao17 t196.length co17 : Value).ownBlock) (.slice Ao48 t218.length co48) t218) := ⟨(by rw [hw]; exact (by (with_reducible repeat (first | apply Kd.R_alloc | apply Kd.R_drewN | apply Kd.R_drew)); exact Kd.R_mono (Kd.R_far (p := ⟨gb201, 5, none⟩) (Kd.R_types HO221.out BK201.out (by decide)) (fun _ hk => hk.2) (.slice Ao48 t218.length co48)) (fun _ hk => ⟨hk.1.1.1.2, ⟨hk.1.1.2, hk.1.2⟩⟩)))⟩; have n5_ : Aside0 (w50.heap[gb201]? = some (.cells #[.int .i64 t189, .int .i64 t190, u202002, .int .i64 t194, .int .i64 t195, .slice Ao48 t218.length co48] 52 (0, 0))) := ⟨(by rw [hw]; exact (by (with_reducible repeat (first | refine blk_drewN ?_ _ | refine blk_drew ?_ | refine blk_alloc ?_ _)); refine blk_put (cs := #[.int .i64 t189, .int .i64 t190, u202002, .int .i64 t194, .int .i64 t195, .slice Ao17 t196.length co17]) ?_ 5 _ rfl; (with_reducible repeat (first | refine blk_drewN ?_ _ | refine blk_drew ?_ | refine blk_alloc ?_ _)); exact BK201.out))⟩; have n6_ : Aside0 (Below w.heap.size w w50) := ⟨(by rw [hw]; exact zw)⟩; clear hw; clear HO214; clear HO_6; clear HO_202002; clear HO_202005; clear HO221; clear BK201; clear HB; have HO214 := n0_; have HO_6 := n1_; have HO_202002 := n2_; have HO_202005 := n3_; have HO221 := n4_; have BK201 := n5_; have HB := n6_; clear n0_ n1_ n2_ n3_ n4_ n5_ n6_; have q51 : (t219 : Int) ≤ ((y212.length : Int) : Int) := oa; obtain ⟨i051, hi051, _, hsz51, _⟩ := info_parts info9; have hcut51 := cut_from (P := Tryz.prog) 24 9 .i64 Tryz.underlying24 hi051 1 hsz51 A46 y212.length c46 t219 oa q51; have hr51 := Kd.Q_drop (k := (t219 : Int).toNat) HO214.out (by omega); obtain ⟨A51, hA51⟩ : ∃ A1, A1 = (if c46 = (t219 : Int).toNat then A46 else (A46 : Option Addr).map (·.add ((t219 : Int).toNat * 1))) := ⟨_, rfl⟩; obtain ⟨c51, hc51⟩ : ∃ c1, c1 = c46 - (t219 : Int).toNat := ⟨_, rfl⟩; have hy51 : y222.length = y212.length - (t219 : Int).toNat := (by rw [Ny222.out, List.length_drop]); rw [← Ny222.out] at hr51; rw [← hy51, ← hA51, ← hc51] at hcut51; replace hr51 : Kd.Q Kd.string 9 w50 w.heap.size (fun k_ => some k_ ≠ (u202002 : Value).ownBlock ∧ some k_ ≠ (.slice Ao17 t196.length co17 : Value).ownBlock ∧ some k_ ≠ (.slice Ao48 t218.length co48 : Value).ownBlock) (.slice A51 y222.length c51) y222 := (by rw [hA51, hc51, hy51]; exact hr51); have HE51 : Aside0 ((Value.slice A51 y222.length c51).ownBlock = (.slice A46 y212.length c46 : Value).ownBlock) := ⟨by rw [hA51]; split <;> (cases (A46 : Option Addr) <;> first | rfl | (simp only [Option.map, Value.ownBlock, Addr.add]; split <;> rfl))⟩; clear hy51 hi051 hsz51 HO214 hA51 hc51; have HO224 := am hr51; clear hr51; replace q51 := eq_true q51; have n_ := am (Kd.S_mono (ok' := fun k_ => (some k_ ≠ (.slice A51 y222.length c51 : Value).ownBlock ∧ (some k_ ≠ (u202002 : Value).ownBlock ∧ (some k_ ≠ (.slice Ao17 t196.length co17 : Value).ownBlock ∧ (some k_ ≠ (.slice Ao48 t218.length co48 : Value).ownBlock ∧ k_ ≠ gb201))))) HO_6.out (fun k_ hk => ⟨(by rw [HE51.out]; exact hk.1), ⟨hk.2.1, ⟨hk.2.2.1, ⟨hk.2.2.2.1, hk.2.2.2.2⟩⟩⟩⟩)); clear HO_6; have HO_6 := n_; clear n_; have n_ := am (Kd.R_mono (ok' := fun k_ => (some k_ ≠ (.slice A51 y222.length c51 : Value).ownBlock ∧ (some k_ ≠ (.slice Ao17 t196.length co17 : Value).ownBlock ∧ some k_ ≠ (.slice Ao48 t218.length co48 : Value).ownBlock))) HO_202002.out (fun k_ hk => ⟨(by rw [HE51.out]; exact hk.1), ⟨hk.2.1, hk.2.2⟩⟩)); clear HO_202002; have HO_202002 := n_; clear n_; have n_ := am (Kd.R_mono (ok' := fun k_ => (some k_ ≠ (.slice A51 y222.length c51 : Value).ownBlock ∧ (some k_ ≠ (u202002 : Value).ownBlock ∧ some k_ ≠ (.slice Ao48 t218.length co48 : Value).ownBlock))) HO_202005.out (fun k_ hk => ⟨(by rw [HE51.out]; exact hk.1), ⟨hk.2.1, hk.2.2⟩⟩)); clear HO_202005; have HO_202005 := n_; clear n_; have n_ := am (Kd.R_mono (ok' := fun k_ => (some k_ ≠ (.slice A51 y222.length c51 : Value).ownBlock ∧ (some k_ ≠ (u202002 : Value).ownBlock ∧ some k_ ≠ (.slice Ao17 t196.length co17 : Value).ownBlock))) HO221.out (fun k_ hk => ⟨(by rw [HE51.out]; exact hk.1), ⟨hk.2.1, hk.2.2⟩⟩)); clear HO221; have HO221 := n_; clear n_; have hcz52_0 : w50.cell? ⟨gb201, 0, none⟩ = some (.int .i64 t189) := (blk_cell BK201.out 0).trans rfl; have hcz52_1 : w50.cell? ⟨gb201, 1, none⟩ = some (.int .i64 t190) := (blk_cell BK201.out 1).trans rfl; have hcz52_2 : w50.cell? ⟨gb201, 2, none⟩ = some (u202002) := (blk_cell BK201.out 2).trans rfl; have hcz52_3 : w50.cell? ⟨gb201, 3, none⟩ = some (.int .i64 t194) := (blk_cell BK201.out 3).trans rfl; have hcz52_4 : w50.cell? ⟨gb201, 4, none⟩ = some (.int .i64 t195) := (blk_cell BK201.out 4).trans rfl; have hcz52_5 : w50.cell? ⟨gb201, 5, none⟩ = some (.slice Ao48 t218.length co48) := (blk_cell BK201.out 5).trans rfl; have hfz52_0 := blk_frozen BK201.out 0; have hfz52_1 := blk_frozen BK201.out 1; have hfz52_2 := blk_frozen BK201.out 2; have hfz52_3 := blk_frozen BK201.out 3; have hfz52_4 := blk_frozen BK201.out 4; have hfz52_5 := blk_frozen BK201.out 5; obtain ⟨Ao54, co54, eo54⟩ := Kd.R_slice HO_202002.out; subst eo54) | ((with_reducible refine gateB (b := .append) (xs := #[.tmp 72, .tmp 74]) rfl ?_); (try (refine gate_guard (by rfl) ?_; dsimp only)); at_builtin; refine Kd.S_append k52 (w0 := w) w.heap.size rfl (.tmp 72) (.tmp 74) 28 52 (.agg #[(.int .i64 0), (.int .i64 0), (.slice none 0 0), (.int .i64 0), (.int .i64 0), (.slice none 0 0)]) 80 rfl Tryz.underlying28 info52 rfl (by decide) (by omega) u6 x6_1 (⟨t189, t190, x202002_10, t194, t195, t218⟩ : S52) [.int .i64 t189, .int .i64 t190, .slice Ao54 x202002_10.length co54, .int .i64 t194, .int .i64 t195, .slice Ao48 t218.length co48] (fun k_ => some k_ ≠ (.slice A51 y222.length c51 : Value).ownBlock ∧ some k_ ≠ (.slice Ao17 t196.length co17 : Value).ownBlock ∧ k_ ≠ gb201) (fun k_ => some k_ = (.slice Ao54 x202002_10.length co54 : Value).ownBlock ∨ some k_ = (.slice Ao48 t218.length co48 : Value).ownBlock) rfl rfl ?aP (fun k_ hk_ => hk_.elim (fun h_ => ((Kd.R_mono (ok' := fun k_ => ((fun k_ => some k_ ≠ (.slice A51 y222.length c51 : Value).ownBlock ∧ some k_ ≠ (.slice Ao17 t196.length co17 : Value).ownBlock ∧ k_ ≠ gb201)) k_ ∧ some k_ ≠ (u6 : Value).ownBlock) (Kd.R_types (Kd.R_apart' (HO_202002.out) (Kd.S_typed HO_6.out) (by decide)) BK201.out (by decide)) (fun k_ hk => ⟨⟨hk.1.1.1, ⟨hk.1.1.2.1, hk.2⟩⟩, hk.1.2⟩))).1 k_ h_.symm) (fun h_ => ((Kd.R_mono (ok' := fun k_ => ((fun k_ => some k_ ≠ (.slice A51 y222.length c51 : Value).ownBlock ∧ some k_ ≠ (.slice Ao17 t196.length co17 : Value).ownBlock ∧ k_ ≠ gb201)) k_ ∧ some k_ ≠ (u6 : Value).ownBlock) (Kd.R_types (Kd.R_apart' (HO221.out) (Kd.S_typed HO_6.out) (by decide)) BK201.out (by decide)) (fun k_ hk => ⟨⟨hk.1.1.1, ⟨hk.1.1.2.2, hk.2⟩⟩, hk.1.2⟩))).1 k_ h_.symm)) ?aF ?aO ?aB ?aS ?aL ?_; (case aP => exact k52_mkM zy _ _ _ (⟨t189, t190, x202002_10, t194, t195, t218⟩ : S52) (Kd.R_mono (Kd.R_tight rfl (Kd.R_mono (ok' := fun k_ => ((fun k_ => some k_ ≠ (.slice A51 y222.length c51 : Value).ownBlock ∧ some k_ ≠ (.slice Ao17 t196.length co17 : Value).ownBlock ∧ k_ ≠ gb201)) k_ ∧ some k_ ≠ (u6 : Value).ownBlock) (Kd.R_types (Kd.R_apart' (HO_202002.out) (Kd.S_typed HO_6.out) (by decide)) BK201.out (by decide)) (fun k_ hk => ⟨⟨hk.1.1.1, ⟨hk.1.1.2.1, hk.2⟩⟩, hk.1.2⟩))) (fun _ h_ => Or.inl h_)) (Kd.R_mono (Kd.R_tight rfl (Kd.R_mono (ok' := fun k_ => ((fun k_ => some k_ ≠ (.slice A51 y222.length c51 : Value).ownBlock ∧ some k_ ≠ (.slice Ao17 t196.length co17 : Value).ownBlock ∧ k_ ≠ gb201)) k_ ∧ some k_ ≠ (u6 : Value).ownBlock) (Kd.R_types (Kd.R_apart' (HO221.out) (Kd.S_typed HO_6.out) (by decide)) BK201.out (by decide)) (fun k_ hk => ⟨⟨hk.1.1.1, ⟨hk.1.1.2.2, hk.2⟩⟩, hk.1.2⟩))) (fun _ h_ => Or.inr (h_)))); (case aB => exact zw); (case aF => exact (fun k_ hk => ⟨Kd.fresh' (Kd.Q_lt (zo HO224.out)) k_ hk, Kd.fresh' (Kd.R_lt (zr HO_202005.out)) k_ hk, Kd.freshB (g := gb201) (o := .cells #[.int .i64 t189, .int .i64 t190, .slice Ao54 x202002_10.length co54, .int .i64 t194, .int .i64 t195, .slice Ao48 t218.length co48] 52 (0, 0)) (zk BK201.out) k_ hk⟩)); (case aO => exact (by (with_reducible repeat (first | apply Kd.S_alloc | apply Kd.S_drewN | apply Kd.S_drew)); exact Kd.S_mono HO_6.out (fun k_ hk => ⟨⟨hk.1, ⟨hk.2.2.1, hk.2.2.2.2⟩⟩, fun e_ => e_.elim (fun h_ => hk.2.1 h_) (fun h_ => hk.2.2.2.1 h_)⟩))); (case aS => exact (below_size zw)); (case aL => have := LMc44.out; omega); intro v226 w53 ho hb hg hat; rw [← Ny225.out] at ho; have n0_ := am (Kd.Q_over' (zo HO224.out) (Kd.S_typed (zs HO_6.out)) (by decide) hg); have n1_ := am (Kd.R_over' (zr HO_202005.out) (Kd.S_typed (zs HO_6.out)) (by decide) hg); have n2_ := am (blk_grown (g := gb201) (o := .cells #[.int .i64 t189, .int .i64 t190, .slice Ao54 x202002_10.length co54, .int .i64 t194, .int .i64 t195, .slice Ao48 t218.length co48] 52 (0, 0)) (zk BK201.out) hg (Kd.S_away HO_6.out (fun _ hk => hk.2.2.2.2))); have n3_ := am (hb); have n4_ := am (ho); clear HO224; clear HO_202005; clear BK201; clear HB; clear HO_6; clear HO221; clear HO_202002; have HO224 := n0_; have HO_202005 := n1_; have BK201 := n2_; have HB := n3_; have HO227 := n4_; clear n0_ n1_ n2_ n3_ n4_; clear ho hb hg hat))
                  go_roundg kj28
                  case measure => have := HK1.out; have := HJ10.out; have := HJ28.out; omega
                  case rel => exact ⟨(y222), (y225), H', ⟨by have := HK1.out; have := HJ10.out; have := HJ28.out; omega⟩, ⟨by (with_reducible repeat (first | apply Kd.Q_alloc | apply Kd.Q_drewN | apply Kd.Q_drew)); exact Kd.Q_mono HO224.out (fun _ hk => trivial)⟩, ⟨by (with_reducible repeat (first | apply Kd.S_alloc | apply Kd.S_drewN | apply Kd.S_drew)); exact Kd.S_mono HO227.out (fun _ hk => hk.1)⟩, ⟨zw⟩⟩
                 ·rw [if_neg c44] at H
                  exact absurd H (by simp)
                ·rw [if_neg c43] at H
                 exact absurd H (by simp)
               ·rw [if_neg c42] at H
                exact absurd H (by simp)
             ·rw [if_neg c33] at H
              exact absurd H (by simp)
            ·replace c32 := Bool.eq_false_iff.mpr c32
             subst c32
             have H1 : (if t199 = 100 then (if x6_1.length < 1759218604441 then (spec_ReadNormal.l0 kj28 a0 x5_10 (x6_1 ++ [(⟨t189, t190, x202002_10, t194, t195, t196⟩ : S52)])) else (none)) else ((spec_l5Take.f kj28 x5_10 (⟨#[62, 32]⟩ : ByteArray)).bind fun bt231 => (if 0 ≤ bt231.2 then (if bt231.2 ≤ (x5_10.length : Int) then (if x6_1.length < 1759218604441 then (spec_ReadNormal.l0 kj28 a0 (x5_10.drop (bt231.2 : Int).toNat) (x6_1 ++ [(⟨t189, t190, x202002_10, t194, t195, bt231.1⟩ : S52)])) else (none)) else (none)) else (none)))) = some (r1, r2, r3) := by rw [if_neg (show ¬ (false = true) by decide)] at H; exact H
             clear H
             have H := H1
             clear H1
             by_cases c55 : t199 = 100
             ·rw [if_pos c55] at H
              have c55b0 : (t199 == 100) = true := beq_iff_eq.mpr c55
              have c55b1 : (t199 != 100) = false := bne_eq_false_iff_eq.mpr c55
              clear c55
              by_cases c56 : x6_1.length < 1759218604441
              ·rw [if_pos c56] at H
               have LMc56 := am c56
               clear c56
               obtain ⟨y228, hy228⟩ : ∃ y_ : List (S52), y_ = (x6_1 ++ [(⟨t189, t190, x202002_10, t194, t195, t196⟩ : S52)]) := ⟨_, rfl⟩
               replace H : (spec_ReadNormal.l0 kj28 a0 x5_10 y228) = some (r1, r2, r3) := by first | (rw [hy228]; with_reducible exact H) | (have H2_ := (Option.bind_some _ _).symm.trans H; rw [hy228]; with_reducible exact H2_) | (have H2_ := (Option.bind_some _ _).symm.trans H; with_reducible exact H2_) | with_reducible exact H | (rw [hy228]; exact H) | exact H
               have Ny228 := am hy228
               clear hy228
               have H' := am H
               clear H
               have hcz57_0 : wc.cell? ⟨gb201, 0, none⟩ = some (.int .i64 t189) := (blk_cell BK201.out 0).trans rfl
               have hcz57_1 : wc.cell? ⟨gb201, 1, none⟩ = some (.int .i64 t190) := (blk_cell BK201.out 1).trans rfl
               have hcz57_2 : wc.cell? ⟨gb201, 2, none⟩ = some (u202002) := (blk_cell BK201.out 2).trans rfl
               have hcz57_3 : wc.cell? ⟨gb201, 3, none⟩ = some (.int .i64 t194) := (blk_cell BK201.out 3).trans rfl
               have hcz57_4 : wc.cell? ⟨gb201, 4, none⟩ = some (.int .i64 t195) := (blk_cell BK201.out 4).trans rfl
               have hcz57_5 : wc.cell? ⟨gb201, 5, none⟩ = some (.slice Ao17 t196.length co17) := (blk_cell BK201.out 5).trans rfl
               have hfz57_0 := blk_frozen BK201.out 0
               have hfz57_1 := blk_frozen BK201.out 1
               have hfz57_2 := blk_frozen BK201.out 2
               have hfz57_3 := blk_frozen BK201.out 3
               have hfz57_4 := blk_frozen BK201.out 4
               have hfz57_5 := blk_frozen BK201.out 5
               obtain ⟨Ao59, co59, eo59⟩ := Kd.R_slice HO_202002.out
               subst eo59
               go_wp2_with (first | ((with_reducible refine gateB (b := .append) (xs := #[.tmp 72, .tmp 74]) rfl ?_); (try (refine gate_guard (by rfl) ?_; dsimp only)); at_builtin; refine Kd.S_append k52 (w0 := w) w.heap.size rfl (.tmp 72) (.tmp 74) 28 52 (.agg #[(.int .i64 0), (.int .i64 0), (.slice none 0 0), (.int .i64 0), (.int .i64 0), (.slice none 0 0)]) 80 rfl Tryz.underlying28 info52 rfl (by decide) (by omega) u6 x6_1 (⟨t189, t190, x202002_10, t194, t195, t196⟩ : S52) [.int .i64 t189, .int .i64 t190, .slice Ao59 x202002_10.length co59, .int .i64 t194, .int .i64 t195, .slice Ao17 t196.length co17] (fun k_ => some k_ ≠ (u5 : Value).ownBlock ∧ k_ ≠ gb201) (fun k_ => some k_ = (.slice Ao59 x202002_10.length co59 : Value).ownBlock ∨ some k_ = (.slice Ao17 t196.length co17 : Value).ownBlock) rfl rfl ?aP (fun k_ hk_ => hk_.elim (fun h_ => ((Kd.R_mono (ok' := fun k_ => ((fun k_ => some k_ ≠ (u5 : Value).ownBlock ∧ k_ ≠ gb201)) k_ ∧ some k_ ≠ (u6 : Value).ownBlock) (Kd.R_types (Kd.R_apart' (HO_202002.out) (Kd.S_typed HO_6.out) (by decide)) BK201.out (by decide)) (fun k_ hk => ⟨⟨hk.1.1.1, hk.2⟩, hk.1.2⟩))).1 k_ h_.symm) (fun h_ => ((Kd.R_mono (ok' := fun k_ => ((fun k_ => some k_ ≠ (u5 : Value).ownBlock ∧ k_ ≠ gb201)) k_ ∧ some k_ ≠ (u6 : Value).ownBlock) (Kd.R_types (Kd.R_apart' (HO_202005.out) (Kd.S_typed HO_6.out) (by decide)) BK201.out (by decide)) (fun k_ hk => ⟨⟨hk.1.1.1, hk.2⟩, hk.1.2⟩))).1 k_ h_.symm)) ?aF ?aO ?aB ?aS ?aL ?_; (case aP => exact k52_mkM zy _ _ _ (⟨t189, t190, x202002_10, t194, t195, t196⟩ : S52) (Kd.R_mono (Kd.R_tight rfl (Kd.R_mono (ok' := fun k_ => ((fun k_ => some k_ ≠ (u5 : Value).ownBlock ∧ k_ ≠ gb201)) k_ ∧ some k_ ≠ (u6 : Value).ownBlock) (Kd.R_types (Kd.R_apart' (HO_202002.out) (Kd.S_typed HO_6.out) (by decide)) BK201.out (by decide)) (fun k_ hk => ⟨⟨hk.1.1.1, hk.2⟩, hk.1.2⟩))) (fun _ h_ => Or.inl h_)) (Kd.R_mono (Kd.R_tight rfl (Kd.R_mono (ok' := fun k_ => ((fun k_ => some k_ ≠ (u5 : Value).ownBlock ∧ k_ ≠ gb201)) k_ ∧ some k_ ≠ (u6 : Value).ownBlock) (Kd.R_types (Kd.R_apart' (HO_202005.out) (Kd.S_typed HO_6.out) (by decide)) BK201.out (by decide)) (fun k_ hk => ⟨⟨hk.1.1.1, hk.2⟩, hk.1.2⟩))) (fun _ h_ => Or.inr (h_)))); (case aB => exact zw); (case aF => exact (fun k_ hk => ⟨Kd.fresh' (Kd.Q_lt (zo HO_5.out)) k_ hk, Kd.freshB (g := gb201) (o := .cells #[.int .i64 t189, .int .i64 t190, .slice Ao59 x202002_10.length co59, .int .i64 t194, .int .i64 t195, .slice Ao17 t196.length co17] 52 (0, 0)) (zk BK201.out) k_ hk⟩)); (case aO => exact (by (with_reducible repeat (first | apply Kd.S_alloc | apply Kd.S_drewN | apply Kd.S_drew)); exact Kd.S_mono HO_6.out (fun k_ hk => ⟨⟨hk.1, hk.2.2.2⟩, fun e_ => e_.elim (fun h_ => hk.2.1 h_) (fun h_ => hk.2.2.1 h_)⟩))); (case aS => exact (below_size zw)); (case aL => have := LMc56.out; omega); intro v229 w58 ho hb hg hat; rw [← Ny228.out] at ho; have n0_ := am (Kd.Q_over' (zo HO_5.out) (Kd.S_typed (zs HO_6.out)) (by decide) hg); have n1_ := am (blk_grown (g := gb201) (o := .cells #[.int .i64 t189, .int .i64 t190, .slice Ao59 x202002_10.length co59, .int .i64 t194, .int .i64 t195, .slice Ao17 t196.length co17] 52 (0, 0)) (zk BK201.out) hg (Kd.S_away HO_6.out (fun _ hk => hk.2.2.2))); have n2_ := am (hb); have n3_ := am (ho); clear HO_5; clear BK201; clear HB; clear HO_6; clear HO_202002; clear HO_202005; have HO_5 := n0_; have BK201 := n1_; have HB := n2_; have HO230 := n3_; clear n0_ n1_ n2_ n3_; clear ho hb hg hat))
               go_roundg kj28
               case measure => have := HK1.out; have := HJ10.out; have := HJ28.out; omega
               case rel => exact ⟨(x5_10), (y228), H', ⟨by have := HK1.out; have := HJ10.out; have := HJ28.out; omega⟩, ⟨by (with_reducible repeat (first | apply Kd.Q_alloc | apply Kd.Q_drewN | apply Kd.Q_drew)); exact Kd.Q_mono HO_5.out (fun _ hk => trivial)⟩, ⟨by (with_reducible repeat (first | apply Kd.S_alloc | apply Kd.S_drewN | apply Kd.S_drew)); exact Kd.S_mono HO230.out (fun _ hk => hk.1)⟩, ⟨zw⟩⟩
              ·rw [if_neg c56] at H
               exact absurd H (by simp)
             ·rw [if_neg c55] at H
              have c55b0 : (t199 == 100) = false := beq_eq_false_iff_ne.mpr c55
              have c55b1 : (t199 != 100) = true := bne_iff_ne.mpr c55
              replace H := Option.bind_eq_some_iff.mp H
              obtain ⟨⟨t231, t232⟩, A600, H⟩ := H
              replace H : (if 0 ≤ t232 then (if t232 ≤ (x5_10.length : Int) then (if x6_1.length < 1759218604441 then (spec_ReadNormal.l0 kj28 a0 (x5_10.drop (t232 : Int).toNat) (x6_1 ++ [(⟨t189, t190, x202002_10, t194, t195, t231⟩ : S52)])) else (none)) else (none)) else (none)) = some (r1, r2, r3) := H
              have A60 := am A600
              clear A600
              by_cases c61 : 0 ≤ t232
              ·rw [if_pos c61] at H
               have c61b0 := eq_true c61
               have c61b1 : decide (0 ≤ t232) = true := decide_eq_true c61
               clear c61
               by_cases c62 : t232 ≤ (x5_10.length : Int)
               ·rw [if_pos c62] at H
                have c62b0 := eq_true c62
                have c62b1 : decide (t232 ≤ (x5_10.length : Int)) = true := decide_eq_true c62
                clear c62
                obtain ⟨y235, hy235⟩ : ∃ y_ : List ByteArray, y_ = (x5_10.drop (t232 : Int).toNat) := ⟨_, rfl⟩
                replace H : (if x6_1.length < 1759218604441 then (spec_ReadNormal.l0 kj28 a0 y235 (x6_1 ++ [(⟨t189, t190, x202002_10, t194, t195, t231⟩ : S52)])) else (none)) = some (r1, r2, r3) := by first | (rw [hy235]; with_reducible exact H) | (have H2_ := (Option.bind_some _ _).symm.trans H; rw [hy235]; with_reducible exact H2_) | (have H2_ := (Option.bind_some _ _).symm.trans H; with_reducible exact H2_) | with_reducible exact H | (rw [hy235]; exact H) | exact H
                have Ny235 := am hy235
                clear hy235
                by_cases c63 : x6_1.length < 1759218604441
                ·rw [if_pos c63] at H
                 have LMc63 := am c63
                 clear c63
                 obtain ⟨y238, hy238⟩ : ∃ y_ : List (S52), y_ = (x6_1 ++ [(⟨t189, t190, x202002_10, t194, t195, t231⟩ : S52)]) := ⟨_, rfl⟩
                 replace H : (spec_ReadNormal.l0 kj28 a0 y235 y238) = some (r1, r2, r3) := by first | (rw [hy238]; with_reducible exact H) | (have H2_ := (Option.bind_some _ _).symm.trans H; rw [hy238]; with_reducible exact H2_) | (have H2_ := (Option.bind_some _ _).symm.trans H; with_reducible exact H2_) | with_reducible exact H | (rw [hy238]; exact H) | exact H
                 have Ny238 := am hy238
                 clear hy238
                 have H' := am H
                 clear H
                 obtain ⟨Ao64, co64, eo64, _⟩ := Kd.Q_slice HO_5.out
                 subst eo64
                 go_wp2_with (first | ((with_reducible refine gateC (f := 47) rfl ?_); refine goesL_ (some 64) rfl rfl Tryz.func47 (by kernel_rfl) rfl #[.slice Ao64 x5_10.length co64, .string (⟨#[62, 32]⟩ : ByteArray)] rfl zm ?_; (with_reducible refine (spec_l5Take.calls kj28 _ _ x5_10 (⟨#[62, 32]⟩ : ByteArray) t231 t232 _ ?side1 ?side2 A60.out).mono ?_); (case side1 => repeat (first | exact (Kd.Q_reads' HO_5.out).2.2 | (with_reducible refine Kd.C_alloc ?_ _) | (with_reducible refine Kd.C_drewN ?_ _) | (with_reducible refine Kd.C_drew ?_))); (case side2 => exact (Kd.Q_reads' HO_5.out).2.1); rintro e w65 ⟨v233, rfl, ho0, hb⟩; refine ⟨_, rfl, ?_⟩; have n0_ := am (Kd.Q_elder' (zo HO_5.out) (Kd.R_base ho0) hb); have n1_ := am (Kd.S_elder' (zs HO_6.out) (Kd.R_base ho0) hb); have n2_ := am (Kd.R_elder' (zr HO_202002.out) (Kd.R_base ho0) hb); have n3_ := am (Kd.R_elder' (zr HO_202005.out) (Kd.R_base ho0) hb); have n4_ := am (Kd.R_lower (Kd.R_new' (Kd.R_new' (Kd.R_new' ho0 (Kd.Q_lt (zo HO_5.out))) (Kd.R_lt (zr HO_202002.out))) (Kd.R_lt (zr HO_202005.out))) (below_size zw)); have n5_ := am (blk_below (g := gb201) (o := .cells #[.int .i64 t189, .int .i64 t190, u202002, .int .i64 t194, .int .i64 t195, .slice Ao17 t196.length co17] 52 (0, 0)) (zk BK201.out) hb); have n6_ := am (below_step zw hb); clear HO_5; clear HO_6; clear HO_202002; clear HO_202005; clear BK201; clear HB; have HO_5 := n0_; have HO_6 := n1_; have HO_202002 := n2_; have HO_202005 := n3_; have HO234 := n4_; have BK201 := n5_; have HB := n6_; clear n0_ n1_ n2_ n3_ n4_ n5_ n6_; (try clear hb); (try clear ho0); obtain ⟨Ao66, co66, eo66⟩ := Kd.R_slice HO234.out; subst eo66; have hcz67_0 : w65.cell? ⟨gb201, 0, none⟩ = some (.int .i64 t189) := (blk_cell BK201.out 0).trans rfl; have hcz67_1 : w65.cell? ⟨gb201, 1, none⟩ = some (.int .i64 t190) := (blk_cell BK201.out 1).trans rfl; have hcz67_2 : w65.cell? ⟨gb201, 2, none⟩ = some (u202002) := (blk_cell BK201.out 2).trans rfl; have hcz67_3 : w65.cell? ⟨gb201, 3, none⟩ = some (.int .i64 t194) := (blk_cell BK201.out 3).trans rfl; have hcz67_4 : w65.cell? ⟨gb201, 4, none⟩ = some (.int .i64 t195) := (blk_cell BK201.out 4).trans rfl; have hcz67_5 : w65.cell? ⟨gb201, 5, none⟩ = some (.slice Ao17 t196.length co17) := (blk_cell BK201.out 5).trans rfl; have hfz67_0 := blk_frozen BK201.out 0; have hfz67_1 := blk_frozen BK201.out 1; have hfz67_2 := blk_frozen BK201.out 2; have hfz67_3 := blk_frozen BK201.out 3; have hfz67_4 := blk_frozen BK201.out 4; have hfz67_5 := blk_frozen BK201.out 5) | ((with_reducible refine gate_store (t := 24) (p := 68) rfl ?_); refine store_event (t := 24) (p := 68) (v := ?vo_w68) (w1 := (w65.setCell ⟨gb201, 5, none⟩ (.slice Ao66 t231.length co66))) ?hg ?ho ?hn ?hr ?_; (case ho => rfl); (case hg => rfl); (case hn => rfl); (case hr => first | (go_simp; done) | (go_simp; rfl)); intro w68 hw; have n0_ : Aside0 (Kd.Q Kd.string 9 w68 w.heap.size (fun k_ => some k_ ≠ (u202002 : Value).ownBlock ∧ some k_ ≠ (.slice Ao17 t196.length co17 : Value).ownBlock ∧ some k_ ≠ (.slice Ao66 t231.length co66 : Value).ownBlock) (.slice Ao64 x5_10.length co64) x5_10) := ⟨(by rw [hw]; exact (by (with_reducible repeat (first | apply Kd.Q_alloc | apply Kd.Q_drewN | apply Kd.Q_drew)); exact Kd.Q_mono (Kd.Q_far (p := ⟨gb201, 5, none⟩) (Kd.Q_types HO_5.out BK201.out (by decide)) (fun _ hk => hk.2) (.slice Ao66 t231.length co66)) (fun _ hk => ⟨hk.1.1.1, ⟨hk.1.1.2, hk.1.2⟩⟩)))⟩; have n1_ : Aside0 (Kd.S k52 52 w68 w.heap.size (fun k_ => some k_ ≠ (.slice Ao64 x5_10.length co64 : Value).ownBlock ∧ some k_ ≠ (u202002 : Value).ownBlock ∧ some k_ ≠ (.slice Ao17 t196.length co17 : Value).ownBlock ∧ some k_ ≠ (.slice Ao66 t231.length co66 : Value).ownBlock ∧ k_ ≠ gb201) u6 x6_1) := ⟨(by rw [hw]; exact (by (with_reducible repeat (first | apply Kd.S_alloc | apply Kd.S_drewN | apply Kd.S_drew)); exact Kd.S_mono (Kd.S_far (p := ⟨gb201, 5, none⟩) (Kd.S_mono HO_6.out (fun k_ hk => (⟨hk, hk.1.2.2.2⟩ : _ ∧ k_ ≠ gb201))) (fun _ hk => hk.2) (.slice Ao66 t231.length co66)) (fun _ hk => ⟨hk.1.1.1, ⟨hk.1.1.2.1, ⟨hk.1.1.2.2.1, ⟨hk.1.2, hk.1.1.2.2.2⟩⟩⟩⟩)))⟩; have n2_ : Aside0 (Kd.R Kd.string 9 w68 w.heap.size (fun k_ => some k_ ≠ (.slice Ao64 x5_10.length co64 : Value).ownBlock ∧ some k_ ≠ (.slice Ao17 t196.length co17 : Value).ownBlock ∧ some k_ ≠ (.slice Ao66 t231.length co66 : Value).ownBlock) u202002 x202002_10) := ⟨(by rw [hw]; exact (by (with_reducible repeat (first | apply Kd.R_alloc | apply Kd.R_drewN | apply Kd.R_drew)); exact Kd.R_mono (Kd.R_far (p := ⟨gb201, 5, none⟩) (Kd.R_types HO_202002.out BK201.out (by decide)) (fun _ hk => hk.2) (.slice Ao66 t231.length co66)) (fun _ hk => ⟨hk.1.1.1, ⟨hk.1.1.2, hk.1.2⟩⟩)))⟩; have n3_ : Aside0 (Kd.R Kd.string 9 w68 w.heap.size (fun k_ => some k_ ≠ (.slice Ao64 x5_10.length co64 : Value).ownBlock ∧ some k_ ≠ (u202002 : Value).ownBlock ∧ some k_ ≠ (.slice Ao66 t231.length co66 : Value).ownBlock) (.slice Ao17 t196.length co17) t196) := ⟨(by rw [hw]; exact (by (with_reducible repeat (first | apply Kd.R_alloc | apply Kd.R_drewN | apply Kd.R_drew)); exact Kd.R_mono (Kd.R_far (p := ⟨gb201, 5, none⟩) (Kd.R_types HO_202005.out BK201.out (by decide)) (fun _ hk => hk.2) (.slice Ao66 t231.length co66)) (fun _ hk => ⟨hk.1.1.1, ⟨hk.1.1.2, hk.1.2⟩⟩)))⟩; have n4_ : Aside0 (Kd.R Kd.string 9 w68 w.heap.size (fun k_ => some k_ ≠ (.slice Ao64 x5_10.length co64 : Value).ownBlock ∧ some k_ ≠ (u202002 : Value).ownBlock ∧ some k_ ≠ (.slice Ao17 t196.length co17 : Value).ownBlock) (.slice Ao66 t231.length co66) t231) := ⟨(by rw [hw]; exact (by (with_reducible repeat (first | apply Kd.R_alloc | apply Kd.R_drewN | apply Kd.R_drew)); exact Kd.R_mono (Kd.R_far (p := ⟨gb201, 5, none⟩) (Kd.R_types HO234.out BK201.out (by decide)) (fun _ hk => hk.2) (.slice Ao66 t231.length co66)) (fun _ hk => ⟨hk.1.1.1.2, ⟨hk.1.1.2, hk.1.2⟩⟩)))⟩; have n5_ : Aside0 (w68.heap[gb201]? = some (.cells #[.int .i64 t189, .int .i64 t190, u202002, .int .i64 t194, .int .i64 t195, .slice Ao66 t231.length co66] 52 (0, 0))) := ⟨(by rw [hw]; exact (by (with_reducible repeat (first | refine blk_drewN ?_ _ | refine blk_drew ?_ | refine blk_alloc ?_ _)); refine blk_put (cs := #[.int .i64 t189, .int .i64 t190, u202002, .int .i64 t194, .int .i64 t195, .slice Ao17 t196.length co17]) ?_ 5 _ rfl; (with_reducible repeat (first | refine blk_drewN ?_ _ | refine blk_drew ?_ | refine blk_alloc ?_ _)); exact BK201.out))⟩; have n6_ : Aside0 (Below w.heap.size w w68) := ⟨(by rw [hw]; exact zw)⟩; clear hw; clear HO_5; clear HO_6; clear HO_202002; clear HO_202005; clear HO234; clear BK201; clear HB; have HO_5 := n0_; have HO_6 := n1_; have HO_202002 := n2_; have HO_202005 := n3_; have HO234 := n4_; have BK201 := n5_; have HB := n6_; clear n0_ n1_ n2_ n3_ n4_ n5_ n6_; have q69 : (t232 : Int) ≤ ((x5_10.length : Int) : Int) := oa; obtain ⟨i069, hi069, _, hsz69, _⟩ := info_parts info9; have hcut69 := cut_from (P := Tryz.prog) 24 9 .i64 Tryz.underlying24 hi069 1 hsz69 Ao64 x5_10.length co64 t232 oa q69; have hr69 := Kd.Q_drop (k := (t232 : Int).toNat) HO_5.out (by omega); obtain ⟨A69, hA69⟩ : ∃ A1, A1 = (if co64 = (t232 : Int).toNat then Ao64 else (Ao64 : Option Addr).map (·.add ((t232 : Int).toNat * 1))) := ⟨_, rfl⟩; obtain ⟨c69, hc69⟩ : ∃ c1, c1 = co64 - (t232 : Int).toNat := ⟨_, rfl⟩; have hy69 : y235.length = x5_10.length - (t232 : Int).toNat := (by rw [Ny235.out, List.length_drop]); rw [← Ny235.out] at hr69; rw [← hy69, ← hA69, ← hc69] at hcut69; replace hr69 : Kd.Q Kd.string 9 w68 w.heap.size (fun k_ => some k_ ≠ (u202002 : Value).ownBlock ∧ some k_ ≠ (.slice Ao17 t196.length co17 : Value).ownBlock ∧ some k_ ≠ (.slice Ao66 t231.length co66 : Value).ownBlock) (.slice A69 y235.length c69) y235 := (by rw [hA69, hc69, hy69]; exact hr69); have HE69 : Aside0 ((Value.slice A69 y235.length c69).ownBlock = (.slice Ao64 x5_10.length co64 : Value).ownBlock) := ⟨by rw [hA69]; split <;> (cases (Ao64 : Option Addr) <;> first | rfl | (simp only [Option.map, Value.ownBlock, Addr.add]; split <;> rfl))⟩; clear hy69 hi069 hsz69 HO_5 hA69 hc69; have HO237 := am hr69; clear hr69; replace q69 := eq_true q69; have n_ := am (Kd.S_mono (ok' := fun k_ => (some k_ ≠ (.slice A69 y235.length c69 : Value).ownBlock ∧ (some k_ ≠ (u202002 : Value).ownBlock ∧ (some k_ ≠ (.slice Ao17 t196.length co17 : Value).ownBlock ∧ (some k_ ≠ (.slice Ao66 t231.length co66 : Value).ownBlock ∧ k_ ≠ gb201))))) HO_6.out (fun k_ hk => ⟨(by rw [HE69.out]; exact hk.1), ⟨hk.2.1, ⟨hk.2.2.1, ⟨hk.2.2.2.1, hk.2.2.2.2⟩⟩⟩⟩)); clear HO_6; have HO_6 := n_; clear n_; have n_ := am (Kd.R_mono (ok' := fun k_ => (some k_ ≠ (.slice A69 y235.length c69 : Value).ownBlock ∧ (some k_ ≠ (.slice Ao17 t196.length co17 : Value).ownBlock ∧ some k_ ≠ (.slice Ao66 t231.length co66 : Value).ownBlock))) HO_202002.out (fun k_ hk => ⟨(by rw [HE69.out]; exact hk.1), ⟨hk.2.1, hk.2.2⟩⟩)); clear HO_202002; have HO_202002 := n_; clear n_; have n_ := am (Kd.R_mono (ok' := fun k_ => (some k_ ≠ (.slice A69 y235.length c69 : Value).ownBlock ∧ (some k_ ≠ (u202002 : Value).ownBlock ∧ some k_ ≠ (.slice Ao66 t231.length co66 : Value).ownBlock))) HO_202005.out (fun k_ hk => ⟨(by rw [HE69.out]; exact hk.1), ⟨hk.2.1, hk.2.2⟩⟩)); clear HO_202005; have HO_202005 := n_; clear n_; have n_ := am (Kd.R_mono (ok' := fun k_ => (some k_ ≠ (.slice A69 y235.length c69 : Value).ownBlock ∧ (some k_ ≠ (u202002 : Value).ownBlock ∧ some k_ ≠ (.slice Ao17 t196.length co17 : Value).ownBlock))) HO234.out (fun k_ hk => ⟨(by rw [HE69.out]; exact hk.1), ⟨hk.2.1, hk.2.2⟩⟩)); clear HO234; have HO234 := n_; clear n_; have hcz70_0 : w68.cell? ⟨gb201, 0, none⟩ = some (.int .i64 t189) := (blk_cell BK201.out 0).trans rfl; have hcz70_1 : w68.cell? ⟨gb201, 1, none⟩ = some (.int .i64 t190) := (blk_cell BK201.out 1).trans rfl; have hcz70_2 : w68.cell? ⟨gb201, 2, none⟩ = some (u202002) := (blk_cell BK201.out 2).trans rfl; have hcz70_3 : w68.cell? ⟨gb201, 3, none⟩ = some (.int .i64 t194) := (blk_cell BK201.out 3).trans rfl; have hcz70_4 : w68.cell? ⟨gb201, 4, none⟩ = some (.int .i64 t195) := (blk_cell BK201.out 4).trans rfl; have hcz70_5 : w68.cell? ⟨gb201, 5, none⟩ = some (.slice Ao66 t231.length co66) := (blk_cell BK201.out 5).trans rfl; have hfz70_0 := blk_frozen BK201.out 0; have hfz70_1 := blk_frozen BK201.out 1; have hfz70_2 := blk_frozen BK201.out 2; have hfz70_3 := blk_frozen BK201.out 3; have hfz70_4 := blk_frozen BK201.out 4; have hfz70_5 := blk_frozen BK201.out 5; obtain ⟨Ao72, co72, eo72⟩ := Kd.R_slice HO_202002.out; subst eo72) | ((with_reducible refine gateB (b := .append) (xs := #[.tmp 72, .tmp 74]) rfl ?_); (try (refine gate_guard (by rfl) ?_; dsimp only)); at_builtin; refine Kd.S_append k52 (w0 := w) w.heap.size rfl (.tmp 72) (.tmp 74) 28 52 (.agg #[(.int .i64 0), (.int .i64 0), (.slice none 0 0), (.int .i64 0), (.int .i64 0), (.slice none 0 0)]) 80 rfl Tryz.underlying28 info52 rfl (by decide) (by omega) u6 x6_1 (⟨t189, t190, x202002_10, t194, t195, t231⟩ : S52) [.int .i64 t189, .int .i64 t190, .slice Ao72 x202002_10.length co72, .int .i64 t194, .int .i64 t195, .slice Ao66 t231.length co66] (fun k_ => some k_ ≠ (.slice A69 y235.length c69 : Value).ownBlock ∧ some k_ ≠ (.slice Ao17 t196.length co17 : Value).ownBlock ∧ k_ ≠ gb201) (fun k_ => some k_ = (.slice Ao72 x202002_10.length co72 : Value).ownBlock ∨ some k_ = (.slice Ao66 t231.length co66 : Value).ownBlock) rfl rfl ?aP (fun k_ hk_ => hk_.elim (fun h_ => ((Kd.R_mono (ok' := fun k_ => ((fun k_ => some k_ ≠ (.slice A69 y235.length c69 : Value).ownBlock ∧ some k_ ≠ (.slice Ao17 t196.length co17 : Value).ownBlock ∧ k_ ≠ gb201)) k_ ∧ some k_ ≠ (u6 : Value).ownBlock) (Kd.R_types (Kd.R_apart' (HO_202002.out) (Kd.S_typed HO_6.out) (by decide)) BK201.out (by decide)) (fun k_ hk => ⟨⟨hk.1.1.1, ⟨hk.1.1.2.1, hk.2⟩⟩, hk.1.2⟩))).1 k_ h_.symm) (fun h_ => ((Kd.R_mono (ok' := fun k_ => ((fun k_ => some k_ ≠ (.slice A69 y235.length c69 : Value).ownBlock ∧ some k_ ≠ (.slice Ao17 t196.length co17 : Value).ownBlock ∧ k_ ≠ gb201)) k_ ∧ some k_ ≠ (u6 : Value).ownBlock) (Kd.R_types (Kd.R_apart' (HO234.out) (Kd.S_typed HO_6.out) (by decide)) BK201.out (by decide)) (fun k_ hk => ⟨⟨hk.1.1.1, ⟨hk.1.1.2.2, hk.2⟩⟩, hk.1.2⟩))).1 k_ h_.symm)) ?aF ?aO ?aB ?aS ?aL ?_; (case aP => exact k52_mkM zy _ _ _ (⟨t189, t190, x202002_10, t194, t195, t231⟩ : S52) (Kd.R_mono (Kd.R_tight rfl (Kd.R_mono (ok' := fun k_ => ((fun k_ => some k_ ≠ (.slice A69 y235.length c69 : Value).ownBlock ∧ some k_ ≠ (.slice Ao17 t196.length co17 : Value).ownBlock ∧ k_ ≠ gb201)) k_ ∧ some k_ ≠ (u6 : Value).ownBlock) (Kd.R_types (Kd.R_apart' (HO_202002.out) (Kd.S_typed HO_6.out) (by decide)) BK201.out (by decide)) (fun k_ hk => ⟨⟨hk.1.1.1, ⟨hk.1.1.2.1, hk.2⟩⟩, hk.1.2⟩))) (fun _ h_ => Or.inl h_)) (Kd.R_mono (Kd.R_tight rfl (Kd.R_mono (ok' := fun k_ => ((fun k_ => some k_ ≠ (.slice A69 y235.length c69 : Value).ownBlock ∧ some k_ ≠ (.slice Ao17 t196.length co17 : Value).ownBlock ∧ k_ ≠ gb201)) k_ ∧ some k_ ≠ (u6 : Value).ownBlock) (Kd.R_types (Kd.R_apart' (HO234.out) (Kd.S_typed HO_6.out) (by decide)) BK201.out (by decide)) (fun k_ hk => ⟨⟨hk.1.1.1, ⟨hk.1.1.2.2, hk.2⟩⟩, hk.1.2⟩))) (fun _ h_ => Or.inr (h_)))); (case aB => exact zw); (case aF => exact (fun k_ hk => ⟨Kd.fresh' (Kd.Q_lt (zo HO237.out)) k_ hk, Kd.fresh' (Kd.R_lt (zr HO_202005.out)) k_ hk, Kd.freshB (g := gb201) (o := .cells #[.int .i64 t189, .int .i64 t190, .slice Ao72 x202002_10.length co72, .int .i64 t194, .int .i64 t195, .slice Ao66 t231.length co66] 52 (0, 0)) (zk BK201.out) k_ hk⟩)); (case aO => exact (by (with_reducible repeat (first | apply Kd.S_alloc | apply Kd.S_drewN | apply Kd.S_drew)); exact Kd.S_mono HO_6.out (fun k_ hk => ⟨⟨hk.1, ⟨hk.2.2.1, hk.2.2.2.2⟩⟩, fun e_ => e_.elim (fun h_ => hk.2.1 h_) (fun h_ => hk.2.2.2.1 h_)⟩))); (case aS => exact (below_size zw)); (case aL => have := LMc63.out; omega); intro v239 w71 ho hb hg hat; rw [← Ny238.out] at ho; have n0_ := am (Kd.Q_over' (zo HO237.out) (Kd.S_typed (zs HO_6.out)) (by decide) hg); have n1_ := am (Kd.R_over' (zr HO_202005.out) (Kd.S_typed (zs HO_6.out)) (by decide) hg); have n2_ := am (blk_grown (g := gb201) (o := .cells #[.int .i64 t189, .int .i64 t190, .slice Ao72 x202002_10.length co72, .int .i64 t194, .int .i64 t195, .slice Ao66 t231.length co66] 52 (0, 0)) (zk BK201.out) hg (Kd.S_away HO_6.out (fun _ hk => hk.2.2.2.2))); have n3_ := am (hb); have n4_ := am (ho); clear HO237; clear HO_202005; clear BK201; clear HB; clear HO_6; clear HO234; clear HO_202002; have HO237 := n0_; have HO_202005 := n1_; have BK201 := n2_; have HB := n3_; have HO240 := n4_; clear n0_ n1_ n2_ n3_ n4_; clear ho hb hg hat))
                 go_roundg kj28
                 case measure => have := HK1.out; have := HJ10.out; have := HJ28.out; omega
                 case rel => exact ⟨(y235), (y238), H', ⟨by have := HK1.out; have := HJ10.out; have := HJ28.out; omega⟩, ⟨by (with_reducible repeat (first | apply Kd.Q_alloc | apply Kd.Q_drewN | apply Kd.Q_drew)); exact Kd.Q_mono HO237.out (fun _ hk => trivial)⟩, ⟨by (with_reducible repeat (first | apply Kd.S_alloc | apply Kd.S_drewN | apply Kd.S_drew)); exact Kd.S_mono HO240.out (fun _ hk => hk.1)⟩, ⟨zw⟩⟩
                ·rw [if_neg c63] at H
                 exact absurd H (by simp)
               ·rw [if_neg c62] at H
                exact absurd H (by simp)
              ·rw [if_neg c61] at H
               exact absurd H (by simp)
       ·rw [if_neg c10] at H
        exact absurd H (by simp)
      ·replace c9 := Bool.eq_false_iff.mpr c9
       subst c9
       have H1 : (some (([] : List (S52)), 1, false)) = some (r1, r2, r3) := by rw [if_neg (show ¬ (false = true) by decide)] at H; exact H
       clear H
       have H := H1
       clear H1
       simp only [Option.some.injEq, Prod.mk.injEq] at H
       obtain ⟨rfl, rfl, rfl⟩ := H
       obtain ⟨Ao73, co73, eo73, _⟩ := Kd.Q_slice HO_5.out
       subst eo73
       have p187 : 0 ≤ (0 : Int) := (by omega)
       have q187 : 0 < (x5_1.length : Int) := oa
       obtain ⟨ad187, e187, hx187_0⟩ := Kd.at_string (Kd.Q_reads' HO_5.out).2.2 0 p187 q187
       cases e187
       have qi187 : (0 < x5_1.length) = True := eq_true (by omega)
       (try rw [show ((0 : Int)).toNat = 0 from rfl] at hx187_0)
       (try rw [Addr.add_zero'] at hx187_0)
       replace p187 := eq_true p187
       replace q187 := eq_true q187
       go_wp2_with (first | ((with_reducible refine gateC (f := 46) rfl ?_); refine goesL_ (some 30) rfl rfl Tryz.func46 (by kernel_rfl) rfl #[.string (rdOf ByteArray.empty x5_1 0)] rfl zm ?_; (with_reducible refine (spec_l1Plain.calls (rdOf ByteArray.empty x5_1 0) t188 _ A7.out).mono ?_); rintro e w' ⟨rfl, ⟨nd, rfl⟩⟩; refine ⟨_, rfl, ?_⟩; (try (rw [drewN_self wr]; generalize hq_ : World.drewN wr _ = wr; have n0_ : Aside0 (Kd.Q Kd.string 9 wr w.heap.size (fun _ => True) (.slice (some ad187) x5_1.length co73) x5_1) := ⟨by rw [← hq_]; exact (zo HO_5.out)⟩; have n1_ : Aside0 (Kd.S k52 52 wr w.heap.size (fun k_ => some k_ ≠ (.slice (some ad187) x5_1.length co73 : Value).ownBlock) u6 x6_1) := ⟨by rw [← hq_]; exact (zs HO_6.out)⟩; have n2_ : Aside0 (Below w.heap.size w wr) := ⟨by rw [← hq_]; exact zb⟩; clear HO_5 HO_6 HB hq_; have HO_5 := n0_; have HO_6 := n1_; have HB := n2_; clear n0_ n1_ n2_))) | ((with_reducible refine gateC (f := 45) rfl ?_); refine goesL_ (some 31) rfl rfl Tryz.func45 (by kernel_rfl) rfl #[.string t188] rfl zm ?_; (with_reducible refine (spec_l5Head.calls k1 t188 t189 t190 t191 t194 t195 t196 t199 false _ A8.out).mono ?_); rintro e w74 ⟨v192, v197, rfl, ho0, ho1, hb⟩; refine ⟨_, rfl, ?_⟩; have n0_ := am (Kd.Q_mono (Kd.Q_told (Kd.Q_told (Kd.Q_old (zo HO_5.out) hb) (Kd.R_base ho0)) (Kd.R_base ho1)) (fun _ h_ => h_.1)); have n1_ := am (Kd.S_mono (Kd.S_told (Kd.S_told (Kd.S_old (zs HO_6.out) hb) (Kd.R_base ho0)) (Kd.R_base ho1)) (fun _ h_ => h_.1)); have n2_ := am (Kd.R_lower (Kd.R_new' ho0 (Kd.Q_lt (zo HO_5.out))) (below_size zb)); have n3_ := am (Kd.R_lower (Kd.R_new' ho1 (Kd.Q_lt (zo HO_5.out))) (below_size zb)); have n4_ := am (below_step zb hb); clear HO_5; clear HO_6; clear HB; have HO_5 := n0_; have HO_6 := n1_; have HO193 := n2_; have HO198 := n3_; have HB := n4_; clear n0_ n1_ n2_ n3_ n4_; (try clear hb); (try clear ho0); (try clear ho1)) | ((with_reducible refine gate_dst (N := 7) rfl ?_); (try (refine gate_guard (by rfl) ?_; dsimp only)); refine box_event ?hg (N := 7) ?hd (cs := #[.int .i64 0, .int .i64 0, .slice none 0 0, .int .i64 0, .int .i64 0, .slice none 0 0]) (t := 52) ?hr ?_; (case hd => rfl); (case hg => rfl); (case hr => first | (go_simp; done) | (go_simp; rfl)); intro gb201 hg w75 hbox hb; have n0_ := am (Kd.Q_below (zo HO_5.out) hb); have n1_ := am (Kd.S_below (Kd.S_elderB (zs HO_6.out) gb201 (Nat.le_of_eq hg.symm)) hb); have n2_ := am (Kd.R_below (zr HO193.out) hb); have n3_ := am (Kd.R_below (zr HO198.out) hb); have n4_ := am (below_step zb hb); have n5_ := am (hbox); have n6_ := am ((by rw [hg]; exact (below_size zb) : w.heap.size ≤ gb201)); have n7_ := am ((by rw [hg]; exact (below_size zb) : w.heap.size ≤ gb201)); clear HO_5; clear HO_6; clear HO193; clear HO198; clear HB; have HO_5 := n0_; have HO_6 := n1_; have HO193 := n2_; have HO198 := n3_; have HB := n4_; have BK201 := n5_; have GW201 := n6_; have GE201 := n7_; clear n0_ n1_ n2_ n3_ n4_ n5_ n6_ n7_; clear hb hbox hg; have hcz76_0 : w75.cell? ⟨gb201, 0, none⟩ = some (.int .i64 0) := (blk_cell BK201.out 0).trans rfl; have hcz76_1 : w75.cell? ⟨gb201, 1, none⟩ = some (.int .i64 0) := (blk_cell BK201.out 1).trans rfl; have hcz76_2 : w75.cell? ⟨gb201, 2, none⟩ = some (.slice none 0 0) := (blk_cell BK201.out 2).trans rfl; have hcz76_3 : w75.cell? ⟨gb201, 3, none⟩ = some (.int .i64 0) := (blk_cell BK201.out 3).trans rfl; have hcz76_4 : w75.cell? ⟨gb201, 4, none⟩ = some (.int .i64 0) := (blk_cell BK201.out 4).trans rfl; have hcz76_5 : w75.cell? ⟨gb201, 5, none⟩ = some (.slice none 0 0) := (blk_cell BK201.out 5).trans rfl; have hfz76_0 := blk_frozen BK201.out 0; have hfz76_1 := blk_frozen BK201.out 1; have hfz76_2 := blk_frozen BK201.out 2; have hfz76_3 := blk_frozen BK201.out 3; have hfz76_4 := blk_frozen BK201.out 4; have hfz76_5 := blk_frozen BK201.out 5; obtain ⟨Ao77, co77, eo77⟩ := Kd.R_slice HO193.out; subst eo77; obtain ⟨Ao78, co78, eo78⟩ := Kd.R_slice HO198.out; subst eo78))
       go_ret3
       exact ⟨_, by first | rfl | (simp [errW_none, errW_some] <;> rfl) | (simp [*, errW_none, errW_some] <;> rfl), by first | exact Kd.S_nil _ _ _ _ _ | exact Kd.Q_nil _ _ _ _ _ | exact Kd.R_nil _ _ _ _ _, zw⟩
     ·rw [if_neg c6] at H
      exact absurd H (by simp)
    ·rw [if_neg c5] at H
     have c5b0 : decide (0 < (x5_1.length : Int)) = false := decide_eq_false c5
     have c5b1 : decide (0 < x5_1.length) = false := decide_eq_false (by omega)
     clear c5
     have H' := am H
     clear H
     obtain ⟨Ao79, co79, eo79, _⟩ := Kd.Q_slice HO_5.out
     subst eo79
     obtain ⟨Ao80, co80, eo80⟩ := Kd.S_slice HO_6.out
     subst eo80
     go_wp2
     go_loopg [78] k1 (fun kq v78 w' => ∃ (x78_2 : Int), v78 = .int .i64 x78_2 ∧ Aside0 (spec_ReadNormal.l1 kq a0 x6_1 x6_1 (x6_1.length : Int) x78_2 = some (r1, r2, r3)) ∧ Aside0 (kq ≤ k1) ∧ Aside0 (Kd.S k52 52 w' w.heap.size (fun _ => True) (.slice Ao80 x6_1.length co80) x6_1) ∧ Aside0 (Kd.S k52 52 w' w.heap.size (fun _ => True) (.slice Ao80 x6_1.length co80) x6_1) ∧ Aside0 (Below w.heap.size w w'))
     case atStart => exact ⟨(0), zf, H', ⟨Nat.le_refl _⟩, ⟨by (with_reducible repeat (first | apply Kd.S_alloc | apply Kd.S_drewN | apply Kd.S_drew)); exact Kd.S_mono HO_6.out (fun _ hk => trivial)⟩, ⟨by (with_reducible repeat (first | apply Kd.S_alloc | apply Kd.S_drewN | apply Kd.S_drew)); exact Kd.S_mono HO_6.out (fun _ hk => trivial)⟩, ⟨zb⟩⟩
     case round =>
      clear H'
      try clear c1
      try clear p1
      try clear q1
      try clear hx1
      try clear qi1
      try clear c2
      try clear c2b0
      try clear c2b1
      try clear p2
      try clear q2
      try clear c3
      try clear q3
      try clear c4
      try clear q4
      try clear c5
      try clear c5b0
      try clear c5b1
      try clear q5
      try clear c6
      try clear c6b0
      try clear c6b1
      try clear q6
      try clear c9
      try clear c10
      try clear c10b0
      try clear c10b1
      try clear p18
      try clear q18
      try clear hx18
      try clear qi18
      try clear c19
      try clear q19
      try clear c20
      try clear c20b0
      try clear c20b1
      try clear c21
      try clear c22
      try clear c22b0
      try clear c22b1
      try clear c23
      try clear c23b0
      try clear c23b1
      try clear c28
      try clear q28
      try clear c30
      try clear c30b0
      try clear c30b1
      try clear c32
      try clear c33
      try clear c33b0
      try clear c33b1
      try clear c34
      try clear c34b0
      try clear c34b1
      try clear c35
      try clear c37
      try clear q37
      try clear c42
      try clear c42b0
      try clear c42b1
      try clear c43
      try clear c43b0
      try clear c43b1
      try clear c44
      try clear c45
      try clear c46
      try clear q46
      try clear c47
      try clear c51
      try clear q51
      try clear c55
      try clear c55b0
      try clear c55b1
      try clear c56
      try clear c61
      try clear c61b0
      try clear c61b1
      try clear c62
      try clear c62b0
      try clear c62b1
      try clear c63
      try clear c69
      try clear q69
      try clear hcz15_0
      try clear hcz15_1
      try clear hcz15_2
      try clear hcz15_3
      try clear hcz15_4
      try clear hcz15_5
      try clear hcz26_0
      try clear hcz26_1
      try clear hcz26_2
      try clear hcz26_3
      try clear hcz26_4
      try clear hcz26_5
      try clear hcz38_0
      try clear hcz38_1
      try clear hcz38_2
      try clear hcz38_3
      try clear hcz38_4
      try clear hcz38_5
      try clear hcz49_0
      try clear hcz49_1
      try clear hcz49_2
      try clear hcz49_3
      try clear hcz49_4
      try clear hcz49_5
      try clear hcz52_0
      try clear hcz52_1
      try clear hcz52_2
      try clear hcz52_3
      try clear hcz52_4
      try clear hcz52_5
      try clear hcz57_0
      try clear hcz57_1
      try clear hcz57_2
      try clear hcz57_3
      try clear hcz57_4
      try clear hcz57_5
      try clear hcz67_0
      try clear hcz67_1
      try clear hcz67_2
      try clear hcz67_3
      try clear hcz67_4
      try clear hcz67_5
      try clear hcz70_0
      try clear hcz70_1
      try clear hcz70_2
      try clear hcz70_3
      try clear hcz70_4
      try clear hcz70_5
      try clear hcz76_0
      try clear hcz76_1
      try clear hcz76_2
      try clear hcz76_3
      try clear hcz76_4
      try clear hcz76_5
      try clear hfz15_0
      try clear hfz15_1
      try clear hfz15_2
      try clear hfz15_3
      try clear hfz15_4
      try clear hfz15_5
      try clear hfz26_0
      try clear hfz26_1
      try clear hfz26_2
      try clear hfz26_3
      try clear hfz26_4
      try clear hfz26_5
      try clear hfz38_0
      try clear hfz38_1
      try clear hfz38_2
      try clear hfz38_3
      try clear hfz38_4
      try clear hfz38_5
      try clear hfz49_0
      try clear hfz49_1
      try clear hfz49_2
      try clear hfz49_3
      try clear hfz49_4
      try clear hfz49_5
      try clear hfz52_0
      try clear hfz52_1
      try clear hfz52_2
      try clear hfz52_3
      try clear hfz52_4
      try clear hfz52_5
      try clear hfz57_0
      try clear hfz57_1
      try clear hfz57_2
      try clear hfz57_3
      try clear hfz57_4
      try clear hfz57_5
      try clear hfz67_0
      try clear hfz67_1
      try clear hfz67_2
      try clear hfz67_3
      try clear hfz67_4
      try clear hfz67_5
      try clear hfz70_0
      try clear hfz70_1
      try clear hfz70_2
      try clear hfz70_3
      try clear hfz70_4
      try clear hfz70_5
      try clear hfz76_0
      try clear hfz76_1
      try clear hfz76_2
      try clear hfz76_3
      try clear hfz76_4
      try clear hfz76_5
      try clear hx187_0
      try clear p1
      try clear p18
      try clear p187
      try clear p2
      try clear q1
      try clear q18
      try clear q187
      try clear q19
      try clear q2
      try clear q28
      try clear q37
      try clear q46
      try clear q51
      try clear q69
      obtain ⟨x78_2, rfl, HA, HK2, HO_6, HO_76, HB⟩ := hrel
      cases gk with
      | zero => exact absurd HA.out (by simp [spec_ReadNormal.l1])
      | succ k2 =>
       have H := HA.out
       clear HA
       simp only [spec_ReadNormal.l1] at H
       by_cases c81 : x78_2 < (x6_1.length : Int)
       ·rw [if_pos c81] at H
        have c81b0 : decide (x78_2 < (x6_1.length : Int)) = true := decide_eq_true c81
        clear c81
        by_cases c82 : 0 ≤ x78_2
        ·rw [if_pos c82] at H
         have c82b0 : decide (0 ≤ x78_2) = true := decide_eq_true c82
         clear c82
         by_cases c83 : x78_2 < (x6_1.length : Int)
         ·rw [if_pos c83] at H
          have c83b0 : decide (x78_2 < (x6_1.length : Int)) = true := decide_eq_true c83
          clear c83
          replace H := Option.bind_eq_some_iff.mp H
          obtain ⟨t243, A840, H⟩ := H
          replace H : (if t243.length + ((rd_T52 x6_1 x78_2).f5).length < 8796093022208 then ((some (t243 ++ ((rd_T52 x6_1 x78_2).f5) : List ByteArray)).bind fun y246 => (spec_ReadNormal.l2 k2 a0 x6_1 x6_1 (x6_1.length : Int) x78_2 y246 (y246.length : Int) 0)) else (none)) = some (r1, r2, r3) := H
          have A84 := am A840
          clear A840
          by_cases c85 : t243.length + ((rd_T52 x6_1 x78_2).f5).length < 8796093022208
          ·rw [if_pos c85] at H
           have LMc85 := am c85
           clear c85
           obtain ⟨y246, hy246⟩ : ∃ y_ : List ByteArray, y_ = (t243 ++ ((rd_T52 x6_1 x78_2).f5)) := ⟨_, rfl⟩
           replace H : (spec_ReadNormal.l2 k2 a0 x6_1 x6_1 (x6_1.length : Int) x78_2 y246 (y246.length : Int) 0) = some (r1, r2, r3) := by first | (rw [hy246]; with_reducible exact H) | (have H2_ := (Option.bind_some _ _).symm.trans H; rw [hy246]; with_reducible exact H2_) | (have H2_ := (Option.bind_some _ _).symm.trans H; with_reducible exact H2_) | with_reducible exact H | (rw [hy246]; exact H) | exact H
           have Ny246 := am hy246
           clear hy246
           have H' := am H
           clear H
           have p241 : 0 ≤ (x78_2 : Int) := oa
           have q241 : x78_2 < (x6_1.length : Int) := oa
           obtain ⟨ad241, A241_2, c241_2, A241_5, c241_5, e241, hx241_0, hx241_1, hx241_2, hx241_3, hx241_4, hx241_5, hl241_2, hi241_2, hl241_5, hi241_5⟩ := at_T52 (Kd.S_reads' HO_76.out).2.2 x78_2 p241 q241
           cases e241
           obtain ⟨ce241, hce241, hMe241, hcc241⟩ := Kd.S_get HO_76.out z52 x78_2 p241 (by first | exact q241 | exact oa | (have e_ := (Kd.S_reads' HO_76.out).1; omega))
           obtain ⟨ve241_2, ve241_5, rfl, ge241_2, ge241_5⟩ := k52_openM hMe241
           have hv241_2 := hcc241 2 _ rfl
           rw [add_field _ _ 2 (by omega)] at hv241_2
           replace hv241_2 := Option.some.inj (hv241_2.symm.trans hx241_2)
           rw [hv241_2] at ge241_2
           have HL241_2 := am (show Kd.R Kd.string 9 _ _ _ _ ((rd_T52 x6_1 x78_2).f2) from ge241_2)
           clear hv241_2 ge241_2
           have hv241_5 := hcc241 5 _ rfl
           rw [add_field _ _ 5 (by omega)] at hv241_5
           replace hv241_5 := Option.some.inj (hv241_5.symm.trans hx241_5)
           rw [hv241_5] at ge241_5
           have HL241_5 := am (show Kd.R Kd.string 9 _ _ _ _ ((rd_T52 x6_1 x78_2).f5) from ge241_5)
           clear hv241_5 ge241_5
           clear hcc241 hce241
           have HR241_2 := am hi241_2
           have HC241_2 := am hl241_2
           clear hi241_2 hl241_2
           have HR241_5 := am hi241_5
           have HC241_5 := am hl241_5
           clear hi241_5 hl241_5
           replace p241 := eq_true p241
           replace q241 := eq_true q241
           try go_wp2_with (first | ((with_reducible refine gate_dst (N := 15) rfl ?_); (try (refine gate_guard (by rfl) ?_; dsimp only)); refine box_event ?hg (N := 15) ?hd (cs := #[.int .i64 0, .int .i64 0, .slice none 0 0, .int .i64 0, .int .i64 0, .slice none 0 0]) (t := 52) ?hr ?_; (case hd => rfl); (case hg => rfl); (case hr => first | (go_simp; done) | (go_simp; rfl)); intro gb242 hg w86 hbox hb; have n0_ := am (Kd.S_below (Kd.S_elderB (zs HO_6.out) gb242 (Nat.le_of_eq hg.symm)) hb); have n1_ := am (Kd.S_below (Kd.S_elderB (zs HO_76.out) gb242 (Nat.le_of_eq hg.symm)) hb); have n2_ := am (Kd.R_below (zr HL241_2.out) hb); have n3_ := am (Kd.R_below (zr HL241_5.out) hb); have n4_ := am (Kd.C_below (by repeat (first | (with_reducible exact HR241_2.out) | (with_reducible refine Kd.C_alloc ?_ _) | (with_reducible refine Kd.C_drewN ?_ _) | (with_reducible refine Kd.C_drew ?_) | exact HR241_2.out)) hb); have n5_ := am (Kd.C_below (by repeat (first | (with_reducible exact HR241_5.out) | (with_reducible refine Kd.C_alloc ?_ _) | (with_reducible refine Kd.C_drewN ?_ _) | (with_reducible refine Kd.C_drew ?_) | exact HR241_5.out)) hb); have n6_ := am (below_step zb hb); have n7_ := am (hbox); have n8_ := am ((by rw [hg]; exact (below_size zb) : w.heap.size ≤ gb242)); have n9_ := am ((by rw [hg]; exact (below_size zb) : w.heap.size ≤ gb242)); clear HO_6; clear HO_76; clear HL241_2; clear HL241_5; clear HR241_2; clear HR241_5; clear HB; have HO_6 := n0_; have HO_76 := n1_; have HL241_2 := n2_; have HL241_5 := n3_; have HR241_2 := n4_; have HR241_5 := n5_; have HB := n6_; have BK242 := n7_; have GW242 := n8_; have GE242 := n9_; clear n0_ n1_ n2_ n3_ n4_ n5_ n6_ n7_ n8_ n9_; clear hb hbox hg; have hcz87_0 : w86.cell? ⟨gb242, 0, none⟩ = some (.int .i64 0) := (blk_cell BK242.out 0).trans rfl; have hcz87_1 : w86.cell? ⟨gb242, 1, none⟩ = some (.int .i64 0) := (blk_cell BK242.out 1).trans rfl; have hcz87_2 : w86.cell? ⟨gb242, 2, none⟩ = some (.slice none 0 0) := (blk_cell BK242.out 2).trans rfl; have hcz87_3 : w86.cell? ⟨gb242, 3, none⟩ = some (.int .i64 0) := (blk_cell BK242.out 3).trans rfl; have hcz87_4 : w86.cell? ⟨gb242, 4, none⟩ = some (.int .i64 0) := (blk_cell BK242.out 4).trans rfl; have hcz87_5 : w86.cell? ⟨gb242, 5, none⟩ = some (.slice none 0 0) := (blk_cell BK242.out 5).trans rfl; have hfz87_0 := blk_frozen BK242.out 0; have hfz87_1 := blk_frozen BK242.out 1; have hfz87_2 := blk_frozen BK242.out 2; have hfz87_3 := blk_frozen BK242.out 3; have hfz87_4 := blk_frozen BK242.out 4; have hfz87_5 := blk_frozen BK242.out 5))
           have n0_ : Aside0 (Kd.S k52 52 ((((((w86.setCell ⟨gb242, 0, none⟩ (.int .i64 ((rd_T52 x6_1 x78_2).f0))).setCell ⟨gb242, 1, none⟩ (.int .i64 ((rd_T52 x6_1 x78_2).f1))).setCell ⟨gb242, 2, none⟩ (.slice A241_2 ((rd_T52 x6_1 x78_2).f2).length c241_2)).setCell ⟨gb242, 3, none⟩ (.int .i64 ((rd_T52 x6_1 x78_2).f3))).setCell ⟨gb242, 4, none⟩ (.int .i64 ((rd_T52 x6_1 x78_2).f4))).setCell ⟨gb242, 5, none⟩ (.slice A241_5 ((rd_T52 x6_1 x78_2).f5).length c241_5)) w.heap.size (fun k_ => k_ ≠ gb242) (.slice (some ad241) x6_1.length co80) x6_1) := ⟨by (with_reducible repeat (first | apply Kd.S_alloc | apply Kd.S_drewN | apply Kd.S_drew)); exact Kd.S_mono (Kd.S_far (p := ⟨gb242, 5, none⟩) (Kd.S_far (p := ⟨gb242, 4, none⟩) (Kd.S_far (p := ⟨gb242, 3, none⟩) (Kd.S_far (p := ⟨gb242, 2, none⟩) (Kd.S_far (p := ⟨gb242, 1, none⟩) (Kd.S_far (p := ⟨gb242, 0, none⟩) (Kd.S_mono HO_6.out (fun k_ hk => (⟨hk, hk.2⟩ : _ ∧ k_ ≠ gb242))) (fun _ hk => hk.2) (.int .i64 ((rd_T52 x6_1 x78_2).f0))) (fun _ hk => hk.2) (.int .i64 ((rd_T52 x6_1 x78_2).f1))) (fun _ hk => hk.2) (.slice A241_2 ((rd_T52 x6_1 x78_2).f2).length c241_2)) (fun _ hk => hk.2) (.int .i64 ((rd_T52 x6_1 x78_2).f3))) (fun _ hk => hk.2) (.int .i64 ((rd_T52 x6_1 x78_2).f4))) (fun _ hk => hk.2) (.slice A241_5 ((rd_T52 x6_1 x78_2).f5).length c241_5)) (fun _ hk => hk.1.2)⟩
           have n1_ : Aside0 (Kd.S k52 52 ((((((w86.setCell ⟨gb242, 0, none⟩ (.int .i64 ((rd_T52 x6_1 x78_2).f0))).setCell ⟨gb242, 1, none⟩ (.int .i64 ((rd_T52 x6_1 x78_2).f1))).setCell ⟨gb242, 2, none⟩ (.slice A241_2 ((rd_T52 x6_1 x78_2).f2).length c241_2)).setCell ⟨gb242, 3, none⟩ (.int .i64 ((rd_T52 x6_1 x78_2).f3))).setCell ⟨gb242, 4, none⟩ (.int .i64 ((rd_T52 x6_1 x78_2).f4))).setCell ⟨gb242, 5, none⟩ (.slice A241_5 ((rd_T52 x6_1 x78_2).f5).length c241_5)) w.heap.size (fun k_ => k_ ≠ gb242) (.slice (some ad241) x6_1.length co80) x6_1) := ⟨by (with_reducible repeat (first | apply Kd.S_alloc | apply Kd.S_drewN | apply Kd.S_drew)); exact Kd.S_mono (Kd.S_far (p := ⟨gb242, 5, none⟩) (Kd.S_far (p := ⟨gb242, 4, none⟩) (Kd.S_far (p := ⟨gb242, 3, none⟩) (Kd.S_far (p := ⟨gb242, 2, none⟩) (Kd.S_far (p := ⟨gb242, 1, none⟩) (Kd.S_far (p := ⟨gb242, 0, none⟩) (Kd.S_mono HO_76.out (fun k_ hk => (⟨hk, hk.2⟩ : _ ∧ k_ ≠ gb242))) (fun _ hk => hk.2) (.int .i64 ((rd_T52 x6_1 x78_2).f0))) (fun _ hk => hk.2) (.int .i64 ((rd_T52 x6_1 x78_2).f1))) (fun _ hk => hk.2) (.slice A241_2 ((rd_T52 x6_1 x78_2).f2).length c241_2)) (fun _ hk => hk.2) (.int .i64 ((rd_T52 x6_1 x78_2).f3))) (fun _ hk => hk.2) (.int .i64 ((rd_T52 x6_1 x78_2).f4))) (fun _ hk => hk.2) (.slice A241_5 ((rd_T52 x6_1 x78_2).f5).length c241_5)) (fun _ hk => hk.1.2)⟩
           have n2_ : Aside0 (Kd.R Kd.string 9 ((((((w86.setCell ⟨gb242, 0, none⟩ (.int .i64 ((rd_T52 x6_1 x78_2).f0))).setCell ⟨gb242, 1, none⟩ (.int .i64 ((rd_T52 x6_1 x78_2).f1))).setCell ⟨gb242, 2, none⟩ (.slice A241_2 ((rd_T52 x6_1 x78_2).f2).length c241_2)).setCell ⟨gb242, 3, none⟩ (.int .i64 ((rd_T52 x6_1 x78_2).f3))).setCell ⟨gb242, 4, none⟩ (.int .i64 ((rd_T52 x6_1 x78_2).f4))).setCell ⟨gb242, 5, none⟩ (.slice A241_5 ((rd_T52 x6_1 x78_2).f5).length c241_5)) w.heap.size (fun k_ => some k_ ≠ (.slice (some ad241) x6_1.length co80 : Value).ownBlock) (.slice A241_2 ((rd_T52 x6_1 x78_2).f2).length c241_2) ((rd_T52 x6_1 x78_2).f2)) := ⟨by (with_reducible repeat (first | apply Kd.R_alloc | apply Kd.R_drewN | apply Kd.R_drew)); exact Kd.R_mono (Kd.R_far (p := ⟨gb242, 5, none⟩) (Kd.R_far (p := ⟨gb242, 4, none⟩) (Kd.R_far (p := ⟨gb242, 3, none⟩) (Kd.R_far (p := ⟨gb242, 2, none⟩) (Kd.R_far (p := ⟨gb242, 1, none⟩) (Kd.R_far (p := ⟨gb242, 0, none⟩) (Kd.R_types HL241_2.out BK242.out (by decide)) (fun _ hk => hk.2) (.int .i64 ((rd_T52 x6_1 x78_2).f0))) (fun _ hk => hk.2) (.int .i64 ((rd_T52 x6_1 x78_2).f1))) (fun _ hk => hk.2) (.slice A241_2 ((rd_T52 x6_1 x78_2).f2).length c241_2)) (fun _ hk => hk.2) (.int .i64 ((rd_T52 x6_1 x78_2).f3))) (fun _ hk => hk.2) (.int .i64 ((rd_T52 x6_1 x78_2).f4))) (fun _ hk => hk.2) (.slice A241_5 ((rd_T52 x6_1 x78_2).f5).length c241_5)) (fun _ hk => hk.1.2)⟩
           have n3_ : Aside0 (Kd.R Kd.string 9 ((((((w86.setCell ⟨gb242, 0, none⟩ (.int .i64 ((rd_T52 x6_1 x78_2).f0))).setCell ⟨gb242, 1, none⟩ (.int .i64 ((rd_T52 x6_1 x78_2).f1))).setCell ⟨gb242, 2, none⟩ (.slice A241_2 ((rd_T52 x6_1 x78_2).f2).length c241_2)).setCell ⟨gb242, 3, none⟩ (.int .i64 ((rd_T52 x6_1 x78_2).f3))).setCell ⟨gb242, 4, none⟩ (.int .i64 ((rd_T52 x6_1 x78_2).f4))).setCell ⟨gb242, 5, none⟩ (.slice A241_5 ((rd_T52 x6_1 x78_2).f5).length c241_5)) w.heap.size (fun k_ => some k_ ≠ (.slice (some ad241) x6_1.length co80 : Value).ownBlock) (.slice A241_5 ((rd_T52 x6_1 x78_2).f5).length c241_5) ((rd_T52 x6_1 x78_2).f5)) := ⟨by (with_reducible repeat (first | apply Kd.R_alloc | apply Kd.R_drewN | apply Kd.R_drew)); exact Kd.R_mono (Kd.R_far (p := ⟨gb242, 5, none⟩) (Kd.R_far (p := ⟨gb242, 4, none⟩) (Kd.R_far (p := ⟨gb242, 3, none⟩) (Kd.R_far (p := ⟨gb242, 2, none⟩) (Kd.R_far (p := ⟨gb242, 1, none⟩) (Kd.R_far (p := ⟨gb242, 0, none⟩) (Kd.R_types HL241_5.out BK242.out (by decide)) (fun _ hk => hk.2) (.int .i64 ((rd_T52 x6_1 x78_2).f0))) (fun _ hk => hk.2) (.int .i64 ((rd_T52 x6_1 x78_2).f1))) (fun _ hk => hk.2) (.slice A241_2 ((rd_T52 x6_1 x78_2).f2).length c241_2)) (fun _ hk => hk.2) (.int .i64 ((rd_T52 x6_1 x78_2).f3))) (fun _ hk => hk.2) (.int .i64 ((rd_T52 x6_1 x78_2).f4))) (fun _ hk => hk.2) (.slice A241_5 ((rd_T52 x6_1 x78_2).f5).length c241_5)) (fun _ hk => hk.1.2)⟩
           have n4_ : Aside0 (((((((w86.setCell ⟨gb242, 0, none⟩ (.int .i64 ((rd_T52 x6_1 x78_2).f0))).setCell ⟨gb242, 1, none⟩ (.int .i64 ((rd_T52 x6_1 x78_2).f1))).setCell ⟨gb242, 2, none⟩ (.slice A241_2 ((rd_T52 x6_1 x78_2).f2).length c241_2)).setCell ⟨gb242, 3, none⟩ (.int .i64 ((rd_T52 x6_1 x78_2).f3))).setCell ⟨gb242, 4, none⟩ (.int .i64 ((rd_T52 x6_1 x78_2).f4))).setCell ⟨gb242, 5, none⟩ (.slice A241_5 ((rd_T52 x6_1 x78_2).f5).length c241_5)).heap[gb242]? = some (.cells #[.int .i64 ((rd_T52 x6_1 x78_2).f0), .int .i64 ((rd_T52 x6_1 x78_2).f1), .slice A241_2 ((rd_T52 x6_1 x78_2).f2).length c241_2, .int .i64 ((rd_T52 x6_1 x78_2).f3), .int .i64 ((rd_T52 x6_1 x78_2).f4), .slice A241_5 ((rd_T52 x6_1 x78_2).f5).length c241_5] 52 (0, 0))) := ⟨by (with_reducible repeat (first | refine blk_drewN ?_ _ | refine blk_drew ?_ | refine blk_alloc ?_ _)); refine blk_put (cs := #[.int .i64 ((rd_T52 x6_1 x78_2).f0), .int .i64 ((rd_T52 x6_1 x78_2).f1), .slice A241_2 ((rd_T52 x6_1 x78_2).f2).length c241_2, .int .i64 ((rd_T52 x6_1 x78_2).f3), .int .i64 ((rd_T52 x6_1 x78_2).f4), .slice none 0 0]) ?_ 5 _ rfl; (with_reducible repeat (first | refine blk_drewN ?_ _ | refine blk_drew ?_ | refine blk_alloc ?_ _)); refine blk_put (cs := #[.int .i64 ((rd_T52 x6_1 x78_2).f0), .int .i64 ((rd_T52 x6_1 x78_2).f1), .slice A241_2 ((rd_T52 x6_1 x78_2).f2).length c241_2, .int .i64 ((rd_T52 x6_1 x78_2).f3), .int .i64 0, .slice none 0 0]) ?_ 4 _ rfl; (with_reducible repeat (first | refine blk_drewN ?_ _ | refine blk_drew ?_ | refine blk_alloc ?_ _)); refine blk_put (cs := #[.int .i64 ((rd_T52 x6_1 x78_2).f0), .int .i64 ((rd_T52 x6_1 x78_2).f1), .slice A241_2 ((rd_T52 x6_1 x78_2).f2).length c241_2, .int .i64 0, .int .i64 0, .slice none 0 0]) ?_ 3 _ rfl; (with_reducible repeat (first | refine blk_drewN ?_ _ | refine blk_drew ?_ | refine blk_alloc ?_ _)); refine blk_put (cs := #[.int .i64 ((rd_T52 x6_1 x78_2).f0), .int .i64 ((rd_T52 x6_1 x78_2).f1), .slice none 0 0, .int .i64 0, .int .i64 0, .slice none 0 0]) ?_ 2 _ rfl; (with_reducible repeat (first | refine blk_drewN ?_ _ | refine blk_drew ?_ | refine blk_alloc ?_ _)); refine blk_put (cs := #[.int .i64 ((rd_T52 x6_1 x78_2).f0), .int .i64 0, .slice none 0 0, .int .i64 0, .int .i64 0, .slice none 0 0]) ?_ 1 _ rfl; (with_reducible repeat (first | refine blk_drewN ?_ _ | refine blk_drew ?_ | refine blk_alloc ?_ _)); refine blk_put (cs := #[.int .i64 0, .int .i64 0, .slice none 0 0, .int .i64 0, .int .i64 0, .slice none 0 0]) ?_ 0 _ rfl; (with_reducible repeat (first | refine blk_drewN ?_ _ | refine blk_drew ?_ | refine blk_alloc ?_ _)); exact BK242.out⟩
           have n5_ : Aside0 (Below w.heap.size w ((((((w86.setCell ⟨gb242, 0, none⟩ (.int .i64 ((rd_T52 x6_1 x78_2).f0))).setCell ⟨gb242, 1, none⟩ (.int .i64 ((rd_T52 x6_1 x78_2).f1))).setCell ⟨gb242, 2, none⟩ (.slice A241_2 ((rd_T52 x6_1 x78_2).f2).length c241_2)).setCell ⟨gb242, 3, none⟩ (.int .i64 ((rd_T52 x6_1 x78_2).f3))).setCell ⟨gb242, 4, none⟩ (.int .i64 ((rd_T52 x6_1 x78_2).f4))).setCell ⟨gb242, 5, none⟩ (.slice A241_5 ((rd_T52 x6_1 x78_2).f5).length c241_5))) := ⟨zw⟩
           (try clear HO_6)
           (try clear HO_76)
           (try clear HL241_2)
           (try clear HL241_5)
           (try clear BK242)
           (try clear HB)
           (try simp only [show ∀ (w_ : World) (n_ : Nat) (p_ : Addr) (v_ : Value), (w_.drewN n_).setCell p_ v_ = (w_.setCell p_ v_).drewN n_ from fun _ _ _ _ => rfl])
           generalize ((((((w86.setCell ⟨gb242, 0, none⟩ (.int .i64 ((rd_T52 x6_1 x78_2).f0))).setCell ⟨gb242, 1, none⟩ (.int .i64 ((rd_T52 x6_1 x78_2).f1))).setCell ⟨gb242, 2, none⟩ (.slice A241_2 ((rd_T52 x6_1 x78_2).f2).length c241_2)).setCell ⟨gb242, 3, none⟩ (.int .i64 ((rd_T52 x6_1 x78_2).f3))).setCell ⟨gb242, 4, none⟩ (.int .i64 ((rd_T52 x6_1 x78_2).f4))).setCell ⟨gb242, 5, none⟩ (.slice A241_5 ((rd_T52 x6_1 x78_2).f5).length c241_5)) = w88 at n0_ n1_ n2_ n3_ n4_ n5_ ⊢
           have HO_6 := n0_
           have HO_76 := n1_
           have HL241_2 := n2_
           have HL241_5 := n3_
           have BK242 := n4_
           have HB := n5_
           clear n0_ n1_ n2_ n3_ n4_ n5_
           have n0_ := am (Kd.S_drew HO_6.out)
           have n1_ := am (Kd.S_drew HO_76.out)
           have n2_ := am (Kd.R_drew HL241_2.out)
           have n3_ := am (Kd.R_drew HL241_5.out)
           have n4_ := am (blk_drew BK242.out)
           have n5_ := am (below_drew1 HB.out)
           clear HO_6
           clear HO_76
           clear HL241_2
           clear HL241_5
           clear BK242
           clear HB
           have HO_6 := n0_
           have HO_76 := n1_
           have HL241_2 := n2_
           have HL241_5 := n3_
           have BK242 := n4_
           have HB := n5_
           clear n0_ n1_ n2_ n3_ n4_ n5_
           refine start_ (n := 8) (S := fun w' => w'.cell? ⟨gb242, 0, none⟩ = some (.int .i64 ((rd_T52 x6_1 x78_2).f0)) ∧ w'.cell? ⟨gb242, 1, none⟩ = some (.int .i64 ((rd_T52 x6_1 x78_2).f1)) ∧ w'.cell? ⟨gb242, 2, none⟩ = some (.slice A241_2 ((rd_T52 x6_1 x78_2).f2).length c241_2) ∧ w'.cell? ⟨gb242, 3, none⟩ = some (.int .i64 ((rd_T52 x6_1 x78_2).f3)) ∧ w'.cell? ⟨gb242, 4, none⟩ = some (.int .i64 ((rd_T52 x6_1 x78_2).f4)) ∧ w'.cell? ⟨gb242, 5, none⟩ = some (.slice A241_5 ((rd_T52 x6_1 x78_2).f5).length c241_5)) (ds := []) #[O,O,O,O,O,O,O,O] (by kernel_rfl) rfl rfl ⟨(blk_cell BK242.out 0).trans rfl, (blk_cell BK242.out 1).trans rfl, (blk_cell BK242.out 2).trans rfl, (blk_cell BK242.out 3).trans rfl, (blk_cell BK242.out 4).trans rfl, (blk_cell BK242.out 5).trans rfl⟩ (fun hHeld => ?_); refine with_tabW spec_ReadNormal.tab24 spec_ReadNormal.bits24 (fun HT_ HW_ => ?_)
           generalize w88.drew = w89 at HO_6 HO_76 HL241_2 HL241_5 BK242 HB hHeld ⊢
           refine pure_ (i := 0) (N := some 82) (v := ?_) (a' := ?_) #[Y,O,O,O,O,O,O,O] rfl rfl zx (fun _ _ _ h => h) (Or.inl ⟨by rfl, ?_⟩) ?_ ?_
           rotate_left; (intro w'; go_simp; with_reducible rfl); rotate_left; (simp only [Act.put,qa,qb,qc,i64_w,i32_w]; rfl)
           refine pure_ (i := 3) (N := some 85) (v := ?_) (a' := ?_) #[Y,O,O,Y,O,O,O,O] rfl rfl zx (fun _ _ _ h => h) (Or.inl ⟨by rfl, ?_⟩) ?_ ?_
           rotate_left; (intro w'; go_simp; with_reducible rfl); rotate_left; (simp only [Act.put,qa,qb,qc,i64_w,i32_w]; rfl)
           refine pure_ (i := 7) (N := some 89) (v := ?_) (a' := ?_) #[Y,O,O,Y,O,O,O,Y] rfl rfl zx (fun _ _ _ h => h) (Or.inl ⟨by rfl, ?_⟩) ?_ ?_
           rotate_left; (intro w'; go_simp; with_reducible rfl); rotate_left; (simp only [Act.put,qa,qb,qc,i64_w,i32_w]; rfl)
           refine take_ (i := 1) (N := some 83) (v := ?_) (a' := ?_) #[Y,Y,O,Y,O,O,O,Y] rfl rfl (take_ofW HT_.out HW_.out (by kernel_rfl)) (fun _ _ _ h => h) (Or.inl ⟨by rfl, ?_⟩) hHeld ?_ ?_
           rotate_left; (rintro w' ⟨s0, s1, s2, s3, s4, s5⟩; go_simp; with_reducible rfl); rotate_left; (simp only [Act.put,qa,qb,qc,i64_w,i32_w]; rfl)
           refine take_ (i := 4) (N := some 86) (v := ?_) (a' := ?_) #[Y,Y,O,Y,Y,O,O,Y] rfl rfl (take_ofW HT_.out HW_.out (by kernel_rfl)) (fun _ _ _ h => h) (Or.inl ⟨by rfl, ?_⟩) hHeld ?_ ?_
           rotate_left; (rintro w' ⟨s0, s1, s2, s3, s4, s5⟩; go_simp; with_reducible rfl); rotate_left; (simp only [Act.put,qa,qb,qc,i64_w,i32_w]; rfl)
           refine one_ (i := 2) (N := some 84) #[Y,Y,Y,Y,Y,O,O,Y] rfl rfl (one_of HT_.out (by kernel_rfl)) (by decide) (fun K hK => ?_)
           refine goes_ Tryz.func48 (by kernel_rfl) rfl #[.slice A241_2 ((rd_T52 x6_1 x78_2).f2).length c241_2] (by rfl) rfl rfl zm ?_
           with_reducible refine (spec_l1OwnT.calls _ _ ((rd_T52 x6_1 x78_2).f2) t243 _ ?side1 ?side2 A84.out).mono ?_
           (case side1 => repeat (first | exact ((Kd.R_reads' (zr HL241_2.out)).2.2) | (with_reducible refine Kd.C_alloc ?_ _) | (with_reducible refine Kd.C_drewN ?_ _) | (with_reducible refine Kd.C_drew ?_)))
           (case side2 => exact HC241_2.out)
           rintro e w90 ⟨v244, rfl, ho0, hb⟩
           refine ⟨_, rfl, ?_⟩
           have n0_ := am (Kd.S_elder' (zs HO_6.out) (Kd.R_base ho0) hb)
           have n1_ := am (Kd.S_elder' (zs HO_76.out) (Kd.R_base ho0) hb)
           have n2_ := am (Kd.R_elder' (zr HL241_2.out) (Kd.R_base ho0) hb)
           have n3_ := am (Kd.R_elder' (zr HL241_5.out) (Kd.R_base ho0) hb)
           have n4_ := am (Kd.R_lower (Kd.R_new' (Kd.R_new' ho0 (Kd.R_lt (zr HL241_2.out))) (Kd.R_lt (zr HL241_5.out))) (below_size zw))
           have n5_ := am (blk_below (g := gb242) (o := .cells #[.int .i64 ((rd_T52 x6_1 x78_2).f0), .int .i64 ((rd_T52 x6_1 x78_2).f1), .slice A241_2 ((rd_T52 x6_1 x78_2).f2).length c241_2, .int .i64 ((rd_T52 x6_1 x78_2).f3), .int .i64 ((rd_T52 x6_1 x78_2).f4), .slice A241_5 ((rd_T52 x6_1 x78_2).f5).length c241_5] 52 (0, 0)) (zk BK242.out) hb)
           have n6_ := am (below_step zw hb)
           clear HO_6
           clear HO_76
           clear HL241_2
           clear HL241_5
           clear BK242
           clear HB
           have HO_6 := n0_
           have HO_76 := n1_
           have HL241_2 := n2_
           have HL241_5 := n3_
           have HO245 := n4_
           have BK242 := n5_
           have HB := n6_
           clear n0_ n1_ n2_ n3_ n4_ n5_ n6_
           (try clear hb)
           (try clear hb2)
           (try clear hk)
           (try clear hi)
           (try clear ho0)
           refine hK.out _ _ ⟨(blk_cell BK242.out 0).trans rfl, (blk_cell BK242.out 1).trans rfl, (blk_cell BK242.out 2).trans rfl, (blk_cell BK242.out 3).trans rfl, (blk_cell BK242.out 4).trans rfl, (blk_cell BK242.out 5).trans rfl⟩ (fun hHeld => ?_)
           clear hK K
           refine norm_ (a' := ?_) ?_ ?_
           rotate_left
           ·show Act.put _ (some 84) _ = _
            simp only [Act.put,qa,qb,qc,i64_w,i32_w]
            rfl
           refine one_ (i := 5) (N := some 87) #[Y,Y,Y,Y,Y,Y,O,Y] rfl rfl (one_of HT_.out (by kernel_rfl)) (by decide) (fun K hK => ?_)
           refine Kd.R_append_rows_step Kd.string (w0 := w) w.heap.size (by rfl) (.tmp 84) (.tmp 86) 24 9 (.string ⟨#[]⟩) 16 rfl Tryz.underlying24 info9 rfl (by decide) (by omega) v244 t243 ((rd_T52 x6_1 x78_2).f5) _ _ _ (fun k_ => some k_ ≠ (.slice A241_2 ((rd_T52 x6_1 x78_2).f2).length c241_2 : Value).ownBlock ∧ some k_ ≠ (.slice A241_5 ((rd_T52 x6_1 x78_2).f5).length c241_5 : Value).ownBlock) (fun _ => False) rfl rfl ?aO ?aR (fun _ _ h => h) (fun _ h => h.elim) ?aF ?aB ?aS ?aL ?_
           (case aR => repeat (first | exact ((Kd.R_reads' (zr HL241_5.out)).2.2) | (with_reducible refine Kd.C_alloc ?_ _) | (with_reducible refine Kd.C_drewN ?_ _) | (with_reducible refine Kd.C_drew ?_)))
           (case aB => exact zw)
           (case aF => exact (fun k_ hk => ⟨Kd.fresh' (Kd.R_lt (zr HL241_2.out)) k_ hk, Kd.fresh' (Kd.R_lt (zr HL241_5.out)) k_ hk⟩))
           (case aO => exact (by (with_reducible repeat (first | apply Kd.R_alloc | apply Kd.R_drewN | apply Kd.R_drew)); exact Kd.R_mono HO245.out (fun _ hk => ⟨hk.1.2, hk.2⟩)))
           (case aS => exact (below_size zw))
           (case aL => have := LMc85.out; omega)
           intro v247 w91 ho hb hg hat
           rw [← Ny246.out] at ho
           have n0_ := am (Kd.S_after (ok := (fun k_ => k_ ≠ gb242)) (zs HO_6.out) hg hat)
           have n1_ := am (Kd.S_after (ok := (fun k_ => k_ ≠ gb242)) (zs HO_76.out) hg hat)
           have n2_ := am (Kd.R_after (ok := (fun k_ => some k_ ≠ (.slice (some ad241) x6_1.length co80 : Value).ownBlock)) (zr HL241_2.out) hg hat)
           have n3_ := am (Kd.R_after (ok := (fun k_ => some k_ ≠ (.slice (some ad241) x6_1.length co80 : Value).ownBlock)) (zr HL241_5.out) hg hat)
           have n4_ := am (blk_grown (g := gb242) (o := .cells #[.int .i64 ((rd_T52 x6_1 x78_2).f0), .int .i64 ((rd_T52 x6_1 x78_2).f1), .slice A241_2 ((rd_T52 x6_1 x78_2).f2).length c241_2, .int .i64 ((rd_T52 x6_1 x78_2).f3), .int .i64 ((rd_T52 x6_1 x78_2).f4), .slice A241_5 ((rd_T52 x6_1 x78_2).f5).length c241_5] 52 (0, 0)) (zk BK242.out) hg (Kd.R_ne HO245.out BK242.out (by decide)))
           have n5_ := am (hb)
           have n6_ := am (ho)
           clear HO_6
           clear HO_76
           clear HL241_2
           clear HL241_5
           clear BK242
           clear HB
           clear HO245
           have HO_6 := n0_
           have HO_76 := n1_
           have HL241_2 := n2_
           have HL241_5 := n3_
           have BK242 := n4_
           have HB := n5_
           have HO248 := n6_
           clear n0_ n1_ n2_ n3_ n4_ n5_ n6_
           clear ho hb hg hat
           obtain ⟨Ao92, co92, eo92⟩ := Kd.R_slice HO248.out
           (first | subst eo92 | (injection eo92 with f1_ f2_ f3_; have f4_ := f1_.symm; have f5_ := f3_.symm; clear f1_ f2_ f3_; subst f4_; subst f5_))
           refine hK.out _ _ ⟨(blk_cell BK242.out 0).trans rfl, (blk_cell BK242.out 1).trans rfl, (blk_cell BK242.out 2).trans rfl, (blk_cell BK242.out 3).trans rfl, (blk_cell BK242.out 4).trans rfl, (blk_cell BK242.out 5).trans rfl⟩ (fun hHeld => ?_)
           clear hK K
           refine norm_ (a' := ?_) ?_ ?_
           rotate_left
           ·show Act.put _ (some 87) _ = _
            simp only [Act.put,qa,qb,qc,i64_w,i32_w]
            rfl
           refine pure_ (i := 6) (N := some 88) (v := ?_) (a' := ?_) #[Y,Y,Y,Y,Y,Y,Y,Y] rfl rfl zx (fun _ _ _ h => h) (Or.inl ⟨by rfl, ?_⟩) ?_ ?_
           rotate_left; (intro w'; go_simp; with_reducible rfl); rotate_left; (simp only [Act.put,qa,qb,qc,i64_w,i32_w]; rfl)
           refine done_ (done_of HT_.out (by kernel_rfl)) ?_
           try go_wp2
           go_loopg [89] k2 (fun kq v89 w' => ∃ (x89_3 : Int), v89 = .int .i64 x89_3 ∧ Aside0 (spec_ReadNormal.l2 kq a0 x6_1 x6_1 (x6_1.length : Int) x78_2 y246 (y246.length : Int) x89_3 = some (r1, r2, r3)) ∧ Aside0 (kq ≤ k2) ∧ Aside0 (Kd.S k52 52 w' w.heap.size (fun k_ => some k_ ≠ ((.slice Ao92 y246.length co92) : Value).ownBlock ∧ k_ ≠ gb242) (.slice (some ad241) x6_1.length co80) x6_1) ∧ Aside0 (Kd.S k52 52 w' w.heap.size (fun k_ => some k_ ≠ ((.slice Ao92 y246.length co92) : Value).ownBlock ∧ k_ ≠ gb242) (.slice (some ad241) x6_1.length co80) x6_1) ∧ Aside0 (Kd.R Kd.string 9 w' w.heap.size (fun _ => True) (.slice Ao92 y246.length co92) y246) ∧ Aside0 (w'.heap[gb242]? = some (.cells #[.int .i64 ((rd_T52 x6_1 x78_2).f0), .int .i64 ((rd_T52 x6_1 x78_2).f1), (.slice A241_2 ((rd_T52 x6_1 x78_2).f2).length c241_2), .int .i64 ((rd_T52 x6_1 x78_2).f3), .int .i64 ((rd_T52 x6_1 x78_2).f4), (.slice A241_5 ((rd_T52 x6_1 x78_2).f5).length c241_5)] 52 (0, 0))) ∧ Aside0 (Below w.heap.size w w'))
           case atStart => exact ⟨(0), zf, H', ⟨Nat.le_refl _⟩, ⟨by (with_reducible repeat (first | apply Kd.S_alloc | apply Kd.S_drewN | apply Kd.S_drew)); exact Kd.S_mono HO_6.out (fun _ hk => ⟨hk.2, hk.1⟩)⟩, ⟨by (with_reducible repeat (first | apply Kd.S_alloc | apply Kd.S_drewN | apply Kd.S_drew)); exact Kd.S_mono HO_76.out (fun _ hk => ⟨hk.2, hk.1⟩)⟩, ⟨by (with_reducible repeat (first | apply Kd.R_alloc | apply Kd.R_drewN | apply Kd.R_drew)); exact Kd.R_mono HO248.out (fun _ hk => trivial)⟩, ⟨zk BK242.out⟩, ⟨zw⟩⟩
           case round =>
            clear H'
            try clear c1
            try clear p1
            try clear q1
            try clear hx1
            try clear qi1
            try clear c2
            try clear c2b0
            try clear c2b1
            try clear p2
            try clear q2
            try clear hx2
            try clear c3
            try clear q3
            try clear c4
            try clear q4
            try clear c5
            try clear c5b0
            try clear c5b1
            try clear q5
            try clear c6
            try clear c6b0
            try clear c6b1
            try clear q6
            try clear c8
            try clear c9
            try clear c10
            try clear c10b0
            try clear c10b1
            try clear p18
            try clear q18
            try clear hx18
            try clear qi18
            try clear c19
            try clear q19
            try clear c20
            try clear c20b0
            try clear c20b1
            try clear c21
            try clear c22
            try clear c22b0
            try clear c22b1
            try clear c23
            try clear c23b0
            try clear c23b1
            try clear c24
            try clear p24
            try clear q24
            try clear hx24
            try clear c28
            try clear q28
            try clear c30
            try clear c30b0
            try clear c30b1
            try clear c32
            try clear c33
            try clear c33b0
            try clear c33b1
            try clear c34
            try clear c34b0
            try clear c34b1
            try clear c35
            try clear c37
            try clear q37
            try clear c42
            try clear c42b0
            try clear c42b1
            try clear c43
            try clear c43b0
            try clear c43b1
            try clear c44
            try clear c45
            try clear c46
            try clear q46
            try clear c47
            try clear c48
            try clear c51
            try clear q51
            try clear c55
            try clear c55b0
            try clear c55b1
            try clear c56
            try clear c61
            try clear c61b0
            try clear c61b1
            try clear c62
            try clear c62b0
            try clear c62b1
            try clear c63
            try clear c69
            try clear q69
            try clear c81
            try clear c81b0
            try clear c82
            try clear c82b0
            try clear c83
            try clear c83b0
            try clear c85
            try clear hcz15_0
            try clear hcz15_1
            try clear hcz15_2
            try clear hcz15_3
            try clear hcz15_4
            try clear hcz15_5
            try clear hcz26_0
            try clear hcz26_1
            try clear hcz26_2
            try clear hcz26_3
            try clear hcz26_4
            try clear hcz26_5
            try clear hcz38_0
            try clear hcz38_1
            try clear hcz38_2
            try clear hcz38_3
            try clear hcz38_4
            try clear hcz38_5
            try clear hcz49_0
            try clear hcz49_1
            try clear hcz49_2
            try clear hcz49_3
            try clear hcz49_4
            try clear hcz49_5
            try clear hcz52_0
            try clear hcz52_1
            try clear hcz52_2
            try clear hcz52_3
            try clear hcz52_4
            try clear hcz52_5
            try clear hcz57_0
            try clear hcz57_1
            try clear hcz57_2
            try clear hcz57_3
            try clear hcz57_4
            try clear hcz57_5
            try clear hcz67_0
            try clear hcz67_1
            try clear hcz67_2
            try clear hcz67_3
            try clear hcz67_4
            try clear hcz67_5
            try clear hcz70_0
            try clear hcz70_1
            try clear hcz70_2
            try clear hcz70_3
            try clear hcz70_4
            try clear hcz70_5
            try clear hcz76_0
            try clear hcz76_1
            try clear hcz76_2
            try clear hcz76_3
            try clear hcz76_4
            try clear hcz76_5
            try clear hcz87_0
            try clear hcz87_1
            try clear hcz87_2
            try clear hcz87_3
            try clear hcz87_4
            try clear hcz87_5
            try clear hfz15_0
            try clear hfz15_1
            try clear hfz15_2
            try clear hfz15_3
            try clear hfz15_4
            try clear hfz15_5
            try clear hfz26_0
            try clear hfz26_1
            try clear hfz26_2
            try clear hfz26_3
            try clear hfz26_4
            try clear hfz26_5
            try clear hfz38_0
            try clear hfz38_1
            try clear hfz38_2
            try clear hfz38_3
            try clear hfz38_4
            try clear hfz38_5
            try clear hfz49_0
            try clear hfz49_1
            try clear hfz49_2
            try clear hfz49_3
            try clear hfz49_4
            try clear hfz49_5
            try clear hfz52_0
            try clear hfz52_1
            try clear hfz52_2
            try clear hfz52_3
            try clear hfz52_4
            try clear hfz52_5
            try clear hfz57_0
            try clear hfz57_1
            try clear hfz57_2
            try clear hfz57_3
            try clear hfz57_4
            try clear hfz57_5
            try clear hfz67_0
            try clear hfz67_1
            try clear hfz67_2
            try clear hfz67_3
            try clear hfz67_4
            try clear hfz67_5
            try clear hfz70_0
            try clear hfz70_1
            try clear hfz70_2
            try clear hfz70_3
            try clear hfz70_4
            try clear hfz70_5
            try clear hfz76_0
            try clear hfz76_1
            try clear hfz76_2
            try clear hfz76_3
            try clear hfz76_4
            try clear hfz76_5
            try clear hfz87_0
            try clear hfz87_1
            try clear hfz87_2
            try clear hfz87_3
            try clear hfz87_4
            try clear hfz87_5
            try clear hx187_0
            try clear hx241_0
            try clear hx241_1
            try clear hx241_2
            try clear hx241_3
            try clear hx241_4
            try clear hx241_5
            try clear p1
            try clear p18
            try clear p187
            try clear p2
            try clear p241
            try clear q1
            try clear q18
            try clear q187
            try clear q19
            try clear q2
            try clear q241
            try clear q28
            try clear q3
            try clear q37
            try clear q4
            try clear q46
            try clear q5
            try clear q51
            try clear q6
            try clear q69
            obtain ⟨x89_3, rfl, HA, HK3, HO_6, HO_76, HO_87, BK242, HB⟩ := hrel
            cases gk with
            | zero => exact absurd HA.out (by simp [spec_ReadNormal.l2])
            | succ k3 =>
             have H := HA.out
             clear HA
             simp only [spec_ReadNormal.l2] at H
             by_cases c93 : x89_3 < (y246.length : Int)
             ·rw [if_pos c93] at H
              have c93b0 : decide (x89_3 < (y246.length : Int)) = true := decide_eq_true c93
              clear c93
              by_cases c94 : 0 ≤ x89_3
              ·rw [if_pos c94] at H
               have c94b0 : decide (0 ≤ x89_3) = true := decide_eq_true c94
               clear c94
               by_cases c95 : x89_3 < (y246.length : Int)
               ·rw [if_pos c95] at H
                have c95b0 : decide (x89_3 < (y246.length : Int)) = true := decide_eq_true c95
                clear c95
                by_cases c96 : (rdOf ByteArray.empty y246 x89_3).toList = ([] : List UInt8)
                ·rw [if_pos c96] at H
                 have c96b0 : ((rdOf ByteArray.empty y246 x89_3).toList == ([] : List UInt8)) = true := beq_iff_eq.mpr c96
                 have c96b1 : ((rdOf ByteArray.empty y246 x89_3).toList != ([] : List UInt8)) = false := bne_eq_false_iff_eq.mpr c96
                 clear c96
                 simp only [Option.some.injEq, Prod.mk.injEq] at H
                 obtain ⟨rfl, rfl, rfl⟩ := H
                 have p249 : 0 ≤ (x89_3 : Int) := oa
                 have q249 : x89_3 < (y246.length : Int) := oa
                 obtain ⟨ad249, e249, hx249_0⟩ := Kd.at_string (Kd.R_reads' HO_87.out).2.2 x89_3 p249 q249
                 cases e249
                 replace p249 := eq_true p249
                 replace q249 := eq_true q249
                 go_wp2
                 go_ret3
                 exact ⟨_, by first | rfl | (simp [errW_none, errW_some] <;> rfl) | (simp [*, errW_none, errW_some] <;> rfl), by first | exact Kd.S_nil _ _ _ _ _ | exact Kd.Q_nil _ _ _ _ _ | exact Kd.R_nil _ _ _ _ _, zw⟩
                ·rw [if_neg c96] at H
                 have c96b0 : ((rdOf ByteArray.empty y246 x89_3).toList == ([] : List UInt8)) = false := beq_eq_false_iff_ne.mpr c96
                 have c96b1 : ((rdOf ByteArray.empty y246 x89_3).toList != ([] : List UInt8)) = true := bne_iff_ne.mpr c96
                 have H' := am H
                 clear H
                 have p249 : 0 ≤ (x89_3 : Int) := oa
                 have q249 : x89_3 < (y246.length : Int) := oa
                 obtain ⟨ad249, e249, hx249_0⟩ := Kd.at_string (Kd.R_reads' HO_87.out).2.2 x89_3 p249 q249
                 cases e249
                 replace p249 := eq_true p249
                 replace q249 := eq_true q249
                 go_wp2
                 go_roundg k3
                 case measure => have := HK1.out; have := HK2.out; have := HK3.out; omega
                 case rel => exact ⟨(wrap64 (x89_3 + 1)), zf, H', ⟨by have := HK1.out; have := HK2.out; have := HK3.out; omega⟩, ⟨zs HO_6.out⟩, ⟨zs HO_76.out⟩, ⟨zr HO_87.out⟩, ⟨zk BK242.out⟩, ⟨zw⟩⟩
               ·rw [if_neg c95] at H
                exact absurd H (by simp)
              ·rw [if_neg c94] at H
               exact absurd H (by simp)
             ·rw [if_neg c93] at H
              have c93b0 : decide (x89_3 < (y246.length : Int)) = false := decide_eq_false c93
              clear c93
              have H' := am H
              clear H
              go_wp2
              go_roundg k3
              case measure => have := HK1.out; have := HK2.out; have := HK3.out; omega
              case rel => exact ⟨(wrap64 (x78_2 + 1)), zf, H', ⟨by have := HK1.out; have := HK2.out; have := HK3.out; omega⟩, ⟨by (with_reducible repeat (first | apply Kd.S_alloc | apply Kd.S_drewN | apply Kd.S_drew)); exact Kd.S_mono HO_6.out (fun _ hk => trivial)⟩, ⟨by (with_reducible repeat (first | apply Kd.S_alloc | apply Kd.S_drewN | apply Kd.S_drew)); exact Kd.S_mono HO_76.out (fun _ hk => trivial)⟩, ⟨zw⟩⟩
          ·rw [if_neg c85] at H
           exact absurd H (by simp)
         ·rw [if_neg c83] at H
          exact absurd H (by simp)
        ·rw [if_neg c82] at H
         exact absurd H (by simp)
       ·rw [if_neg c81] at H
        have c81b0 : decide (x78_2 < (x6_1.length : Int)) = false := decide_eq_false c81
        clear c81
        replace H := Option.bind_eq_some_iff.mp H
        obtain ⟨t250, A970, H⟩ := H
        replace H : (if t250 = true then ((spec_l5Text.f k2 x6_1).bind fun t251 => (if t251.toList = a0.toList then (some (x6_1, 0, true)) else (some (([] : List (S52)), 1, false)))) else (some (([] : List (S52)), 1, false))) = some (r1, r2, r3) := H
        have A97 := am A970
        clear A970
        by_cases c98 : t250 = true
        ·subst c98
         have H1 : ((spec_l5Text.f k2 x6_1).bind fun t251 => (if t251.toList = a0.toList then (some (x6_1, 0, true)) else (some (([] : List (S52)), 1, false)))) = some (r1, r2, r3) := by rw [if_pos rfl] at H; exact H
         clear H
         have H := H1
         clear H1
         replace H := Option.bind_eq_some_iff.mp H
         obtain ⟨t251, A990, H⟩ := H
         replace H : (if t251.toList = a0.toList then (some (x6_1, 0, true)) else (some (([] : List (S52)), 1, false))) = some (r1, r2, r3) := H
         have A99 := am A990
         clear A990
         by_cases c100 : t251.toList = a0.toList
         ·rw [if_pos c100] at H
          have c100b0 : (t251.toList == a0.toList) = true := beq_iff_eq.mpr c100
          have c100b1 : (t251.toList != a0.toList) = false := bne_eq_false_iff_eq.mpr c100
          clear c100
          simp only [Option.some.injEq, Prod.mk.injEq] at H
          obtain ⟨rfl, rfl, rfl⟩ := H
          go_wp2_with (first | ((with_reducible refine gateC (f := 42) rfl ?_); refine goesL_ (some 98) rfl rfl Tryz.func42 (by kernel_rfl) rfl #[.slice Ao80 x6_1.length co80] rfl zm ?_; (with_reducible refine (spec_GoodSteps.calls k2 _ _ x6_1 true _ ?side1 ?side2 A97.out).mono ?_); (case side1 => repeat (first | exact (Kd.S_reads' HO_6.out).2.2 | (with_reducible refine Kd.C_alloc ?_ _) | (with_reducible refine Kd.C_drewN ?_ _) | (with_reducible refine Kd.C_drew ?_))); (case side2 => exact (Kd.S_reads' HO_6.out).2.1); rintro e w101 ⟨rfl, hb⟩; refine ⟨_, rfl, ?_⟩; have n0_ := am (Kd.S_below (zs HO_6.out) hb); have n1_ := am (Kd.S_below (zs HO_76.out) hb); have n2_ := am (below_step zb hb); clear HO_6; clear HO_76; clear HB; have HO_6 := n0_; have HO_76 := n1_; have HB := n2_; clear n0_ n1_ n2_; (try clear hb)) | (go_at_call 49; (with_reducible refine (spec_l5Text.calls k2 _ _ x6_1 t251 _ ?side1 ?side2 A99.out).mono ?_); (case side1 => repeat (first | exact (Kd.S_reads' HO_6.out).2.2 | (with_reducible refine Kd.C_alloc ?_ _) | (with_reducible refine Kd.C_drewN ?_ _) | (with_reducible refine Kd.C_drew ?_))); (case side2 => exact (Kd.S_reads' HO_6.out).2.1); rintro e w102 ⟨rfl, hb⟩; have n0_ := am (Kd.S_below (zs HO_6.out) hb); have n1_ := am (Kd.S_below (zs HO_76.out) hb); have n2_ := am (below_step zb hb); clear HO_6; clear HO_76; clear HB; have HO_6 := n0_; have HO_76 := n1_; have HB := n2_; clear n0_ n1_ n2_; (try clear hb)))
          go_ret3
          exact ⟨_, by first | rfl | (simp [errW_none, errW_some] <;> rfl) | (simp [*, errW_none, errW_some] <;> rfl), zs HO_6.out, zb⟩
         ·rw [if_neg c100] at H
          have c100b0 : (t251.toList == a0.toList) = false := beq_eq_false_iff_ne.mpr c100
          have c100b1 : (t251.toList != a0.toList) = true := bne_iff_ne.mpr c100
          simp only [Option.some.injEq, Prod.mk.injEq] at H
          obtain ⟨rfl, rfl, rfl⟩ := H
          go_wp2_with (first | ((with_reducible refine gateC (f := 42) rfl ?_); refine goesL_ (some 98) rfl rfl Tryz.func42 (by kernel_rfl) rfl #[.slice Ao80 x6_1.length co80] rfl zm ?_; (with_reducible refine (spec_GoodSteps.calls k2 _ _ x6_1 true _ ?side1 ?side2 A97.out).mono ?_); (case side1 => repeat (first | exact (Kd.S_reads' HO_6.out).2.2 | (with_reducible refine Kd.C_alloc ?_ _) | (with_reducible refine Kd.C_drewN ?_ _) | (with_reducible refine Kd.C_drew ?_))); (case side2 => exact (Kd.S_reads' HO_6.out).2.1); rintro e w103 ⟨rfl, hb⟩; refine ⟨_, rfl, ?_⟩; have n0_ := am (Kd.S_below (zs HO_6.out) hb); have n1_ := am (Kd.S_below (zs HO_76.out) hb); have n2_ := am (below_step zb hb); clear HO_6; clear HO_76; clear HB; have HO_6 := n0_; have HO_76 := n1_; have HB := n2_; clear n0_ n1_ n2_; (try clear hb)) | (go_at_call 49; (with_reducible refine (spec_l5Text.calls k2 _ _ x6_1 t251 _ ?side1 ?side2 A99.out).mono ?_); (case side1 => repeat (first | exact (Kd.S_reads' HO_6.out).2.2 | (with_reducible refine Kd.C_alloc ?_ _) | (with_reducible refine Kd.C_drewN ?_ _) | (with_reducible refine Kd.C_drew ?_))); (case side2 => exact (Kd.S_reads' HO_6.out).2.1); rintro e w104 ⟨rfl, hb⟩; have n0_ := am (Kd.S_below (zs HO_6.out) hb); have n1_ := am (Kd.S_below (zs HO_76.out) hb); have n2_ := am (below_step zb hb); clear HO_6; clear HO_76; clear HB; have HO_6 := n0_; have HO_76 := n1_; have HB := n2_; clear n0_ n1_ n2_; (try clear hb)))
          go_ret3
          exact ⟨_, by first | rfl | (simp [errW_none, errW_some] <;> rfl) | (simp [*, errW_none, errW_some] <;> rfl), by first | exact Kd.S_nil _ _ _ _ _ | exact Kd.Q_nil _ _ _ _ _ | exact Kd.R_nil _ _ _ _ _, zb⟩
        ·replace c98 := Bool.eq_false_iff.mpr c98
         subst c98
         have H1 : (some (([] : List (S52)), 1, false)) = some (r1, r2, r3) := by rw [if_neg (show ¬ (false = true) by decide)] at H; exact H
         clear H
         have H := H1
         clear H1
         simp only [Option.some.injEq, Prod.mk.injEq] at H
         obtain ⟨rfl, rfl, rfl⟩ := H
         go_wp2_with (first | ((with_reducible refine gateC (f := 42) rfl ?_); refine goesL_ (some 98) rfl rfl Tryz.func42 (by kernel_rfl) rfl #[.slice Ao80 x6_1.length co80] rfl zm ?_; (with_reducible refine (spec_GoodSteps.calls k2 _ _ x6_1 false _ ?side1 ?side2 A97.out).mono ?_); (case side1 => repeat (first | exact (Kd.S_reads' HO_6.out).2.2 | (with_reducible refine Kd.C_alloc ?_ _) | (with_reducible refine Kd.C_drewN ?_ _) | (with_reducible refine Kd.C_drew ?_))); (case side2 => exact (Kd.S_reads' HO_6.out).2.1); rintro e w105 ⟨rfl, hb⟩; refine ⟨_, rfl, ?_⟩; have n0_ := am (Kd.S_below (zs HO_6.out) hb); have n1_ := am (Kd.S_below (zs HO_76.out) hb); have n2_ := am (below_step zb hb); clear HO_6; clear HO_76; clear HB; have HO_6 := n0_; have HO_76 := n1_; have HB := n2_; clear n0_ n1_ n2_; (try clear hb)))
         go_ret3
         exact ⟨_, by first | rfl | (simp [errW_none, errW_some] <;> rfl) | (simp [*, errW_none, errW_some] <;> rfl), by first | exact Kd.S_nil _ _ _ _ _ | exact Kd.Q_nil _ _ _ _ _ | exact Kd.R_nil _ _ _ _ _, zb⟩

def impl_in.f (a0 : Int) (a1 : Int) (a2 : Int) : Option (Bool) := if a0 ≥ a1 then (some (decide (a0 ≤ a2))) else (some false)
set_option maxHeartbeats 8000000 in
set_option maxRecDepth 100000 in
theorem impl_in.calls (a0 : Int) (a1 : Int) (a2 : Int) (r : Bool) (w : World) (h : impl_in.f a0 a1 a2 = some r) :
  Calls Tryz.prog 69 #[.int .i64 a0, .int .i64 a1, .int .i64 a2] w fun e w' => e = .returned (.bool r) ∧ Drawn0 w w' := by
 have H : (if a0 ≥ a1 then (some (decide (a0 ≤ a2))) else (some false)) = some r := h
 clear h
 by_cases c4 : a0 ≥ a1
 ·rw [if_pos c4] at H
  have c4b0 : decide (a1 ≤ a0) = true := decide_eq_true c4
  clear c4
  obtain rfl := Option.some.inj H
  go_enter Tryz.func69, Tryz.ntmps69
  go_wp2
  go_ret
  exact ⟨by first | rfl | (simp; done) | (simp [*]; done), by repeat (first | exact Drawn0.refl _ | apply Drawn0.step)⟩
 ·rw [if_neg c4] at H
  have c4b0 : decide (a1 ≤ a0) = false := decide_eq_false c4
  clear c4
  obtain rfl := Option.some.inj H
  go_enter Tryz.func69, Tryz.ntmps69
  go_wp2
  go_ret
  exact ⟨by first | rfl | (simp; done) | (simp [*]; done), by repeat (first | exact Drawn0.refl _ | apply Drawn0.step)⟩

def stringslite_IndexByte.f (a0 : ByteArray) (a1 : Int) : Option (Int) := some (Lib.indexByte a0.data.toList a1.toNat.toUInt8)
set_option maxHeartbeats 1000000 in
set_option maxRecDepth 100000 in
theorem stringslite_IndexByte.calls (a0 : ByteArray) (a1 : Int) (r : Int) (w : World) (h : stringslite_IndexByte.f a0 a1 = some r) :
  Calls Tryz.prog 142 #[.string a0, .int .u8 a1] w fun e w' => e = .returned (.int .i64 r) ∧ Drawn0 w w' := by
 obtain rfl : Lib.indexByte a0.data.toList a1.toNat.toUInt8 = r := Option.some.inj h
 clear h
 go_enter Tryz.func142, Tryz.ntmps142
 go_wp2
 rw [run_callFunc_extern Tryz.func150 (by kernel_rfl) (by kernel_rfl) (by kernel_rfl) (e := Extern.BytealgIndexByte.indexByte) (by kernel_rfl), Lib.run_indexByteString]
 simp only [Result.andThen]
 rw [Oper.upon_value]
 go_wp2
 go_ret
 exact ⟨rfl, Drawn0.refl _⟩

def stringslite_Index.j0 : Nat → ByteArray → ByteArray → Int → Bool → Option (Int)
 | 0, _, _, _, _ => none
 | k + 1, x0, x1, x5, x16 => if x16 = true then (some 0) else (if x5 = 1 then (if 0 < (x1.size : Int) then ((stringslite_IndexByte.f x0 (bt x1 0)).bind fun t254 => (some t254)) else (none)) else (if x5 ≥ (x0.size : Int) then (some (-1)) else (none)))
def stringslite_Index.f (k : Nat) (a0 : ByteArray) (a1 : ByteArray) : Option (Int) := if (a1.size : Int) = 0 then (stringslite_Index.j0 k a0 a1 (a1.size : Int) true) else (stringslite_Index.j0 k a0 a1 (a1.size : Int) (a1.toList == a0.toList))
set_option maxHeartbeats 8000000 in
set_option maxRecDepth 100000 in
theorem stringslite_Index.calls (k : Nat) (a0 : ByteArray) (a1 : ByteArray) (r : Int) (w : World) (h : stringslite_Index.f k a0 a1 = some r) :
  Calls Tryz.prog 143 #[.string a0, .string a1] w fun e w' => e = .returned (.int .i64 r) ∧ Drawn0 w w' := by
 have H : (if (a1.size : Int) = 0 then (stringslite_Index.j0 k a0 a1 (a1.size : Int) true) else (stringslite_Index.j0 k a0 a1 (a1.size : Int) (a1.toList == a0.toList))) = some r := h
 clear h
 have HC3 := am H
 clear H
 go_enter Tryz.func143, Tryz.ntmps143
 go_upto_region 2 with (fail)
 go_cut [16] (fun v16 wc => ∃ (kq : Nat) (x16_2 : Bool), v16 = .bool x16_2 ∧ Aside0 (stringslite_Index.j0 kq a0 a1 (a1.size : Int) x16_2 = some r) ∧ Aside0 (kq ≤ k) ∧ Drawn0 w wc)
 case first =>
  have H := HC3.out
  clear HC3
  by_cases c4 : (a1.size : Int) = 0
  ·rw [if_pos c4] at H
   have c4b0 : ((a1.size : Int) == 0) = true := beq_iff_eq.mpr c4
   have c4b1 : ((a1.size : Int) != 0) = false := bne_eq_false_iff_eq.mpr c4
   clear c4
   (first | rw [c4b0] | (simp only [i64_w, i32_w]; rw [c4b0]) | skip)
   have H' := am H
   clear H
   go_wp2
   go_meet
   case rel => exact ⟨_, (true), zf, H', ⟨by first | omega | exact Nat.le_refl _⟩, by repeat (first | exact Drawn0.refl _ | apply Drawn0.step)⟩
  ·rw [if_neg c4] at H
   have c4b0 : ((a1.size : Int) == 0) = false := beq_eq_false_iff_ne.mpr c4
   have c4b1 : ((a1.size : Int) != 0) = true := bne_iff_ne.mpr c4
   (first | rw [c4b0] | (simp only [i64_w, i32_w]; rw [c4b0]) | skip)
   have H' := am H
   clear H
   go_wp2
   go_meet
   case rel => exact ⟨_, ((a1.toList == a0.toList)), zf, H', ⟨by first | omega | exact Nat.le_refl _⟩, by repeat (first | exact Drawn0.refl _ | apply Drawn0.step)⟩
 case rest =>
  clear HC3
  try clear c1
  try clear p2
  try clear c4
  try clear c4b0
  try clear c4b1
  obtain ⟨kq, x16_2, rfl, HA, HJ2, ⟨mc2, rfl⟩⟩ := hcut
  cases kq with
  | zero => exact absurd HA.out (by simp [stringslite_Index.j0])
  | succ kj2 =>
   have H := HA.out
   clear HA
   simp only [stringslite_Index.j0] at H
   by_cases c5 : x16_2 = true
   ·subst c5
    have H1 : (some 0) = some r := by rw [if_pos rfl] at H; exact H
    clear H
    have H := H1
    clear H1
    obtain rfl := Option.some.inj H
    go_wp2
    go_ret
    exact ⟨by first | rfl | (simp; done) | (simp [*]; done), by repeat (first | exact Drawn0.refl _ | apply Drawn0.step)⟩
   ·replace c5 := Bool.eq_false_iff.mpr c5
    subst c5
    have H1 : (if (a1.size : Int) = 1 then (if 0 < (a1.size : Int) then ((stringslite_IndexByte.f a0 (bt a1 0)).bind fun t254 => (some t254)) else (none)) else (if (a1.size : Int) ≥ (a0.size : Int) then (some (-1)) else (none))) = some r := by rw [if_neg (show ¬ (false = true) by decide)] at H; exact H
    clear H
    have H := H1
    clear H1
    by_cases c6 : (a1.size : Int) = 1
    ·rw [if_pos c6] at H
     have c6b0 : ((a1.size : Int) == 1) = true := beq_iff_eq.mpr c6
     have c6b1 : ((a1.size : Int) != 1) = false := bne_eq_false_iff_eq.mpr c6
     clear c6
     by_cases c7 : 0 < (a1.size : Int)
     ·rw [if_pos c7] at H
      have c7b0 : decide (0 < (a1.size : Int)) = true := decide_eq_true c7
      have c7b1 : decide (0 < a1.size) = true := decide_eq_true (by omega)
      clear c7
      replace H := Option.bind_eq_some_iff.mp H
      obtain ⟨t254, A90, H⟩ := H
      replace H : (some t254) = some r := H
      have A9 := am A90
      clear A90
      obtain rfl := Option.some.inj H
      have p8 : 0 ≤ (0 : Int) := (by omega)
      have q8 : 0 < a1.size := (by have : (0 : Int) < (a1.size : Int) := oa; omega)
      have hx8 : ∀ h : 0 < a1.size, ((a1[0]'h).toNat : Int) = bt a1 0 := bt_at a1 0
      clear p8
      have qi8 : (0 < (a1.size : Int)) = True := eq_true oa
      replace q8 := eq_true q8
      go_wp2_with (first | ((with_reducible refine gateC (f := 142) rfl ?_); refine goesL_ (some 30) rfl rfl Tryz.func142 (by kernel_rfl) rfl #[.string a0, .int .u8 (bt a1 0)] rfl zm ?_; (with_reducible refine (stringslite_IndexByte.calls a0 (bt a1 0) t254 _ A9.out).mono ?_); rintro e w' ⟨rfl, ⟨nd, rfl⟩⟩; refine ⟨_, rfl, ?_⟩))
      go_ret
      exact ⟨by first | rfl | (simp; done) | (simp [*]; done), by repeat (first | exact Drawn0.refl _ | apply Drawn0.step)⟩
     ·rw [if_neg c7] at H
      exact absurd H (by simp)
    ·rw [if_neg c6] at H
     have c6b0 : ((a1.size : Int) == 1) = false := beq_eq_false_iff_ne.mpr c6
     have c6b1 : ((a1.size : Int) != 1) = true := bne_iff_ne.mpr c6
     by_cases c10 : (a1.size : Int) ≥ (a0.size : Int)
     ·rw [if_pos c10] at H
      have c10b0 : decide ((a0.size : Int) ≤ (a1.size : Int)) = true := decide_eq_true c10
      have c10b1 : decide (a0.size ≤ a1.size) = true := decide_eq_true (Int.ofNat_le.mp c10)
      clear c10
      obtain rfl := Option.some.inj H
      go_wp2
      go_ret
      exact ⟨by first | rfl | (simp; done) | (simp [*]; done), by repeat (first | exact Drawn0.refl _ | apply Drawn0.step)⟩
     ·rw [if_neg c10] at H
      exact absurd H (by simp)

def strings_Index.f (k : Nat) (a0 : ByteArray) (a1 : ByteArray) : Option (Int) := (stringslite_Index.f k a0 a1).bind fun t255 => (some t255)
set_option maxHeartbeats 8000000 in
set_option maxRecDepth 100000 in
theorem strings_Index.calls (k : Nat) (a0 : ByteArray) (a1 : ByteArray) (r : Int) (w : World) (h : strings_Index.f k a0 a1 = some r) :
  Calls Tryz.prog 139 #[.string a0, .string a1] w fun e w' => e = .returned (.int .i64 r) ∧ Drawn0 w w' := by
 have H : ((stringslite_Index.f k a0 a1).bind fun t255 => (some t255)) = some r := h
 clear h
 replace H := Option.bind_eq_some_iff.mp H
 obtain ⟨t255, A30, H⟩ := H
 replace H : (some t255) = some r := H
 have A3 := am A30
 clear A30
 obtain rfl := Option.some.inj H
 go_enter Tryz.func139, Tryz.ntmps139
 go_wp2_with (first | ((with_reducible refine gateC (f := 143) rfl ?_); refine goesL_ (some 7) rfl rfl Tryz.func143 (by kernel_rfl) rfl #[.string a0, .string a1] rfl zm ?_; (with_reducible refine (stringslite_Index.calls k a0 a1 t255 _ A3.out).mono ?_); rintro e w' ⟨rfl, ⟨nd, rfl⟩⟩; refine ⟨_, rfl, ?_⟩))
 go_ret
 exact ⟨by first | rfl | (simp; done) | (simp [*]; done), by repeat (first | exact Drawn0.refl _ | apply Drawn0.step)⟩

def strings_Contains.f (k : Nat) (a0 : ByteArray) (a1 : ByteArray) : Option (Bool) := (strings_Index.f k a0 a1).bind fun t256 => (some (decide (t256 ≥ 0)))
set_option maxHeartbeats 8000000 in
set_option maxRecDepth 100000 in
theorem strings_Contains.calls (k : Nat) (a0 : ByteArray) (a1 : ByteArray) (r : Bool) (w : World) (h : strings_Contains.f k a0 a1 = some r) :
  Calls Tryz.prog 118 #[.string a0, .string a1] w fun e w' => e = .returned (.bool r) ∧ Drawn0 w w' := by
 have H : ((strings_Index.f k a0 a1).bind fun t256 => (some (decide (t256 ≥ 0)))) = some r := h
 clear h
 replace H := Option.bind_eq_some_iff.mp H
 obtain ⟨t256, A30, H⟩ := H
 replace H : (some (decide (t256 ≥ 0))) = some r := H
 have A3 := am A30
 clear A30
 obtain rfl := Option.some.inj H
 go_enter Tryz.func118, Tryz.ntmps118
 go_wp2_with (first | ((with_reducible refine gateC (f := 139) rfl ?_); refine goesL_ (some 7) rfl rfl Tryz.func139 (by kernel_rfl) rfl #[.string a0, .string a1] rfl zm ?_; (with_reducible refine (strings_Index.calls k a0 a1 t256 _ A3.out).mono ?_); rintro e w' ⟨rfl, ⟨nd, rfl⟩⟩; refine ⟨_, rfl, ?_⟩))
 go_ret
 exact ⟨by first | rfl | (simp; done) | (simp [*]; done), by repeat (first | exact Drawn0.refl _ | apply Drawn0.step)⟩

def impl_isLine.f (k : Nat) (a0 : ByteArray) : Option (Bool) := (impl_in.f (a0.size : Int) 1 30).bind fun t257 => (if t257 = true then (if 0 ≤ (wrap64 ((a0.size : Int) - 1)) then (if (wrap64 ((a0.size : Int) - 1)) ≤ (a0.size : Int) then ((strings_Contains.f k (a0.extract 0 ((wrap64 ((a0.size : Int) - 1)) : Int).toNat) (⟨#[10]⟩ : ByteArray)).bind fun t258 => (some (!t258))) else (none)) else (none)) else (some false))
set_option maxHeartbeats 8000000 in
set_option maxRecDepth 100000 in
theorem impl_isLine.calls (k : Nat) (a0 : ByteArray) (r : Bool) (w : World) (h : impl_isLine.f k a0 = some r) :
  Calls Tryz.prog 93 #[.string a0] w fun e w' => e = .returned (.bool r) ∧ Drawn0 w w' := by
 have H : ((impl_in.f (a0.size : Int) 1 30).bind fun t257 => (if t257 = true then (if 0 ≤ (wrap64 ((a0.size : Int) - 1)) then (if (wrap64 ((a0.size : Int) - 1)) ≤ (a0.size : Int) then ((strings_Contains.f k (a0.extract 0 ((wrap64 ((a0.size : Int) - 1)) : Int).toNat) (⟨#[10]⟩ : ByteArray)).bind fun t258 => (some (!t258))) else (none)) else (none)) else (some false))) = some r := h
 clear h
 replace H := Option.bind_eq_some_iff.mp H
 obtain ⟨t257, A20, H⟩ := H
 replace H : (if t257 = true then (if 0 ≤ (wrap64 ((a0.size : Int) - 1)) then (if (wrap64 ((a0.size : Int) - 1)) ≤ (a0.size : Int) then ((strings_Contains.f k (a0.extract 0 ((wrap64 ((a0.size : Int) - 1)) : Int).toNat) (⟨#[10]⟩ : ByteArray)).bind fun t258 => (some (!t258))) else (none)) else (none)) else (some false)) = some r := H
 have A2 := am A20
 clear A20
 by_cases c3 : t257 = true
 ·subst c3
  have H1 : (if 0 ≤ (wrap64 ((a0.size : Int) - 1)) then (if (wrap64 ((a0.size : Int) - 1)) ≤ (a0.size : Int) then ((strings_Contains.f k (a0.extract 0 ((wrap64 ((a0.size : Int) - 1)) : Int).toNat) (⟨#[10]⟩ : ByteArray)).bind fun t258 => (some (!t258))) else (none)) else (none)) = some r := by rw [if_pos rfl] at H; exact H
  clear H
  have H := H1
  clear H1
  obtain ⟨ji4, hji4⟩ : ∃ j_ : Int, (wrap64 ((a0.size : Int) - 1)) = j_ := ⟨_, rfl⟩
  replace H : (if 0 ≤ (ji4) then (if (ji4) ≤ (a0.size : Int) then ((strings_Contains.f k (a0.extract 0 ((ji4) : Int).toNat) (⟨#[10]⟩ : ByteArray)).bind fun t258 => (some (!t258))) else (none)) else (none)) = some r := by first | (rw [hji4] at H; exact H) | (simp only [hji4] at H ⊢; exact H)
  (try rw [hji4] at A2)
  have hji4w : (IntKind.i64.wrap ((a0.size : Int) - 1)) = ji4 := (i64_w _).trans hji4
  by_cases c5 : 0 ≤ (ji4)
  ·rw [if_pos c5] at H
   have c5b0 := eq_true c5
   have c5b1 : decide (0 ≤ (ji4)) = true := decide_eq_true c5
   clear c5
   by_cases c6 : (ji4) ≤ (a0.size : Int)
   ·rw [if_pos c6] at H
    have c6b0 := eq_true c6
    have c6b1 : decide ((ji4) ≤ (a0.size : Int)) = true := decide_eq_true c6
    clear c6
    replace H := Option.bind_eq_some_iff.mp H
    obtain ⟨t258, A70, H⟩ := H
    replace H : (some (!t258)) = some r := H
    have A7 := am A70
    clear A70
    obtain rfl := Option.some.inj H
    go_enter Tryz.func93, Tryz.ntmps93
    go_wp2_with (first | ((with_reducible refine gateC (f := 69) rfl ?_); refine goesL_ (some 5) rfl rfl Tryz.func69 (by kernel_rfl) rfl #[.int .i64 (a0.size : Int), .int .i64 1, .int .i64 30] rfl zm ?_; (with_reducible refine (impl_in.calls (a0.size : Int) 1 30 true _ A2.out).mono ?_); rintro e w' ⟨rfl, ⟨nd, rfl⟩⟩; refine ⟨_, rfl, ?_⟩) | (go_at_call 118; (with_reducible refine (strings_Contains.calls k (a0.extract 0 ((ji4) : Int).toNat) (⟨#[10]⟩ : ByteArray) t258 _ A7.out).mono ?_); rintro e w' ⟨rfl, ⟨nd, rfl⟩⟩))
    go_ret
    exact ⟨by first | rfl | (simp; done) | (simp only [← hji4] <;> (first | rfl | simp)) | (simp [*]; done), by repeat (first | exact Drawn0.refl _ | apply Drawn0.step)⟩
   ·rw [if_neg c6] at H
    exact absurd H (by simp)
  ·rw [if_neg c5] at H
   exact absurd H (by simp)
 ·replace c3 := Bool.eq_false_iff.mpr c3
  subst c3
  have H1 : (some false) = some r := by rw [if_neg (show ¬ (false = true) by decide)] at H; exact H
  clear H
  have H := H1
  clear H1
  obtain rfl := Option.some.inj H
  go_enter Tryz.func93, Tryz.ntmps93
  go_wp2_with (first | ((with_reducible refine gateC (f := 69) rfl ?_); refine goesL_ (some 5) rfl rfl Tryz.func69 (by kernel_rfl) rfl #[.int .i64 (a0.size : Int), .int .i64 1, .int .i64 30] rfl zm ?_; (with_reducible refine (impl_in.calls (a0.size : Int) 1 30 false _ A2.out).mono ?_); rintro e w' ⟨rfl, ⟨nd, rfl⟩⟩; refine ⟨_, rfl, ?_⟩))
  go_ret
  exact ⟨by first | rfl | (simp; done) | (simp [*]; done), by repeat (first | exact Drawn0.refl _ | apply Drawn0.step)⟩

def impl_areLines_1.f (k : Nat) (a0 : ByteArray) : Option (Bool) := (impl_isLine.f k a0).bind fun t259 => (some (!t259))
set_option maxHeartbeats 8000000 in
set_option maxRecDepth 100000 in
theorem impl_areLines_1.calls (k : Nat) (a0 : ByteArray) (r : Bool) (w : World) (h : impl_areLines_1.f k a0 = some r) :
  Calls Tryz.prog 92 #[.string a0] w fun e w' => e = .returned (.bool r) ∧ Drawn0 w w' := by
 have H : ((impl_isLine.f k a0).bind fun t259 => (some (!t259))) = some r := h
 clear h
 replace H := Option.bind_eq_some_iff.mp H
 obtain ⟨t259, A20, H⟩ := H
 replace H : (some (!t259)) = some r := H
 have A2 := am A20
 clear A20
 obtain rfl := Option.some.inj H
 go_enter Tryz.func92, Tryz.ntmps92
 go_wp2_with (first | ((with_reducible refine gateC (f := 93) rfl ?_); refine goesL_ (some 4) rfl rfl Tryz.func93 (by kernel_rfl) rfl #[.string a0] rfl zm ?_; (with_reducible refine (impl_isLine.calls k a0 t259 _ A2.out).mono ?_); rintro e w' ⟨rfl, ⟨nd, rfl⟩⟩; refine ⟨_, rfl, ?_⟩))
 go_ret
 exact ⟨by first | rfl | (simp; done) | (simp [*]; done), by repeat (first | exact Drawn0.refl _ | apply Drawn0.step)⟩

def slices_IndexFunc_string_string__impl_areLines_1.l0 : Nat → List ByteArray → Int → Int → Option (Int)
 | 0, _, _, _ => none
 | k + 1, x0, x7, x8 => if x8 < x7 then (if 0 ≤ x8 then (if x8 < (x0.length : Int) then ((impl_areLines_1.f k (rdOf ByteArray.empty x0 x8)).bind fun t261 => (if t261 = true then (some x8) else (slices_IndexFunc_string_string__impl_areLines_1.l0 k x0 x7 (wrap64 (x8 + 1))))) else (none)) else (none)) else (some (-1))
def slices_IndexFunc_string_string__impl_areLines_1.f (k : Nat) (l0 : List ByteArray)  : Option (Int) := slices_IndexFunc_string_string__impl_areLines_1.l0 k l0 (l0.length : Int) 0
set_option maxHeartbeats 8000000 in
set_option maxRecDepth 100000 in
theorem slices_IndexFunc_string_string__impl_areLines_1.calls (k : Nat) (A0 : Option Addr) (c0 : Nat) (l0 : List ByteArray)  (r : Int) (w : World) (hr0 : Kd.C Kd.string w A0 l0.length l0) (hc0 : l0.length ≤ c0) (h : slices_IndexFunc_string_string__impl_areLines_1.f k l0 = some r) :
  Calls Tryz.prog 117 #[.slice A0 l0.length c0, .func (.func 92) #[] #[]] w fun e w' => e = .returned (.int .i64 r) ∧ Drawn0 w w' := by
 have HR0 := am hr0
 have HC0 := am hc0
 clear hr0 hc0
 have H : (slices_IndexFunc_string_string__impl_areLines_1.l0 k l0 (l0.length : Int) 0) = some r := h
 clear h
 have H' := am H
 clear H
 go_enter Tryz.func117, Tryz.ntmps117
 go_wp2
 go_loopg [8] k (fun kq v8 w' => ∃ (x8_1 : Int), v8 = .int .i64 x8_1 ∧ Aside0 (slices_IndexFunc_string_string__impl_areLines_1.l0 kq l0 (l0.length : Int) x8_1 = some r) ∧ Aside0 (kq ≤ k) ∧ Drawn0 w w')
 case atStart => exact ⟨(0), zf, H', ⟨Nat.le_refl _⟩, by repeat (first | exact Drawn0.refl _ | apply Drawn0.step)⟩
 case round =>
  clear H'
  try clear p2
  obtain ⟨x8_1, rfl, HA, HK1, ⟨m1, rfl⟩⟩ := hrel
  cases gk with
  | zero => exact absurd HA.out (by simp [slices_IndexFunc_string_string__impl_areLines_1.l0])
  | succ k1 =>
   have H := HA.out
   clear HA
   simp only [slices_IndexFunc_string_string__impl_areLines_1.l0] at H
   by_cases c3 : x8_1 < (l0.length : Int)
   ·rw [if_pos c3] at H
    have c3b0 : decide (x8_1 < (l0.length : Int)) = true := decide_eq_true c3
    clear c3
    by_cases c4 : 0 ≤ x8_1
    ·rw [if_pos c4] at H
     have c4b0 : decide (0 ≤ x8_1) = true := decide_eq_true c4
     clear c4
     by_cases c5 : x8_1 < (l0.length : Int)
     ·rw [if_pos c5] at H
      have c5b0 : decide (x8_1 < (l0.length : Int)) = true := decide_eq_true c5
      clear c5
      replace H := Option.bind_eq_some_iff.mp H
      obtain ⟨t261, A60, H⟩ := H
      replace H : (if t261 = true then (some x8_1) else (slices_IndexFunc_string_string__impl_areLines_1.l0 k1 l0 (l0.length : Int) (wrap64 (x8_1 + 1)))) = some r := H
      have A6 := am A60
      clear A60
      by_cases c7 : t261 = true
      ·subst c7
       have H1 : (some x8_1) = some r := by rw [if_pos rfl] at H; exact H
       clear H
       have H := H1
       clear H1
       obtain rfl := Option.some.inj H
       have p260 : 0 ≤ (x8_1 : Int) := oa
       have q260 : x8_1 < (l0.length : Int) := oa
       obtain ⟨ad260, e260, hx260_0⟩ := Kd.at_string HR0.out x8_1 p260 q260
       cases e260
       replace p260 := eq_true p260
       replace q260 := eq_true q260
       go_wp2_with (first | (go_at_call 92; (with_reducible refine (impl_areLines_1.calls k1 (rdOf ByteArray.empty l0 x8_1) true _ A6.out).mono ?_); rintro e w' ⟨rfl, ⟨nd, rfl⟩⟩))
       go_ret
       exact ⟨by first | rfl | (simp; done) | (simp [*]; done), by repeat (first | exact Drawn0.refl _ | apply Drawn0.step)⟩
      ·replace c7 := Bool.eq_false_iff.mpr c7
       subst c7
       have H1 : (slices_IndexFunc_string_string__impl_areLines_1.l0 k1 l0 (l0.length : Int) (wrap64 (x8_1 + 1))) = some r := by rw [if_neg (show ¬ (false = true) by decide)] at H; exact H
       clear H
       have H := H1
       clear H1
       have H' := am H
       clear H
       have p260 : 0 ≤ (x8_1 : Int) := oa
       have q260 : x8_1 < (l0.length : Int) := oa
       obtain ⟨ad260, e260, hx260_0⟩ := Kd.at_string HR0.out x8_1 p260 q260
       cases e260
       replace p260 := eq_true p260
       replace q260 := eq_true q260
       go_wp2_with (first | (go_at_call 92; (with_reducible refine (impl_areLines_1.calls k1 (rdOf ByteArray.empty l0 x8_1) false _ A6.out).mono ?_); rintro e w' ⟨rfl, ⟨nd, rfl⟩⟩))
       go_roundg k1
       case measure => have := HK1.out; omega
       case rel => exact ⟨(wrap64 (x8_1 + 1)), zf, H', ⟨by have := HK1.out; omega⟩, by repeat (first | exact Drawn0.refl _ | apply Drawn0.step)⟩
     ·rw [if_neg c5] at H
      exact absurd H (by simp)
    ·rw [if_neg c4] at H
     exact absurd H (by simp)
   ·rw [if_neg c3] at H
    have c3b0 : decide (x8_1 < (l0.length : Int)) = false := decide_eq_false c3
    clear c3
    obtain rfl := Option.some.inj H
    go_wp2
    go_ret
    exact ⟨by first | rfl | (simp; done) | (simp [*]; done), by repeat (first | exact Drawn0.refl _ | apply Drawn0.step)⟩

def slices_ContainsFunc_string_string__impl_areLines_1.f (k : Nat) (l0 : List ByteArray)  : Option (Bool) := (slices_IndexFunc_string_string__impl_areLines_1.f k l0).bind fun t262 => (some (decide (t262 ≥ 0)))
set_option maxHeartbeats 8000000 in
set_option maxRecDepth 100000 in
theorem slices_ContainsFunc_string_string__impl_areLines_1.calls (k : Nat) (A0 : Option Addr) (c0 : Nat) (l0 : List ByteArray)  (r : Bool) (w : World) (hr0 : Kd.C Kd.string w A0 l0.length l0) (hc0 : l0.length ≤ c0) (h : slices_ContainsFunc_string_string__impl_areLines_1.f k l0 = some r) :
  Calls Tryz.prog 91 #[.slice A0 l0.length c0, .func (.func 92) #[] #[]] w fun e w' => e = .returned (.bool r) ∧ Drawn0 w w' := by
 have HR0 := am hr0
 have HC0 := am hc0
 clear hr0 hc0
 have H : ((slices_IndexFunc_string_string__impl_areLines_1.f k l0).bind fun t262 => (some (decide (t262 ≥ 0)))) = some r := h
 clear h
 replace H := Option.bind_eq_some_iff.mp H
 obtain ⟨t262, A30, H⟩ := H
 replace H : (some (decide (t262 ≥ 0))) = some r := H
 have A3 := am A30
 clear A30
 obtain rfl := Option.some.inj H
 go_enter Tryz.func91, Tryz.ntmps91
 go_wp2_with (first | ((with_reducible refine gateC (f := 117) rfl ?_); refine goesL_ (some 7) rfl rfl Tryz.func117 (by kernel_rfl) rfl #[.slice A0 l0.length c0, .func (.func 92) #[] #[]] rfl zm ?_; (with_reducible refine (slices_IndexFunc_string_string__impl_areLines_1.calls k _ _ l0  t262 _ ?side1 ?side2 A3.out).mono ?_); (case side1 => exact zq HR0.out); (case side2 => exact HC0.out); rintro e w' ⟨rfl, ⟨nd, rfl⟩⟩; refine ⟨_, rfl, ?_⟩))
 go_ret
 exact ⟨by first | rfl | (simp; done) | (simp [*]; done), by repeat (first | exact Drawn0.refl _ | apply Drawn0.step)⟩

def impl_areLines.f (k : Nat) (l0 : List ByteArray) : Option (Bool) := if (l0.length : Int) ≤ 40 then ((slices_ContainsFunc_string_string__impl_areLines_1.f k l0).bind fun t263 => (some (!t263))) else (some false)
set_option maxHeartbeats 8000000 in
set_option maxRecDepth 100000 in
theorem impl_areLines.calls (k : Nat) (A0 : Option Addr) (c0 : Nat) (l0 : List ByteArray) (r : Bool) (w : World) (hr0 : Kd.C Kd.string w A0 l0.length l0) (hc0 : l0.length ≤ c0) (h : impl_areLines.f k l0 = some r) :
  Calls Tryz.prog 64 #[.slice A0 l0.length c0] w fun e w' => e = .returned (.bool r) ∧ Drawn0 w w' := by
 have HR0 := am hr0
 have HC0 := am hc0
 clear hr0 hc0
 have H : (if (l0.length : Int) ≤ 40 then ((slices_ContainsFunc_string_string__impl_areLines_1.f k l0).bind fun t263 => (some (!t263))) else (some false)) = some r := h
 clear h
 by_cases c2 : (l0.length : Int) ≤ 40
 ·rw [if_pos c2] at H
  have c2b0 : decide ((l0.length : Int) ≤ 40) = true := decide_eq_true c2
  have c2b1 : decide (l0.length ≤ 40) = true := decide_eq_true (by omega)
  clear c2
  replace H := Option.bind_eq_some_iff.mp H
  obtain ⟨t263, A30, H⟩ := H
  replace H : (some (!t263)) = some r := H
  have A3 := am A30
  clear A30
  obtain rfl := Option.some.inj H
  go_enter Tryz.func64, Tryz.ntmps64
  go_wp2_with (first | (go_at_call 91; (with_reducible refine (slices_ContainsFunc_string_string__impl_areLines_1.calls k _ _ l0  t263 _ ?side1 ?side2 A3.out).mono ?_); (case side1 => exact zq HR0.out); (case side2 => exact HC0.out); rintro e w' ⟨rfl, ⟨nd, rfl⟩⟩))
  go_ret
  exact ⟨by first | rfl | (simp; done) | (simp [*]; done), by repeat (first | exact Drawn0.refl _ | apply Drawn0.step)⟩
 ·rw [if_neg c2] at H
  have c2b0 : decide ((l0.length : Int) ≤ 40) = false := decide_eq_false c2
  have c2b1 : decide (l0.length ≤ 40) = false := decide_eq_false (by omega)
  clear c2
  obtain rfl := Option.some.inj H
  go_enter Tryz.func64, Tryz.ntmps64
  go_wp2
  go_ret
  exact ⟨by first | rfl | (simp; done) | (simp [*]; done), by repeat (first | exact Drawn0.refl _ | apply Drawn0.step)⟩

def stringslite_HasSuffix.f (a0 : ByteArray) (a1 : ByteArray) : Option (Bool) := if (a0.size : Int) ≥ (a1.size : Int) then (if 0 ≤ (wrap64 ((a0.size : Int) - (a1.size : Int))) then (if (wrap64 ((a0.size : Int) - (a1.size : Int))) ≤ (a0.size : Int) then (some ((a0.extract ((wrap64 ((a0.size : Int) - (a1.size : Int))) : Int).toNat a0.size).toList == a1.toList)) else (none)) else (none)) else (some false)
set_option maxHeartbeats 8000000 in
set_option maxRecDepth 100000 in
theorem stringslite_HasSuffix.calls (a0 : ByteArray) (a1 : ByteArray) (r : Bool) (w : World) (h : stringslite_HasSuffix.f a0 a1 = some r) :
  Calls Tryz.prog 119 #[.string a0, .string a1] w fun e w' => e = .returned (.bool r) ∧ Drawn0 w w' := by
 have H : (if (a0.size : Int) ≥ (a1.size : Int) then (if 0 ≤ (wrap64 ((a0.size : Int) - (a1.size : Int))) then (if (wrap64 ((a0.size : Int) - (a1.size : Int))) ≤ (a0.size : Int) then (some ((a0.extract ((wrap64 ((a0.size : Int) - (a1.size : Int))) : Int).toNat a0.size).toList == a1.toList)) else (none)) else (none)) else (some false)) = some r := h
 clear h
 by_cases c3 : (a0.size : Int) ≥ (a1.size : Int)
 ·rw [if_pos c3] at H
  have c3b0 : decide ((a1.size : Int) ≤ (a0.size : Int)) = true := decide_eq_true c3
  have c3b1 : decide (a1.size ≤ a0.size) = true := decide_eq_true (Int.ofNat_le.mp c3)
  clear c3
  obtain ⟨ji4, hji4⟩ : ∃ j_ : Int, (wrap64 ((a0.size : Int) - (a1.size : Int))) = j_ := ⟨_, rfl⟩
  replace H : (if 0 ≤ (ji4) then (if (ji4) ≤ (a0.size : Int) then (some ((a0.extract ((ji4) : Int).toNat a0.size).toList == a1.toList)) else (none)) else (none)) = some r := by first | (rw [hji4] at H; exact H) | (simp only [hji4] at H ⊢; exact H)
  have hji4w : (IntKind.i64.wrap ((a0.size : Int) - (a1.size : Int))) = ji4 := (i64_w _).trans hji4
  by_cases c5 : 0 ≤ (ji4)
  ·rw [if_pos c5] at H
   have c5b0 := eq_true c5
   have c5b1 : decide (0 ≤ (ji4)) = true := decide_eq_true c5
   clear c5
   by_cases c6 : (ji4) ≤ (a0.size : Int)
   ·rw [if_pos c6] at H
    have c6b0 := eq_true c6
    have c6b1 : decide ((ji4) ≤ (a0.size : Int)) = true := decide_eq_true c6
    clear c6
    obtain rfl := Option.some.inj H
    go_enter Tryz.func119, Tryz.ntmps119
    go_wp2
    go_ret
    exact ⟨by first | rfl | (simp; done) | (simp only [← hji4] <;> (first | rfl | simp)) | (simp [*]; done), by repeat (first | exact Drawn0.refl _ | apply Drawn0.step)⟩
   ·rw [if_neg c6] at H
    exact absurd H (by simp)
  ·rw [if_neg c5] at H
   exact absurd H (by simp)
 ·rw [if_neg c3] at H
  have c3b0 : decide ((a1.size : Int) ≤ (a0.size : Int)) = false := decide_eq_false c3
  have c3b1 : decide (a1.size ≤ a0.size) = false := decide_eq_false (fun h => c3 (Int.ofNat_le.mpr h))
  clear c3
  obtain rfl := Option.some.inj H
  go_enter Tryz.func119, Tryz.ntmps119
  go_wp2
  go_ret
  exact ⟨by first | rfl | (simp; done) | (simp [*]; done), by repeat (first | exact Drawn0.refl _ | apply Drawn0.step)⟩

def strings_HasSuffix.f (a0 : ByteArray) (a1 : ByteArray) : Option (Bool) := (stringslite_HasSuffix.f a0 a1).bind fun t264 => (some t264)
set_option maxHeartbeats 8000000 in
set_option maxRecDepth 100000 in
theorem strings_HasSuffix.calls (a0 : ByteArray) (a1 : ByteArray) (r : Bool) (w : World) (h : strings_HasSuffix.f a0 a1 = some r) :
  Calls Tryz.prog 94 #[.string a0, .string a1] w fun e w' => e = .returned (.bool r) ∧ Drawn0 w w' := by
 have H : ((stringslite_HasSuffix.f a0 a1).bind fun t264 => (some t264)) = some r := h
 clear h
 replace H := Option.bind_eq_some_iff.mp H
 obtain ⟨t264, A30, H⟩ := H
 replace H : (some t264) = some r := H
 have A3 := am A30
 clear A30
 obtain rfl := Option.some.inj H
 go_enter Tryz.func94, Tryz.ntmps94
 go_wp2_with (first | ((with_reducible refine gateC (f := 119) rfl ?_); refine goesL_ (some 7) rfl rfl Tryz.func119 (by kernel_rfl) rfl #[.string a0, .string a1] rfl zm ?_; (with_reducible refine (stringslite_HasSuffix.calls a0 a1 t264 _ A3.out).mono ?_); rintro e w' ⟨rfl, ⟨nd, rfl⟩⟩; refine ⟨_, rfl, ?_⟩))
 go_ret
 exact ⟨by first | rfl | (simp; done) | (simp [*]; done), by repeat (first | exact Drawn0.refl _ | apply Drawn0.step)⟩

def impl_isEnded.f (a0 : ByteArray) : Option (Bool) := (strings_HasSuffix.f a0 (⟨#[10]⟩ : ByteArray)).bind fun t265 => (some t265)
set_option maxHeartbeats 8000000 in
set_option maxRecDepth 100000 in
theorem impl_isEnded.calls (a0 : ByteArray) (r : Bool) (w : World) (h : impl_isEnded.f a0 = some r) :
  Calls Tryz.prog 65 #[.string a0] w fun e w' => e = .returned (.bool r) ∧ Drawn0 w w' := by
 have H : ((strings_HasSuffix.f a0 (⟨#[10]⟩ : ByteArray)).bind fun t265 => (some t265)) = some r := h
 clear h
 replace H := Option.bind_eq_some_iff.mp H
 obtain ⟨t265, A20, H⟩ := H
 replace H : (some t265) = some r := H
 have A2 := am A20
 clear A20
 obtain rfl := Option.some.inj H
 go_enter Tryz.func65, Tryz.ntmps65
 go_wp2_with (first | ((with_reducible refine gateC (f := 94) rfl ?_); refine goesL_ (some 4) rfl rfl Tryz.func94 (by kernel_rfl) rfl #[.string a0, .string (⟨#[10]⟩ : ByteArray)] rfl zm ?_; (with_reducible refine (strings_HasSuffix.calls a0 (⟨#[10]⟩ : ByteArray) t265 _ A2.out).mono ?_); rintro e w' ⟨rfl, ⟨nd, rfl⟩⟩; refine ⟨_, rfl, ?_⟩))
 go_ret
 exact ⟨by first | rfl | (simp; done) | (simp [*]; done), by repeat (first | exact Drawn0.refl _ | apply Drawn0.step)⟩

def impl_goodLines.l0 : Nat → List ByteArray → List ByteArray → Int → Int → Option (Bool)
 | 0, _, _, _, _ => none
 | k + 1, x0, x8, x9, x10 => if x10 < x9 then (if 0 ≤ x10 then (if x10 < (x8.length : Int) then (if x10 < (wrap64 ((x0.length : Int) - 1)) then ((impl_isEnded.f (rdOf ByteArray.empty x8 x10)).bind fun t268 => (if t268 = true then (impl_goodLines.l0 k x0 x8 x9 (wrap64 (x10 + 1))) else (some false))) else (impl_goodLines.l0 k x0 x8 x9 (wrap64 (x10 + 1)))) else (none)) else (none)) else (some true)
def impl_goodLines.f (k : Nat) (l0 : List ByteArray) : Option (Bool) := (impl_areLines.f k l0).bind fun t266 => (if t266 = true then (impl_goodLines.l0 k l0 l0 (l0.length : Int) 0) else (some false))
set_option maxHeartbeats 8000000 in
set_option maxRecDepth 100000 in
theorem impl_goodLines.calls (k : Nat) (A0 : Option Addr) (c0 : Nat) (l0 : List ByteArray) (r : Bool) (w : World) (hr0 : Kd.C Kd.string w A0 l0.length l0) (hc0 : l0.length ≤ c0) (h : impl_goodLines.f k l0 = some r) :
  Calls Tryz.prog 32 #[.slice A0 l0.length c0] w fun e w' => e = .returned (.bool r) ∧ Drawn0 w w' := by
 have HR0 := am hr0
 have HC0 := am hc0
 clear hr0 hc0
 have H : ((impl_areLines.f k l0).bind fun t266 => (if t266 = true then (impl_goodLines.l0 k l0 l0 (l0.length : Int) 0) else (some false))) = some r := h
 clear h
 replace H := Option.bind_eq_some_iff.mp H
 obtain ⟨t266, A20, H⟩ := H
 replace H : (if t266 = true then (impl_goodLines.l0 k l0 l0 (l0.length : Int) 0) else (some false)) = some r := H
 have A2 := am A20
 clear A20
 by_cases c3 : t266 = true
 ·subst c3
  have H1 : (impl_goodLines.l0 k l0 l0 (l0.length : Int) 0) = some r := by rw [if_pos rfl] at H; exact H
  clear H
  have H := H1
  clear H1
  have H' := am H
  clear H
  go_enter Tryz.func32, Tryz.ntmps32
  go_wp2_with (first | ((with_reducible refine gateC (f := 64) rfl ?_); refine goesL_ (some 6) rfl rfl Tryz.func64 (by kernel_rfl) rfl #[.slice A0 l0.length c0] rfl zm ?_; (with_reducible refine (impl_areLines.calls k _ _ l0 true _ ?side1 ?side2 A2.out).mono ?_); (case side1 => exact zq HR0.out); (case side2 => exact HC0.out); rintro e w' ⟨rfl, ⟨nd, rfl⟩⟩; refine ⟨_, rfl, ?_⟩))
  go_loopg [10] k (fun kq v10 w' => ∃ (x10_1 : Int), v10 = .int .i64 x10_1 ∧ Aside0 (impl_goodLines.l0 kq l0 l0 (l0.length : Int) x10_1 = some r) ∧ Aside0 (kq ≤ k) ∧ Drawn0 w w')
  case atStart => exact ⟨(0), zf, H', ⟨Nat.le_refl _⟩, by repeat (first | exact Drawn0.refl _ | apply Drawn0.step)⟩
  case round =>
   clear H'
   try clear p2
   try clear c3
   obtain ⟨x10_1, rfl, HA, HK1, ⟨m1, rfl⟩⟩ := hrel
   cases gk with
   | zero => exact absurd HA.out (by simp [impl_goodLines.l0])
   | succ k1 =>
    have H := HA.out
    clear HA
    simp only [impl_goodLines.l0] at H
    by_cases c4 : x10_1 < (l0.length : Int)
    ·rw [if_pos c4] at H
     have c4b0 : decide (x10_1 < (l0.length : Int)) = true := decide_eq_true c4
     clear c4
     by_cases c5 : 0 ≤ x10_1
     ·rw [if_pos c5] at H
      have c5b0 : decide (0 ≤ x10_1) = true := decide_eq_true c5
      clear c5
      by_cases c6 : x10_1 < (l0.length : Int)
      ·rw [if_pos c6] at H
       have c6b0 : decide (x10_1 < (l0.length : Int)) = true := decide_eq_true c6
       clear c6
       by_cases c7 : x10_1 < (wrap64 ((l0.length : Int) - 1))
       ·rw [if_pos c7] at H
        have c7b0 : decide (x10_1 < (wrap64 ((l0.length : Int) - 1))) = true := decide_eq_true c7
        clear c7
        replace H := Option.bind_eq_some_iff.mp H
        obtain ⟨t268, A80, H⟩ := H
        replace H : (if t268 = true then (impl_goodLines.l0 k1 l0 l0 (l0.length : Int) (wrap64 (x10_1 + 1))) else (some false)) = some r := H
        have A8 := am A80
        clear A80
        by_cases c9 : t268 = true
        ·subst c9
         have H1 : (impl_goodLines.l0 k1 l0 l0 (l0.length : Int) (wrap64 (x10_1 + 1))) = some r := by rw [if_pos rfl] at H; exact H
         clear H
         have H := H1
         clear H1
         have H' := am H
         clear H
         have p267 : 0 ≤ (x10_1 : Int) := oa
         have q267 : x10_1 < (l0.length : Int) := oa
         obtain ⟨ad267, e267, hx267_0⟩ := Kd.at_string HR0.out x10_1 p267 q267
         cases e267
         replace p267 := eq_true p267
         replace q267 := eq_true q267
         go_wp2_with (first | (go_at_call 65; (with_reducible refine (impl_isEnded.calls (rdOf ByteArray.empty l0 x10_1) true _ A8.out).mono ?_); rintro e w' ⟨rfl, ⟨nd, rfl⟩⟩))
         go_roundg k1
         case measure => have := HK1.out; omega
         case rel => exact ⟨(wrap64 (x10_1 + 1)), zf, H', ⟨by have := HK1.out; omega⟩, by repeat (first | exact Drawn0.refl _ | apply Drawn0.step)⟩
        ·replace c9 := Bool.eq_false_iff.mpr c9
         subst c9
         have H1 : (some false) = some r := by rw [if_neg (show ¬ (false = true) by decide)] at H; exact H
         clear H
         have H := H1
         clear H1
         obtain rfl := Option.some.inj H
         have p267 : 0 ≤ (x10_1 : Int) := oa
         have q267 : x10_1 < (l0.length : Int) := oa
         obtain ⟨ad267, e267, hx267_0⟩ := Kd.at_string HR0.out x10_1 p267 q267
         cases e267
         replace p267 := eq_true p267
         replace q267 := eq_true q267
         go_wp2_with (first | (go_at_call 65; (with_reducible refine (impl_isEnded.calls (rdOf ByteArray.empty l0 x10_1) false _ A8.out).mono ?_); rintro e w' ⟨rfl, ⟨nd, rfl⟩⟩))
         go_ret
         exact ⟨by first | rfl | (simp; done) | (simp [*]; done), by repeat (first | exact Drawn0.refl _ | apply Drawn0.step)⟩
       ·rw [if_neg c7] at H
        have c7b0 : decide (x10_1 < (wrap64 ((l0.length : Int) - 1))) = false := decide_eq_false c7
        clear c7
        have H' := am H
        clear H
        have p267 : 0 ≤ (x10_1 : Int) := oa
        have q267 : x10_1 < (l0.length : Int) := oa
        obtain ⟨ad267, e267, hx267_0⟩ := Kd.at_string HR0.out x10_1 p267 q267
        cases e267
        replace p267 := eq_true p267
        replace q267 := eq_true q267
        go_wp2
        go_roundg k1
        case measure => have := HK1.out; omega
        case rel => exact ⟨(wrap64 (x10_1 + 1)), zf, H', ⟨by have := HK1.out; omega⟩, by repeat (first | exact Drawn0.refl _ | apply Drawn0.step)⟩
      ·rw [if_neg c6] at H
       exact absurd H (by simp)
     ·rw [if_neg c5] at H
      exact absurd H (by simp)
    ·rw [if_neg c4] at H
     have c4b0 : decide (x10_1 < (l0.length : Int)) = false := decide_eq_false c4
     clear c4
     obtain rfl := Option.some.inj H
     go_wp2
     go_ret
     exact ⟨by first | rfl | (simp; done) | (simp [*]; done), by repeat (first | exact Drawn0.refl _ | apply Drawn0.step)⟩
 ·replace c3 := Bool.eq_false_iff.mpr c3
  subst c3
  have H1 : (some false) = some r := by rw [if_neg (show ¬ (false = true) by decide)] at H; exact H
  clear H
  have H := H1
  clear H1
  obtain rfl := Option.some.inj H
  go_enter Tryz.func32, Tryz.ntmps32
  go_wp2_with (first | ((with_reducible refine gateC (f := 64) rfl ?_); refine goesL_ (some 6) rfl rfl Tryz.func64 (by kernel_rfl) rfl #[.slice A0 l0.length c0] rfl zm ?_; (with_reducible refine (impl_areLines.calls k _ _ l0 false _ ?side1 ?side2 A2.out).mono ?_); (case side1 => exact zq HR0.out); (case side2 => exact HC0.out); rintro e w' ⟨rfl, ⟨nd, rfl⟩⟩; refine ⟨_, rfl, ?_⟩))
  go_ret
  exact ⟨by first | rfl | (simp; done) | (simp [*]; done), by repeat (first | exact Drawn0.refl _ | apply Drawn0.step)⟩
end Go.Proofs.YtmcldkobejhaeaaGreatDoor.My