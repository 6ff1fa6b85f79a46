/- Part 6 of 7 of a proof of this sentence: The Go function loop.example/g00825/laws.FnNormal returns true for every input, and each argument reads afterwards as it read before. No condition. -/
import Derived.Lib.Strings
import Derived.Laws.Bits64b
import Derived.Lib.Bytealg
import Derived.Lib.ItoaLen
import Derived.Lib.ItoaMem
import Derived.Test.YtmcldkobejhaeaaGreatDoorCFnNormal5
namespace Go.Proofs.YtmcldkobejhaeaaGreatDoor.My
open Go.RowKit Go.Proofs.YtmcldkobejhaeaaGreatDoorW.PrintWords Go.Proofs.YtmcldkobejhaeaaGreatDoorW.PrintLast Go.Proofs.YtmcldkobejhaeaaGreatDoorW.PrintMore
attribute [local go_sem] max2_int min2_int max_two min_two max_three min_three max_four min_four
set_option linter.unusedVariables false
set_option linter.unusedSimpArgs false
mutual
def spec_l5Text.l0 : Nat → ByteArray → List (S52) → Int → Int → Option (ByteArray)
 | 0, _, _, _, _ => none
 | k + 1, x3, x11, x12, x13 => if x13 < x12 then (if 0 ≤ x13 then (if x13 < (x11.length : Int) then (if (((T52 x11 x13).f2).length : Int) = 0 then (spec_l5Text.j1 k x3 (⟨#[97]⟩ : ByteArray) x11 x12 x13 ((T52 x11 x13).f0) ((T52 x11 x13).f1) ((T52 x11 x13).f2) ((T52 x11 x13).f3) ((T52 x11 x13).f4) ((T52 x11 x13).f5)) else (if (((T52 x11 x13).f5).length : Int) = 0 then (spec_l5Text.j1 k x3 (⟨#[100]⟩ : ByteArray) x11 x12 x13 ((T52 x11 x13).f0) ((T52 x11 x13).f1) ((T52 x11 x13).f2) ((T52 x11 x13).f3) ((T52 x11 x13).f4) ((T52 x11 x13).f5)) else (spec_l5Text.j1 k x3 (⟨#[99]⟩ : ByteArray) x11 x12 x13 ((T52 x11 x13).f0) ((T52 x11 x13).f1) ((T52 x11 x13).f2) ((T52 x11 x13).f3) ((T52 x11 x13).f4) ((T52 x11 x13).f5)))) else (none)) else (none)) else (some x3)
def spec_l5Text.j1 : Nat → ByteArray → ByteArray → List (S52) → Int → Int → Int → Int → List ByteArray → Int → Int → List ByteArray → Option (ByteArray)
 | 0, _, _, _, _, _, _, _, _, _, _, _ => none
 | k + 1, x3, x6, x11, x12, x13, x178000, x178001, x178002, x178003, x178004, x178005 => (spec_l5Numbers.f k x178000 x178001).bind fun t178 => (if t178.size + x6.size ≤ 9223372036854775807 then ((spec_l5Numbers.f k x178003 x178004).bind fun t179 => (if (t178 ++ x6).size + t179.size ≤ 9223372036854775807 then (if ((t178 ++ x6) ++ t179).size + 1 ≤ 9223372036854775807 then (if x3.size + (((t178 ++ x6) ++ t179) ++ (⟨#[10]⟩ : ByteArray)).size ≤ 9223372036854775807 then (spec_l5Text.l1 k (x3 ++ (((t178 ++ x6) ++ t179) ++ (⟨#[10]⟩ : ByteArray))) x6 x11 x12 x13 x178002 (x178002.length : Int) 0 x178000 x178001 x178002 x178003 x178004 x178005) else (none)) else (none)) else (none))) else (none))
def spec_l5Text.l1 : Nat → ByteArray → ByteArray → List (S52) → Int → Int → List ByteArray → Int → Int → Int → Int → List ByteArray → Int → Int → List ByteArray → Option (ByteArray)
 | 0, _, _, _, _, _, _, _, _, _, _, _, _, _, _ => none
 | k + 1, x3, x6, x11, x12, x13, x44, x45, x46, x178000, x178001, x178002, x178003, x178004, x178005 => if x46 < x45 then (if 0 ≤ x46 then (if x46 < (x44.length : Int) then ((spec_l5Shown.f (⟨#[60, 32]⟩ : ByteArray) (rdOf ByteArray.empty x44 x46)).bind fun t181 => (if x3.size + t181.size ≤ 9223372036854775807 then (spec_l5Text.l1 k (x3 ++ t181) x6 x11 x12 x13 x44 x45 (wrap64 (x46 + 1)) x178000 x178001 x178002 x178003 x178004 x178005) else (none))) else (none)) else (none)) else (if x6.toList = ([99] : List UInt8) then (if x3.size + 4 ≤ 9223372036854775807 then (spec_l5Text.j3 k (x3 ++ (⟨#[45, 45, 45, 10]⟩ : ByteArray)) x11 x12 x13 x178000 x178001 x178002 x178003 x178004 x178005) else (none)) else (spec_l5Text.j3 k x3 x11 x12 x13 x178000 x178001 x178002 x178003 x178004 x178005))
def spec_l5Text.j3 : Nat → ByteArray → List (S52) → Int → Int → Int → Int → List ByteArray → Int → Int → List ByteArray → Option (ByteArray)
 | 0, _, _, _, _, _, _, _, _, _, _ => none
 | k + 1, x3, x11, x12, x13, x178000, x178001, x178002, x178003, x178004, x178005 => spec_l5Text.l2 k x3 x11 x12 x13 x178005 (x178005.length : Int) 0
def spec_l5Text.l2 : Nat → ByteArray → List (S52) → Int → Int → List ByteArray → Int → Int → Option (ByteArray)
 | 0, _, _, _, _, _, _, _ => none
 | k + 1, x3, x11, x12, x13, x60, x61, x62 => if x62 < x61 then (if 0 ≤ x62 then (if x62 < (x60.length : Int) then ((spec_l5Shown.f (⟨#[62, 32]⟩ : ByteArray) (rdOf ByteArray.empty x60 x62)).bind fun t183 => (if x3.size + t183.size ≤ 9223372036854775807 then (spec_l5Text.l2 k (x3 ++ t183) x11 x12 x13 x60 x61 (wrap64 (x62 + 1))) else (none))) else (none)) else (none)) else (spec_l5Text.l0 k x3 x11 x12 (wrap64 (x13 + 1)))
end
def spec_l5Text.f (k : Nat) (l0 : List (S52)) : Option (ByteArray) := spec_l5Text.l0 k (⟨#[]⟩ : ByteArray) l0 (l0.length : Int) 0
def spec_l5Text.T10 : Bool × List (List Nat × List Nat) := (true, [([], []), ([], []), ([1], [1]), ([], []), ([3], [3]), ([2, 4], [2, 4]), ([], []), ([5, 6], [5, 6]), ([], []), ([8], [8]), ([], []), ([10], [10]), ([9, 11, 5], [9, 11]), ([7, 12], [7, 12]), ([13], [13]), ([0, 14], [0, 14]), ([15, 12, 0, 1, 2, 3, 4, 5, 6, 7, 8, 9, 10, 11, 12, 13, 14, 15], [0, 15])])
def spec_l5Text.B10 : List Nat := [0, 0, 2, 0, 8, 30, 0, 126, 0, 256, 0, 1024, 3902, 8190, 16382, 32767, 65535]
theorem spec_l5Text.tab10 : rtab .any (opsOf Tryz.f49 10) = spec_l5Text.T10 := by kernel_rfl
theorem spec_l5Text.bits10 : waitsOk spec_l5Text.T10.2 spec_l5Text.B10 = true := by kernel_rfl
set_option maxHeartbeats 8000000 in
set_option maxRecDepth 100000 in
theorem spec_l5Text.calls (k : Nat) (A0 : Option Addr) (c0 : Nat) (l0 : List (S52)) (r : ByteArray) (w : World) (hr0 : Kd.C k52 w A0 l0.length l0) (hc0 : l0.length ≤ c0) (h : spec_l5Text.f k l0 = some r) :
  Calls Tryz.prog 49 #[.slice A0 l0.length c0] w fun e w' => e = .returned (.string r) ∧ Below w.heap.size w w' := by
 have hu52 := Tryz.underlying52
 have HR0 := am hr0
 have HC0 := am hc0
 clear hr0 hc0
 have HB := am (Below.refl w.heap.size w)
 have H := h
 clear h
 unfold spec_l5Text.f at H
 have H' := am H
 clear H
 go_enter Tryz.func49, Tryz.ntmps49
 go_wp2
 go_loopg [3, 13] k (fun kq v3 v13 w' => ∃ (x3_1 : ByteArray) (x13_1 : Int), v3 = .string x3_1 ∧ v13 = .int .i64 x13_1 ∧ Aside0 (spec_l5Text.l0 kq x3_1 l0 (l0.length : Int) x13_1 = some r) ∧ Aside0 (kq ≤ k) ∧ Aside0 (Below w.heap.size w w'))
 case atStart => exact ⟨((⟨#[]⟩ : ByteArray)), (0), zf, zf, H', ⟨Nat.le_refl _⟩, ⟨zb⟩⟩
 case round =>
  clear H'
  obtain ⟨x3_1, x13_1, rfl, rfl, HA, HK1, HB⟩ := hrel
  cases gk with
  | zero => exact absurd HA.out (by simp [spec_l5Text.l0])
  | succ k1 =>
   have H := HA.out
   clear HA
   simp only [spec_l5Text.l0] at H
   by_cases c2 : x13_1 < (l0.length : Int)
   ·rw [if_pos c2] at H
    have c2b0 : decide (x13_1 < (l0.length : Int)) = true := decide_eq_true c2
    clear c2
    obtain ⟨c3, H⟩ := itn H
    have c3b0 := decide_eq_true c3
    clear c3
    obtain ⟨c4, H⟩ := itn H
    have c4b0 := decide_eq_true c4
    clear c4
    have HC5 := am H
    clear H
    have p176 : 0 ≤ (x13_1 : Int) := oa
    have q176 : x13_1 < (l0.length : Int) := oa
    obtain ⟨ad176, A176_2, c176_2, A176_5, c176_5, e176, hx176_0, hx176_1, hx176_2, hx176_3, hx176_4, hx176_5, hl176_2, hi176_2, hl176_5, hi176_5⟩ := at_T52 HR0.out x13_1 p176 q176
    cases e176
    replace hx176_0 := bc HB.out hx176_0
    replace hx176_1 := bc HB.out hx176_1
    replace hx176_2 := bc HB.out hx176_2
    replace hx176_3 := bc HB.out hx176_3
    replace hx176_4 := bc HB.out hx176_4
    replace hx176_5 := bc HB.out hx176_5
    have HR176_2 := am hi176_2
    have HC176_2 := am hl176_2
    clear hi176_2 hl176_2
    have HR176_5 := am hi176_5
    have HC176_5 := am hl176_5
    clear hi176_5 hl176_5
    replace p176 := eq_true p176
    replace q176 := eq_true q176
    go_upto_block 2 with (((with_reducible refine gate_dst (N := 5) rfl ?_); refine box_event ?hg (N := 5) ?hd (cs := #[.int .i64 0, .int .i64 0, .slice none 0 0, .int .i64 0, .int .i64 0, .slice none 0 0]) (t := 52) ?hr ?_; (case hd => rfl); (case hg => rfl); (case hr => (go_simp; done)); intro gb177 hg w6 hbox hb; have BK177 := am (hbox); have GW177 := am ((by rw [hg]; exact (below_size zb) : w.heap.size ≤ gb177)); have GE177 := am ((by rw [hg]; exact (below_size zb) : w.heap.size ≤ gb177)); replace HB := am (below_step zb hb); clear hb hbox hg; obtain ⟨hcz7_0, hcz7_1, hcz7_2, hcz7_3, hcz7_4, hcz7_5⟩ := cz6 BK177.out; obtain ⟨hfz7_0, hfz7_1, hfz7_2, hfz7_3, hfz7_4, hfz7_5⟩ := fz6 BK177.out))
    go_cut [6] (fun v6 wc => ∃ (kq : Nat) (x6_4 : ByteArray), v6 = .string x6_4 ∧ Aside0 (spec_l5Text.j1 kq x3_1 x6_4 l0 (l0.length : Int) x13_1 ((T52 l0 x13_1).f0) ((T52 l0 x13_1).f1) ((T52 l0 x13_1).f2) ((T52 l0 x13_1).f3) ((T52 l0 x13_1).f4) ((T52 l0 x13_1).f5) = some r) ∧ Aside0 (kq ≤ k1) ∧ Aside0 (wc.heap[gb177]? = some (.cells #[.int .i64 ((T52 l0 x13_1).f0), .int .i64 ((T52 l0 x13_1).f1), (.slice A176_2 ((T52 l0 x13_1).f2).length c176_2), .int .i64 ((T52 l0 x13_1).f3), .int .i64 ((T52 l0 x13_1).f4), (.slice A176_5 ((T52 l0 x13_1).f5).length c176_5)] 52 (0, 0))) ∧ Aside0 (Below w.heap.size w wc))
    case first =>
     have H := HC5.out
     clear HC5
     by_cases c8 : (((T52 l0 x13_1).f2).length : Int) = 0
     ·rw [if_pos c8] at H
      have c8b0 : ((((T52 l0 x13_1).f2).length : Int) == 0) = true := beq_iff_eq.mpr c8
      have c8b1 : ((((T52 l0 x13_1).f2).length : Int) != 0) = false := bne_eq_false_iff_eq.mpr c8
      clear c8
      (skip)
      have H' := am H
      clear H
      obtain ⟨hcz9_0, hcz9_1, hcz9_2, hcz9_3, hcz9_4, hcz9_5⟩ := cz6 BK177.out
      obtain ⟨hfz9_0, hfz9_1, hfz9_2, hfz9_3, hfz9_4, hfz9_5⟩ := fz6 BK177.out
      go_wp2
      go_meet
      case rel => exact ⟨_, ((⟨#[97]⟩ : ByteArray)), zf, H', ⟨by have := HK1.out; omega⟩, ⟨by refine blk_put (cs := #[.int .i64 ((T52 l0 x13_1).f0), .int .i64 ((T52 l0 x13_1).f1), .slice A176_2 ((T52 l0 x13_1).f2).length c176_2, .int .i64 ((T52 l0 x13_1).f3), .int .i64 ((T52 l0 x13_1).f4), .slice none 0 0]) ?_ 5 _ rfl; refine blk_put (cs := #[.int .i64 ((T52 l0 x13_1).f0), .int .i64 ((T52 l0 x13_1).f1), .slice A176_2 ((T52 l0 x13_1).f2).length c176_2, .int .i64 ((T52 l0 x13_1).f3), .int .i64 0, .slice none 0 0]) ?_ 4 _ rfl; refine blk_put (cs := #[.int .i64 ((T52 l0 x13_1).f0), .int .i64 ((T52 l0 x13_1).f1), .slice A176_2 ((T52 l0 x13_1).f2).length c176_2, .int .i64 0, .int .i64 0, .slice none 0 0]) ?_ 3 _ rfl; refine blk_put (cs := #[.int .i64 ((T52 l0 x13_1).f0), .int .i64 ((T52 l0 x13_1).f1), .slice none 0 0, .int .i64 0, .int .i64 0, .slice none 0 0]) ?_ 2 _ rfl; refine blk_put (cs := #[.int .i64 ((T52 l0 x13_1).f0), .int .i64 0, .slice none 0 0, .int .i64 0, .int .i64 0, .slice none 0 0]) ?_ 1 _ rfl; refine blk_put (cs := #[.int .i64 0, .int .i64 0, .slice none 0 0, .int .i64 0, .int .i64 0, .slice none 0 0]) ?_ 0 _ rfl; exact BK177.out⟩, ⟨zw⟩⟩
     ·rw [if_neg c8] at H
      have c8b0 : ((((T52 l0 x13_1).f2).length : Int) == 0) = false := beq_eq_false_iff_ne.mpr c8
      have c8b1 : ((((T52 l0 x13_1).f2).length : Int) != 0) = true := bne_iff_ne.mpr c8
      have c8b2 : ¬ (((T52 l0 x13_1).f2) = []) := fun h_ => c8 (by rw [h_]; rfl)
      (skip)
      by_cases c10 : (((T52 l0 x13_1).f5).length : Int) = 0
      ·rw [if_pos c10] at H
       have c10b0 : ((((T52 l0 x13_1).f5).length : Int) == 0) = true := beq_iff_eq.mpr c10
       have c10b1 : ((((T52 l0 x13_1).f5).length : Int) != 0) = false := bne_eq_false_iff_eq.mpr c10
       clear c10
       have H' := am H
       clear H
       obtain ⟨hcz11_0, hcz11_1, hcz11_2, hcz11_3, hcz11_4, hcz11_5⟩ := cz6 BK177.out
       obtain ⟨hfz11_0, hfz11_1, hfz11_2, hfz11_3, hfz11_4, hfz11_5⟩ := fz6 BK177.out
       go_wp2
       go_meet
       case rel => exact ⟨_, ((⟨#[100]⟩ : ByteArray)), zf, H', ⟨by have := HK1.out; omega⟩, ⟨by refine blk_put (cs := #[.int .i64 ((T52 l0 x13_1).f0), .int .i64 ((T52 l0 x13_1).f1), .slice A176_2 ((T52 l0 x13_1).f2).length c176_2, .int .i64 ((T52 l0 x13_1).f3), .int .i64 ((T52 l0 x13_1).f4), .slice none 0 0]) ?_ 5 _ rfl; refine blk_put (cs := #[.int .i64 ((T52 l0 x13_1).f0), .int .i64 ((T52 l0 x13_1).f1), .slice A176_2 ((T52 l0 x13_1).f2).length c176_2, .int .i64 ((T52 l0 x13_1).f3), .int .i64 0, .slice none 0 0]) ?_ 4 _ rfl; refine blk_put (cs := #[.int .i64 ((T52 l0 x13_1).f0), .int .i64 ((T52 l0 x13_1).f1), .slice A176_2 ((T52 l0 x13_1).f2).length c176_2, .int .i64 0, .int .i64 0, .slice none 0 0]) ?_ 3 _ rfl; refine blk_put (cs := #[.int .i64 ((T52 l0 x13_1).f0), .int .i64 ((T52 l0 x13_1).f1), .slice none 0 0, .int .i64 0, .int .i64 0, .slice none 0 0]) ?_ 2 _ rfl; refine blk_put (cs := #[.int .i64 ((T52 l0 x13_1).f0), .int .i64 0, .slice none 0 0, .int .i64 0, .int .i64 0, .slice none 0 0]) ?_ 1 _ rfl; refine blk_put (cs := #[.int .i64 0, .int .i64 0, .slice none 0 0, .int .i64 0, .int .i64 0, .slice none 0 0]) ?_ 0 _ rfl; exact BK177.out⟩, ⟨zw⟩⟩
      ·rw [if_neg c10] at H
       have c10b0 : ((((T52 l0 x13_1).f5).length : Int) == 0) = false := beq_eq_false_iff_ne.mpr c10
       have c10b1 : ((((T52 l0 x13_1).f5).length : Int) != 0) = true := bne_iff_ne.mpr c10
       have c10b2 : ¬ (((T52 l0 x13_1).f5) = []) := fun h_ => c10 (by rw [h_]; rfl)
       have H' := am H
       clear H
       obtain ⟨hcz12_0, hcz12_1, hcz12_2, hcz12_3, hcz12_4, hcz12_5⟩ := cz6 BK177.out
       obtain ⟨hfz12_0, hfz12_1, hfz12_2, hfz12_3, hfz12_4, hfz12_5⟩ := fz6 BK177.out
       go_wp2
       go_meet
       case rel => exact ⟨_, ((⟨#[99]⟩ : ByteArray)), zf, H', ⟨by have := HK1.out; omega⟩, ⟨by refine blk_put (cs := #[.int .i64 ((T52 l0 x13_1).f0), .int .i64 ((T52 l0 x13_1).f1), .slice A176_2 ((T52 l0 x13_1).f2).length c176_2, .int .i64 ((T52 l0 x13_1).f3), .int .i64 ((T52 l0 x13_1).f4), .slice none 0 0]) ?_ 5 _ rfl; refine blk_put (cs := #[.int .i64 ((T52 l0 x13_1).f0), .int .i64 ((T52 l0 x13_1).f1), .slice A176_2 ((T52 l0 x13_1).f2).length c176_2, .int .i64 ((T52 l0 x13_1).f3), .int .i64 0, .slice none 0 0]) ?_ 4 _ rfl; refine blk_put (cs := #[.int .i64 ((T52 l0 x13_1).f0), .int .i64 ((T52 l0 x13_1).f1), .slice A176_2 ((T52 l0 x13_1).f2).length c176_2, .int .i64 0, .int .i64 0, .slice none 0 0]) ?_ 3 _ rfl; refine blk_put (cs := #[.int .i64 ((T52 l0 x13_1).f0), .int .i64 ((T52 l0 x13_1).f1), .slice none 0 0, .int .i64 0, .int .i64 0, .slice none 0 0]) ?_ 2 _ rfl; refine blk_put (cs := #[.int .i64 ((T52 l0 x13_1).f0), .int .i64 0, .slice none 0 0, .int .i64 0, .int .i64 0, .slice none 0 0]) ?_ 1 _ rfl; refine blk_put (cs := #[.int .i64 0, .int .i64 0, .slice none 0 0, .int .i64 0, .int .i64 0, .slice none 0 0]) ?_ 0 _ rfl; exact BK177.out⟩, ⟨zw⟩⟩
    case rest =>
     clear HC5
     try clear c2b0
     try clear c3b0
     try clear c4b0
     try clear hcz7_0
     try clear hcz7_1
     try clear hcz7_2
     try clear hcz7_3
     try clear hcz7_4
     try clear hcz7_5
     try clear hfz7_0
     try clear hfz7_1
     try clear hfz7_2
     try clear hfz7_3
     try clear hfz7_4
     try clear hfz7_5
     try clear hx176_0
     try clear hx176_1
     try clear hx176_2
     try clear hx176_3
     try clear hx176_4
     try clear hx176_5
     try clear p176
     try clear q176
     obtain ⟨kq, x6_4, rfl, HA, HJ4, BK177, HB⟩ := hcut
     cases kq with
     | zero => exact absurd HA.out (by simp [spec_l5Text.j1])
     | succ kj4 =>
      have H := HA.out
      clear HA
      simp only [spec_l5Text.j1] at H
      replace H := Option.bind_eq_some_iff.mp H
      obtain ⟨t178, A130, H⟩ := H
      replace H : (if t178.size + x6_4.size ≤ 9223372036854775807 then ((spec_l5Numbers.f kj4 ((T52 l0 x13_1).f3) ((T52 l0 x13_1).f4)).bind fun t179 => (if (t178 ++ x6_4).size + t179.size ≤ 9223372036854775807 then (if ((t178 ++ x6_4) ++ t179).size + 1 ≤ 9223372036854775807 then (if x3_1.size + (((t178 ++ x6_4) ++ t179) ++ (⟨#[10]⟩ : ByteArray)).size ≤ 9223372036854775807 then (spec_l5Text.l1 kj4 (x3_1 ++ (((t178 ++ x6_4) ++ t179) ++ (⟨#[10]⟩ : ByteArray))) x6_4 l0 (l0.length : Int) x13_1 ((T52 l0 x13_1).f2) (((T52 l0 x13_1).f2).length : Int) 0 ((T52 l0 x13_1).f0) ((T52 l0 x13_1).f1) ((T52 l0 x13_1).f2) ((T52 l0 x13_1).f3) ((T52 l0 x13_1).f4) ((T52 l0 x13_1).f5)) else (none)) else (none)) else (none))) else (none)) = some r := H
      have A13 := am A130
      clear A130
      obtain ⟨c14, H⟩ := itn H
      have c14b0 := eq_true c14
      have c14b1 := decide_eq_true c14
      try have c14b2 : (9223372036854775807 < t178.size + x6_4.size) = False := eq_false (Nat.not_lt.2 c14)
      replace H := Option.bind_eq_some_iff.mp H
      obtain ⟨t179, A150, H⟩ := H
      replace H : (if (t178 ++ x6_4).size + t179.size ≤ 9223372036854775807 then (if ((t178 ++ x6_4) ++ t179).size + 1 ≤ 9223372036854775807 then (if x3_1.size + (((t178 ++ x6_4) ++ t179) ++ (⟨#[10]⟩ : ByteArray)).size ≤ 9223372036854775807 then (spec_l5Text.l1 kj4 (x3_1 ++ (((t178 ++ x6_4) ++ t179) ++ (⟨#[10]⟩ : ByteArray))) x6_4 l0 (l0.length : Int) x13_1 ((T52 l0 x13_1).f2) (((T52 l0 x13_1).f2).length : Int) 0 ((T52 l0 x13_1).f0) ((T52 l0 x13_1).f1) ((T52 l0 x13_1).f2) ((T52 l0 x13_1).f3) ((T52 l0 x13_1).f4) ((T52 l0 x13_1).f5)) else (none)) else (none)) else (none)) = some r := H
      have A15 := am A150
      clear A150
      obtain ⟨c16, H⟩ := itn H
      have c16b0 := eq_true c16
      have c16b1 := decide_eq_true c16
      try have c16b2 : (9223372036854775807 < (t178 ++ x6_4).size + t179.size) = False := eq_false (Nat.not_lt.2 c16)
      try have c16b9 := c16
      try simp only [ByteArray.size_append] at c16b9
      try have c16b8 := eq_false (Nat.not_lt.2 c16b9)
      try replace c16b9 := eq_true c16b9
      obtain ⟨c17, H⟩ := itn H
      have c17b0 := eq_true c17
      have c17b1 := decide_eq_true c17
      try have c17b2 : (9223372036854775807 < ((t178 ++ x6_4) ++ t179).size + 1) = False := eq_false (Nat.not_lt.2 c17)
      try have c17b9 := c17
      try simp only [ByteArray.size_append] at c17b9
      try have c17b8 := eq_false (Nat.not_lt.2 c17b9)
      try replace c17b9 := eq_true c17b9
      obtain ⟨c18, H⟩ := itn H
      have c18b0 := eq_true c18
      have c18b1 := decide_eq_true c18
      try have c18b2 : (9223372036854775807 < x3_1.size + (((t178 ++ x6_4) ++ t179) ++ (⟨#[10]⟩ : ByteArray)).size) = False := eq_false (Nat.not_lt.2 c18)
      try have c18b9 := c18
      try simp only [ByteArray.size_append, show (⟨#[10]⟩ : ByteArray).size = 1 from rfl] at c18b9
      try have c18b8 := eq_false (Nat.not_lt.2 c18b9)
      try replace c18b9 := eq_true c18b9
      have H' := am H
      clear H
      try go_wp2
      replace BK177 := am (blk_drew BK177.out)
      replace HB := am (below_drew1 HB.out)
      refine start_ (n := 17) (S := fun w' => w'.cell? ⟨gb177, 0, none⟩ = some (.int .i64 ((T52 l0 x13_1).f0)) ∧ w'.cell? ⟨gb177, 1, none⟩ = some (.int .i64 ((T52 l0 x13_1).f1)) ∧ w'.cell? ⟨gb177, 2, none⟩ = some (.slice A176_2 ((T52 l0 x13_1).f2).length c176_2) ∧ w'.cell? ⟨gb177, 3, none⟩ = some (.int .i64 ((T52 l0 x13_1).f3)) ∧ w'.cell? ⟨gb177, 4, none⟩ = some (.int .i64 ((T52 l0 x13_1).f4)) ∧ w'.cell? ⟨gb177, 5, none⟩ = some (.slice A176_5 ((T52 l0 x13_1).f5).length c176_5)) (ds := []) #[O,O,O,O,O,O,O,O,O,O,O,O,O,O,O,O,O] (by kernel_rfl) rfl rfl ⟨(blk_cell BK177.out 0).trans rfl, (blk_cell BK177.out 1).trans rfl, (blk_cell BK177.out 2).trans rfl, (blk_cell BK177.out 3).trans rfl, (blk_cell BK177.out 4).trans rfl, (blk_cell BK177.out 5).trans rfl⟩ (fun hHeld => ?_); refine with_tabW spec_l5Text.tab10 spec_l5Text.bits10 (fun HT_ HW_ => ?_)
      generalize wc.drew = w19 at BK177 HB hHeld ⊢
      refine pu 0 (some 27) ?_
      refine pu 1 (some 28) ?_
      refine pu 3 (some 30) ?_
      refine pu 6 (some 33) ?_
      refine pu 8 (some 35) ?_
      refine pu 10 (some 37) ?_
      refine ta 2 (some 29) ?_
      refine ta 4 (some 31) ?_
      refine ta 9 (some 36) ?_
      refine ta 11 (some 38) ?_
      refine one_ (i := 5) (N := some 32) #[Y,Y,Y,Y,Y,Y,Y,O,Y,Y,Y,Y,O,O,O,O,O] rfl rfl (one_of HT_.out (by kernel_rfl)) (by decide) (fun K hK => ?_)
      refine goes_ Tryz.func78 (by kernel_rfl) rfl #[.int .i64 ((T52 l0 x13_1).f0), .int .i64 ((T52 l0 x13_1).f1)] (by rfl) rfl rfl zm ?_
      with_reducible refine (spec_l5Numbers.calls kj4 ((T52 l0 x13_1).f0) ((T52 l0 x13_1).f1) t178 _ A13.out).mono ?_
      rintro e w20 ⟨rfl, hb⟩
      refine ⟨_, rfl, ?_⟩
      replace BK177 := am (blk_below (g := gb177) (o := .cells #[.int .i64 ((T52 l0 x13_1).f0), .int .i64 ((T52 l0 x13_1).f1), .slice A176_2 ((T52 l0 x13_1).f2).length c176_2, .int .i64 ((T52 l0 x13_1).f3), .int .i64 ((T52 l0 x13_1).f4), .slice A176_5 ((T52 l0 x13_1).f5).length c176_5] 52 (0, 0)) (zk BK177.out) hb)
      replace HB := am (below_step zw hb)
      (try clear hb)
      refine hK.out _ _ ⟨(blk_cell BK177.out 0).trans rfl, (blk_cell BK177.out 1).trans rfl, (blk_cell BK177.out 2).trans rfl, (blk_cell BK177.out 3).trans rfl, (blk_cell BK177.out 4).trans rfl, (blk_cell BK177.out 5).trans rfl⟩ (fun hHeld => ?_)
      clear hK K
      refine norm_ (a' := ?_) ?_ ?_
      rotate_left
      ·show Act.put _ (some 32) _ = _
       simp only [Act.put,qa,qb,qc,i64_w,i32_w]
       rfl
      refine pu 7 (some 34) ?_
      refine one_ (i := 12) (N := some 39) #[Y,Y,Y,Y,Y,Y,Y,Y,Y,Y,Y,Y,Y,O,O,O,O] rfl rfl (one_of HT_.out (by kernel_rfl)) (by decide) (fun K hK => ?_)
      refine goes_ Tryz.func78 (by kernel_rfl) rfl #[.int .i64 ((T52 l0 x13_1).f3), .int .i64 ((T52 l0 x13_1).f4)] (by rfl) rfl rfl zm ?_
      with_reducible refine (spec_l5Numbers.calls kj4 ((T52 l0 x13_1).f3) ((T52 l0 x13_1).f4) t179 _ A15.out).mono ?_
      rintro e w21 ⟨rfl, hb⟩
      refine ⟨_, rfl, ?_⟩
      replace BK177 := am (blk_below (g := gb177) (o := .cells #[.int .i64 ((T52 l0 x13_1).f0), .int .i64 ((T52 l0 x13_1).f1), .slice A176_2 ((T52 l0 x13_1).f2).length c176_2, .int .i64 ((T52 l0 x13_1).f3), .int .i64 ((T52 l0 x13_1).f4), .slice A176_5 ((T52 l0 x13_1).f5).length c176_5] 52 (0, 0)) (zk BK177.out) hb)
      replace HB := am (below_step zw hb)
      (try clear hb)
      refine hK.out _ _ ⟨(blk_cell BK177.out 0).trans rfl, (blk_cell BK177.out 1).trans rfl, (blk_cell BK177.out 2).trans rfl, (blk_cell BK177.out 3).trans rfl, (blk_cell BK177.out 4).trans rfl, (blk_cell BK177.out 5).trans rfl⟩ (fun hHeld => ?_)
      clear hK K
      refine norm_ (a' := ?_) ?_ ?_
      rotate_left
      ·show Act.put _ (some 39) _ = _
       simp only [Act.put,qa,qb,qc,i64_w,i32_w]
       rfl
      refine pu 13 (some 40) ?_
      refine pu 14 (some 41) ?_
      refine pu 15 (some 42) ?_
      refine pu 16 (some 3) ?_
      refine done_ (done_of HT_.out (by kernel_rfl)) ?_
      obtain ⟨hcz22_0, hcz22_1, hcz22_2, hcz22_3, hcz22_4, hcz22_5⟩ := cz6 BK177.out
      obtain ⟨hfz22_0, hfz22_1, hfz22_2, hfz22_3, hfz22_4, hfz22_5⟩ := fz6 BK177.out
      try go_wp2
      go_loopg [3, 46] kj4 (fun kq v3 v46 w' => ∃ (x3_3 : ByteArray) (x46_3 : Int), v3 = .string x3_3 ∧ v46 = .int .i64 x46_3 ∧ Aside0 (spec_l5Text.l1 kq x3_3 x6_4 l0 (l0.length : Int) x13_1 ((T52 l0 x13_1).f2) (((T52 l0 x13_1).f2).length : Int) x46_3 ((T52 l0 x13_1).f0) ((T52 l0 x13_1).f1) ((T52 l0 x13_1).f2) ((T52 l0 x13_1).f3) ((T52 l0 x13_1).f4) ((T52 l0 x13_1).f5) = some r) ∧ Aside0 (kq ≤ kj4) ∧ Aside0 (w'.heap[gb177]? = some (.cells #[.int .i64 ((T52 l0 x13_1).f0), .int .i64 ((T52 l0 x13_1).f1), (.slice A176_2 ((T52 l0 x13_1).f2).length c176_2), .int .i64 ((T52 l0 x13_1).f3), .int .i64 ((T52 l0 x13_1).f4), (.slice A176_5 ((T52 l0 x13_1).f5).length c176_5)] 52 (0, 0))) ∧ Aside0 (Below w.heap.size w w'))
      case atStart => exact ⟨(x3_1 ++ (((t178 ++ x6_4) ++ t179) ++ (⟨#[10]⟩ : ByteArray))), (0), zf, zf, H', ⟨Nat.le_refl _⟩, ⟨zk BK177.out⟩, ⟨zw⟩⟩
      case round =>
       clear H'
       try clear c14
       try clear c14b0
       try clear c14b1
       try clear c14b2
       try clear c16
       try clear c16b0
       try clear c16b1
       try clear c16b2
       try clear c17
       try clear c17b0
       try clear c17b1
       try clear c17b2
       try clear c18
       try clear c18b0
       try clear c18b1
       try clear c18b2
       try clear hcz22_0
       try clear hcz22_1
       try clear hcz22_2
       try clear hcz22_3
       try clear hcz22_4
       try clear hcz22_5
       try clear hfz22_0
       try clear hfz22_1
       try clear hfz22_2
       try clear hfz22_3
       try clear hfz22_4
       try clear hfz22_5
       obtain ⟨x3_3, x46_3, rfl, rfl, HA, HK3, BK177, HB⟩ := hrel
       cases gk with
       | zero => exact absurd HA.out (by simp [spec_l5Text.l1])
       | succ k3 =>
        have H := HA.out
        clear HA
        simp only [spec_l5Text.l1] at H
        by_cases c23 : x46_3 < (((T52 l0 x13_1).f2).length : Int)
        ·rw [if_pos c23] at H
         have c23b0 : decide (x46_3 < (((T52 l0 x13_1).f2).length : Int)) = true := decide_eq_true c23
         clear c23
         obtain ⟨c24, H⟩ := itn H
         have c24b0 := decide_eq_true c24
         clear c24
         obtain ⟨c25, H⟩ := itn H
         have c25b0 := decide_eq_true c25
         clear c25
         replace H := Option.bind_eq_some_iff.mp H
         obtain ⟨t181, A260, H⟩ := H
         replace H : (if x3_3.size + t181.size ≤ 9223372036854775807 then (spec_l5Text.l1 k3 (x3_3 ++ t181) x6_4 l0 (l0.length : Int) x13_1 ((T52 l0 x13_1).f2) (((T52 l0 x13_1).f2).length : Int) (wrap64 (x46_3 + 1)) ((T52 l0 x13_1).f0) ((T52 l0 x13_1).f1) ((T52 l0 x13_1).f2) ((T52 l0 x13_1).f3) ((T52 l0 x13_1).f4) ((T52 l0 x13_1).f5)) else (none)) = some r := H
         have A26 := am A260
         clear A260
         obtain ⟨c27, H⟩ := itn H
         have c27b0 := eq_true c27
         have c27b1 := decide_eq_true c27
         try have c27b2 : (9223372036854775807 < x3_3.size + t181.size) = False := eq_false (Nat.not_lt.2 c27)
         have H' := am H
         clear H
         have p180 : 0 ≤ (x46_3 : Int) := oa
         have q180 : x46_3 < (((T52 l0 x13_1).f2).length : Int) := oa
         obtain ⟨ad180, e180, hx180_0⟩ := Kd.at_string HR176_2.out x46_3 p180 q180
         cases e180
         replace hx180_0 := bc HB.out hx180_0
         replace p180 := eq_true p180
         replace q180 := eq_true q180
         go_wp2_with (((with_reducible refine gateC (f := 79) rfl ?_); refine goesL_ (some 52) rfl rfl Tryz.func79 (by kernel_rfl) rfl #[.string (⟨#[60, 32]⟩ : ByteArray), .string (rdOf ByteArray.empty ((T52 l0 x13_1).f2) x46_3)] rfl zm ?_; (with_reducible refine (spec_l5Shown.calls (⟨#[60, 32]⟩ : ByteArray) (rdOf ByteArray.empty ((T52 l0 x13_1).f2) x46_3) t181 _ A26.out).mono ?_); rintro e w' ⟨rfl, ⟨nd, rfl⟩⟩; refine ⟨_, rfl, ?_⟩))
         go_roundg k3
         case measure => have := HK1.out; have := HJ4.out; have := HK3.out; omega
         case rel => exact ⟨(x3_3 ++ t181), (wrap64 (x46_3 + 1)), zf, zf, H', ⟨by have := HK1.out; have := HJ4.out; have := HK3.out; omega⟩, ⟨zk BK177.out⟩, ⟨zw⟩⟩
        ·rw [if_neg c23] at H
         have c23b0 : decide (x46_3 < (((T52 l0 x13_1).f2).length : Int)) = false := decide_eq_false c23
         clear c23
         have HC28 := am H
         clear H
         go_upto_if 56 with (fail)
         go_cut [3] (fun v3 wc => ∃ (kq : Nat) (x3_27 : ByteArray), v3 = .string x3_27 ∧ Aside0 (spec_l5Text.j3 kq x3_27 l0 (l0.length : Int) x13_1 ((T52 l0 x13_1).f0) ((T52 l0 x13_1).f1) ((T52 l0 x13_1).f2) ((T52 l0 x13_1).f3) ((T52 l0 x13_1).f4) ((T52 l0 x13_1).f5) = some r) ∧ Aside0 (kq ≤ k3) ∧ Aside0 (wc.heap[gb177]? = some (.cells #[.int .i64 ((T52 l0 x13_1).f0), .int .i64 ((T52 l0 x13_1).f1), (.slice A176_2 ((T52 l0 x13_1).f2).length c176_2), .int .i64 ((T52 l0 x13_1).f3), .int .i64 ((T52 l0 x13_1).f4), (.slice A176_5 ((T52 l0 x13_1).f5).length c176_5)] 52 (0, 0))) ∧ Aside0 (Below w.heap.size w wc))
         case first =>
          have H := HC28.out
          clear HC28
          by_cases c29 : x6_4.toList = ([99] : List UInt8)
          ·rw [if_pos c29] at H
           have c29b0 : (x6_4.toList == ([99] : List UInt8)) = true := beq_iff_eq.mpr c29
           have c29b1 : (x6_4.toList != ([99] : List UInt8)) = false := bne_eq_false_iff_eq.mpr c29
           clear c29
           (rw [c29b0])
           obtain ⟨c30, H⟩ := itn H
           have c30b0 := eq_true c30
           have c30b1 := decide_eq_true c30
           try have c30b2 : (9223372036854775807 < x3_3.size + 4) = False := eq_false (Nat.not_lt.2 c30)
           have H' := am H
           clear H
           go_wp2
           go_meet
           case rel => exact ⟨_, (x3_3 ++ (⟨#[45, 45, 45, 10]⟩ : ByteArray)), zf, H', ⟨by have := HK1.out; have := HJ4.out; have := HK3.out; omega⟩, ⟨zk BK177.out⟩, ⟨zw⟩⟩
          ·rw [if_neg c29] at H
           have c29b0 : (x6_4.toList == ([99] : List UInt8)) = false := beq_eq_false_iff_ne.mpr c29
           have c29b1 : (x6_4.toList != ([99] : List UInt8)) = true := bne_iff_ne.mpr c29
           (rw [c29b0])
           have H' := am H
           clear H
           go_wp2
           go_meet
           case rel => exact ⟨_, (x3_3), zf, H', ⟨by have := HK1.out; have := HJ4.out; have := HK3.out; omega⟩, ⟨zk BK177.out⟩, ⟨zw⟩⟩
         case rest =>
          clear HC28
          try clear c23b0
          obtain ⟨kq, x3_27, rfl, HA, HJ27, BK177, HB⟩ := hcut
          cases kq with
          | zero => exact absurd HA.out (by simp [spec_l5Text.j3])
          | succ kj27 =>
           have H := HA.out
           clear HA
           simp only [spec_l5Text.j3] at H
           have H' := am H
           clear H
           obtain ⟨hcz31_0, hcz31_1, hcz31_2, hcz31_3, hcz31_4, hcz31_5⟩ := cz6 BK177.out
           obtain ⟨hfz31_0, hfz31_1, hfz31_2, hfz31_3, hfz31_4, hfz31_5⟩ := fz6 BK177.out
           go_wp2
           go_loopg [3, 62] kj27 (fun kq v3 v62 w' => ∃ (x3_5 : ByteArray) (x62_5 : Int), v3 = .string x3_5 ∧ v62 = .int .i64 x62_5 ∧ Aside0 (spec_l5Text.l2 kq x3_5 l0 (l0.length : Int) x13_1 ((T52 l0 x13_1).f5) (((T52 l0 x13_1).f5).length : Int) x62_5 = some r) ∧ Aside0 (kq ≤ kj27) ∧ Aside0 (w'.heap[gb177]? = some (.cells #[.int .i64 ((T52 l0 x13_1).f0), .int .i64 ((T52 l0 x13_1).f1), (.slice A176_2 ((T52 l0 x13_1).f2).length c176_2), .int .i64 ((T52 l0 x13_1).f3), .int .i64 ((T52 l0 x13_1).f4), (.slice A176_5 ((T52 l0 x13_1).f5).length c176_5)] 52 (0, 0))) ∧ Aside0 (Below w.heap.size w w'))
           case atStart => exact ⟨(x3_27), (0), zf, zf, H', ⟨Nat.le_refl _⟩, ⟨zk BK177.out⟩, ⟨zw⟩⟩
           case round =>
            clear H'
            try clear hcz31_0
            try clear hcz31_1
            try clear hcz31_2
            try clear hcz31_3
            try clear hcz31_4
            try clear hcz31_5
            try clear hfz31_0
            try clear hfz31_1
            try clear hfz31_2
            try clear hfz31_3
            try clear hfz31_4
            try clear hfz31_5
            obtain ⟨x3_5, x62_5, rfl, rfl, HA, HK5, BK177, HB⟩ := hrel
            cases gk with
            | zero => exact absurd HA.out (by simp [spec_l5Text.l2])
            | succ k5 =>
             have H := HA.out
             clear HA
             simp only [spec_l5Text.l2] at H
             by_cases c32 : x62_5 < (((T52 l0 x13_1).f5).length : Int)
             ·rw [if_pos c32] at H
              have c32b0 : decide (x62_5 < (((T52 l0 x13_1).f5).length : Int)) = true := decide_eq_true c32
              clear c32
              obtain ⟨c33, H⟩ := itn H
              have c33b0 := decide_eq_true c33
              clear c33
              obtain ⟨c34, H⟩ := itn H
              have c34b0 := decide_eq_true c34
              clear c34
              replace H := Option.bind_eq_some_iff.mp H
              obtain ⟨t183, A350, H⟩ := H
              replace H : (if x3_5.size + t183.size ≤ 9223372036854775807 then (spec_l5Text.l2 k5 (x3_5 ++ t183) l0 (l0.length : Int) x13_1 ((T52 l0 x13_1).f5) (((T52 l0 x13_1).f5).length : Int) (wrap64 (x62_5 + 1))) else (none)) = some r := H
              have A35 := am A350
              clear A350
              obtain ⟨c36, H⟩ := itn H
              have c36b0 := eq_true c36
              have c36b1 := decide_eq_true c36
              try have c36b2 : (9223372036854775807 < x3_5.size + t183.size) = False := eq_false (Nat.not_lt.2 c36)
              have H' := am H
              clear H
              have p182 : 0 ≤ (x62_5 : Int) := oa
              have q182 : x62_5 < (((T52 l0 x13_1).f5).length : Int) := oa
              obtain ⟨ad182, e182, hx182_0⟩ := Kd.at_string HR176_5.out x62_5 p182 q182
              cases e182
              replace hx182_0 := bc HB.out hx182_0
              replace p182 := eq_true p182
              replace q182 := eq_true q182
              go_wp2_with (((with_reducible refine gateC (f := 79) rfl ?_); refine goesL_ (some 68) rfl rfl Tryz.func79 (by kernel_rfl) rfl #[.string (⟨#[62, 32]⟩ : ByteArray), .string (rdOf ByteArray.empty ((T52 l0 x13_1).f5) x62_5)] rfl zm ?_; (with_reducible refine (spec_l5Shown.calls (⟨#[62, 32]⟩ : ByteArray) (rdOf ByteArray.empty ((T52 l0 x13_1).f5) x62_5) t183 _ A35.out).mono ?_); rintro e w' ⟨rfl, ⟨nd, rfl⟩⟩; refine ⟨_, rfl, ?_⟩))
              go_roundg k5
              case measure => have := HK1.out; have := HJ4.out; have := HK3.out; have := HJ27.out; have := HK5.out; omega
              case rel => exact ⟨(x3_5 ++ t183), (wrap64 (x62_5 + 1)), zf, zf, H', ⟨by have := HK1.out; have := HJ4.out; have := HK3.out; have := HJ27.out; have := HK5.out; omega⟩, ⟨zk BK177.out⟩, ⟨zw⟩⟩
             ·rw [if_neg c32] at H
              have c32b0 : decide (x62_5 < (((T52 l0 x13_1).f5).length : Int)) = false := decide_eq_false c32
              clear c32
              have H' := am H
              clear H
              go_wp2
              go_roundg k5
              case measure => have := HK1.out; have := HJ4.out; have := HK3.out; have := HJ27.out; have := HK5.out; omega
              case rel => exact ⟨(x3_5), (wrap64 (x13_1 + 1)), zf, zf, H', ⟨by have := HK1.out; have := HJ4.out; have := HK3.out; have := HJ27.out; have := HK5.out; omega⟩, ⟨zw⟩⟩
   ·rw [if_neg c2] at H
    have c2b0 : decide (x13_1 < (l0.length : Int)) = false := decide_eq_false c2
    clear c2
    obtain rfl := Option.some.inj H
    go_wp2
    go_ret
    exact ⟨by rfl, zb⟩

def spec_StepsText.f (k : Nat) (l0 : List (S52)) : Option (ByteArray × Bool) := (spec_GoodSteps.f k l0).bind fun t792 => (if t792 = true then ((spec_l5Text.f k l0).bind fun t793 => (if (t793.size : Int) > 3000 then (some ((⟨#[]⟩ : ByteArray), false)) else ((spec_l5Text.f k l0).bind fun t794 => (some (t794, true))))) else (some ((⟨#[]⟩ : ByteArray), false)))
set_option maxHeartbeats 8000000 in
set_option maxRecDepth 100000 in
theorem spec_StepsText.calls (k : Nat) (A0 : Option Addr) (c0 : Nat) (l0 : List (S52)) (r1 : ByteArray) (r2 : Bool) (w : World) (hr0 : Kd.C k52 w A0 l0.length l0) (hc0 : l0.length ≤ c0) (h : spec_StepsText.f k l0 = some (r1, r2)) :
  Calls Tryz.prog 31 #[.slice A0 l0.length c0] w fun e w' => e = .returned (.tuple #[.string r1, .bool r2]) ∧ Below w.heap.size w w' := by
 have HR0 := am hr0
 have HC0 := am hc0
 clear hr0 hc0
 have HB := am (Below.refl w.heap.size w)
 have H := h
 clear h
 unfold spec_StepsText.f at H
 replace H := Option.bind_eq_some_iff.mp H
 obtain ⟨t792, A20, H⟩ := H
 replace H : (if t792 = true then ((spec_l5Text.f k l0).bind fun t793 => (if (t793.size : Int) > 3000 then (some ((⟨#[]⟩ : ByteArray), false)) else ((spec_l5Text.f k l0).bind fun t794 => (some (t794, true))))) else (some ((⟨#[]⟩ : ByteArray), false))) = some (r1, r2) := H
 have A2 := am A20
 clear A20
 by_cases c3 : t792 = true
 ·subst c3
  rw [if_pos rfl] at H
  replace H := Option.bind_eq_some_iff.mp H
  obtain ⟨t793, A40, H⟩ := H
  replace H : (if (t793.size : Int) > 3000 then (some ((⟨#[]⟩ : ByteArray), false)) else ((spec_l5Text.f k l0).bind fun t794 => (some (t794, true)))) = some (r1, r2) := H
  have A4 := am A40
  clear A40
  by_cases c5 : (t793.size : Int) > 3000
  ·rw [if_pos c5] at H
   have c5b0 : decide (3000 < (t793.size : Int)) = true := decide_eq_true c5
   have c5b1 : decide (3000 < t793.size) = true := decide_eq_true (by omega)
   clear c5
   simp only [Option.some.injEq, Prod.mk.injEq] at H
   obtain ⟨rfl, rfl⟩ := H
   go_enter Tryz.func31, Tryz.ntmps31
   go_wp2_with (first | ((with_reducible refine gateC (f := 42) rfl ?_); refine goesL_ (some 5) rfl rfl Tryz.func42 (by kernel_rfl) rfl #[.slice A0 l0.length c0] rfl zm ?_; (with_reducible refine (spec_GoodSteps.calls k _ _ l0 true _ ?side1 ?side2 A2.out).mono ?_); (case side1 => exact zq HR0.out); (case side2 => exact HC0.out); rintro e w6 ⟨rfl, hb⟩; refine ⟨_, rfl, ?_⟩; replace HB := am (below_step zb hb); (try clear hb)) | (go_at_call 49; (with_reducible refine (spec_l5Text.calls k _ _ l0 t793 _ ?side1 ?side2 A4.out).mono ?_); (case side1 => exact zq (Kd.C_below HR0.out HB.out)); (case side2 => exact HC0.out); rintro e w7 ⟨rfl, hb⟩; replace HB := am (below_step zb hb); (try clear hb)))
   go_ret2
   exact ⟨by rfl, zb⟩
  ·rw [if_neg c5] at H
   have c5b0 : decide (3000 < (t793.size : Int)) = false := decide_eq_false c5
   have c5b1 : decide (3000 < t793.size) = false := decide_eq_false (by omega)
   clear c5
   replace H := Option.bind_eq_some_iff.mp H
   obtain ⟨t794, A80, H⟩ := H
   replace H : (some (t794, true)) = some (r1, r2) := H
   have A8 := am A80
   clear A80
   simp only [Option.some.injEq, Prod.mk.injEq] at H
   obtain ⟨rfl, rfl⟩ := H
   go_enter Tryz.func31, Tryz.ntmps31
   go_wp2_with (first | ((with_reducible refine gateC (f := 42) rfl ?_); refine goesL_ (some 5) rfl rfl Tryz.func42 (by kernel_rfl) rfl #[.slice A0 l0.length c0] rfl zm ?_; (with_reducible refine (spec_GoodSteps.calls k _ _ l0 true _ ?side1 ?side2 A2.out).mono ?_); (case side1 => exact zq HR0.out); (case side2 => exact HC0.out); rintro e w9 ⟨rfl, hb⟩; refine ⟨_, rfl, ?_⟩; replace HB := am (below_step zb hb); (try clear hb)) | (go_at_call 49; (with_reducible refine (spec_l5Text.calls k _ _ l0 t793 _ ?side1 ?side2 A4.out).mono ?_); (case side1 => exact zq (Kd.C_below HR0.out HB.out)); (case side2 => exact HC0.out); rintro e w10 ⟨rfl, hb⟩; replace HB := am (below_step zb hb); (try clear hb)) | ((with_reducible refine gateC (f := 49) rfl ?_); refine goesL_ (some 14) rfl rfl Tryz.func49 (by kernel_rfl) rfl #[.slice A0 l0.length c0] rfl zm ?_; (with_reducible refine (spec_l5Text.calls k _ _ l0 t794 _ ?side1 ?side2 A8.out).mono ?_); (case side1 => exact zq (Kd.C_below HR0.out HB.out)); (case side2 => exact HC0.out); rintro e w11 ⟨rfl, hb⟩; refine ⟨_, rfl, ?_⟩; replace HB := am (below_step zb hb); (try clear hb)))
   go_ret2
   exact ⟨by rfl, zb⟩
 ·replace c3 := Bool.eq_false_iff.mpr c3
  subst c3
  rw [if_neg nofun] at H
  simp only [Option.some.injEq, Prod.mk.injEq] at H
  obtain ⟨rfl, rfl⟩ := H
  go_enter Tryz.func31, Tryz.ntmps31
  go_wp2_with (((with_reducible refine gateC (f := 42) rfl ?_); refine goesL_ (some 5) rfl rfl Tryz.func42 (by kernel_rfl) rfl #[.slice A0 l0.length c0] rfl zm ?_; (with_reducible refine (spec_GoodSteps.calls k _ _ l0 false _ ?side1 ?side2 A2.out).mono ?_); (case side1 => exact zq HR0.out); (case side2 => exact HC0.out); rintro e w12 ⟨rfl, hb⟩; refine ⟨_, rfl, ?_⟩; replace HB := am (below_step zb hb); (try clear hb)))
  go_ret2
  exact ⟨by rfl, zb⟩

def spec_NormalText.f (k : Nat) (l0 : List ByteArray) (l1 : List (S60)) : Option (ByteArray × Bool) := (spec_NormalSteps.f k l0 l1).bind fun bt795 => (if bt795.2 = true then ((spec_StepsText.f k bt795.1).bind fun bt799 => (some (bt799.1, bt799.2))) else (some ((⟨#[]⟩ : ByteArray), false)))
set_option maxHeartbeats 8000000 in
set_option maxRecDepth 100000 in
theorem spec_NormalText.calls (k : Nat) (A0 : Option Addr) (c0 : Nat) (l0 : List ByteArray) (A1 : Option Addr) (c1 : Nat) (l1 : List (S60)) (r1 : ByteArray) (r2 : Bool) (w : World) (hr0 : Kd.C Kd.string w A0 l0.length l0) (hc0 : l0.length ≤ c0) (hr1 : Kd.C k60 w A1 l1.length l1) (hc1 : l1.length ≤ c1) (h : spec_NormalText.f k l0 l1 = some (r1, r2)) :
  Calls Tryz.prog 10 #[.slice A0 l0.length c0, .slice A1 l1.length c1] w fun e w' => e = .returned (.tuple #[.string r1, .bool r2]) ∧ Below w.heap.size w w' := by
 have HR0 := am hr0
 have HC0 := am hc0
 clear hr0 hc0
 have HR1 := am hr1
 have HC1 := am hc1
 clear hr1 hc1
 have HB := am (Below.refl w.heap.size w)
 have H := h
 clear h
 unfold spec_NormalText.f at H
 replace H := Option.bind_eq_some_iff.mp H
 obtain ⟨⟨t795, t796⟩, A30, H⟩ := H
 dsimp only at H
 have A3 := am A30
 clear A30
 by_cases c4 : t796 = true
 ·subst c4
  rw [if_pos rfl] at H
  replace H := Option.bind_eq_some_iff.mp H
  obtain ⟨⟨t799, t800⟩, A50, H⟩ := H
  dsimp only at H
  have A5 := am A50
  clear A50
  simp only [Option.some.injEq, Prod.mk.injEq] at H
  obtain ⟨rfl, rfl⟩ := H
  go_enter Tryz.func10, Tryz.ntmps10
  go_wp2_with (first | ((with_reducible refine gateC (f := 8) rfl ?_); refine goesL_ (some 11) rfl rfl Tryz.func8 (by kernel_rfl) rfl #[.slice A0 l0.length c0, .slice A1 l1.length c1] rfl zm ?_; (with_reducible refine (spec_NormalSteps.calls k _ _ l0 _ _ l1 t795 true _ ?side1 ?side2 ?side3 ?side4 A3.out).mono ?_); (case side1 => exact zq HR0.out); (case side2 => exact HC0.out); (case side3 => exact zq HR1.out); (case side4 => exact HC1.out); rintro e w6 ⟨v797, rfl, ho0, hb⟩; refine ⟨_, rfl, ?_⟩; have HO798 := am (Kd.S_lower ho0 (below_size zb)); replace HB := am (below_step zb hb); (try clear hb); (try clear ho0); obtain ⟨Ao7, co7, eo7⟩ := Kd.S_slice HO798.out; subst eo7) | ((with_reducible refine gateC (f := 31) rfl ?_); refine goesL_ (some 17) rfl rfl Tryz.func31 (by kernel_rfl) rfl #[.slice Ao7 t795.length co7] rfl zm ?_; (with_reducible refine (spec_StepsText.calls k _ _ t795 t799 t800 _ ?side1 ?side2 A5.out).mono ?_); (case side1 => repeat (exact (Kd.S_reads' HO798.out).2.2)); (case side2 => exact (Kd.S_reads' HO798.out).2.1); rintro e w8 ⟨rfl, hb⟩; refine ⟨_, rfl, ?_⟩; replace HO798 := am (Kd.S_below (zs HO798.out) hb); replace HB := am (below_step zb hb); (try clear hb)))
  go_ret2
  exact ⟨by rfl, zb⟩
 ·replace c4 := Bool.eq_false_iff.mpr c4
  subst c4
  rw [if_neg nofun] at H
  simp only [Option.some.injEq, Prod.mk.injEq] at H
  obtain ⟨rfl, rfl⟩ := H
  go_enter Tryz.func10, Tryz.ntmps10
  go_wp2_with (((with_reducible refine gateC (f := 8) rfl ?_); refine goesL_ (some 11) rfl rfl Tryz.func8 (by kernel_rfl) rfl #[.slice A0 l0.length c0, .slice A1 l1.length c1] rfl zm ?_; (with_reducible refine (spec_NormalSteps.calls k _ _ l0 _ _ l1 t795 false _ ?side1 ?side2 ?side3 ?side4 A3.out).mono ?_); (case side1 => exact zq HR0.out); (case side2 => exact HC0.out); (case side3 => exact zq HR1.out); (case side4 => exact HC1.out); rintro e w9 ⟨v797, rfl, ho0, hb⟩; refine ⟨_, rfl, ?_⟩; have HO798 := am (Kd.S_lower ho0 (below_size zb)); replace HB := am (below_step zb hb); (try clear hb); (try clear ho0)))
  go_ret2
  exact ⟨by rfl, zb⟩

mutual
def laws_FnNormal.j0 : Nat → List Int → List ByteArray → List (S60) → List (S52) → Bool → Bool → Option (Bool)
 | 0, _, _, _, _, _, _ => none
 | k + 1, x1, x5, x6, x7, x8, x94 => if x94 = true then (some false) else (if x8 = true then ((impl_StepsHunks.f k x5 x7).bind fun bt1027 => ((impl_ApplySteps.f k x5 x7).bind fun bt1032 => ((impl_Patch.f k x5 x6).bind fun bt1037 => ((impl_GoodSteps.f k x7).bind fun t1041 => (if t1041 = true then (if bt1027.2.2 = true then (if bt1027.2.1 = 0 then ((laws_sameHunks.f k bt1027.1 x6).bind fun t1042 => (if t1042 = true then (if bt1032.2.2 = true then (if bt1032.2.1 = 0 then (if bt1037.2 = true then ((laws_sameTexts.f k bt1032.1 bt1037.1).bind fun t1043 => (if t1043 = true then (laws_FnNormal.j1 k x1) else (some false))) else (some false)) else (some false)) else (some false)) else (some false))) else (some false)) else (some false)) else (some false)))))) else (laws_FnNormal.j1 k x1))
def laws_FnNormal.j1 : Nat → List Int → Option (Bool)
 | 0, _ => none
 | k + 1, x1 => (spec_DrawApplySteps.f k x1).bind fun bt1044 => ((impl_ApplySteps.f k bt1044.1 bt1044.2).bind fun bt1050 => ((spec_ApplySteps.f k bt1044.1 bt1044.2).bind fun bt1055 => ((impl_StepsHunks.f k bt1044.1 bt1044.2).bind fun bt1060 => ((spec_StepsHunks.f k bt1044.1 bt1044.2).bind fun bt1065 => (if (bt1050.2.2 == bt1055.2.2) = true then (if bt1050.2.1 = bt1055.2.1 then ((laws_sameTexts.f k bt1050.1 bt1055.1).bind fun t1070 => (if t1070 = true then (if (bt1060.2.2 == bt1065.2.2) = true then (if bt1060.2.1 = bt1065.2.1 then ((laws_sameHunks.f k bt1060.1 bt1065.1).bind fun t1071 => (if t1071 = true then (if bt1050.2.1 = 0 then (some (bt1060.2.1 == 0)) else (some true)) else (some false))) else (some false)) else (some false)) else (some false))) else (some false)) else (some false))))))
end
def laws_FnNormal.f (k : Nat) (l0 : List Int) (l1 : List Int) : Option (Bool) := (laws_big.f l0 l1).bind fun t1007 => (if t1007 = true then (some true) else ((spec_DrawNormalSteps.f k l0).bind fun bt1008 => ((impl_NormalSteps.f k bt1008.1 bt1008.2).bind fun bt1014 => ((spec_NormalSteps.f k bt1008.1 bt1008.2).bind fun bt1018 => ((impl_NormalText.f k bt1008.1 bt1008.2).bind fun bt1022 => ((spec_NormalText.f k bt1008.1 bt1008.2).bind fun bt1024 => (if (bt1014.2 != bt1018.2) = true then (laws_FnNormal.j0 k l1 bt1008.1 bt1008.2 bt1014.1 bt1014.2 true) else ((laws_sameSteps.f k bt1014.1 bt1018.1).bind fun t1026 => (if t1026 = true then (if (bt1022.2 != bt1024.2) = true then (laws_FnNormal.j0 k l1 bt1008.1 bt1008.2 bt1014.1 bt1014.2 true) else (if bt1022.1.toList = bt1024.1.toList then (if bt1022.2 = true then (laws_FnNormal.j0 k l1 bt1008.1 bt1008.2 bt1014.1 bt1014.2 (!bt1014.2)) else (laws_FnNormal.j0 k l1 bt1008.1 bt1008.2 bt1014.1 bt1014.2 false)) else (laws_FnNormal.j0 k l1 bt1008.1 bt1008.2 bt1014.1 bt1014.2 true))) else (laws_FnNormal.j0 k l1 bt1008.1 bt1008.2 bt1014.1 bt1014.2 true))))))))))
theorem laws_FnNormal.j0_dead {k : Nat} {r : Bool} {x0 : List Int} {x1 : List ByteArray} {x2 : List (S60)} {x3 : List (S52)} {x4 : Bool} (h : laws_FnNormal.j0 k x0 x1 x2 x3 x4 true = some r) (hr : r = true) : False := by
 cases k with
 | zero => cases h
 | succ k => rw [laws_FnNormal.j0, if_pos rfl] at h; subst hr; cases h
set_option maxHeartbeats 8000000 in
set_option maxRecDepth 100000 in
theorem laws_FnNormal.calls (es : Bool) (k : Nat) (A0 : Option Addr) (c0 : Nat) (l0 : List Int) (A1 : Option Addr) (c1 : Nat) (l1 : List Int) (r : Bool) (w : World) (ht : Door es w) (hr0 : Kd.C (Kd.int .u8) w A0 l0.length l0) (hc0 : l0.length ≤ c0) (hr1 : Kd.C (Kd.int .u8) w A1 l1.length l1) (hc1 : l1.length ≤ c1) (h : laws_FnNormal.f k l0 l1 = some r) (hr_ : r = true) :
  Calls Tryz.prog 3 #[.slice A0 l0.length c0, .slice A1 l1.length c1] w fun e w' => e = .returned (.bool r) ∧ Below w.heap.size w w' := by
 have HR_ := am hr_
 clear hr_
 have HT := am ht
 clear ht
 have HR0 := am hr0
 have HC0 := am hc0
 clear hr0 hc0
 have HR1 := am hr1
 have HC1 := am hc1
 clear hr1 hc1
 have HB := am (Below.refl w.heap.size w)
 have H := h
 clear h
 unfold laws_FnNormal.f at H
 replace H := Option.bind_eq_some_iff.mp H
 obtain ⟨t1007, A30, H⟩ := H
 replace H : (if t1007 = true then (some true) else ((spec_DrawNormalSteps.f k l0).bind fun bt1008 => ((impl_NormalSteps.f k bt1008.1 bt1008.2).bind fun bt1014 => ((spec_NormalSteps.f k bt1008.1 bt1008.2).bind fun bt1018 => ((impl_NormalText.f k bt1008.1 bt1008.2).bind fun bt1022 => ((spec_NormalText.f k bt1008.1 bt1008.2).bind fun bt1024 => (if (bt1014.2 != bt1018.2) = true then (laws_FnNormal.j0 k l1 bt1008.1 bt1008.2 bt1014.1 bt1014.2 true) else ((laws_sameSteps.f k bt1014.1 bt1018.1).bind fun t1026 => (if t1026 = true then (if (bt1022.2 != bt1024.2) = true then (laws_FnNormal.j0 k l1 bt1008.1 bt1008.2 bt1014.1 bt1014.2 true) else (if bt1022.1.toList = bt1024.1.toList then (if bt1022.2 = true then (laws_FnNormal.j0 k l1 bt1008.1 bt1008.2 bt1014.1 bt1014.2 (!bt1014.2)) else (laws_FnNormal.j0 k l1 bt1008.1 bt1008.2 bt1014.1 bt1014.2 false)) else (laws_FnNormal.j0 k l1 bt1008.1 bt1008.2 bt1014.1 bt1014.2 true))) else (laws_FnNormal.j0 k l1 bt1008.1 bt1008.2 bt1014.1 bt1014.2 true)))))))))) = some r := H
 have A3 := am A30
 clear A30
 by_cases c4 : t1007 = true
 ·as_aux_lemma =>
    subst c4
    rw [if_pos rfl] at H
    first
    | exact absurd (show false = true from (Option.some.inj H).trans HR_.out) Bool.false_ne_true
    | obtain rfl := Option.some.inj H
      go_enter Tryz.func3, Tryz.ntmps3
      go_wp2_with (((with_reducible refine gateC (f := 5) rfl ?_); refine goesL_ (some 39) rfl rfl Tryz.func5 (by kernel_rfl) rfl #[.slice A0 l0.length c0, .slice A1 l1.length c1] rfl zm ?_; (with_reducible refine (laws_big.calls _ _ l0 _ _ l1 true _ ?side1 ?side2 ?side3 ?side4 A3.out).mono ?_); (case side1 => exact zq HR0.out); (case side2 => exact HC0.out); (case side3 => exact zq HR1.out); (case side4 => exact HC1.out); rintro e w' ⟨rfl, ⟨nd, rfl⟩⟩; refine ⟨_, rfl, ?_⟩))
      go_ret
      exact ⟨by rfl, zb⟩
 ·as_aux_lemma =>
    replace c4 := Bool.eq_false_iff.mpr c4
    subst c4
    rw [if_neg nofun] at H
    replace H := Option.bind_eq_some_iff.mp H
    obtain ⟨⟨t1008, t1009⟩, A50, H⟩ := H
    dsimp only at H
    have A5 := am A50
    clear A50
    replace H := Option.bind_eq_some_iff.mp H
    obtain ⟨⟨t1014, t1015⟩, A60, H⟩ := H
    dsimp only at H
    have A6 := am A60
    clear A60
    replace H := Option.bind_eq_some_iff.mp H
    obtain ⟨⟨t1018, t1019⟩, A70, H⟩ := H
    dsimp only at H
    have A7 := am A70
    clear A70
    replace H := Option.bind_eq_some_iff.mp H
    obtain ⟨⟨t1022, t1023⟩, A80, H⟩ := H
    dsimp only at H
    have A8 := am A80
    clear A80
    replace H := Option.bind_eq_some_iff.mp H
    obtain ⟨⟨t1024, t1025⟩, A90, H⟩ := H
    dsimp only at H
    have A9 := am A90
    clear A90
    have HC10 := am H
    clear H
    go_enter Tryz.func3, Tryz.ntmps3
    go_upto_region 8 with (first | ((with_reducible refine gateC (f := 5) rfl ?_); refine goesL_ (some 39) rfl rfl Tryz.func5 (by kernel_rfl) rfl #[.slice A0 l0.length c0, .slice A1 l1.length c1] rfl zm ?_; (with_reducible refine (laws_big.calls _ _ l0 _ _ l1 false _ ?side1 ?side2 ?side3 ?side4 A3.out).mono ?_); (case side1 => exact zq HR0.out); (case side2 => exact HC0.out); (case side3 => exact zq HR1.out); (case side4 => exact HC1.out); rintro e w' ⟨rfl, ⟨nd, rfl⟩⟩; refine ⟨_, rfl, ?_⟩) | ((with_reducible refine gateC (f := 6) rfl ?_); refine goesL_ (some 42) rfl rfl Tryz.func6 (by kernel_rfl) rfl #[.slice A0 l0.length c0] rfl zm ?_; (with_reducible refine (spec_DrawNormalSteps.calls k _ _ l0 t1008 t1009 _ ?side1 ?side2 A5.out).mono ?_); (case side1 => exact zq HR0.out); (case side2 => exact HC0.out); rintro e w11 ⟨v1010, v1012, rfl, ho0, ho1, hb⟩; refine ⟨_, rfl, ?_⟩; have HO1011 := am (Kd.R_lower ho0 (below_size zb)); have HO1013 := am (Kd.S_lower ho1 (below_size zb)); replace HB := am (below_step zb hb); (try clear hb); (try clear ho0); (try clear ho1); obtain ⟨Ao12, co12, eo12⟩ := Kd.R_slice HO1011.out; subst eo12; obtain ⟨Ao13, co13, eo13⟩ := Kd.S_slice HO1013.out; subst eo13) | ((with_reducible refine gateC (f := 7) rfl ?_); refine goesL_ (some 48) rfl rfl Tryz.func7 (by kernel_rfl) rfl #[.slice Ao12 t1008.length co12, .slice Ao13 t1009.length co13] rfl zm ?_; (with_reducible refine (impl_NormalSteps.calls k _ _ t1008 _ _ t1009 t1014 t1015 _ ?side1 ?side2 ?side3 ?side4 A6.out).mono ?_); (case side1 => repeat (exact (Kd.R_reads' HO1011.out).2.2)); (case side2 => exact (Kd.R_reads' HO1011.out).2.1); (case side3 => repeat (exact (Kd.S_reads' HO1013.out).2.2)); (case side4 => exact (Kd.S_reads' HO1013.out).2.1); rintro e w14 ⟨v1016, rfl, ho0, hb⟩; refine ⟨_, rfl, ?_⟩; replace HO1013 := am (Kd.S_below (zs HO1013.out) hb); have HO1017 := am (Kd.S_lower (Kd.S_new' ho0 (Kd.R_lt (zr HO1011.out))) (below_size zb)); replace HO1011 := am (Kd.R_below (zr HO1011.out) hb); replace HB := am (below_step zb hb); (try clear hb); (try clear ho0)) | ((with_reducible refine gateC (f := 8) rfl ?_); refine goesL_ (some 54) rfl rfl Tryz.func8 (by kernel_rfl) rfl #[.slice Ao12 t1008.length co12, .slice Ao13 t1009.length co13] rfl zm ?_; (with_reducible refine (spec_NormalSteps.calls k _ _ t1008 _ _ t1009 t1018 t1019 _ ?side1 ?side2 ?side3 ?side4 A7.out).mono ?_); (case side1 => repeat (exact (Kd.R_reads' HO1011.out).2.2)); (case side2 => exact (Kd.R_reads' HO1011.out).2.1); (case side3 => repeat (exact (Kd.S_reads' HO1013.out).2.2)); (case side4 => exact (Kd.S_reads' HO1013.out).2.1); rintro e w15 ⟨v1020, rfl, ho0, hb⟩; refine ⟨_, rfl, ?_⟩; replace HO1013 := am (Kd.S_below (zs HO1013.out) hb); have HO1021 := am (Kd.S_lower (Kd.S_new' (Kd.S_new' ho0 (Kd.R_lt (zr HO1011.out))) (Kd.S_lt (zs HO1017.out))) (below_size zb)); replace HO1011 := am (Kd.R_below (zr HO1011.out) hb); replace HO1017 := am (Kd.S_elder' (zs HO1017.out) (Kd.S_base ho0) hb); replace HB := am (below_step zb hb); (try clear hb); (try clear ho0)) | ((with_reducible refine gateC (f := 9) rfl ?_); refine goesL_ (some 60) rfl rfl Tryz.func9 (by kernel_rfl) rfl #[.slice Ao12 t1008.length co12, .slice Ao13 t1009.length co13] rfl zm ?_; (with_reducible refine (impl_NormalText.calls es k _ _ t1008 _ _ t1009 t1022 t1023 _ ?sideT ?side1 ?side2 ?side3 ?side4 A8.out).mono ?_); (case sideT => exact Door.below HT.out zb); (case side1 => repeat (exact (Kd.R_reads' HO1011.out).2.2)); (case side2 => exact (Kd.R_reads' HO1011.out).2.1); (case side3 => repeat (exact (Kd.S_reads' HO1013.out).2.2)); (case side4 => exact (Kd.S_reads' HO1013.out).2.1); rintro e w16 ⟨rfl, hb⟩; refine ⟨_, rfl, ?_⟩; replace HO1011 := am (Kd.R_below (zr HO1011.out) hb); replace HO1013 := am (Kd.S_below (zs HO1013.out) hb); replace HO1017 := am (Kd.S_below (zs HO1017.out) hb); replace HO1021 := am (Kd.S_below (zs HO1021.out) hb); replace HB := am (below_step zb hb); (try clear hb)) | ((with_reducible refine gateC (f := 10) rfl ?_); refine goesL_ (some 66) rfl rfl Tryz.func10 (by kernel_rfl) rfl #[.slice Ao12 t1008.length co12, .slice Ao13 t1009.length co13] rfl zm ?_; (with_reducible refine (spec_NormalText.calls k _ _ t1008 _ _ t1009 t1024 t1025 _ ?side1 ?side2 ?side3 ?side4 A9.out).mono ?_); (case side1 => repeat (exact (Kd.R_reads' HO1011.out).2.2)); (case side2 => exact (Kd.R_reads' HO1011.out).2.1); (case side3 => repeat (exact (Kd.S_reads' HO1013.out).2.2)); (case side4 => exact (Kd.S_reads' HO1013.out).2.1); rintro e w17 ⟨rfl, hb⟩; refine ⟨_, rfl, ?_⟩; replace HO1011 := am (Kd.R_below (zr HO1011.out) hb); replace HO1013 := am (Kd.S_below (zs HO1013.out) hb); replace HO1017 := am (Kd.S_below (zs HO1017.out) hb); replace HO1021 := am (Kd.S_below (zs HO1021.out) hb); replace HB := am (below_step zb hb); (try clear hb)))
    go_cut [94] (fun v94 wc => ∃ (kq : Nat) (x94_9 : Bool), v94 = .bool x94_9 ∧ Aside0 (laws_FnNormal.j0 kq l1 t1008 t1009 t1014 t1015 x94_9 = some r) ∧ Aside0 (kq ≤ k) ∧ Aside0 (Kd.R Kd.string 9 wc w.heap.size (fun _ => True) (.slice Ao12 t1008.length co12) t1008) ∧ Aside0 (Kd.S k60 60 wc w.heap.size (fun k_ => some k_ ≠ ((.slice Ao12 t1008.length co12) : Value).ownBlock) (.slice Ao13 t1009.length co13) t1009) ∧ Aside0 (Kd.S k52 52 wc w.heap.size (fun k_ => some k_ ≠ ((.slice Ao12 t1008.length co12) : Value).ownBlock) v1016 t1014) ∧ Aside0 (Below w.heap.size w wc))
    case first =>
     have H := HC10.out
     clear HC10
     by_cases c18 : (t1015 != t1019) = true
     ·as_aux_lemma =>
        rw [if_pos c18] at H
        have c18b0 : (t1015 != t1019) = true := c18
        (try (have c18b1 : decide (t1015 = t1019) = false := by simpa using c18))
        (try (have c18b2 : (t1015 == t1019) = false := by simpa using c18))
        (try (have c18b3 : ¬ (t1015 = t1019) := by simpa using c18))
        clear c18
        (skip)
        have H' := am H
        clear H
        go_wp2
        go_meet
        case rel => exact ⟨_, (true), zf, H', ⟨by omega⟩, ⟨zr HO1011.out⟩, ⟨zs HO1013.out⟩, ⟨by exact Kd.S_mono HO1017.out (fun _ hk => hk.1.2)⟩, ⟨zb⟩⟩
     ·as_aux_lemma =>
        rw [if_neg c18] at H
        have c18b0 : (t1015 != t1019) = false := by simpa using c18
        (try (have c18b1 : decide (t1015 = t1019) = true := by simpa using c18))
        (try (have c18b2 : (t1015 == t1019) = true := by simpa using c18))
        clear c18
        (skip)
        replace H := Option.bind_eq_some_iff.mp H
        obtain ⟨t1026, A190, H⟩ := H
        replace H : (if t1026 = true then (if (t1023 != t1025) = true then (laws_FnNormal.j0 k l1 t1008 t1009 t1014 t1015 true) else (if t1022.toList = t1024.toList then (if t1023 = true then (laws_FnNormal.j0 k l1 t1008 t1009 t1014 t1015 (!t1015)) else (laws_FnNormal.j0 k l1 t1008 t1009 t1014 t1015 false)) else (laws_FnNormal.j0 k l1 t1008 t1009 t1014 t1015 true))) else (laws_FnNormal.j0 k l1 t1008 t1009 t1014 t1015 true)) = some r := H
        have A19 := am A190
        clear A190
        by_cases c20 : t1026 = true
        ·as_aux_lemma =>
           subst c20
           rw [if_pos rfl] at H
           by_cases c21 : (t1023 != t1025) = true
           ·as_aux_lemma =>
              rw [if_pos c21] at H
              exact (laws_FnNormal.j0_dead H HR_.out).elim
           ·as_aux_lemma =>
              rw [if_neg c21] at H
              have c21b0 : (t1023 != t1025) = false := by simpa using c21
              (try (have c21b1 : decide (t1023 = t1025) = true := by simpa using c21))
              (try (have c21b2 : (t1023 == t1025) = true := by simpa using c21))
              clear c21
              by_cases c25 : t1022.toList = t1024.toList
              ·as_aux_lemma =>
                 rw [if_pos c25] at H
                 have c25b0 : (t1022.toList == t1024.toList) = true := beq_iff_eq.mpr c25
                 have c25b1 : (t1022.toList != t1024.toList) = false := bne_eq_false_iff_eq.mpr c25
                 clear c25
                 by_cases c26 : t1023 = true
                 ·as_aux_lemma =>
                    subst c26
                    rw [if_pos rfl] at H
                    have H' := am H
                    clear H
                    obtain ⟨Ao27, co27, eo27⟩ := Kd.S_slice HO1017.out
                    subst eo27
                    obtain ⟨Ao28, co28, eo28⟩ := Kd.S_slice HO1021.out
                    subst eo28
                    go_wp2_with ((go_at_call 11; (with_reducible refine (laws_sameSteps.calls k _ _ t1014 _ _ t1018 true _ ?side1 ?side2 ?side3 ?side4 A19.out rfl).mono ?_); (case side1 => repeat (exact (Kd.S_reads' HO1017.out).2.2)); (case side2 => exact (Kd.S_reads' HO1017.out).2.1); (case side3 => repeat (exact (Kd.S_reads' HO1021.out).2.2)); (case side4 => exact (Kd.S_reads' HO1021.out).2.1); rintro e w29 ⟨rfl, hb⟩; replace HO1011 := am (Kd.R_below (zr HO1011.out) hb); replace HO1013 := am (Kd.S_below (zs HO1013.out) hb); replace HO1017 := am (Kd.S_below (zs HO1017.out) hb); replace HO1021 := am (Kd.S_below (zs HO1021.out) hb); replace HB := am (below_step zb hb); (try clear hb)))
                    go_meet
                    case rel => exact ⟨_, (!t1015), zf, H', ⟨by omega⟩, ⟨zr HO1011.out⟩, ⟨zs HO1013.out⟩, ⟨by exact Kd.S_mono HO1017.out (fun _ hk => hk.1.2)⟩, ⟨zb⟩⟩
                 ·as_aux_lemma =>
                    replace c26 := Bool.eq_false_iff.mpr c26
                    subst c26
                    rw [if_neg nofun] at H
                    have H' := am H
                    clear H
                    obtain ⟨Ao30, co30, eo30⟩ := Kd.S_slice HO1017.out
                    subst eo30
                    obtain ⟨Ao31, co31, eo31⟩ := Kd.S_slice HO1021.out
                    subst eo31
                    go_wp2_with ((go_at_call 11; (with_reducible refine (laws_sameSteps.calls k _ _ t1014 _ _ t1018 true _ ?side1 ?side2 ?side3 ?side4 A19.out rfl).mono ?_); (case side1 => repeat (exact (Kd.S_reads' HO1017.out).2.2)); (case side2 => exact (Kd.S_reads' HO1017.out).2.1); (case side3 => repeat (exact (Kd.S_reads' HO1021.out).2.2)); (case side4 => exact (Kd.S_reads' HO1021.out).2.1); rintro e w32 ⟨rfl, hb⟩; replace HO1011 := am (Kd.R_below (zr HO1011.out) hb); replace HO1013 := am (Kd.S_below (zs HO1013.out) hb); replace HO1017 := am (Kd.S_below (zs HO1017.out) hb); replace HO1021 := am (Kd.S_below (zs HO1021.out) hb); replace HB := am (below_step zb hb); (try clear hb)))
                    go_meet
                    case rel => exact ⟨_, (false), zf, H', ⟨by omega⟩, ⟨zr HO1011.out⟩, ⟨zs HO1013.out⟩, ⟨by exact Kd.S_mono HO1017.out (fun _ hk => hk.1.2)⟩, ⟨zb⟩⟩
              ·as_aux_lemma =>
                 rw [if_neg c25] at H
                 exact (laws_FnNormal.j0_dead H HR_.out).elim
        ·as_aux_lemma =>
           replace c20 := Bool.eq_false_iff.mpr c20
           subst c20
           have H1 : (laws_FnNormal.j0 k l1 t1008 t1009 t1014 t1015 true) = some r := by rw [if_neg (show ¬ (false = true) by decide)] at H; exact H
           exact (laws_FnNormal.j0_dead H1 HR_.out).elim
    case rest =>
     clear HC10
     obtain ⟨kq, x94_9, rfl, HA, HJ9, HO_5, HO_6, HO_7, HB⟩ := hcut
     cases kq with
     | zero => exact absurd HA.out (by simp [laws_FnNormal.j0])
     | succ kj9 =>
      have H := HA.out
      clear HA
      simp only [laws_FnNormal.j0] at H
      by_cases c39 : x94_9 = true
      ·as_aux_lemma =>
         subst c39
         rw [if_pos rfl] at H
         exact absurd (show false = true from (Option.some.inj H).trans HR_.out) Bool.false_ne_true
      ·as_aux_lemma =>
         replace c39 := Bool.eq_false_iff.mpr c39
         subst c39
         rw [if_neg nofun] at H
         have HC40 := am H
         clear H
         go_upto_if 95 with (fail)
         go_cut [] (fun wc => ∃ (kq : Nat), Aside0 (laws_FnNormal.j1 kq l1 = some r) ∧ Aside0 (kq ≤ kj9) ∧ Aside0 (Below w.heap.size w wc))
         case first =>
          have H := HC40.out
          clear HC40
          by_cases c41 : t1015 = true
          ·as_aux_lemma =>
             subst c41
             rw [if_pos rfl] at H
             replace H := Option.bind_eq_some_iff.mp H
             obtain ⟨⟨t1027, t1028, t1029⟩, A420, H⟩ := H
             dsimp only at H
             have A42 := am A420
             clear A420
             replace H := Option.bind_eq_some_iff.mp H
             obtain ⟨⟨t1032, t1033, t1034⟩, A430, H⟩ := H
             dsimp only at H
             have A43 := am A430
             clear A430
             replace H := Option.bind_eq_some_iff.mp H
             obtain ⟨⟨t1037, t1038⟩, A440, H⟩ := H
             dsimp only at H
             have A44 := am A440
             clear A440
             replace H := Option.bind_eq_some_iff.mp H
             obtain ⟨t1041, A450, H⟩ := H
             replace H : (if t1041 = true then (if t1029 = true then (if t1028 = 0 then ((laws_sameHunks.f kj9 t1027 t1009).bind fun t1042 => (if t1042 = true then (if t1034 = true then (if t1033 = 0 then (if t1038 = true then ((laws_sameTexts.f kj9 t1032 t1037).bind fun t1043 => (if t1043 = true then (laws_FnNormal.j1 kj9 l1) else (some false))) else (some false)) else (some false)) else (some false)) else (some false))) else (some false)) else (some false)) else (some false)) = some r := H
             have A45 := am A450
             clear A450
             by_cases c46 : t1041 = true
             ·as_aux_lemma =>
                subst c46
                rw [if_pos rfl] at H
                by_cases c47 : t1029 = true
                ·as_aux_lemma =>
                   subst c47
                   rw [if_pos rfl] at H
                   by_cases c48 : t1028 = 0
                   ·as_aux_lemma =>
                      rw [if_pos c48] at H
                      have c48b0 : (t1028 == 0) = true := beq_iff_eq.mpr c48
                      have c48b1 : (t1028 != 0) = false := bne_eq_false_iff_eq.mpr c48
                      clear c48
                      (skip)
                      replace H := Option.bind_eq_some_iff.mp H
                      obtain ⟨t1042, A490, H⟩ := H
                      replace H : (if t1042 = true then (if t1034 = true then (if t1033 = 0 then (if t1038 = true then ((laws_sameTexts.f kj9 t1032 t1037).bind fun t1043 => (if t1043 = true then (laws_FnNormal.j1 kj9 l1) else (some false))) else (some false)) else (some false)) else (some false)) else (some false)) = some r := H
                      have A49 := am A490
                      clear A490
                      by_cases c50 : t1042 = true
                      ·as_aux_lemma =>
                         subst c50
                         rw [if_pos rfl] at H
                         by_cases c51 : t1034 = true
                         ·as_aux_lemma =>
                            subst c51
                            rw [if_pos rfl] at H
                            by_cases c52 : t1033 = 0
                            ·as_aux_lemma =>
                               rw [if_pos c52] at H
                               have c52b0 : (t1033 == 0) = true := beq_iff_eq.mpr c52
                               have c52b1 : (t1033 != 0) = false := bne_eq_false_iff_eq.mpr c52
                               clear c52
                               by_cases c53 : t1038 = true
                               ·as_aux_lemma =>
                                  subst c53
                                  rw [if_pos rfl] at H
                                  replace H := Option.bind_eq_some_iff.mp H
                                  obtain ⟨t1043, A540, H⟩ := H
                                  replace H : (if t1043 = true then (laws_FnNormal.j1 kj9 l1) else (some false)) = some r := H
                                  have A54 := am A540
                                  clear A540
                                  by_cases c55 : t1043 = true
                                  ·as_aux_lemma =>
                                     subst c55
                                     rw [if_pos rfl] at H
                                     have H' := am H
                                     clear H
                                     obtain ⟨Ao56, co56, eo56⟩ := Kd.S_slice HO_7.out
                                     subst eo56
                                     go_wp2_with (first | ((with_reducible refine gateC (f := 12) rfl ?_); refine goesL_ (some 99) rfl rfl Tryz.func12 (by kernel_rfl) rfl #[.slice Ao12 t1008.length co12, .slice Ao56 t1014.length co56] rfl zm ?_; (with_reducible refine (impl_StepsHunks.calls kj9 _ _ t1008 _ _ t1014 t1027 t1028 true _ ?side1 ?side2 ?side3 ?side4 A42.out).mono ?_); (case side1 => repeat (exact (Kd.R_reads' HO_5.out).2.2)); (case side2 => exact (Kd.R_reads' HO_5.out).2.1); (case side3 => repeat (exact (Kd.S_reads' HO_7.out).2.2)); (case side4 => exact (Kd.S_reads' HO_7.out).2.1); rintro e w57 ⟨v1030, rfl, ho0, hb⟩; refine ⟨_, rfl, ?_⟩; replace HO_7 := am (Kd.S_below (zs HO_7.out) hb); have HO1031 := am (Kd.S_lower (Kd.S_new' (Kd.S_new' ho0 (Kd.R_lt (zr HO_5.out))) (Kd.S_lt (zs HO_6.out))) (below_size zb)); replace HO_5 := am (Kd.R_below (zr HO_5.out) hb); replace HO_6 := am (Kd.S_elder' (zs HO_6.out) (Kd.S_base ho0) hb); replace HB := am (below_step zb hb); (try clear hb); (try clear ho0)) | ((with_reducible refine gateC (f := 13) rfl ?_); refine goesL_ (some 106) rfl rfl Tryz.func13 (by kernel_rfl) rfl #[.slice Ao12 t1008.length co12, .slice Ao56 t1014.length co56] rfl zm ?_; (with_reducible refine (impl_ApplySteps.calls kj9 _ _ t1008 _ _ t1014 t1032 t1033 true _ ?side1 ?side2 ?side3 ?side4 A43.out).mono ?_); (case side1 => repeat (exact (Kd.R_reads' HO_5.out).2.2)); (case side2 => exact (Kd.R_reads' HO_5.out).2.1); (case side3 => repeat (exact (Kd.S_reads' HO_7.out).2.2)); (case side4 => exact (Kd.S_reads' HO_7.out).2.1); rintro e w58 ⟨v1035, rfl, ho0, hb⟩; refine ⟨_, rfl, ?_⟩; replace HO_6 := am (Kd.S_elder' (zs HO_6.out) (Kd.R_base ho0) hb); replace HO_7 := am (Kd.S_elder' (zs HO_7.out) (Kd.R_base ho0) hb); replace HO1031 := am (Kd.S_elder' (zs HO1031.out) (Kd.R_base ho0) hb); have HO1036 := am (Kd.R_lower (Kd.R_new' ho0 (Kd.R_lt (zr HO_5.out))) (below_size zb)); replace HO_5 := am (Kd.R_elder' (zr HO_5.out) (Kd.R_base ho0) hb); replace HB := am (below_step zb hb); (try clear hb); (try clear ho0)) | ((with_reducible refine gateC (f := 14) rfl ?_); refine goesL_ (some 113) rfl rfl Tryz.func14 (by kernel_rfl) rfl #[.slice Ao12 t1008.length co12, .slice Ao13 t1009.length co13] rfl zm ?_; (with_reducible refine (impl_Patch.calls kj9 _ _ t1008 _ _ t1009 t1037 true _ ?side1 ?side2 ?side3 ?side4 A44.out).mono ?_); (case side1 => repeat (exact (Kd.R_reads' HO_5.out).2.2)); (case side2 => exact (Kd.R_reads' HO_5.out).2.1); (case side3 => repeat (exact (Kd.S_reads' HO_6.out).2.2)); (case side4 => exact (Kd.S_reads' HO_6.out).2.1); rintro e w59 ⟨v1039, rfl, ho0, hb⟩; refine ⟨_, rfl, ?_⟩; replace HO_6 := am (Kd.S_elder' (zs HO_6.out) (Kd.R_base ho0) hb); replace HO_7 := am (Kd.S_elder' (zs HO_7.out) (Kd.R_base ho0) hb); replace HO1031 := am (Kd.S_elder' (zs HO1031.out) (Kd.R_base ho0) hb); have HO1040 := am (Kd.R_lower (Kd.R_new' (Kd.R_new' ho0 (Kd.R_lt (zr HO_5.out))) (Kd.R_lt (zr HO1036.out))) (below_size zb)); replace HO_5 := am (Kd.R_elder' (zr HO_5.out) (Kd.R_base ho0) hb); replace HO1036 := am (Kd.R_elder' (zr HO1036.out) (Kd.R_base ho0) hb); replace HB := am (below_step zb hb); (try clear hb); (try clear ho0)) | ((with_reducible refine gateC (f := 15) rfl ?_); refine goesL_ (some 117) rfl rfl Tryz.func15 (by kernel_rfl) rfl #[.slice Ao56 t1014.length co56] rfl zm ?_; (with_reducible refine (impl_GoodSteps.calls kj9 _ _ t1014 true _ ?side1 ?side2 A45.out).mono ?_); (case side1 => repeat (exact (Kd.S_reads' HO_7.out).2.2)); (case side2 => exact (Kd.S_reads' HO_7.out).2.1); rintro e w60 ⟨rfl, hb⟩; refine ⟨_, rfl, ?_⟩; replace HO_5 := am (Kd.R_below (zr HO_5.out) hb); replace HO_6 := am (Kd.S_below (zs HO_6.out) hb); replace HO_7 := am (Kd.S_below (zs HO_7.out) hb); replace HO1031 := am (Kd.S_below (zs HO1031.out) hb); replace HO1036 := am (Kd.R_below (zr HO1036.out) hb); replace HO1040 := am (Kd.R_below (zr HO1040.out) hb); replace HB := am (below_step zb hb); (try clear hb); obtain ⟨Ao61, co61, eo61⟩ := Kd.S_slice HO1031.out; subst eo61) | (go_at_call 16; (with_reducible refine (laws_sameHunks.calls kj9 _ _ t1027 _ _ t1009 true _ ?side1 ?side2 ?side3 ?side4 A49.out rfl).mono ?_); (case side1 => repeat (exact (Kd.S_reads' HO1031.out).2.2)); (case side2 => exact (Kd.S_reads' HO1031.out).2.1); (case side3 => repeat (exact (Kd.S_reads' HO_6.out).2.2)); (case side4 => exact (Kd.S_reads' HO_6.out).2.1); rintro e w62 ⟨rfl, hb⟩; replace HO_5 := am (Kd.R_below (zr HO_5.out) hb); replace HO_6 := am (Kd.S_below (zs HO_6.out) hb); replace HO_7 := am (Kd.S_below (zs HO_7.out) hb); replace HO1031 := am (Kd.S_below (zs HO1031.out) hb); replace HO1036 := am (Kd.R_below (zr HO1036.out) hb); replace HO1040 := am (Kd.R_below (zr HO1040.out) hb); replace HB := am (below_step zb hb); (try clear hb); obtain ⟨Ao63, co63, eo63⟩ := Kd.R_slice HO1036.out; subst eo63; obtain ⟨Ao64, co64, eo64⟩ := Kd.R_slice HO1040.out; subst eo64) | (go_at_call 17; (with_reducible refine (laws_sameTexts.calls kj9 _ _ t1032 _ _ t1037 true _ ?side1 ?side2 ?side3 ?side4 A54.out).mono ?_); (case side1 => repeat (exact (Kd.R_reads' HO1036.out).2.2)); (case side2 => exact (Kd.R_reads' HO1036.out).2.1); (case side3 => repeat (exact (Kd.R_reads' HO1040.out).2.2)); (case side4 => exact (Kd.R_reads' HO1040.out).2.1); rintro e w' ⟨rfl, ⟨nd, rfl⟩⟩))
                                     go_meet
                                     case rel => exact ⟨_, H', ⟨by have := HJ9.out; omega⟩, ⟨zb⟩⟩
                                  ·as_aux_lemma =>
                                     replace c55 := Bool.eq_false_iff.mpr c55
                                     subst c55
                                     rw [if_neg nofun] at H
                                     exact absurd (show false = true from (Option.some.inj H).trans HR_.out) Bool.false_ne_true
                               ·as_aux_lemma =>
                                  replace c53 := Bool.eq_false_iff.mpr c53
                                  subst c53
                                  rw [if_neg nofun] at H
                                  exact absurd (show false = true from (Option.some.inj H).trans HR_.out) Bool.false_ne_true
                            ·as_aux_lemma =>
                               rw [if_neg c52] at H
                               have c52b0 : (t1033 == 0) = false := beq_eq_false_iff_ne.mpr c52
                               have c52b1 : (t1033 != 0) = true := bne_iff_ne.mpr c52
                               exact absurd (show false = true from (Option.some.inj H).trans HR_.out) Bool.false_ne_true
                         ·as_aux_lemma =>
                            replace c51 := Bool.eq_false_iff.mpr c51
                            subst c51
                            rw [if_neg nofun] at H
                            exact absurd (show false = true from (Option.some.inj H).trans HR_.out) Bool.false_ne_true
                      ·as_aux_lemma =>
                         replace c50 := Bool.eq_false_iff.mpr c50
                         subst c50
                         rw [if_neg nofun] at H
                         exact absurd (show false = true from (Option.some.inj H).trans HR_.out) Bool.false_ne_true
                   ·as_aux_lemma =>
                      rw [if_neg c48] at H
                      have c48b0 : (t1028 == 0) = false := beq_eq_false_iff_ne.mpr c48
                      have c48b1 : (t1028 != 0) = true := bne_iff_ne.mpr c48
                      (skip)
                      exact absurd (show false = true from (Option.some.inj H).trans HR_.out) Bool.false_ne_true
                ·as_aux_lemma =>
                   replace c47 := Bool.eq_false_iff.mpr c47
                   subst c47
                   rw [if_neg nofun] at H
                   exact absurd (show false = true from (Option.some.inj H).trans HR_.out) Bool.false_ne_true
             ·as_aux_lemma =>
                replace c46 := Bool.eq_false_iff.mpr c46
                subst c46
                rw [if_neg nofun] at H
                exact absurd (show false = true from (Option.some.inj H).trans HR_.out) Bool.false_ne_true
          ·as_aux_lemma =>
             replace c41 := Bool.eq_false_iff.mpr c41
             subst c41
             rw [if_neg nofun] at H
             have H' := am H
             clear H
             go_wp2
             go_meet
             case rel => exact ⟨_, H', ⟨by have := HJ9.out; omega⟩, ⟨zb⟩⟩
         case rest =>
          clear HC40
          obtain ⟨kq, HA, HJ39, HB⟩ := hcut
          cases kq with
          | zero => exact absurd HA.out (by simp [laws_FnNormal.j1])
          | succ kj39 =>
           have H := HA.out
           clear HA
           simp only [laws_FnNormal.j1] at H
           replace H := Option.bind_eq_some_iff.mp H
           obtain ⟨⟨t1044, t1045⟩, A1170, H⟩ := H
           dsimp only at H
           have A117 := am A1170
           clear A1170
           replace H := Option.bind_eq_some_iff.mp H
           obtain ⟨⟨t1050, t1051, t1052⟩, A1180, H⟩ := H
           dsimp only at H
           have A118 := am A1180
           clear A1180
           replace H := Option.bind_eq_some_iff.mp H
           obtain ⟨⟨t1055, t1056, t1057⟩, A1190, H⟩ := H
           dsimp only at H
           have A119 := am A1190
           clear A1190
           replace H := Option.bind_eq_some_iff.mp H
           obtain ⟨⟨t1060, t1061, t1062⟩, A1200, H⟩ := H
           dsimp only at H
           have A120 := am A1200
           clear A1200
           replace H := Option.bind_eq_some_iff.mp H
           obtain ⟨⟨t1065, t1066, t1067⟩, A1210, H⟩ := H
           dsimp only at H
           have A121 := am A1210
           clear A1210
           by_cases c122 : (t1052 == t1057) = true
           ·as_aux_lemma =>
              rw [if_pos c122] at H
              have c122b0 : (t1052 == t1057) = true := c122
              (try (have c122b1 : decide (t1052 = t1057) = true := by simpa using c122))
              (try (have c122b2 : (t1052 == t1057) = true := by simpa using c122))
              clear c122
              by_cases c123 : t1051 = t1056
              ·as_aux_lemma =>
                 rw [if_pos c123] at H
                 have c123b0 : (t1051 == t1056) = true := beq_iff_eq.mpr c123
                 have c123b1 : (t1051 != t1056) = false := bne_eq_false_iff_eq.mpr c123
                 clear c123
                 replace H := Option.bind_eq_some_iff.mp H
                 obtain ⟨t1070, A1240, H⟩ := H
                 replace H : (if t1070 = true then (if (t1062 == t1067) = true then (if t1061 = t1066 then ((laws_sameHunks.f kj39 t1060 t1065).bind fun t1071 => (if t1071 = true then (if t1051 = 0 then (some (t1061 == 0)) else (some true)) else (some false))) else (some false)) else (some false)) else (some false)) = some r := H
                 have A124 := am A1240
                 clear A1240
                 by_cases c125 : t1070 = true
                 ·as_aux_lemma =>
                    subst c125
                    rw [if_pos rfl] at H
                    by_cases c126 : (t1062 == t1067) = true
                    ·as_aux_lemma =>
                       rw [if_pos c126] at H
                       have c126b0 : (t1062 == t1067) = true := c126
                       (try (have c126b1 : decide (t1062 = t1067) = true := by simpa using c126))
                       (try (have c126b2 : (t1062 == t1067) = true := by simpa using c126))
                       clear c126
                       by_cases c127 : t1061 = t1066
                       ·as_aux_lemma =>
                          rw [if_pos c127] at H
                          have c127b0 : (t1061 == t1066) = true := beq_iff_eq.mpr c127
                          have c127b1 : (t1061 != t1066) = false := bne_eq_false_iff_eq.mpr c127
                          clear c127
                          replace H := Option.bind_eq_some_iff.mp H
                          obtain ⟨t1071, A1280, H⟩ := H
                          replace H : (if t1071 = true then (if t1051 = 0 then (some (t1061 == 0)) else (some true)) else (some false)) = some r := H
                          have A128 := am A1280
                          clear A1280
                          by_cases c129 : t1071 = true
                          ·as_aux_lemma =>
                             subst c129
                             rw [if_pos rfl] at H
                             by_cases c130 : t1051 = 0
                             ·as_aux_lemma =>
                                rw [if_pos c130] at H
                                have c130b0 : (t1051 == 0) = true := beq_iff_eq.mpr c130
                                have c130b1 : (t1051 != 0) = false := bne_eq_false_iff_eq.mpr c130
                                clear c130
                                first
                                | exact absurd (show false = true from (Option.some.inj H).trans HR_.out) Bool.false_ne_true
                                | obtain rfl := Option.some.inj H
                                  go_wp2_with (first | ((with_reducible refine gateC (f := 18) rfl ?_); refine goesL_ (some 153) rfl rfl Tryz.func18 (by kernel_rfl) rfl #[.slice A1 l1.length c1] rfl zm ?_; (with_reducible refine (spec_DrawApplySteps.calls kj39 _ _ l1 t1044 t1045 _ ?side1 ?side2 A117.out).mono ?_); (case side1 => exact zq (Kd.C_below HR1.out HB.out)); (case side2 => exact HC1.out); rintro e w131 ⟨v1046, v1048, rfl, ho0, ho1, hb⟩; refine ⟨_, rfl, ?_⟩; have HO1047 := am (Kd.R_lower ho0 (below_size zb)); have HO1049 := am (Kd.S_lower ho1 (below_size zb)); replace HB := am (below_step zb hb); (try clear hb); (try clear ho0); (try clear ho1); obtain ⟨Ao132, co132, eo132⟩ := Kd.R_slice HO1047.out; subst eo132; obtain ⟨Ao133, co133, eo133⟩ := Kd.S_slice HO1049.out; subst eo133) | ((with_reducible refine gateC (f := 13) rfl ?_); refine goesL_ (some 159) rfl rfl Tryz.func13 (by kernel_rfl) rfl #[.slice Ao132 t1044.length co132, .slice Ao133 t1045.length co133] rfl zm ?_; (with_reducible refine (impl_ApplySteps.calls kj39 _ _ t1044 _ _ t1045 t1050 t1051 t1052 _ ?side1 ?side2 ?side3 ?side4 A118.out).mono ?_); (case side1 => repeat (exact (Kd.R_reads' HO1047.out).2.2)); (case side2 => exact (Kd.R_reads' HO1047.out).2.1); (case side3 => repeat (exact (Kd.S_reads' HO1049.out).2.2)); (case side4 => exact (Kd.S_reads' HO1049.out).2.1); rintro e w134 ⟨v1053, rfl, ho0, hb⟩; refine ⟨_, rfl, ?_⟩; replace HO1049 := am (Kd.S_elder' (zs HO1049.out) (Kd.R_base ho0) hb); have HO1054 := am (Kd.R_lower (Kd.R_new' ho0 (Kd.R_lt (zr HO1047.out))) (below_size zb)); replace HO1047 := am (Kd.R_elder' (zr HO1047.out) (Kd.R_base ho0) hb); replace HB := am (below_step zb hb); (try clear hb); (try clear ho0)) | ((with_reducible refine gateC (f := 19) rfl ?_); refine goesL_ (some 166) rfl rfl Tryz.func19 (by kernel_rfl) rfl #[.slice Ao132 t1044.length co132, .slice Ao133 t1045.length co133] rfl zm ?_; (with_reducible refine (spec_ApplySteps.calls kj39 _ _ t1044 _ _ t1045 t1055 t1056 t1057 _ ?side1 ?side2 ?side3 ?side4 A119.out).mono ?_); (case side1 => repeat (exact (Kd.R_reads' HO1047.out).2.2)); (case side2 => exact (Kd.R_reads' HO1047.out).2.1); (case side3 => repeat (exact (Kd.S_reads' HO1049.out).2.2)); (case side4 => exact (Kd.S_reads' HO1049.out).2.1); rintro e w135 ⟨v1058, rfl, ho0, hb⟩; refine ⟨_, rfl, ?_⟩; replace HO1049 := am (Kd.S_elder' (zs HO1049.out) (Kd.R_base ho0) hb); have HO1059 := am (Kd.R_lower (Kd.R_new' (Kd.R_new' ho0 (Kd.R_lt (zr HO1047.out))) (Kd.R_lt (zr HO1054.out))) (below_size zb)); replace HO1047 := am (Kd.R_elder' (zr HO1047.out) (Kd.R_base ho0) hb); replace HO1054 := am (Kd.R_elder' (zr HO1054.out) (Kd.R_base ho0) hb); replace HB := am (below_step zb hb); (try clear hb); (try clear ho0)) | ((with_reducible refine gateC (f := 12) rfl ?_); refine goesL_ (some 173) rfl rfl Tryz.func12 (by kernel_rfl) rfl #[.slice Ao132 t1044.length co132, .slice Ao133 t1045.length co133] rfl zm ?_; (with_reducible refine (impl_StepsHunks.calls kj39 _ _ t1044 _ _ t1045 t1060 t1061 t1062 _ ?side1 ?side2 ?side3 ?side4 A120.out).mono ?_); (case side1 => repeat (exact (Kd.R_reads' HO1047.out).2.2)); (case side2 => exact (Kd.R_reads' HO1047.out).2.1); (case side3 => repeat (exact (Kd.S_reads' HO1049.out).2.2)); (case side4 => exact (Kd.S_reads' HO1049.out).2.1); rintro e w136 ⟨v1063, rfl, ho0, hb⟩; refine ⟨_, rfl, ?_⟩; replace HO1049 := am (Kd.S_below (zs HO1049.out) hb); have HO1064 := am (Kd.S_lower (Kd.S_new' (Kd.S_new' (Kd.S_new' ho0 (Kd.R_lt (zr HO1047.out))) (Kd.R_lt (zr HO1054.out))) (Kd.R_lt (zr HO1059.out))) (below_size zb)); replace HO1047 := am (Kd.R_below (zr HO1047.out) hb); replace HO1054 := am (Kd.R_below (zr HO1054.out) hb); replace HO1059 := am (Kd.R_below (zr HO1059.out) hb); replace HB := am (below_step zb hb); (try clear hb); (try clear ho0)) | ((with_reducible refine gateC (f := 20) rfl ?_); refine goesL_ (some 180) rfl rfl Tryz.func20 (by kernel_rfl) rfl #[.slice Ao132 t1044.length co132, .slice Ao133 t1045.length co133] rfl zm ?_; (with_reducible refine (spec_StepsHunks.calls kj39 _ _ t1044 _ _ t1045 t1065 t1066 t1067 _ ?side1 ?side2 ?side3 ?side4 A121.out).mono ?_); (case side1 => repeat (exact (Kd.R_reads' HO1047.out).2.2)); (case side2 => exact (Kd.R_reads' HO1047.out).2.1); (case side3 => repeat (exact (Kd.S_reads' HO1049.out).2.2)); (case side4 => exact (Kd.S_reads' HO1049.out).2.1); rintro e w137 ⟨v1068, rfl, ho0, hb⟩; refine ⟨_, rfl, ?_⟩; replace HO1049 := am (Kd.S_below (zs HO1049.out) hb); have HO1069 := am (Kd.S_lower (Kd.S_new' (Kd.S_new' (Kd.S_new' (Kd.S_new' ho0 (Kd.R_lt (zr HO1047.out))) (Kd.R_lt (zr HO1054.out))) (Kd.R_lt (zr HO1059.out))) (Kd.S_lt (zs HO1064.out))) (below_size zb)); replace HO1047 := am (Kd.R_below (zr HO1047.out) hb); replace HO1054 := am (Kd.R_below (zr HO1054.out) hb); replace HO1059 := am (Kd.R_below (zr HO1059.out) hb); replace HO1064 := am (Kd.S_elder' (zs HO1064.out) (Kd.S_base ho0) hb); replace HB := am (below_step zb hb); (try clear hb); (try clear ho0); obtain ⟨Ao138, co138, eo138⟩ := Kd.R_slice HO1054.out; subst eo138; obtain ⟨Ao139, co139, eo139⟩ := Kd.R_slice HO1059.out; subst eo139) | (go_at_call 17; (with_reducible refine (laws_sameTexts.calls kj39 _ _ t1050 _ _ t1055 true _ ?side1 ?side2 ?side3 ?side4 A124.out).mono ?_); (case side1 => repeat (exact (Kd.R_reads' HO1054.out).2.2)); (case side2 => exact (Kd.R_reads' HO1054.out).2.1); (case side3 => repeat (exact (Kd.R_reads' HO1059.out).2.2)); (case side4 => exact (Kd.R_reads' HO1059.out).2.1); rintro e w' ⟨rfl, ⟨nd, rfl⟩⟩; obtain ⟨Ao140, co140, eo140⟩ := Kd.S_slice HO1064.out; subst eo140; obtain ⟨Ao141, co141, eo141⟩ := Kd.S_slice HO1069.out; subst eo141) | (go_at_call 16; (with_reducible refine (laws_sameHunks.calls kj39 _ _ t1060 _ _ t1065 true _ ?side1 ?side2 ?side3 ?side4 A128.out rfl).mono ?_); (case side1 => repeat (exact (Kd.S_reads' HO1064.out).2.2)); (case side2 => exact (Kd.S_reads' HO1064.out).2.1); (case side3 => repeat (exact (Kd.S_reads' HO1069.out).2.2)); (case side4 => exact (Kd.S_reads' HO1069.out).2.1); rintro e w142 ⟨rfl, hb⟩; replace HO1047 := am (Kd.R_below (zr HO1047.out) hb); replace HO1049 := am (Kd.S_below (zs HO1049.out) hb); replace HO1054 := am (Kd.R_below (zr HO1054.out) hb); replace HO1059 := am (Kd.R_below (zr HO1059.out) hb); replace HO1064 := am (Kd.S_below (zs HO1064.out) hb); replace HO1069 := am (Kd.S_below (zs HO1069.out) hb); replace HB := am (below_step zb hb); (try clear hb)))
                                  go_ret
                                  exact ⟨by rfl, zb⟩
                             ·as_aux_lemma =>
                                rw [if_neg c130] at H
                                have c130b0 : (t1051 == 0) = false := beq_eq_false_iff_ne.mpr c130
                                have c130b1 : (t1051 != 0) = true := bne_iff_ne.mpr c130
                                first
                                | exact absurd (show false = true from (Option.some.inj H).trans HR_.out) Bool.false_ne_true
                                | obtain rfl := Option.some.inj H
                                  go_wp2_with (first | ((with_reducible refine gateC (f := 18) rfl ?_); refine goesL_ (some 153) rfl rfl Tryz.func18 (by kernel_rfl) rfl #[.slice A1 l1.length c1] rfl zm ?_; (with_reducible refine (spec_DrawApplySteps.calls kj39 _ _ l1 t1044 t1045 _ ?side1 ?side2 A117.out).mono ?_); (case side1 => exact zq (Kd.C_below HR1.out HB.out)); (case side2 => exact HC1.out); rintro e w143 ⟨v1046, v1048, rfl, ho0, ho1, hb⟩; refine ⟨_, rfl, ?_⟩; have HO1047 := am (Kd.R_lower ho0 (below_size zb)); have HO1049 := am (Kd.S_lower ho1 (below_size zb)); replace HB := am (below_step zb hb); (try clear hb); (try clear ho0); (try clear ho1); obtain ⟨Ao144, co144, eo144⟩ := Kd.R_slice HO1047.out; subst eo144; obtain ⟨Ao145, co145, eo145⟩ := Kd.S_slice HO1049.out; subst eo145) | ((with_reducible refine gateC (f := 13) rfl ?_); refine goesL_ (some 159) rfl rfl Tryz.func13 (by kernel_rfl) rfl #[.slice Ao144 t1044.length co144, .slice Ao145 t1045.length co145] rfl zm ?_; (with_reducible refine (impl_ApplySteps.calls kj39 _ _ t1044 _ _ t1045 t1050 t1051 t1052 _ ?side1 ?side2 ?side3 ?side4 A118.out).mono ?_); (case side1 => repeat (exact (Kd.R_reads' HO1047.out).2.2)); (case side2 => exact (Kd.R_reads' HO1047.out).2.1); (case side3 => repeat (exact (Kd.S_reads' HO1049.out).2.2)); (case side4 => exact (Kd.S_reads' HO1049.out).2.1); rintro e w146 ⟨v1053, rfl, ho0, hb⟩; refine ⟨_, rfl, ?_⟩; replace HO1049 := am (Kd.S_elder' (zs HO1049.out) (Kd.R_base ho0) hb); have HO1054 := am (Kd.R_lower (Kd.R_new' ho0 (Kd.R_lt (zr HO1047.out))) (below_size zb)); replace HO1047 := am (Kd.R_elder' (zr HO1047.out) (Kd.R_base ho0) hb); replace HB := am (below_step zb hb); (try clear hb); (try clear ho0)) | ((with_reducible refine gateC (f := 19) rfl ?_); refine goesL_ (some 166) rfl rfl Tryz.func19 (by kernel_rfl) rfl #[.slice Ao144 t1044.length co144, .slice Ao145 t1045.length co145] rfl zm ?_; (with_reducible refine (spec_ApplySteps.calls kj39 _ _ t1044 _ _ t1045 t1055 t1056 t1057 _ ?side1 ?side2 ?side3 ?side4 A119.out).mono ?_); (case side1 => repeat (exact (Kd.R_reads' HO1047.out).2.2)); (case side2 => exact (Kd.R_reads' HO1047.out).2.1); (case side3 => repeat (exact (Kd.S_reads' HO1049.out).2.2)); (case side4 => exact (Kd.S_reads' HO1049.out).2.1); rintro e w147 ⟨v1058, rfl, ho0, hb⟩; refine ⟨_, rfl, ?_⟩; replace HO1049 := am (Kd.S_elder' (zs HO1049.out) (Kd.R_base ho0) hb); have HO1059 := am (Kd.R_lower (Kd.R_new' (Kd.R_new' ho0 (Kd.R_lt (zr HO1047.out))) (Kd.R_lt (zr HO1054.out))) (below_size zb)); replace HO1047 := am (Kd.R_elder' (zr HO1047.out) (Kd.R_base ho0) hb); replace HO1054 := am (Kd.R_elder' (zr HO1054.out) (Kd.R_base ho0) hb); replace HB := am (below_step zb hb); (try clear hb); (try clear ho0)) | ((with_reducible refine gateC (f := 12) rfl ?_); refine goesL_ (some 173) rfl rfl Tryz.func12 (by kernel_rfl) rfl #[.slice Ao144 t1044.length co144, .slice Ao145 t1045.length co145] rfl zm ?_; (with_reducible refine (impl_StepsHunks.calls kj39 _ _ t1044 _ _ t1045 t1060 t1061 t1062 _ ?side1 ?side2 ?side3 ?side4 A120.out).mono ?_); (case side1 => repeat (exact (Kd.R_reads' HO1047.out).2.2)); (case side2 => exact (Kd.R_reads' HO1047.out).2.1); (case side3 => repeat (exact (Kd.S_reads' HO1049.out).2.2)); (case side4 => exact (Kd.S_reads' HO1049.out).2.1); rintro e w148 ⟨v1063, rfl, ho0, hb⟩; refine ⟨_, rfl, ?_⟩; replace HO1049 := am (Kd.S_below (zs HO1049.out) hb); have HO1064 := am (Kd.S_lower (Kd.S_new' (Kd.S_new' (Kd.S_new' ho0 (Kd.R_lt (zr HO1047.out))) (Kd.R_lt (zr HO1054.out))) (Kd.R_lt (zr HO1059.out))) (below_size zb)); replace HO1047 := am (Kd.R_below (zr HO1047.out) hb); replace HO1054 := am (Kd.R_below (zr HO1054.out) hb); replace HO1059 := am (Kd.R_below (zr HO1059.out) hb); replace HB := am (below_step zb hb); (try clear hb); (try clear ho0)) | ((with_reducible refine gateC (f := 20) rfl ?_); refine goesL_ (some 180) rfl rfl Tryz.func20 (by kernel_rfl) rfl #[.slice Ao144 t1044.length co144, .slice Ao145 t1045.length co145] rfl zm ?_; (with_reducible refine (spec_StepsHunks.calls kj39 _ _ t1044 _ _ t1045 t1065 t1066 t1067 _ ?side1 ?side2 ?side3 ?side4 A121.out).mono ?_); (case side1 => repeat (exact (Kd.R_reads' HO1047.out).2.2)); (case side2 => exact (Kd.R_reads' HO1047.out).2.1); (case side3 => repeat (exact (Kd.S_reads' HO1049.out).2.2)); (case side4 => exact (Kd.S_reads' HO1049.out).2.1); rintro e w149 ⟨v1068, rfl, ho0, hb⟩; refine ⟨_, rfl, ?_⟩; replace HO1049 := am (Kd.S_below (zs HO1049.out) hb); have HO1069 := am (Kd.S_lower (Kd.S_new' (Kd.S_new' (Kd.S_new' (Kd.S_new' ho0 (Kd.R_lt (zr HO1047.out))) (Kd.R_lt (zr HO1054.out))) (Kd.R_lt (zr HO1059.out))) (Kd.S_lt (zs HO1064.out))) (below_size zb)); replace HO1047 := am (Kd.R_below (zr HO1047.out) hb); replace HO1054 := am (Kd.R_below (zr HO1054.out) hb); replace HO1059 := am (Kd.R_below (zr HO1059.out) hb); replace HO1064 := am (Kd.S_elder' (zs HO1064.out) (Kd.S_base ho0) hb); replace HB := am (below_step zb hb); (try clear hb); (try clear ho0); obtain ⟨Ao150, co150, eo150⟩ := Kd.R_slice HO1054.out; subst eo150; obtain ⟨Ao151, co151, eo151⟩ := Kd.R_slice HO1059.out; subst eo151) | (go_at_call 17; (with_reducible refine (laws_sameTexts.calls kj39 _ _ t1050 _ _ t1055 true _ ?side1 ?side2 ?side3 ?side4 A124.out).mono ?_); (case side1 => repeat (exact (Kd.R_reads' HO1054.out).2.2)); (case side2 => exact (Kd.R_reads' HO1054.out).2.1); (case side3 => repeat (exact (Kd.R_reads' HO1059.out).2.2)); (case side4 => exact (Kd.R_reads' HO1059.out).2.1); rintro e w' ⟨rfl, ⟨nd, rfl⟩⟩; obtain ⟨Ao152, co152, eo152⟩ := Kd.S_slice HO1064.out; subst eo152; obtain ⟨Ao153, co153, eo153⟩ := Kd.S_slice HO1069.out; subst eo153) | (go_at_call 16; (with_reducible refine (laws_sameHunks.calls kj39 _ _ t1060 _ _ t1065 true _ ?side1 ?side2 ?side3 ?side4 A128.out rfl).mono ?_); (case side1 => repeat (exact (Kd.S_reads' HO1064.out).2.2)); (case side2 => exact (Kd.S_reads' HO1064.out).2.1); (case side3 => repeat (exact (Kd.S_reads' HO1069.out).2.2)); (case side4 => exact (Kd.S_reads' HO1069.out).2.1); rintro e w154 ⟨rfl, hb⟩; replace HO1047 := am (Kd.R_below (zr HO1047.out) hb); replace HO1049 := am (Kd.S_below (zs HO1049.out) hb); replace HO1054 := am (Kd.R_below (zr HO1054.out) hb); replace HO1059 := am (Kd.R_below (zr HO1059.out) hb); replace HO1064 := am (Kd.S_below (zs HO1064.out) hb); replace HO1069 := am (Kd.S_below (zs HO1069.out) hb); replace HB := am (below_step zb hb); (try clear hb)))
                                  go_ret
                                  exact ⟨by rfl, zb⟩
                          ·as_aux_lemma =>
                             replace c129 := Bool.eq_false_iff.mpr c129
                             subst c129
                             rw [if_neg nofun] at H
                             exact absurd (show false = true from (Option.some.inj H).trans HR_.out) Bool.false_ne_true
                       ·as_aux_lemma =>
                          rw [if_neg c127] at H
                          have c127b0 : (t1061 == t1066) = false := beq_eq_false_iff_ne.mpr c127
                          have c127b1 : (t1061 != t1066) = true := bne_iff_ne.mpr c127
                          exact absurd (show false = true from (Option.some.inj H).trans HR_.out) Bool.false_ne_true
                    ·as_aux_lemma =>
                       rw [if_neg c126] at H
                       have c126b0 : (t1062 == t1067) = false := by simpa using c126
                       (try (have c126b1 : decide (t1062 = t1067) = false := by simpa using c126))
                       (try (have c126b2 : (t1062 == t1067) = false := by simpa using c126))
                       (try (have c126b3 : ¬ (t1062 = t1067) := by simpa using c126))
                       clear c126
                       exact absurd (show false = true from (Option.some.inj H).trans HR_.out) Bool.false_ne_true
                 ·as_aux_lemma =>
                    replace c125 := Bool.eq_false_iff.mpr c125
                    subst c125
                    rw [if_neg nofun] at H
                    exact absurd (show false = true from (Option.some.inj H).trans HR_.out) Bool.false_ne_true
              ·as_aux_lemma =>
                 rw [if_neg c123] at H
                 have c123b0 : (t1051 == t1056) = false := beq_eq_false_iff_ne.mpr c123
                 have c123b1 : (t1051 != t1056) = true := bne_iff_ne.mpr c123
                 exact absurd (show false = true from (Option.some.inj H).trans HR_.out) Bool.false_ne_true
           ·as_aux_lemma =>
              rw [if_neg c122] at H
              have c122b0 : (t1052 == t1057) = false := by simpa using c122
              (try (have c122b1 : decide (t1052 = t1057) = false := by simpa using c122))
              (try (have c122b2 : (t1052 == t1057) = false := by simpa using c122))
              (try (have c122b3 : ¬ (t1052 = t1057) := by simpa using c122))
              clear c122
              exact absurd (show false = true from (Option.some.inj H).trans HR_.out) Bool.false_ne_true

def laws_FnNormal.Pure : Prop := ∀ (l0 : List Int) (l1 : List Int), (WL Wu8) l0 → (WL Wu8) l1 → ∃ k, laws_FnNormal.f k l0 l1 = some true
end Go.Proofs.YtmcldkobejhaeaaGreatDoor.My
namespace Go.Proofs.YtmcldkobejhaeaaGreatDoor.Pl
open Go.RowKit Go.Proofs.YtmcldkobejhaeaaGreatDoorW.PrintWords Go.Proofs.YtmcldkobejhaeaaGreatDoorW.PrintLast
set_option linter.unusedVariables false
set_option linter.unusedSimpArgs false
section
variable {α β : Type}
theorem ev_pos {c : Prop} [Decidable c] {g g' : Nat → Option α} {r : α} (hc : c) (h : Ev g r) : Ev (fun k => if c then g k else g' k) r :=
  Ev.congr (fun _ => if_pos hc) h
theorem ev_neg {c : Prop} [Decidable c] {g g' : Nat → Option α} {r : α} (hc : ¬ c) (h : Ev g' r) : Ev (fun k => if c then g k else g' k) r :=
  Ev.congr (fun _ => if_neg hc) h
theorem ev_ite {c : Prop} [Decidable c] {g g' : Nat → Option α} {r : α} (h : c → Ev g r) (h' : ¬ c → Ev g' r) : Ev (fun k => if c then g k else g' k) r := by
  by_cases hc : c
  · exact ev_pos hc (h hc)
  · exact ev_neg hc (h' hc)
theorem ev_some {r r' : α} (h : r = r') : Ev (fun _ => some r) r' := h ▸ Ev.now r
theorem ev_const {o : Option α} {r : α} (h : o = some r) : Ev (fun _ => o) r := ⟨0, fun _ _ => h⟩
theorem ev_to {g : Nat → Option α} {r r' : α} (h : Ev g r) (e : r = r') : Ev g r' := e ▸ h
theorem ev_bind {g : Nat → Option α} {f : Nat → α → Option β} {a : α} {r : β} (h : Ev g a) (k : Ev (fun n => f n a) r) : Ev (fun n => (g n).bind fun t => f n t) r := Ev.bind h k
end
theorem wrap64_id {x : Int} (h : -9223372036854775808 ≤ x) (h' : x ≤ 9223372036854775807) : wrap64 x = x := by
  unfold wrap64
  omega
theorem wrap_succ (i : Nat) (h : i < 9223372036854775807) : wrap64 ((i : Int) + 1) = ((i + 1 : Nat) : Int) := by
  rw [wrap64_id (by omega) (by omega)]
  omega
theorem wrap_pred (n : Nat) (h0 : 0 < n) (h : n ≤ 9223372036854775807) : wrap64 ((n : Int) - 1) = ((n - 1 : Nat) : Int) := by
  rw [wrap64_id (by omega) (by omega)]
  omega
theorem wrap_add (n m : Nat) (h : n + m ≤ 9223372036854775807) : wrap64 ((n : Int) + (m : Int)) = ((n + m : Nat) : Int) := by
  rw [wrap64_id (by omega) (by omega)]
  omega
theorem getD_lt {α : Type} (xs : List α) (d : α) (i : Nat) (h : i < xs.length) : xs.getD i d = xs[i] := by
  simp [List.getD_eq_getElem?_getD, List.getElem?_eq_getElem h]
theorem rdOf_lt {α : Type} (d : α) (xs : List α) (i : Nat) (h : i < xs.length) : rdOf d xs (i : Int) = xs[i] := getD_lt xs d i h
theorem ba_ext {a b : ByteArray} (h : a.toList = b.toList) : a = b := by
  rw [Lib.toList_data, Lib.toList_data] at h
  cases a with | mk a => cases b with | mk b =>
  cases a with | mk a => cases b with | mk b =>
  simp_all
theorem drop_cons {α : Type} (xs : List α) (i : Nat) (h : i < xs.length) : xs.drop i = xs[i] :: xs.drop (i + 1) := List.drop_eq_getElem_cons h
theorem bt_nat (s : ByteArray) (i : Nat) (h : i < s.size) : bt s (i : Int) = ((s.data.toList[i]'(by rw [data_length]; exact h)).toNat : Int) := by
  unfold bt
  rw [dif_pos (by simpa using h)]
  simp [ByteArray.getElem_eq_getElem_data]
theorem u8_eq {b c : UInt8} (h : (b.toNat : Int) = (c.toNat : Int)) : b = c := UInt8.toNat_inj.1 (by omega)
theorem u8_ne {b c : UInt8} (h : ¬ (b.toNat : Int) = (c.toNat : Int)) : ¬ c = b := fun e => h (by rw [e])
end Go.Proofs.YtmcldkobejhaeaaGreatDoor.Pl
namespace Go.Proofs.YtmcldkobejhaeaaGreatDoor.Pl
open Go.RowKit Go.Proofs.YtmcldkobejhaeaaGreatDoorW.PrintWords Go.Proofs.YtmcldkobejhaeaaGreatDoorW.PrintLast Go.Proofs.YtmcldkobejhaeaaGreatDoor.My
set_option linter.unusedVariables false
set_option linter.unusedSimpArgs false
def Bytes8 (c : List Int) : Prop := (c.length : Int) ≤ 9223372036854775807 ∧ ∀ x ∈ c, 0 ≤ x ∧ x ≤ 255
theorem u64_wrap_nat (x : Int) : ∃ n : Nat, IntKind.u64.wrap x = (n : Int) ∧ n < 18446744073709551616 := by
  have h : IntKind.u64.wrap x = x % 18446744073709551616 := rfl
  exact ⟨(IntKind.u64.wrap x).toNat, by rw [h]; omega, by rw [h]; omega⟩
theorem low_byte (x : Int) : 0 ≤ wrap64 (Go.bits .and .u64 (IntKind.u64.wrap x / 1099511627776) 255) ∧ wrap64 (Go.bits .and .u64 (IntKind.u64.wrap x / 1099511627776) 255) ≤ 255 := by
  obtain ⟨n, e, hn⟩ := u64_wrap_nat x
  have e2 : IntKind.u64.wrap x / 1099511627776 = ((n / 1099511627776 : Nat) : Int) := by rw [e]; omega
  rw [e2, show (255 : Int) = ((255 : Nat) : Int) from rfl, bits_and_u64_nat _ _ (by omega) (by decide)]
  have h3 : n / 1099511627776 &&& 255 = n / 1099511627776 % 256 := Nat.and_two_pow_sub_one_eq_mod (n := 8) _
  rw [h3, wrap64_id (by omega) (by omega)]
  omega
def At (B a : Int) : Prop := 0 ≤ a ∧ a ≤ B
theorem next_some (c : List Int) (hc : Bytes8 c) (a s : Int) (ha : At 2305843009213693952 a) : ∃ b s2, spec_l1Cur_next.f c a s = some (b, a + 1, s2) ∧ 0 ≤ b ∧ b ≤ 255 := by
  obtain ⟨h0, h1⟩ := ha
  unfold spec_l1Cur_next.f
  have e1 : wrap64 (a + 1) = a + 1 := wrap64_id (by omega) (by omega)
  rw [e1]
  by_cases h : a < (c.length : Int)
  · rw [if_pos h, if_pos h0, if_pos (by omega)]
    have hm : rd c a ∈ c := by
      have e2 : rd c a = c[a.toNat]'(by omega) := by
        have := getD_lt c 0 a.toNat (by omega)
        exact this
      rw [e2]
      exact List.getElem_mem _
    have hb := hc.2 _ hm
    rw [wrap64_id (x := rd c a) (by omega) (by omega)]
    exact ⟨_, _, rfl, hb.1, hb.2⟩
  · rw [if_neg h]
    by_cases h2 : a + 1 ≤ (c.length : Int)
    · rw [if_pos h2]
      exact ⟨_, _, rfl, by decide, by decide⟩
    · rw [if_neg h2]
      have := low_byte ((IntKind.u64.wrap ((IntKind.u64.wrap (s * 6364136223846793005)) + 0)) + 1442695040888963407)
      exact ⟨_, _, rfl, this.1, this.2⟩
theorem tmod_range (x n : Int) (hx : 0 ≤ x) (hn : 0 < n) : 0 ≤ Int.tmod x n ∧ Int.tmod x n < n := by
  rw [Int.tmod_eq_emod_of_nonneg hx]
  exact ⟨Int.emod_nonneg _ (by omega), Int.emod_lt_of_pos _ hn⟩
theorem pick_some (c : List Int) (hc : Bytes8 c) (a s n : Int) (ha : At 2305843009213693951 a) : ∃ v a2 s2, spec_l1Cur_pick.f c a s n = some (v, a2, s2) ∧ 0 ≤ v ∧ (v = 0 ∨ v < n) ∧ v ≤ 65535 ∧ a ≤ a2 ∧ a2 ≤ a + 2 := by
  obtain ⟨h0, h1⟩ := ha
  unfold spec_l1Cur_pick.f
  by_cases h : n ≤ 1
  · rw [if_pos h]
    exact ⟨0, a, s, rfl, by omega, .inl rfl, by omega, by omega, by omega⟩
  · rw [if_neg h]
    obtain ⟨b, s2, e, hb0, hb1⟩ := next_some c hc a s ⟨h0, by omega⟩
    rw [e]
    simp only [Option.bind_some]
    by_cases h2 : n > 200
    · obtain ⟨b2, s3, e2, hc0, hc1⟩ := next_some c hc (a + 1) s2 ⟨by omega, by omega⟩
      rw [if_pos h2, e2]
      simp only [Option.bind_some]
      rw [if_neg (by omega), wrap64_id (x := b * 256) (by omega) (by omega), wrap64_id (by omega) (by omega)]
      have ht := tmod_range (b * 256 + b2) n (by omega) (by omega)
      refine ⟨_, _, _, rfl, ht.1, .inr ht.2, ?_, by omega, by omega⟩
      rw [Int.tmod_eq_emod_of_nonneg (by omega)]
      have h5 : (b * 256 + b2) % n ≤ b * 256 + b2 := by
        have h6 := Int.mul_ediv_add_emod (b * 256 + b2) n
        have h7 : 0 ≤ (b * 256 + b2) / n := Int.ediv_nonneg (by omega) (by omega)
        have h8 : 0 ≤ n * ((b * 256 + b2) / n) := Int.mul_nonneg (by omega) h7
        omega
      omega
    · rw [if_neg h2, if_neg (by omega)]
      have ht := tmod_range b n hb0 (by omega)
      exact ⟨_, _, _, rfl, ht.1, .inr ht.2, by omega, by omega, by omega⟩
end Go.Proofs.YtmcldkobejhaeaaGreatDoor.Pl
namespace Go.Proofs.YtmcldkobejhaeaaGreatDoor.Pl
open Go.RowKit Go.Proofs.YtmcldkobejhaeaaGreatDoorW.PrintWords Go.Proofs.YtmcldkobejhaeaaGreatDoorW.PrintLast Go.Proofs.YtmcldkobejhaeaaGreatDoor.My
set_option linter.unusedVariables false
theorem one_some (c : List Int) (hc : Bytes8 c) (a s n : Int) (ha : At 2305843009213693951 a) : ∃ v a2 s2, spec_l1Cur_one.f c a s n = some (v, a2, s2) ∧ a ≤ a2 ∧ a2 ≤ a + 2 := by
  unfold spec_l1Cur_one.f
  obtain ⟨v, a2, s2, e, h⟩ := pick_some c hc a s n ha
  rw [e]
  exact ⟨_, _, _, rfl, h.2.2.2.1, h.2.2.2.2⟩
theorem of_some (c : List Int) (hc : Bytes8 c) (a s : Int) (ha : At 2305843009213693951 a) (l : List ByteArray) (hl : 0 < l.length) : ∃ v a2 s2, spec_l1Cur_of.f c a s l = some (v, a2, s2) ∧ v ∈ l ∧ a ≤ a2 ∧ a2 ≤ a + 2 := by
  unfold spec_l1Cur_of.f
  obtain ⟨v, a2, s2, e, h⟩ := pick_some c hc a s (l.length : Int) ha
  rw [e]
  simp only [Option.bind_some]
  have hv : v < (l.length : Int) := by rcases h.2.1 with h | h <;> omega
  rw [if_pos h.1, if_pos hv]
  refine ⟨_, _, _, rfl, ?_, h.2.2.2.1, h.2.2.2.2⟩
  have e2 : rdOf ByteArray.empty l v = l[v.toNat]'(by omega) := getD_lt l _ v.toNat (by omega)
  rw [e2]
  exact List.getElem_mem _
end Go.Proofs.YtmcldkobejhaeaaGreatDoor.Pl
namespace Go.Proofs.YtmcldkobejhaeaaGreatDoor.Pl
open Go.RowKit Go.Proofs.YtmcldkobejhaeaaGreatDoorW.PrintWords Go.Proofs.YtmcldkobejhaeaaGreatDoorW.PrintLast Go.Proofs.YtmcldkobejhaeaaGreatDoor.My
set_option linter.unusedVariables false
set_option linter.unusedSimpArgs false
theorem at_of {a : Int} (h0 : 0 ≤ a) (h1 : a ≤ 1000000000001000) : At 2305843009213693951 a := ⟨h0, by omega⟩
theorem line_some (c : List Int) (hc : Bytes8 c) (a s : Int) (h0 : 0 ≤ a) (h1 : a ≤ 1000000000001000) : ∃ v a2 s2, spec_l1Cur_line.f c a s = some (v, a2, s2) ∧ v.size ≤ 7 ∧ a ≤ a2 ∧ a2 ≤ a + 2 := by
  unfold spec_l1Cur_line.f
  obtain ⟨v, a2, s2, e, hv, h⟩ := of_some c hc a s (at_of h0 h1) [(⟨#[97]⟩ : ByteArray), (⟨#[98]⟩ : ByteArray), (⟨#[99]⟩ : ByteArray), (⟨#[100]⟩ : ByteArray), (⟨#[]⟩ : ByteArray), (⟨#[46]⟩ : ByteArray), (⟨#[46, 46]⟩ : ByteArray), (⟨#[111, 110, 101, 32, 116, 119, 111]⟩ : ByteArray), (⟨#[43, 120]⟩ : ByteArray), (⟨#[45, 121]⟩ : ByteArray), (⟨#[92, 32, 122]⟩ : ByteArray), (⟨#[64, 64]⟩ : ByteArray)] (by simp)
  rw [e]
  refine ⟨v, a2, s2, rfl, ?_, h⟩
  simp only [List.mem_cons, List.not_mem_nil, or_false] at hv
  rcases hv with rfl | rfl | rfl | rfl | rfl | rfl | rfl | rfl | rfl | rfl | rfl | rfl <;> decide
def Sm1 (l : List ByteArray) : Prop := ∀ s ∈ l, 1 ≤ s.size ∧ s.size ≤ 8
def SmT (l : List ByteArray) : Prop := l.length ≤ 9 ∧ (∀ s ∈ l, s.size ≤ 8) ∧ ∀ x, l.getLast? = some x → 1 ≤ x.size
theorem sm1_snoc {l : List ByteArray} {x : ByteArray} (h : Sm1 l) (h1 : 1 ≤ x.size) (h2 : x.size ≤ 8) : Sm1 (l ++ [x]) := by
  intro s hs
  rcases List.mem_append.1 hs with hs | hs
  · exact h s hs
  · rw [List.mem_singleton.1 hs]; exact ⟨h1, h2⟩
theorem nl_size (v : ByteArray) (h : v.size ≤ 7) : 1 ≤ (v ++ (⟨#[10]⟩ : ByteArray)).size ∧ (v ++ (⟨#[10]⟩ : ByteArray)).size ≤ 8 := by
  rw [ByteArray.size_append, show (⟨#[10]⟩ : ByteArray).size = 1 from rfl]
  omega
theorem text_l0 (c : List Int) (hc : Bytes8 c) : ∀ (n : Nat) (acc : List ByteArray) (a s : Int), 0 ≤ a → a + 2 * n ≤ 1000000000000500 → acc.length + n ≤ 8 → Sm1 acc → ∃ r a2 s2, Ev (fun k => spec_l1Cur_text.l0 k acc (n : Int) c a s) (r, a2, s2) ∧ r.length ≤ 9 ∧ Sm1 r ∧ a ≤ a2 ∧ a2 ≤ a + 2 * n + 4 := by
  intro n
  induction n with
  | zero =>
    intro acc a s h0 h1 hl hs
    obtain ⟨v, a2, s2, e, h2⟩ := one_some c hc a s 5 (at_of h0 (by omega))
    cases v with
    | true =>
      obtain ⟨w, a3, s3, e2, hw, h3⟩ := of_some c hc a2 s2 (at_of (by omega) (by omega)) [(⟨#[97]⟩ : ByteArray), (⟨#[101, 110, 100]⟩ : ByteArray), (⟨#[46]⟩ : ByteArray)] (by simp)
      refine ⟨acc ++ [w], a3, s3, Ev.step (fun k => spec_l1Cur_text.l0.eq_2 ..) (ev_neg (by omega) ?_), by rw [List.length_append, List.length_singleton]; omega, ?_, by omega, by omega⟩
      · refine ev_bind (ev_const e) (ev_pos rfl (ev_bind (ev_const e2) (ev_pos (by omega) (ev_some rfl))))
      · simp only [List.mem_cons, List.not_mem_nil, or_false] at hw
        rcases hw with rfl | rfl | rfl <;> exact sm1_snoc hs (by decide) (by decide)
    | false =>
      refine ⟨acc, a2, s2, Ev.step (fun k => spec_l1Cur_text.l0.eq_2 ..) (ev_neg (by omega) ?_), by omega, hs, by omega, by omega⟩
      exact ev_bind (ev_const e) (ev_neg (by simp) (ev_some rfl))
  | succ n ih =>
    intro acc a s h0 h1 hl hs
    obtain ⟨v, a2, s2, e, h2⟩ := line_some c hc a s h0 (by omega)
    have hz := nl_size v h2.1
    obtain ⟨r, a3, s3, e3, h3⟩ := ih (acc ++ [v ++ (⟨#[10]⟩ : ByteArray)]) a2 s2 (by omega) (by omega) (by rw [List.length_append, List.length_singleton]; omega) (sm1_snoc hs hz.1 hz.2)
    refine ⟨r, a3, s3, Ev.step (fun k => spec_l1Cur_text.l0.eq_2 ..) (ev_pos (by omega) ?_), h3.1, h3.2.1, by omega, by omega⟩
    refine ev_bind (ev_const e) (ev_pos (by dsimp only; omega) (ev_pos (by omega) ?_))
    rw [wrap64_id (x := ((n + 1 : Nat) : Int) - 1) (by omega) (by omega), show ((n + 1 : Nat) : Int) - 1 = (n : Int) from by omega]
    exact e3
theorem text_some (c : List Int) (hc : Bytes8 c) (a s : Int) (h0 : 0 ≤ a) (h1 : a ≤ 1000000000000400) : ∃ r a2 s2, Ev (fun k => spec_l1Cur_text.f k c a s) (r, a2, s2) ∧ r.length ≤ 9 ∧ Sm1 r ∧ a ≤ a2 ∧ a2 ≤ a + 22 := by
  simp only [spec_l1Cur_text.f]
  obtain ⟨v, a2, s2, e, h2⟩ := pick_some c hc a s 9 (at_of h0 (by omega))
  have hv : v = ((v.toNat : Nat) : Int) := by omega
  have hn : v.toNat ≤ 8 := by rcases h2.2.1 with h | h <;> omega
  obtain ⟨r, a3, s3, e3, h3⟩ := text_l0 c hc v.toNat [] a2 s2 (by omega) (by omega) (by simpa using hn) (fun s hs => by cases hs)
  rw [← hv] at e3
  exact ⟨r, a3, s3, ev_bind (ev_const e) e3, h3.1, h3.2.1, by omega, by omega⟩
theorem smT_of {l : List ByteArray} (hl : l.length ≤ 9) (h : Sm1 l) : SmT l :=
  ⟨hl, fun s hs => (h s hs).2, fun x hx => (h x (List.mem_of_getLast? hx)).1⟩
theorem smT_set {l : List ByteArray} (hl : 1 < l.length) (h : SmT l) (v : ByteArray) (hv : v.size ≤ 8) : SmT (l.set 0 v) := by
  refine ⟨by rw [List.length_set]; exact h.1, fun s hs => ?_, fun x hx => h.2.2 x ?_⟩
  · rcases List.mem_or_eq_of_mem_set hs with hs | rfl
    · exact h.2.1 s hs
    · exact hv
  · rw [List.getLast?_eq_getElem?, List.length_set, List.getElem?_set_ne (by omega)] at hx
    rw [List.getLast?_eq_getElem?]
    exact hx
theorem anyText_some (c : List Int) (hc : Bytes8 c) (a s : Int) (h0 : 0 ≤ a) (h1 : a ≤ 1000000000000300) : ∃ r a2 s2, Ev (fun k => spec_l1Cur_anyText.f k c a s) (r, a2, s2) ∧ SmT r ∧ a ≤ a2 ∧ a2 ≤ a + 24 := by
  simp only [spec_l1Cur_anyText.f]
  obtain ⟨l, a2, s2, e, h2⟩ := text_some c hc a s h0 (by omega)
  have hT := smT_of h2.1 h2.2.1
  by_cases hl : (l.length : Int) > 1
  · obtain ⟨v, a3, s3, e3, h3⟩ := pick_some c hc a2 s2 25 (at_of (by omega) (by omega))
    have st : ∀ (w : ByteArray), w.size ≤ 8 → SmT (l.set (0 : Int).toNat w) := fun w hw => smT_set (by omega) hT w hw
    by_cases c0 : v = 0
    · exact ⟨_, a3, s3, ev_bind e (ev_pos hl (ev_bind (ev_const e3) (ev_pos c0 (ev_pos (by dsimp only; omega) (ev_some rfl))))), st _ (by decide), by omega, by omega⟩
    · by_cases c1 : v = 1
      · exact ⟨_, a3, s3, ev_bind e (ev_pos hl (ev_bind (ev_const e3) (ev_neg c0 (ev_pos c1 (ev_pos (by dsimp only; omega) (ev_some rfl)))))), st _ (by decide), by omega, by omega⟩
      · by_cases c2 : v = 2
        · exact ⟨_, a3, s3, ev_bind e (ev_pos hl (ev_bind (ev_const e3) (ev_neg c0 (ev_neg c1 (ev_pos c2 (ev_pos (by dsimp only; omega) (ev_some rfl))))))), st _ (by decide), by omega, by omega⟩
        · exact ⟨_, a3, s3, ev_bind e (ev_pos hl (ev_bind (ev_const e3) (ev_neg c0 (ev_neg c1 (ev_neg c2 (ev_some rfl)))))), hT, by omega, by omega⟩
  · exact ⟨l, a2, s2, ev_bind e (ev_neg hl (ev_some rfl)), hT, by omega, by omega⟩

def inB (n lo hi : Int) : Bool := decide (lo ≤ n) && decide (n ≤ hi)
theorem inB_iff (a b c : Int) : inB a b c = true ↔ b ≤ a ∧ a ≤ c := by
  unfold inB
  rw [Bool.and_eq_true, decide_eq_true_eq, decide_eq_true_eq]
theorem impl_in_eq (a b c : Int) : impl_in.f a b c = some (inB a b c) := by
  unfold impl_in.f inB
  by_cases h : b ≤ a
  · rw [if_pos h]; simp [h]
  · rw [if_neg (by omega)]; simp [h]
theorem spec_l1In_eq (a b c : Int) : spec_l1In.f a b c = some (inB a b c) := by
  unfold spec_l1In.f inB
  by_cases h : b ≤ a
  · rw [if_pos h]; simp [h]
  · rw [if_neg (by omega)]; simp [h]
end Go.Proofs.YtmcldkobejhaeaaGreatDoor.Pl
namespace Go.Proofs.YtmcldkobejhaeaaGreatDoor.Pl
open Go.RowKit Go.Proofs.YtmcldkobejhaeaaGreatDoorW.PrintWords Go.Proofs.YtmcldkobejhaeaaGreatDoorW.PrintLast
set_option linter.unusedVariables false
set_option linter.unusedSimpArgs false
def FitS (l : List ByteArray) : Prop := l.length ≤ 9223372036854775807 ∧ ∀ s ∈ l, s.size ≤ 9223372036854775807
end Go.Proofs.YtmcldkobejhaeaaGreatDoor.Pl
namespace Go.Proofs.YtmcldkobejhaeaaGreatDoor.Pl
open Go.RowKit Go.Proofs.YtmcldkobejhaeaaGreatDoorW.PrintWords Go.Proofs.YtmcldkobejhaeaaGreatDoorW.PrintLast Go.Proofs.YtmcldkobejhaeaaGreatDoor.My
set_option linter.unusedVariables false
set_option linter.unusedSimpArgs false
def isLn (s : ByteArray) : Bool := !(s.data.toList.dropLast.contains 10) && inB s.size 1 30
def ends (s : ByteArray) : Bool := s.data.toList.getLast? == some 10
def good (l : List ByteArray) : Bool := decide (l.length ≤ 40) && (l.all isLn && l.dropLast.all ends)
theorem toList_one (c : UInt8) : (⟨#[c]⟩ : ByteArray).toList = [c] := by rw [Lib.toList_data]
theorem size_one (c : UInt8) : (⟨#[c]⟩ : ByteArray).size = 1 := rfl
theorem bt_one (c : UInt8) : bt ⟨#[c]⟩ 0 = (c.toNat : Int) := rfl
theorem index_ev (s : ByteArray) (c : UInt8) : Ev (fun k => strings_Index.f k s ⟨#[c]⟩) (Lib.indexByte s.data.toList c) := by
  have hj : ∀ b : Bool, (b = true → Lib.indexByte s.data.toList c = 0) → Ev (fun k => stringslite_Index.j0 k s ⟨#[c]⟩ 1 b) (Lib.indexByte s.data.toList c) := by
    intro b hb
    refine Ev.step (fun k => stringslite_Index.j0.eq_2 ..) ?_
    refine ev_ite (fun h => ev_some (hb h).symm) (fun _ => ?_)
    refine ev_pos rfl (ev_pos (by rw [size_one]; decide) ?_)
    refine ev_const ?_
    rw [bt_one]
    simp [stringslite_IndexByte.f]
  have h2 : Ev (fun k => stringslite_Index.f k s ⟨#[c]⟩) (Lib.indexByte s.data.toList c) := by
    simp only [stringslite_Index.f]
    refine ev_neg (by rw [size_one]; decide) ?_
    refine hj _ (fun h => ?_)
    have e : s.data.toList = [c] := by
      have := beq_iff_eq.1 h
      rw [toList_one, Lib.toList_data] at this
      exact this.symm
    rw [e]
    simp [Lib.indexByte]
  simp only [strings_Index.f]
  exact ev_bind h2 (ev_some rfl)
theorem indexByte_nonneg (l : List UInt8) (c : UInt8) : decide (Lib.indexByte l c ≥ 0) = l.contains c := by
  induction l with
  | nil => simp [Lib.indexByte]
  | cons b l ih =>
    have hge := Lib.indexByte_ge l c
    unfold Lib.indexByte
    by_cases h : (b == c) = true
    · have : b = c := beq_iff_eq.1 h
      simp [this]
    · have hb : (b == c) = false := by simpa using h
      have hne : ¬ c = b := fun e => h (by simp [e])
      rw [List.contains_cons, ← ih]
      simp only [hb]
      by_cases h2 : Lib.indexByte l c = -1
      · simp [h2, hne]
      · have h3 : (Lib.indexByte l c == -1) = false := by simpa using h2
        simp only [h3]
        have : Lib.indexByte l c ≥ 0 := by omega
        simp [hne, this]
        omega
theorem contains_ev (s : ByteArray) (c : UInt8) : Ev (fun k => strings_Contains.f k s ⟨#[c]⟩) (s.data.toList.contains c) := by
  simp only [strings_Contains.f]
  exact ev_bind (index_ev s c) (ev_some (indexByte_nonneg _ _))
theorem extract_data (s : ByteArray) (a b : Nat) : (s.extract a b).data.toList = (s.data.toList.take b).drop a := by
  rw [ByteArray.data_extract, Array.toList_extract, List.extract_eq_take_drop, ← List.drop_take]
theorem isLine_ev (s : ByteArray) (hs : s.size ≤ 9223372036854775807) : Ev (fun k => impl_isLine.f k s) (isLn s) := by
  simp only [impl_isLine.f, impl_in_eq, Option.bind_some]
  refine ev_ite (fun h => ?_) (fun h => ev_some (by unfold isLn; simp at h; simp [h]))
  have h1 : 1 ≤ s.size ∧ s.size ≤ 30 := by
    simp [inB] at h
    omega
  rw [wrap_pred s.size (by omega) hs]
  refine ev_pos (by omega) (ev_pos (by omega) ?_)
  refine ev_bind (contains_ev _ 10) (ev_some ?_)
  rw [Int.toNat_natCast, extract_data, List.drop_zero, ← data_length, ← List.dropLast_eq_take]
  unfold isLn
  rw [h]
  simp
theorem l1Line_l0 (s : ByteArray) (hs : s.size ≤ 9223372036854775807) : ∀ d i, i + d = s.size - 1 → Ev (fun k => spec_l1Line.l0 k s (i : Int)) (!((s.data.toList.dropLast.drop i).contains 10) && inB s.size 1 30) := by
  intro d
  have hl : s.data.toList.length = s.size := data_length s
  induction d with
  | zero =>
    intro i hi
    refine Ev.step (fun k => spec_l1Line.l0.eq_2 ..) ?_
    refine ev_neg (by rw [wrap64_id (by omega) (by omega)]; omega) ?_
    refine ev_const ?_
    rw [spec_l1In_eq, List.drop_of_length_le (by rw [List.length_dropLast]; omega)]
    rfl
  | succ d ih =>
    intro i hi
    refine Ev.step (fun k => spec_l1Line.l0.eq_2 ..) ?_
    refine ev_pos (by rw [wrap64_id (by omega) (by omega)]; omega) (ev_pos (by omega) (ev_pos (by omega) ?_))
    have hd : s.data.toList.dropLast.drop i = s.data.toList[i] :: s.data.toList.dropLast.drop (i + 1) := by
      rw [List.drop_eq_getElem_cons (by rw [List.length_dropLast]; omega), List.getElem_dropLast]
    rw [hd, List.contains_cons, bt_nat s i (by omega)]
    refine ev_ite (fun h => ev_some ?_) (fun h => ?_)
    · have : s.data.toList[i] = 10 := u8_eq h
      rw [this]
      simp
    · rw [wrap_succ i (by omega)]
      refine ev_to (ih (i + 1) (by omega)) ?_
      have : ((10 : UInt8) == s.data.toList[i]) = false := by
        rw [beq_eq_false_iff_ne]
        exact u8_ne h
      rw [this, Bool.false_or]
theorem l1Line_ev (s : ByteArray) (hs : s.size ≤ 9223372036854775807) : Ev (fun k => spec_l1Line.f k s) (isLn s) := by
  simp only [spec_l1Line.f]
  exact l1Line_l0 s hs (s.size - 1) 0 (by omega)
theorem isLn_size {s : ByteArray} (h : isLn s = true) : 1 ≤ s.size ∧ s.size ≤ 30 := by
  simp [isLn, inB] at h
  omega
theorem ends_last {s : ByteArray} (h : 1 ≤ s.size) : ends s = (bt s ((s.size - 1 : Nat) : Int) == 10) := by
  have hl : s.data.toList.length = s.size := data_length s
  have hq : s.data.toList.getLast? = some (s.data.toList[s.size - 1]'(by omega)) := by
    rw [List.getLast?_eq_getElem?, List.getElem?_eq_getElem (by omega)]
    simp only [hl]
  unfold ends
  rw [bt_nat s _ (by omega), hq]
  rw [Bool.eq_iff_iff]
  simp only [beq_iff_eq, Option.some.injEq]
  constructor
  · intro e; rw [e]; rfl
  · intro e; exact u8_eq e
theorem l1Ends_eq (s : ByteArray) (h : 1 ≤ s.size) (hs : s.size ≤ 9223372036854775807) : spec_l1Ends.f s = some (ends s) := by
  unfold spec_l1Ends.f
  rw [wrap_pred s.size (by omega) hs, if_pos (by omega), if_pos (by omega), ends_last h]
theorem hasSuffix_eq (s : ByteArray) (c : UInt8) (hs : s.size ≤ 9223372036854775807) : strings_HasSuffix.f s ⟨#[c]⟩ = some (s.data.toList.getLast? == some c) := by
  have hl : s.data.toList.length = s.size := data_length s
  unfold strings_HasSuffix.f stringslite_HasSuffix.f
  rw [size_one]
  by_cases h : 1 ≤ s.size
  · rw [if_pos (by omega), show ((1 : Nat) : Int) = 1 from rfl, wrap_pred s.size (by omega) hs, if_pos (by omega), if_pos (by omega), Option.bind_some, toList_one, Lib.toList_data, Int.toNat_natCast, extract_data, ← hl, List.take_length]
    have e : s.data.toList.drop (s.data.toList.length - 1) = [s.data.toList[s.data.toList.length - 1]'(by omega)] := by
      rw [List.drop_eq_getElem_cons (by omega), List.drop_of_length_le (by omega)]
    rw [e, List.getLast?_eq_getElem?, List.getElem?_eq_getElem (by omega)]
    congr 1
    rw [Bool.eq_iff_iff]
    simp
  · rw [if_neg (by omega), Option.bind_some]
    have : s.data.toList = [] := List.eq_nil_of_length_eq_zero (by omega)
    simp [this]
theorem isEnded_eq (s : ByteArray) (hs : s.size ≤ 9223372036854775807) : impl_isEnded.f s = some (ends s) := by
  unfold impl_isEnded.f
  rw [hasSuffix_eq s 10 hs]
  rfl
theorem areLines_l0 (l : List ByteArray) (hf : FitS l) : ∀ d i, i + d = l.length → ∃ j : Int, Ev (fun k => slices_IndexFunc_string_string__impl_areLines_1.l0 k l (l.length : Int) (i : Int)) j ∧ decide (j ≥ 0) = !((l.drop i).all isLn) := by
  intro d
  induction d with
  | zero =>
    intro i hi
    refine ⟨-1, Ev.step (fun k => slices_IndexFunc_string_string__impl_areLines_1.l0.eq_2 ..) (ev_neg (by omega) (ev_some rfl)), ?_⟩
    rw [List.drop_of_length_le (by omega)]
    rfl
  | succ d ih =>
    intro i hi
    have hlt : i < l.length := by omega
    have hev : Ev (fun k => impl_areLines_1.f k (rdOf ByteArray.empty l (i : Int))) (!isLn l[i]) := by
      rw [rdOf_lt _ _ _ hlt]
      simp only [impl_areLines_1.f]
      exact ev_bind (isLine_ev _ (hf.2 _ (List.getElem_mem _))) (ev_some rfl)
    obtain ⟨j, hj, hjj⟩ := ih (i + 1) (by omega)
    rw [drop_cons l i hlt, List.all_cons]
    by_cases h : isLn l[i] = true
    · refine ⟨j, Ev.step (fun k => slices_IndexFunc_string_string__impl_areLines_1.l0.eq_2 ..) (ev_pos (by omega) (ev_pos (by omega) (ev_pos (by omega) (ev_bind hev (ev_neg (by simp [h]) ?_))))), by rw [hjj, h]; simp⟩
      rw [wrap_succ i (by have := hf.1; omega)]
      exact hj
    · refine ⟨(i : Int), Ev.step (fun k => slices_IndexFunc_string_string__impl_areLines_1.l0.eq_2 ..) (ev_pos (by omega) (ev_pos (by omega) (ev_pos (by omega) (ev_bind hev (ev_pos (by simp [h]) (ev_some rfl)))))), ?_⟩
      simp [h]
theorem areLines_ev (l : List ByteArray) (hf : FitS l) : Ev (fun k => impl_areLines.f k l) (decide (l.length ≤ 40) && l.all isLn) := by
  simp only [impl_areLines.f]
  refine ev_ite (fun h => ?_) (fun h => ev_some ?_)
  · obtain ⟨j, hj, hjj⟩ := areLines_l0 l hf l.length 0 (by omega)
    simp only [slices_ContainsFunc_string_string__impl_areLines_1.f, slices_IndexFunc_string_string__impl_areLines_1.f]
    refine ev_bind (ev_bind hj (ev_some rfl)) (ev_some ?_)
    have : l.length ≤ 40 := by omega
    rw [hjj]
    simp [this]
  · have : ¬ l.length ≤ 40 := by omega
    simp [this]
theorem goodLines_l0 (l : List ByteArray) (hf : FitS l) : ∀ d i, i + d = l.length → Ev (fun k => impl_goodLines.l0 k l l (l.length : Int) (i : Int)) ((l.dropLast.drop i).all ends) := by
  intro d
  have hL := hf.1
  induction d with
  | zero =>
    intro i hi
    refine Ev.step (fun k => impl_goodLines.l0.eq_2 ..) (ev_neg (by omega) (ev_some ?_))
    rw [List.drop_of_length_le (by rw [List.length_dropLast]; omega)]
    rfl
  | succ d ih =>
    intro i hi
    have hlt : i < l.length := by omega
    refine Ev.step (fun k => impl_goodLines.l0.eq_2 ..) (ev_pos (by omega) (ev_pos (by omega) (ev_pos (by omega) ?_)))
    rw [wrap_pred l.length (by omega) hL, rdOf_lt _ _ _ hlt, isEnded_eq _ (hf.2 _ (List.getElem_mem _)), wrap_succ i (by omega)]
    simp only [Option.bind_some]
    refine ev_ite (fun h => ?_) (fun h => ?_)
    · have hd : l.dropLast.drop i = l[i] :: l.dropLast.drop (i + 1) := by
        rw [List.drop_eq_getElem_cons (by rw [List.length_dropLast]; omega), List.getElem_dropLast]
      rw [hd, List.all_cons]
      refine ev_ite (fun h => ?_) (fun h => ev_some (by simp [h]))
      rw [h, Bool.true_and]
      exact ih (i + 1) (by omega)
    · have e1 : l.dropLast.drop i = [] := List.drop_of_length_le (by rw [List.length_dropLast]; omega)
      have e2 : l.dropLast.drop (i + 1) = [] := List.drop_of_length_le (by rw [List.length_dropLast]; omega)
      have := ih (i + 1) (by omega)
      rw [e2] at this
      rw [e1]
      exact this
theorem goodLines_ev (l : List ByteArray) (hf : FitS l) : Ev (fun k => impl_goodLines.f k l) (good l) := by
  simp only [impl_goodLines.f]
  refine ev_bind (areLines_ev l hf) (ev_ite (fun h => ?_) (fun h => ev_some ?_))
  · refine ev_to (goodLines_l0 l hf l.length 0 (by omega)) ?_
    rw [List.drop_zero]
    unfold good
    rw [← Bool.and_assoc, h, Bool.true_and]
  · unfold good
    rw [← Bool.and_assoc]
    simp at h
    simp
    intro h1 h2
    exact absurd (h h1) (by simpa using h2)
theorem l1Good_l0 (l : List ByteArray) (hf : FitS l) : ∀ d i, i + d = l.length → Ev (fun k => spec_l1Good.l0 k l l (l.length : Int) (i : Int)) ((l.drop i).all isLn && (l.dropLast.drop i).all ends && decide (l.length ≤ 40)) := by
  intro d
  have hL := hf.1
  induction d with
  | zero =>
    intro i hi
    refine Ev.step (fun k => spec_l1Good.l0.eq_2 ..) (ev_neg (by omega) (ev_some ?_))
    rw [List.drop_of_length_le (by omega), List.drop_of_length_le (by rw [List.length_dropLast]; omega)]
    simp
    omega
  | succ d ih =>
    intro i hi
    have hlt : i < l.length := by omega
    refine Ev.step (fun k => spec_l1Good.l0.eq_2 ..) (ev_pos (by omega) (ev_pos (by omega) (ev_pos (by omega) ?_)))
    simp only [rdOf_lt _ _ _ hlt]
    rw [wrap_pred l.length (by omega) hL, wrap_succ i (by omega), drop_cons l i hlt, List.all_cons]
    refine ev_bind (l1Line_ev _ (hf.2 _ (List.getElem_mem _))) (ev_ite (fun h => ?_) (fun h => ev_some (by simp [h])))
    rw [h, Bool.true_and, l1Ends_eq _ (isLn_size h).1 (hf.2 _ (List.getElem_mem _))]
    simp only [Option.bind_some]
    refine ev_ite (fun h => ?_) (fun h => ?_)
    · have hd : l.dropLast.drop i = l[i] :: l.dropLast.drop (i + 1) := by
        rw [List.drop_eq_getElem_cons (by rw [List.length_dropLast]; omega), List.getElem_dropLast]
      rw [hd, List.all_cons]
      refine ev_ite (fun h => ?_) (fun h => ev_some (by simp [h]))
      rw [h, Bool.true_and]
      exact ih (i + 1) (by omega)
    · have e1 : l.dropLast.drop i = [] := List.drop_of_length_le (by rw [List.length_dropLast]; omega)
      have e2 : l.dropLast.drop (i + 1) = [] := List.drop_of_length_le (by rw [List.length_dropLast]; omega)
      have := ih (i + 1) (by omega)
      rw [e2] at this
      rw [e1]
      exact this
theorem l1Good_ev (l : List ByteArray) (hf : FitS l) : Ev (fun k => spec_l1Good.f k l) (good l) := by
  simp only [spec_l1Good.f]
  refine ev_to (l1Good_l0 l hf l.length 0 (by omega)) ?_
  rw [List.drop_zero, List.drop_zero]
  unfold good
  rw [Bool.and_comm]

theorem whole_some (l : List ByteArray) (hl : l.length ≤ 100) (hs : ∀ s ∈ l, s.size ≤ 9223372036854775807) (hx : ∀ x, l.getLast? = some x → 1 ≤ x.size) : ∃ b, spec_l1Whole.f l = some b := by
  unfold spec_l1Whole.f
  by_cases h : l.length = 0
  · exact ⟨true, by rw [if_pos (by omega)]⟩
  · have hm := List.getElem_mem (l := l) (n := l.length - 1) (by omega)
    have h1 : 1 ≤ (l[l.length - 1]'(by omega)).size := hx _ (by rw [List.getLast?_eq_getElem?, List.getElem?_eq_getElem (by omega)])
    refine ⟨ends (l[l.length - 1]'(by omega)), ?_⟩
    rw [if_neg (by omega), wrap_pred l.length (by omega) (by omega), if_pos (by omega), if_pos (by omega), rdOf_lt _ _ _ (by omega), l1Ends_eq _ h1 (hs _ hm)]
    rfl

theorem cloneT_eq (l : List ByteArray) (h : l.length < 8796093022208) : slices_Clone_string_string.f l = some l := by
  unfold slices_Clone_string_string.f
  simp [h]
theorem ownT_eq (l : List ByteArray) (h : l.length < 8796093022208) : spec_l1OwnT.f l = some l := by
  unfold spec_l1OwnT.f
  simp [h]
end Go.Proofs.YtmcldkobejhaeaaGreatDoor.Pl
namespace Go.Proofs.YtmcldkobejhaeaaGreatDoor.My
open Go.RowKit Go.Proofs.YtmcldkobejhaeaaGreatDoorW.PrintWords Go.Proofs.YtmcldkobejhaeaaGreatDoorW.PrintLast Go.Proofs.YtmcldkobejhaeaaGreatDoorW.PrintMore
attribute [local go_sem] max2_int min2_int max_two min_two max_three min_three max_four min_four
set_option linter.unusedVariables false
set_option linter.unusedSimpArgs false
def stringslite_TrimSuffix.f (a0 : ByteArray) (a1 : ByteArray) : Option (ByteArray) := (stringslite_HasSuffix.f a0 a1).bind fun t318 => (if t318 = true then (if 0 ≤ (wrap64 ((a0.size : Int) - (a1.size : Int))) then (if (wrap64 ((a0.size : Int) - (a1.size : Int))) ≤ (a0.size : Int) then (some (a0.extract 0 ((wrap64 ((a0.size : Int) - (a1.size : Int))) : Int).toNat)) else (none)) else (none)) else (some a0))
set_option maxHeartbeats 8000000 in
set_option maxRecDepth 100000 in
theorem stringslite_TrimSuffix.calls (a0 : ByteArray) (a1 : ByteArray) (r : ByteArray) (w : World) (h : stringslite_TrimSuffix.f a0 a1 = some r) :
  Calls Tryz.prog 128 #[.string a0, .string a1] w fun e w' => e = .returned (.string r) ∧ Drawn0 w w' := by
 have H := h
 clear h
 unfold stringslite_TrimSuffix.f at H
 replace H := Option.bind_eq_some_iff.mp H
 obtain ⟨t318, A30, H⟩ := H
 replace H : (if t318 = true then (if 0 ≤ (wrap64 ((a0.size : Int) - (a1.size : Int))) then (if (wrap64 ((a0.size : Int) - (a1.size : Int))) ≤ (a0.size : Int) then (some (a0.extract 0 ((wrap64 ((a0.size : Int) - (a1.size : Int))) : Int).toNat)) else (none)) else (none)) else (some a0)) = some r := H
 have A3 := am A30
 clear A30
 by_cases c4 : t318 = true
 ·subst c4
  rw [if_pos rfl] at H
  obtain ⟨ji5, hji5⟩ : ∃ j_ : Int, (wrap64 ((a0.size : Int) - (a1.size : Int))) = j_ := ⟨_, rfl⟩
  rw [hji5] at H
  have hji5w : (IntKind.i64.wrap ((a0.size : Int) - (a1.size : Int))) = ji5 := (i64_w _).trans hji5
  obtain ⟨c6, H⟩ := itn H
  have c6b0 := eq_true c6
  have c6b1 := decide_eq_true c6
  clear c6
  obtain ⟨c7, H⟩ := itn H
  have c7b0 := eq_true c7
  have c7b1 := decide_eq_true c7
  clear c7
  obtain rfl := Option.some.inj H
  go_enter Tryz.func128, Tryz.ntmps128
  go_wp2_with (((with_reducible refine gateC (f := 119) rfl ?_); refine goesL_ (some 7) rfl rfl Tryz.func119 (by kernel_rfl) rfl #[.string a0, .string a1] rfl zm ?_; (with_reducible refine (stringslite_HasSuffix.calls a0 a1 true _ A3.out).mono ?_); rintro e w' ⟨rfl, ⟨nd, rfl⟩⟩; refine ⟨_, rfl, ?_⟩))
  go_ret
  exact ⟨by rfl, by repeat (first | exact Drawn0.refl _ | apply Drawn0.step)⟩
 ·replace c4 := Bool.eq_false_iff.mpr c4
  subst c4
  rw [if_neg nofun] at H
  obtain rfl := Option.some.inj H
  go_enter Tryz.func128, Tryz.ntmps128
  go_wp2_with (((with_reducible refine gateC (f := 119) rfl ?_); refine goesL_ (some 7) rfl rfl Tryz.func119 (by kernel_rfl) rfl #[.string a0, .string a1] rfl zm ?_; (with_reducible refine (stringslite_HasSuffix.calls a0 a1 false _ A3.out).mono ?_); rintro e w' ⟨rfl, ⟨nd, rfl⟩⟩; refine ⟨_, rfl, ?_⟩))
  go_ret
  exact ⟨by rfl, by repeat (first | exact Drawn0.refl _ | apply Drawn0.step)⟩

def strings_TrimSuffix.f (a0 : ByteArray) (a1 : ByteArray) : Option (ByteArray) := (stringslite_TrimSuffix.f a0 a1).bind fun t319 => (some t319)
set_option maxHeartbeats 8000000 in
set_option maxRecDepth 100000 in
theorem strings_TrimSuffix.calls (a0 : ByteArray) (a1 : ByteArray) (r : ByteArray) (w : World) (h : strings_TrimSuffix.f a0 a1 = some r) :
  Calls Tryz.prog 104 #[.string a0, .string a1] w fun e w' => e = .returned (.string r) ∧ Drawn0 w w' := by
 have H : ((stringslite_TrimSuffix.f a0 a1).bind fun t319 => (some t319)) = some r := h
 clear h
 replace H := Option.bind_eq_some_iff.mp H
 obtain ⟨t319, A30, H⟩ := H
 replace H : (some t319) = some r := H
 have A3 := am A30
 clear A30
 obtain rfl := Option.some.inj H
 go_enter Tryz.func104, Tryz.ntmps104
 go_wp2_with (first | ((with_reducible refine gateC (f := 128) rfl ?_); refine goesL_ (some 7) rfl rfl Tryz.func128 (by kernel_rfl) rfl #[.string a0, .string a1] rfl zm ?_; (with_reducible refine (stringslite_TrimSuffix.calls a0 a1 t319 _ A3.out).mono ?_); rintro e w' ⟨rfl, ⟨nd, rfl⟩⟩; refine ⟨_, rfl, ?_⟩))
 go_ret
 exact ⟨by first | rfl | (simp; done) | (simp [*]; done), by repeat (first | exact Drawn0.refl _ | apply Drawn0.step)⟩

def impl_plain.f (a0 : ByteArray) : Option (ByteArray) := (strings_TrimSuffix.f a0 (⟨#[10]⟩ : ByteArray)).bind fun t320 => (some t320)
set_option maxHeartbeats 8000000 in
set_option maxRecDepth 100000 in
theorem impl_plain.calls (a0 : ByteArray) (r : ByteArray) (w : World) (h : impl_plain.f a0 = some r) :
  Calls Tryz.prog 80 #[.string a0] w fun e w' => e = .returned (.string r) ∧ Drawn0 w w' := by
 have H : ((strings_TrimSuffix.f a0 (⟨#[10]⟩ : ByteArray)).bind fun t320 => (some t320)) = some r := h
 clear h
 replace H := Option.bind_eq_some_iff.mp H
 obtain ⟨t320, A20, H⟩ := H
 replace H : (some t320) = some r := H
 have A2 := am A20
 clear A20
 obtain rfl := Option.some.inj H
 go_enter Tryz.func80, Tryz.ntmps80
 go_wp2_with (first | ((with_reducible refine gateC (f := 104) rfl ?_); refine goesL_ (some 4) rfl rfl Tryz.func104 (by kernel_rfl) rfl #[.string a0, .string (⟨#[10]⟩ : ByteArray)] rfl zm ?_; (with_reducible refine (strings_TrimSuffix.calls a0 (⟨#[10]⟩ : ByteArray) t320 _ A2.out).mono ?_); rintro e w' ⟨rfl, ⟨nd, rfl⟩⟩; refine ⟨_, rfl, ?_⟩))
 go_ret
 exact ⟨by first | rfl | (simp; done) | (simp [*]; done), by repeat (first | exact Drawn0.refl _ | apply Drawn0.step)⟩
end Go.Proofs.YtmcldkobejhaeaaGreatDoor.My
namespace Go.Proofs.YtmcldkobejhaeaaGreatDoor.Pl
open Go.RowKit Go.Proofs.YtmcldkobejhaeaaGreatDoorW.PrintWords Go.Proofs.YtmcldkobejhaeaaGreatDoorW.PrintLast Go.Proofs.YtmcldkobejhaeaaGreatDoor.My
set_option linter.unusedVariables false
set_option linter.unusedSimpArgs false
def plainB (s : ByteArray) : ByteArray := if ends s = true then s.extract 0 (s.size - 1) else s
theorem l1Plain_eq (s : ByteArray) (h : 1 ≤ s.size) (hs : s.size ≤ 9223372036854775807) : spec_l1Plain.f s = some (plainB s) := by
  unfold spec_l1Plain.f plainB
  rw [l1Ends_eq s h hs, Option.bind_some]
  by_cases h1 : ends s = true
  · rw [if_pos h1, if_pos h1, wrap_pred s.size (by omega) hs, if_pos (by omega), if_pos (by omega)]
    rfl
  · rw [if_neg h1, if_neg h1]

def SmL (m : Nat) (l : List ByteArray) : Prop := ∀ s ∈ l, 1 ≤ s.size ∧ s.size ≤ m
theorem smL_app {m : Nat} {l r : List ByteArray} (hl : SmL m l) (hr : SmL m r) : SmL m (l ++ r) := fun s hs => by
  rcases List.mem_append.1 hs with hs | hs
  · exact hl s hs
  · exact hr s hs
theorem smL_set {m : Nat} {l : List ByteArray} (hl : SmL m l) (i : Nat) {x : ByteArray} (hx : 1 ≤ x.size ∧ x.size ≤ m) : SmL m (l.set i x) := fun s hs => by
  rcases List.mem_or_eq_of_mem_set hs with hs | rfl
  · exact hl s hs
  · exact hx
theorem smL_take {m : Nat} {l : List ByteArray} (hl : SmL m l) (i : Nat) : SmL m (l.take i) := fun s hs => hl s (List.mem_of_mem_take hs)
theorem smL_drop {m : Nat} {l : List ByteArray} (hl : SmL m l) (i : Nat) : SmL m (l.drop i) := fun s hs => hl s (List.mem_of_mem_drop hs)
theorem smL_one {m : Nat} {x : ByteArray} (hx : 1 ≤ x.size ∧ x.size ≤ m) : SmL m [x] := fun s hs => by rw [List.mem_singleton.1 hs]; exact hx
theorem smL_more {m n : Nat} {l : List ByteArray} (hl : SmL m l) (h : m ≤ n) : SmL n l := fun s hs => ⟨(hl s hs).1, Nat.le_trans (hl s hs).2 h⟩
theorem plainB_size (s : ByteArray) : (plainB s).size ≤ s.size := by
  unfold plainB
  split
  · rw [ByteArray.size_extract]; omega
  · exact Nat.le_refl _
theorem size_pos_of_ne {s : ByteArray} (h : ¬ s.toList = ([] : List UInt8)) : 1 ≤ s.size := by
  rcases Nat.eq_zero_or_pos s.size with e | e
  · refine absurd ?_ h
    rw [Lib.toList_data]
    exact List.eq_nil_of_length_eq_zero (by rw [data_length]; exact e)
  · exact e
section
variable (c : List Int) (hc : Bytes8 c)
include hc
omit hc in
theorem other_j2 (l : List ByteArray) (hl : l.length ≤ 40) (hs : SmL 8 l) (b : Bool) (hb : b = true → 0 < l.length) (a s : Int) : ∃ r, Ev (fun k => spec_l1Cur_other.j2 k l b c a s) (r, a, s) ∧ r.length ≤ l.length ∧ SmL 9 r := by
  cases b with
  | false => exact ⟨l, Ev.step (fun k => spec_l1Cur_other.j2.eq_2 ..) (ev_neg (by simp) (ev_some rfl)), Nat.le_refl _, smL_more hs (by omega)⟩
  | true =>
    have h0 := hb rfl
    have hm := List.getElem_mem (l := l) (n := l.length - 1) (by omega)
    have h1 := hs _ hm
    have e1 : rdOf ByteArray.empty l ((l.length - 1 : Nat) : Int) = l[l.length - 1]'(by omega) := rdOf_lt _ _ _ (by omega)
    have ep := l1Plain_eq _ h1.1 (by omega)
    have ee := l1Ends_eq _ h1.1 (by omega)
    have hz := plainB_size (l[l.length - 1]'(by omega))
    have top : ∀ (r : List ByteArray), Ev (fun k => (spec_l1Plain.f (l[l.length - 1]'(by omega))).bind fun t317 => ((spec_l1Ends.f (l[l.length - 1]'(by omega))).bind fun t319 => (if t319 = true then (if t317.toList = ([] : List UInt8) then (some (l, a, s)) else (some ((l.set (((l.length - 1 : Nat) : Int)).toNat t317), a, s))) else (if t317.size + 1 ≤ 9223372036854775807 then (some ((l.set (((l.length - 1 : Nat) : Int)).toNat (t317 ++ (⟨#[10]⟩ : ByteArray))), a, s)) else (none))))) (r, a, s) → Ev (fun k => spec_l1Cur_other.j2 k l true c a s) (r, a, s) := by
      intro r h
      refine Ev.step (fun k => spec_l1Cur_other.j2.eq_2 ..) (ev_pos rfl ?_)
      rw [wrap_pred l.length h0 (by omega), e1]
      exact ev_pos (by omega) (ev_pos (by omega) h)
    by_cases he : ends (l[l.length - 1]'(by omega)) = true
    · by_cases hp : (plainB (l[l.length - 1]'(by omega))).toList = ([] : List UInt8)
      · exact ⟨l, top l (ev_bind (ev_const ep) (ev_bind (ev_const ee) (ev_pos he (ev_pos hp (ev_some rfl))))), Nat.le_refl _, smL_more hs (by omega)⟩
      · exact ⟨_, top _ (ev_bind (ev_const ep) (ev_bind (ev_const ee) (ev_pos he (ev_neg hp (ev_some rfl))))), by rw [List.length_set]; exact Nat.le_refl _, smL_set (smL_more hs (by omega)) _ ⟨size_pos_of_ne hp, by omega⟩⟩
    · refine ⟨_, top _ (ev_bind (ev_const ep) (ev_bind (ev_const ee) (ev_neg he (ev_pos (by omega) (ev_some rfl))))), by rw [List.length_set]; exact Nat.le_refl _, smL_set (smL_more hs (by omega)) _ ?_⟩
      rw [ByteArray.size_append, show (⟨#[10]⟩ : ByteArray).size = 1 from rfl]
      omega
theorem other_l0 : ∀ (n : Nat) (l : List ByteArray) (a s : Int), l.length + n ≤ 40 → SmL 8 l → 0 ≤ a → a + 8 * n ≤ 1000000000000100 →
    ∃ r a2 s2, Ev (fun k => spec_l1Cur_other.l0 k l (n : Int) c a s) (r, a2, s2) ∧ r.length ≤ l.length + n ∧ SmL 9 r ∧ a ≤ a2 ∧ a2 ≤ a + 8 * n + 2 := by
  intro n
  induction n with
  | zero =>
    intro l a s hl hs h0 h1
    by_cases hp : (l.length : Int) > 0
    · obtain ⟨b, a2, s2, e, h2⟩ := one_some c hc a s 6 (at_of h0 (by omega))
      obtain ⟨r, er, hr, hrs⟩ := other_j2 c l (by omega) hs b (fun _ => by omega) a2 s2
      exact ⟨r, a2, s2, Ev.step (fun k => spec_l1Cur_other.l0.eq_2 ..) (ev_neg (by omega) (ev_pos hp (ev_bind (ev_const e) er))), by omega, hrs, by omega, by omega⟩
    · obtain ⟨r, er, hr, hrs⟩ := other_j2 c l (by omega) hs false (fun h => by cases h) a s
      exact ⟨r, a, s, Ev.step (fun k => spec_l1Cur_other.l0.eq_2 ..) (ev_neg (by omega) (ev_neg hp er)), by omega, hrs, by omega, by omega⟩
  | succ n ih =>
    intro l a s hl hs h0 h1
    obtain ⟨v, a2, s2, e2, v0, v1, v2, h2⟩ := pick_some c hc a s (wrap64 ((l.length : Int) + 1)) (at_of h0 (by omega))
    rw [wrap64_id (by omega) (by omega)] at v1
    obtain ⟨u, a3, s3, e3, h3⟩ := pick_some c hc a2 s2 3 (at_of (by omega) (by omega))
    have hv : v ≤ (l.length : Int) := by omega
    have ew : wrap64 (((n + 1 : Nat) : Int) - 1) = (n : Int) := by rw [wrap64_id (by omega) (by omega)]; omega
    have e2' : spec_l1Cur_pick.f c a s (wrap64 ((l.length : Int) + 1)) = some (v, a2, s2) := e2
    -- what goes on
    have goOn : ∀ (l2 : List ByteArray) (b t : Int), l2.length ≤ l.length + 1 → SmL 8 l2 → a ≤ b → b ≤ a + 6 → ∃ r a2 s2, Ev (fun k => spec_l1Cur_other.l0 k l2 (wrap64 (((n + 1 : Nat) : Int) - 1)) c b t) (r, a2, s2) ∧ r.length ≤ l.length + (n + 1) ∧ SmL 9 r ∧ a ≤ a2 ∧ a2 ≤ a + 8 * (n + 1 : Nat) + 2 := by
      intro l2 b t q1 q2 q3 q4
      obtain ⟨r, a4, s4, er, hr⟩ := ih l2 b t (by omega) q2 (by omega) (by omega)
      rw [ew]
      exact ⟨r, a4, s4, er, by omega, hr.2.1, by omega, by omega⟩
    have j1 : ∀ b, ∃ r a4 s4, Ev (fun k => spec_l1Cur_other.j1 k l ((n + 1 : Nat) : Int) v b c a3 s3) (r, a4, s4) ∧ r.length ≤ l.length + (n + 1) ∧ SmL 9 r ∧ a ≤ a4 ∧ a4 ≤ a + 8 * (n + 1 : Nat) + 2 := by
      intro b
      cases b with
      | false =>
        obtain ⟨r, a4, s4, er, hr⟩ := goOn l a3 s3 (by omega) hs (by omega) (by omega)
        exact ⟨r, a4, s4, Ev.step (fun k => spec_l1Cur_other.j1.eq_2 ..) (ev_neg (by simp) er), hr⟩
      | true =>
        obtain ⟨x, a5, s5, ex, hx⟩ := line_some c hc a3 s3 (by omega) (by omega)
        have hz := nl_size x hx.1
        obtain ⟨r, a4, s4, er, hr⟩ := goOn ((l.take v.toNat ++ [x ++ (⟨#[10]⟩ : ByteArray)]) ++ l.drop v.toNat) a5 s5 (by simp only [List.length_append, List.length_take, List.length_drop, List.length_singleton]; omega) (smL_app (smL_app (smL_take hs _) (smL_one hz)) (smL_drop hs _)) (by omega) (by omega)
        exact ⟨r, a4, s4, Ev.step (fun k => spec_l1Cur_other.j1.eq_2 ..) (ev_pos rfl (ev_pos v0 (ev_pos hv (ev_bind (ev_const (ownT_eq _ (by rw [List.length_take]; omega))) (ev_bind (ev_const ex) (ev_pos (by dsimp only; omega) (ev_pos (by rw [List.length_take]; omega) (ev_bind (ev_some rfl) (ev_bind (ev_some rfl) (ev_pos (by simp only [List.length_append, List.length_take, List.length_drop, List.length_singleton]; omega) er)))))))))), hr⟩
    have top : ∀ R, Ev (fun k => if u = 0 then (if v < (l.length : Int) then (if 0 ≤ v then (if v ≤ (l.length : Int) then ((spec_l1OwnT.f (l.take (v : Int).toNat)).bind fun t276 => (if 0 ≤ (wrap64 (v + 1)) then (if (wrap64 (v + 1)) ≤ (l.length : Int) then ((some (l.drop ((wrap64 (v + 1)) : Int).toNat : List ByteArray)).bind fun y279 => (if t276.length + y279.length < 8796093022208 then (spec_l1Cur_other.l0 k (t276 ++ y279) (wrap64 (((n + 1 : Nat) : Int) - 1)) c a3 s3) else (none))) else (none)) else (none))) else (none)) else (none)) else (spec_l1Cur_other.l0 k l (wrap64 (((n + 1 : Nat) : Int) - 1)) c a3 s3)) else (if u = 1 then (if v < (l.length : Int) then (if 0 ≤ v then ((spec_l1Ends.f (rdOf ByteArray.empty l v)).bind fun t287 => (if t287 = true then ((spec_l1Cur_line.f c a3 s3).bind fun bt288 => (if bt288.1.size + 1 ≤ 9223372036854775807 then (spec_l1Cur_other.l0 k (l.set (v : Int).toNat (bt288.1 ++ (⟨#[10]⟩ : ByteArray))) (wrap64 (((n + 1 : Nat) : Int) - 1)) c bt288.2.1 bt288.2.2) else (none))) else (spec_l1Cur_other.l0 k l (wrap64 (((n + 1 : Nat) : Int) - 1)) c a3 s3))) else (none)) else (spec_l1Cur_other.l0 k l (wrap64 (((n + 1 : Nat) : Int) - 1)) c a3 s3)) else (if v < (l.length : Int) then (spec_l1Cur_other.j1 k l ((n + 1 : Nat) : Int) v true c a3 s3) else ((spec_l1Whole.f l).bind fun t292 => (spec_l1Cur_other.j1 k l ((n + 1 : Nat) : Int) v t292 c a3 s3))))) R → Ev (fun k => spec_l1Cur_other.l0 k l ((n + 1 : Nat) : Int) c a s) R := fun R h =>
      Ev.step (fun k => spec_l1Cur_other.l0.eq_2 ..) (ev_pos (by omega) (ev_bind (ev_const e2') (ev_bind (ev_const e3) h)))
    by_cases u0 : u = 0
    · by_cases c1 : v < (l.length : Int)
      · have ev1 : wrap64 (v + 1) = v + 1 := wrap64_id (by omega) (by omega)
        obtain ⟨r, a4, s4, er, hr⟩ := goOn (l.take v.toNat ++ l.drop (v + 1).toNat) a3 s3 (by simp only [List.length_append, List.length_take, List.length_drop]; omega) (smL_app (smL_take hs _) (smL_drop hs _)) (by omega) (by omega)
        refine ⟨r, a4, s4, top _ ?_, hr⟩
        rw [ev1]
        exact ev_pos u0 (ev_pos c1 (ev_pos v0 (ev_pos hv (ev_bind (ev_const (ownT_eq _ (by rw [List.length_take]; omega))) (ev_pos (by omega) (ev_pos (by omega) (ev_bind (ev_some rfl) (ev_pos (by simp only [List.length_take, List.length_drop]; omega) er))))))))
      · obtain ⟨r, a4, s4, er, hr⟩ := goOn l a3 s3 (by omega) hs (by omega) (by omega)
        exact ⟨r, a4, s4, top _ (ev_pos u0 (ev_neg c1 er)), hr⟩
    · by_cases u1 : u = 1
      · by_cases c1 : v < (l.length : Int)
        · have e1 : rdOf ByteArray.empty l v = l[v.toNat]'(by omega) := getD_lt l _ _ (by omega)
          have hm := hs _ (List.getElem_mem (l := l) (n := v.toNat) (by omega))
          have ee := l1Ends_eq _ hm.1 (by omega)
          by_cases he : ends (l[v.toNat]'(by omega)) = true
          · obtain ⟨x, a5, s5, ex, hx⟩ := line_some c hc a3 s3 (by omega) (by omega)
            have hz := nl_size x hx.1
            obtain ⟨r, a4, s4, er, hr⟩ := goOn (l.set v.toNat (x ++ (⟨#[10]⟩ : ByteArray))) a5 s5 (by rw [List.length_set]; omega) (smL_set hs _ hz) (by omega) (by omega)
            refine ⟨r, a4, s4, top _ ?_, hr⟩
            rw [e1]
            exact ev_neg u0 (ev_pos u1 (ev_pos c1 (ev_pos v0 (ev_bind (ev_const ee) (ev_pos he (ev_bind (ev_const ex) (ev_pos (by dsimp only; omega) er)))))))
          · obtain ⟨r, a4, s4, er, hr⟩ := goOn l a3 s3 (by omega) hs (by omega) (by omega)
            refine ⟨r, a4, s4, top _ ?_, hr⟩
            rw [e1]
            exact ev_neg u0 (ev_pos u1 (ev_pos c1 (ev_pos v0 (ev_bind (ev_const ee) (ev_neg he er)))))
        · obtain ⟨r, a4, s4, er, hr⟩ := goOn l a3 s3 (by omega) hs (by omega) (by omega)
          exact ⟨r, a4, s4, top _ (ev_neg u0 (ev_pos u1 (ev_neg c1 er))), hr⟩
      · by_cases c1 : v < (l.length : Int)
        · obtain ⟨r, a4, s4, er, hr⟩ := j1 true
          exact ⟨r, a4, s4, top _ (ev_neg u0 (ev_neg u1 (ev_pos c1 er))), hr⟩
        · obtain ⟨b, eb⟩ := whole_some l (by omega) (fun s hs' => by have := hs s hs'; omega) (fun x hx => (hs x (List.mem_of_getLast? hx)).1)
          obtain ⟨r, a4, s4, er, hr⟩ := j1 b
          exact ⟨r, a4, s4, top _ (ev_neg u0 (ev_neg u1 (ev_neg c1 (ev_bind (ev_const eb) er)))), hr⟩
theorem other_some (l : List ByteArray) (hl : l.length ≤ 30) (hs : SmL 8 l) (a s : Int) (h0 : 0 ≤ a) (h1 : a ≤ 1000000000000000) :
    ∃ r a2 s2, Ev (fun k => spec_l1Cur_other.f k c a s l) (r, a2, s2) ∧ r.length ≤ l.length + 3 ∧ SmL 9 r ∧ a ≤ a2 ∧ a2 ≤ a + 30 := by
  simp only [spec_l1Cur_other.f]
  obtain ⟨v, a2, s2, e, v0, v1, v2, h2⟩ := pick_some c hc a s 4 (at_of h0 (by omega))
  have hv : v = ((v.toNat : Nat) : Int) := by omega
  obtain ⟨r, a3, s3, er, hr⟩ := other_l0 c hc v.toNat l a2 s2 (by omega) hs (by omega) (by omega)
  rw [← hv] at er
  exact ⟨r, a3, s3, ev_bind (ev_const (ownT_eq l (by omega))) (ev_bind (ev_const e) er), by omega, hr.2.1, by omega, by omega⟩
end
end Go.Proofs.YtmcldkobejhaeaaGreatDoor.Pl
namespace Go.Proofs.YtmcldkobejhaeaaGreatDoor.Pl
open Go.RowKit Go.Proofs.YtmcldkobejhaeaaGreatDoorW.PrintWords Go.Proofs.YtmcldkobejhaeaaGreatDoorW.PrintLast Go.Proofs.YtmcldkobejhaeaaGreatDoor.My
set_option linter.unusedVariables false
theorem among_some (c : List Int) (hc : Bytes8 c) (a s : Int) (ha : At 2305843009213693951 a) (l : List Int) (hl : 0 < l.length) : ∃ v a2 s2, spec_l1Cur_among.f c a s l = some (v, a2, s2) ∧ v ∈ l ∧ a ≤ a2 ∧ a2 ≤ a + 2 := by
  unfold spec_l1Cur_among.f
  obtain ⟨v, a2, s2, e, h⟩ := pick_some c hc a s (l.length : Int) ha
  rw [e]
  simp only [Option.bind_some]
  have hv : v < (l.length : Int) := by rcases h.2.1 with h | h <;> omega
  rw [if_pos h.1, if_pos hv]
  refine ⟨_, _, _, rfl, ?_, h.2.2.2.1, h.2.2.2.2⟩
  have e2 : rd l v = l[v.toNat]'(by omega) := getD_lt l 0 v.toNat (by omega)
  rw [e2]
  exact List.getElem_mem _
end Go.Proofs.YtmcldkobejhaeaaGreatDoor.Pl
namespace Go.Proofs.YtmcldkobejhaeaaGreatDoor.Pl
open Go.RowKit Go.Proofs.YtmcldkobejhaeaaGreatDoorW.PrintWords Go.Proofs.YtmcldkobejhaeaaGreatDoorW.PrintLast Go.Proofs.YtmcldkobejhaeaaGreatDoor.My
set_option linter.unusedVariables false
set_option linter.unusedSimpArgs false
abbrev IH := S60
theorem rdIH (l : List IH) (i : Nat) (h : i < l.length) : T60 l (i : Int) = l[i] := getD_lt l _ i h
theorem ih_ext {x y : IH} (h0 : x.f0 = y.f0) (h1 : x.f1 = y.f1) (h2 : x.f2 = y.f2) : x = y := by
  cases x; cases y; simp_all
def FitI (l : List IH) : Prop := l.length ≤ 9223372036854775807 ∧ ∀ x ∈ l, (-9223372036854775808 ≤ x.f0 ∧ x.f0 ≤ 9223372036854775807) ∧ (-9223372036854775808 ≤ x.f1 ∧ x.f1 ≤ 9223372036854775807) ∧ FitS x.f2
instance : DecidableEq IH := fun x y => decidable_of_iff (x.f0 = y.f0 ∧ x.f1 = y.f1 ∧ x.f2 = y.f2) ⟨fun ⟨a, b, c⟩ => ih_ext a b c, fun h => by rw [h]; exact ⟨rfl, rfl, rfl⟩⟩

def SmX (x : IH) : Prop := (-1 ≤ x.f0 ∧ x.f0 ≤ 100) ∧ (0 ≤ x.f1 ∧ x.f1 ≤ 100) ∧ x.f2.length ≤ 2 ∧ ∀ s ∈ x.f2, s.size ≤ 8
def SmH (h : List IH) : Prop := h.length ≤ 6 ∧ ∀ x ∈ h, SmX x
def SmA (h : List IH) : Prop := h.length ≤ 6 ∧ ∀ x ∈ h, (-1 ≤ x.f0 ∧ x.f0 ≤ 100) ∧ (0 ≤ x.f1 ∧ x.f1 ≤ 103) ∧ x.f2.length ≤ 3 ∧ ∀ s ∈ x.f2, s.size ≤ 8
theorem smA_of {h : List IH} (q : SmH h) : SmA h := ⟨q.1, fun x hx => by
  have := q.2 x hx
  exact ⟨this.1, ⟨this.2.1.1, by have := this.2.1.2; omega⟩, by have := this.2.2.1; omega, this.2.2.2⟩⟩
theorem smH_snoc {h : List IH} (q : SmH h) (hl : h.length < 6) {x : IH} (hx : SmX x) : SmH (h ++ [x]) := by
  refine ⟨by rw [List.length_append, List.length_singleton]; omega, fun y hy => ?_⟩
  rcases List.mem_append.1 hy with hy | hy
  · exact q.2 y hy
  · rw [List.mem_singleton.1 hy]; exact hx
section
variable (c : List Int) (hc : Bytes8 c) (l : List ByteArray)
include hc
theorem hunks_l1 (h : List IH) (i at_ gone : Int) : ∀ (n : Nat) (acc : List ByteArray) (a s : Int), 0 ≤ a → a + 2 * n ≤ 1000000000000500 → acc.length + n ≤ 2 → (∀ s ∈ acc, s.size ≤ 8) →
    ∃ acc' a2 s2, (acc'.length ≤ 2 ∧ (∀ s ∈ acc', s.size ≤ 8) ∧ a ≤ a2 ∧ a2 ≤ a + 2 * n) ∧ ∀ R, Ev (fun k => spec_l1Cur_hunks.l1 k l h i 0 c a2 s2 at_ gone acc') R → Ev (fun k => spec_l1Cur_hunks.l1 k l h i (n : Int) c a s at_ gone acc) R := by
  intro n
  induction n with
  | zero => intro acc a s h0 h1 hl hs; exact ⟨acc, a, s, ⟨by omega, hs, by omega, by omega⟩, fun R h => h⟩
  | succ n ih =>
    intro acc a s h0 h1 hl hs
    obtain ⟨v, a2, s2, e, h2⟩ := line_some c hc a s h0 (by omega)
    have hz := nl_size v h2.1
    obtain ⟨acc', a3, s3, h3, hR⟩ := ih (acc ++ [v ++ (⟨#[10]⟩ : ByteArray)]) a2 s2 (by omega) (by omega) (by rw [List.length_append, List.length_singleton]; omega) (fun s hs' => by
      rcases List.mem_append.1 hs' with hs' | hs'
      · exact hs s hs'
      · rw [List.mem_singleton.1 hs']; exact hz.2)
    refine ⟨acc', a3, s3, ⟨h3.1, h3.2.1, by omega, by omega⟩, fun R hr => ?_⟩
    refine Ev.step (fun k => spec_l1Cur_hunks.l1.eq_2 ..) (ev_pos (by omega) (ev_bind (ev_const e) (ev_pos (by dsimp only; omega) (ev_pos (by omega) ?_))))
    rw [wrap64_id (x := ((n + 1 : Nat) : Int) - 1) (by omega) (by omega), show ((n + 1 : Nat) : Int) - 1 = (n : Int) from by omega]
    exact hR R hr
theorem hunks_l0 (hl : l.length ≤ 40) (hsz : ∀ s ∈ l, s.size ≤ 9223372036854775807) (hx : ∀ x, l.getLast? = some x → 1 ≤ x.size) : ∀ (d i : Nat) (h : List IH) (a s : Int), l.length + 1 ≤ i + d → i ≤ 100 → SmH h → 0 ≤ a → a + 20 * d ≤ 1000000000000300 →
    ∃ r a2 s2, Ev (fun k => spec_l1Cur_hunks.l0 k l h (i : Int) c a s) (r, a2, s2) ∧ SmH r ∧ a ≤ a2 ∧ a2 ≤ a + 20 * d := by
  intro d
  induction d with
  | zero =>
    intro i h a s hi hi2 hh h0 h1
    exact ⟨h, a, s, Ev.step (fun k => spec_l1Cur_hunks.l0.eq_2 ..) (ev_neg (by omega) (Ev.step (fun k => spec_l1Cur_hunks.j1.eq_2 ..) (ev_neg (by simp) (ev_some rfl)))), hh, by omega, by omega⟩
  | succ d ih =>
    intro i h a s hi hi2 hh h0 h1
    by_cases c1 : i ≤ l.length
    · by_cases c2 : h.length < 6
      · have hd : decide ((h.length : Int) < 6) = true := decide_eq_true (by omega)
        -- how many lines go
        have hle : ∃ m : Int, spec_l1Least.f 3 (wrap64 ((l.length : Int) - (i : Int))) = some m ∧ 0 ≤ m ∧ m ≤ 3 ∧ (i : Int) + m ≤ l.length := by
          unfold spec_l1Least.f
          rw [wrap64_id (by omega) (by omega)]
          by_cases c3 : (3 : Int) < (l.length : Int) - i
          · exact ⟨3, by rw [if_pos c3], by omega, by omega, by omega⟩
          · exact ⟨_, by rw [if_neg c3], by omega, by omega, by omega⟩
        obtain ⟨m, em, m0, m3, ml⟩ := hle
        obtain ⟨g, a2, s2, eg, hg⟩ := pick_some c hc a s (wrap64 (m + 1)) (at_of h0 (by omega))
        have hgm : g ≤ m := by
          have := hg.2.1
          rw [wrap64_id (by omega) (by omega)] at this
          omega
        obtain ⟨n, a3, s3, en, hn⟩ := pick_some c hc a2 s2 3 (at_of (by omega) (by omega))
        have hn2 : n = ((n.toNat : Nat) : Int) := by omega
        have hn3 : n.toNat ≤ 2 := by rcases hn.2.1 with q | q <;> omega
        obtain ⟨acc, a4, s4, hacc, hR⟩ := hunks_l1 c hc l h (i : Int) (i : Int) g n.toNat [] a3 s3 (by omega) (by omega) (by simpa using hn3) (fun s hs => by cases hs)
        obtain ⟨p, a5, s5, ep, hp⟩ := pick_some c hc a4 s4 3 (at_of (by omega) (by omega))
        have hp3 : p ≤ 2 := by rcases hp.2.1 with q | q <;> omega
        have ew : wrap64 ((i : Int) + (wrap64 ((wrap64 (g + 1)) + p))) = (((i + (g.toNat + 1 + p.toNat)) : Nat) : Int) := by
          rw [wrap64_id (x := g + 1) (by omega) (by omega), wrap64_id (x := g + 1 + p) (by omega) (by omega), wrap64_id (by omega) (by omega)]
          omega
        have fin : ∀ h2, SmH h2 → ∃ r a2 s2, Ev (fun k => (spec_l1Cur_pick.f c a4 s4 3).bind fun bt => spec_l1Cur_hunks.l0 k l h2 (wrap64 ((i : Int) + (wrap64 ((wrap64 (g + 1)) + bt.1)))) c bt.2.1 bt.2.2) (r, a2, s2) ∧ SmH r ∧ a ≤ a2 ∧ a2 ≤ a + 20 * (d + 1 : Nat) := by
          intro h2 hh2
          obtain ⟨r, a6, s6, er, hr⟩ := ih (i + (g.toNat + 1 + p.toNat)) h2 a5 s5 (by omega) (by omega) hh2 (by omega) (by omega)
          refine ⟨r, a6, s6, ev_bind (ev_const ep) ?_, hr.1, by omega, by omega⟩
          dsimp only
          rw [ew]
          exact er
        have hX : SmX (⟨(i : Int), g, acc⟩ : IH) := ⟨⟨by dsimp only; omega, by dsimp only; omega⟩, ⟨by dsimp only; omega, by dsimp only; omega⟩, hacc.1, hacc.2.1⟩
        have hh3 := smH_snoc hh c2 hX
        have top : ∀ R, Ev (fun k => spec_l1Cur_hunks.l1 k l h (i : Int) 0 c a4 s4 (i : Int) g acc) R → Ev (fun k => spec_l1Cur_hunks.l0 k l h (i : Int) c a s) R := by
          intro R hr
          refine Ev.step (fun k => spec_l1Cur_hunks.l0.eq_2 ..) (ev_pos (by omega) ?_)
          rw [hd]
          refine Ev.step (fun k => spec_l1Cur_hunks.j1.eq_2 ..) (ev_pos rfl (ev_bind (ev_const em) (ev_bind (ev_const eg) (ev_bind (ev_const en) ?_))))
          dsimp only
          rw [hn2]
          exact hR R hr
        have e1 : wrap64 (g + (acc.length : Int)) = g + acc.length := by have := hacc.1; rw [wrap64_id (by omega) (by omega)]
        have e2 : wrap64 ((i : Int) + g) = i + g := by rw [wrap64_id (by omega) (by omega)]
        have hl6 : h.length < 3518437208883 := by omega
        by_cases c4 : g + (acc.length : Int) > 0
        · obtain ⟨r, a6, s6, er, hr⟩ := fin _ hh3
          by_cases c5 : (i : Int) + g < (l.length : Int)
          · exact ⟨r, a6, s6, top _ (Ev.step (fun k => spec_l1Cur_hunks.l1.eq_2 ..) (ev_neg (by omega) (ev_pos (by rw [e1]; exact c4) (ev_pos (by rw [e2]; exact c5) (ev_pos hl6 er))))), hr⟩
          · obtain ⟨b, eb⟩ := whole_some l (by omega) hsz hx
            cases b with
            | true => exact ⟨r, a6, s6, top _ (Ev.step (fun k => spec_l1Cur_hunks.l1.eq_2 ..) (ev_neg (by omega) (ev_pos (by rw [e1]; exact c4) (ev_neg (by rw [e2]; exact c5) (ev_bind (ev_const eb) (ev_pos rfl (ev_pos hl6 er))))))), hr⟩
            | false =>
              by_cases c6 : g > 0
              · exact ⟨r, a6, s6, top _ (Ev.step (fun k => spec_l1Cur_hunks.l1.eq_2 ..) (ev_neg (by omega) (ev_pos (by rw [e1]; exact c4) (ev_neg (by rw [e2]; exact c5) (ev_bind (ev_const eb) (ev_neg (by simp) (ev_pos c6 (ev_pos hl6 er)))))))), hr⟩
              · obtain ⟨r2, a7, s7, er2, hr2⟩ := fin _ hh
                exact ⟨r2, a7, s7, top _ (Ev.step (fun k => spec_l1Cur_hunks.l1.eq_2 ..) (ev_neg (by omega) (ev_pos (by rw [e1]; exact c4) (ev_neg (by rw [e2]; exact c5) (ev_bind (ev_const eb) (ev_neg (by simp) (ev_neg c6 er2))))))), hr2⟩
        · obtain ⟨r, a6, s6, er, hr⟩ := fin _ hh
          exact ⟨r, a6, s6, top _ (Ev.step (fun k => spec_l1Cur_hunks.l1.eq_2 ..) (ev_neg (by omega) (ev_neg (by rw [e1]; exact c4) er))), hr⟩
      · exact ⟨h, a, s, Ev.step (fun k => spec_l1Cur_hunks.l0.eq_2 ..) (ev_pos (by omega) (by
          rw [decide_eq_false (by omega)]
          exact Ev.step (fun k => spec_l1Cur_hunks.j1.eq_2 ..) (ev_neg (by simp) (ev_some rfl)))), hh, by omega, by omega⟩
    · exact ⟨h, a, s, Ev.step (fun k => spec_l1Cur_hunks.l0.eq_2 ..) (ev_neg (by omega) (Ev.step (fun k => spec_l1Cur_hunks.j1.eq_2 ..) (ev_neg (by simp) (ev_some rfl)))), hh, by omega, by omega⟩
theorem hunks_some (hl : l.length ≤ 40) (hsz : ∀ s ∈ l, s.size ≤ 9223372036854775807) (hx : ∀ x, l.getLast? = some x → 1 ≤ x.size) (a s : Int) (h0 : 0 ≤ a) (h1 : a ≤ 999999999999000) :
    ∃ r a2 s2, Ev (fun k => spec_l1Cur_hunks.f k c a s l) (r, a2, s2) ∧ SmH r ∧ a ≤ a2 ∧ a2 ≤ a + 830 := by
  simp only [spec_l1Cur_hunks.f]
  obtain ⟨v, a2, s2, e, h2⟩ := pick_some c hc a s 3 (at_of h0 (by omega))
  have hv : v = ((v.toNat : Nat) : Int) := by omega
  have hv3 : v ≤ 2 := by rcases h2.2.1 with q | q <;> omega
  obtain ⟨r, a3, s3, er, hr⟩ := hunks_l0 c hc l hl hsz hx 41 v.toNat [] a2 s2 (by omega) (by omega) ⟨Nat.zero_le _, fun x hx => by cases hx⟩ (by omega) (by omega)
  rw [← hv] at er
  exact ⟨r, a3, s3, ev_bind (ev_const e) er, hr.1, by omega, by omega⟩
omit hc in
theorem rdIHm (h : List IH) (k : Int) (h0 : 0 ≤ k) (h1 : k < (h.length : Int)) : T60 h k ∈ h := by
  have e : T60 h k = h[k.toNat]'(by omega) := getD_lt h _ k.toNat (by omega)
  rw [e]
  exact List.getElem_mem _
omit hc in
theorem smA_set {h : List IH} (q : SmH h) (k : Nat) (x : IH) (hx : (-1 ≤ x.f0 ∧ x.f0 ≤ 100) ∧ (0 ≤ x.f1 ∧ x.f1 ≤ 103) ∧ x.f2.length ≤ 3 ∧ ∀ s ∈ x.f2, s.size ≤ 8) : SmA (h.set k x) := by
  refine ⟨by rw [List.length_set]; exact q.1, fun y hy => ?_⟩
  rcases List.mem_or_eq_of_mem_set hy with hy | rfl
  · exact (smA_of q).2 y hy
  · exact hx
theorem anyHunks_some (hl : l.length ≤ 40) (hsz : ∀ s ∈ l, s.size ≤ 9223372036854775807) (hx : ∀ x, l.getLast? = some x → 1 ≤ x.size) (a s : Int) (h0 : 0 ≤ a) (h1 : a ≤ 999999999998000) :
    ∃ r a2 s2, Ev (fun k => spec_l1Cur_anyHunks.f k c a s l) (r, a2, s2) ∧ SmA r ∧ a ≤ a2 ∧ a2 ≤ a + 840 := by
  simp only [spec_l1Cur_anyHunks.f]
  obtain ⟨h, a2, s2, e, h2⟩ := hunks_some c hc l hl hsz hx a s h0 (by omega)
  by_cases c1 : (h.length : Int) > 0
  · obtain ⟨k, a3, s3, ek, hk⟩ := pick_some c hc a2 s2 (h.length : Int) (at_of (by omega) (by omega))
    have k1 : k < (h.length : Int) := by rcases hk.2.1 with q | q <;> omega
    have hm := h2.1.2 _ (rdIHm h k hk.1 k1)
    have hl6 := h2.1.1
    obtain ⟨v, a4, s4, ev, hv⟩ := pick_some c hc a3 s3 25 (at_of (by omega) (by omega))
    by_cases v0 : v = 0
    · obtain ⟨z, a5, s5, ez, hz, hz2⟩ := among_some c hc a4 s4 (at_of (by omega) (by omega)) [(-1), 40, 3] (by simp)
      refine ⟨_, a5, s5, ev_bind e (ev_pos c1 (ev_bind (ev_const ek) (ev_bind (ev_const ev) (ev_pos v0 (ev_bind (ev_const ez) (ev_pos hk.1 (ev_pos k1 (ev_some rfl)))))))), smA_set h2.1 _ _ ⟨?_, ⟨hm.2.1.1, by have := hm.2.1.2; dsimp only; omega⟩, by have := hm.2.2.1; dsimp only; omega, hm.2.2.2⟩, by omega, by omega⟩
      simp only [List.mem_cons, List.not_mem_nil, or_false] at hz
      dsimp only
      omega
    · by_cases v1 : v = 1
      · refine ⟨_, a4, s4, ev_bind e (ev_pos c1 (ev_bind (ev_const ek) (ev_bind (ev_const ev) (ev_neg v0 (ev_pos v1 (ev_pos hk.1 (ev_pos k1 (ev_some rfl)))))))), smA_set h2.1 _ _ ⟨hm.1, ?_, by have := hm.2.2.1; dsimp only; omega, hm.2.2.2⟩, by omega, by omega⟩
        have := hm.2.1
        dsimp only
        rw [wrap64_id (by omega) (by omega)]
        omega
      · by_cases v2 : v = 2
        · refine ⟨_, a4, s4, ev_bind e (ev_pos c1 (ev_bind (ev_const ek) (ev_bind (ev_const ev) (ev_neg v0 (ev_neg v1 (ev_pos v2 (ev_pos hk.1 (ev_pos k1 (ev_some rfl))))))))), smA_set h2.1 _ _ ⟨hm.1, ⟨hm.2.1.1, by have := hm.2.1.2; dsimp only; omega⟩, (show ([(⟨#[]⟩ : ByteArray)] : List ByteArray).length ≤ 3 by decide), fun s hs => ?_⟩, by omega, by omega⟩
          rw [List.mem_singleton.1 hs]
          decide
        · by_cases v3 : v = 3
          · refine ⟨_, a4, s4, ev_bind e (ev_pos c1 (ev_bind (ev_const ek) (ev_bind (ev_const ev) (ev_neg v0 (ev_neg v1 (ev_neg v2 (ev_pos v3 (ev_pos hk.1 (ev_pos k1 (ev_pos (by have := hm.2.2.1; dsimp only; omega) (ev_some rfl))))))))))), smA_set h2.1 _ _ ⟨hm.1, ⟨hm.2.1.1, by have := hm.2.1.2; dsimp only; omega⟩, by have := hm.2.2.1; dsimp only; rw [List.length_append, List.length_singleton]; omega, fun s hs => ?_⟩, by omega, by omega⟩
            rcases List.mem_append.1 hs with hs | hs
            · exact hm.2.2.2 s hs
            · rw [List.mem_singleton.1 hs]
              decide
          · exact ⟨h, a4, s4, ev_bind e (ev_pos c1 (ev_bind (ev_const ek) (ev_bind (ev_const ev) (ev_neg v0 (ev_neg v1 (ev_neg v2 (ev_neg v3 (ev_some rfl)))))))), smA_of h2.1, by omega, by omega⟩
  · exact ⟨h, a2, s2, ev_bind e (ev_neg c1 (ev_some rfl)), smA_of h2.1, by omega, by omega⟩
end
theorem hunked_some (c : List Int) (hc : Bytes8 c) (a s : Int) (h0 : 0 ≤ a) (h1 : a ≤ 999999999997000) :
    ∃ l h a2 s2, Ev (fun k => spec_l1Cur_hunked.f k c a s) (l, h, a2, s2) ∧ SmT l ∧ SmA h ∧ a ≤ a2 ∧ a2 ≤ a + 870 := by
  simp only [spec_l1Cur_hunked.f]
  obtain ⟨l, a2, s2, e, h2⟩ := anyText_some c hc a s h0 (by omega)
  obtain ⟨h, a3, s3, e3, h3⟩ := anyHunks_some c hc l (by have := h2.1.1; omega) (fun s hs => by have := h2.1.2.1 s hs; omega) h2.1.2.2 a2 s2 (by omega) (by omega)
  exact ⟨l, h, a3, s3, ev_bind e (ev_bind e3 (ev_some rfl)), h2.1, h3.1, by omega, by omega⟩
theorem fitS_smT {l : List ByteArray} (h : SmT l) : FitS l := ⟨by have := h.1; omega, fun s hs => by have := h.2.1 s hs; omega⟩
theorem fitI_smA {h : List IH} (q : SmA h) : FitI h := ⟨by have := q.1; omega, fun x hx => by
  have := q.2 x hx
  exact ⟨⟨by omega, by omega⟩, ⟨by omega, by omega⟩, by omega, fun s hs => by have := this.2.2.2 s hs; omega⟩⟩
end Go.Proofs.YtmcldkobejhaeaaGreatDoor.Pl
namespace Go.Proofs.YtmcldkobejhaeaaGreatDoor.Pl
open Go.RowKit Go.Proofs.YtmcldkobejhaeaaGreatDoorW.PrintWords Go.Proofs.YtmcldkobejhaeaaGreatDoorW.PrintLast Go.Proofs.YtmcldkobejhaeaaGreatDoor.My
set_option linter.unusedVariables false
set_option linter.unusedSimpArgs false
def hNum (n p : Int) (x : IH) : Prop := 0 ≤ x.f0 ∧ 0 ≤ x.f1 ∧ x.f0 + x.f1 ≤ n ∧ ¬ (x.f1 = 0 ∧ x.f2.length = 0) ∧ x.f2.length ≤ 40 ∧ p < x.f0
instance (n p : Int) (x : IH) : Decidable (hNum n p x) := by unfold hNum; infer_instance
def hOK (n p : Int) (x : IH) : Bool := decide (hNum n p x) && x.f2.all isLn
def chain (n : Int) : Int → List IH → Bool
  | _, [] => true
  | p, x :: t => hOK n p x && chain n (x.f0 + x.f1) t
def goodH (n : Int) (h : List IH) : Bool := inB n 0 40 && (decide (h.length ≤ 20) && chain n (-1) h)
def before (n : Int) (h : List IH) (i : Nat) (p : Int) : Prop := (i = 0 ∧ p = -1) ∨ ∃ (j : Nat) (hj : j < h.length), i = j + 1 ∧ p = h[j].f0 + h[j].f1 ∧ 0 ≤ h[j].f0 ∧ 0 ≤ h[j].f1 ∧ p ≤ n
theorem chain_cons (n p : Int) (h : List IH) (i : Nat) (hi : i < h.length) : chain n p (h.drop i) = (hOK n p h[i] && chain n (h[i].f0 + h[i].f1) (h.drop (i + 1))) := by
  rw [List.drop_eq_getElem_cons hi]
  rfl
theorem goodHunks_l0 (n : Int) (h : List IH) (hf : FitI h) (h0 : 0 ≤ n) (h1 : n ≤ 40) : ∀ d i p, i + d = h.length → before n h i p → Ev (fun k => impl_goodHunks.l0 k n h h (h.length : Int) (i : Int)) (chain n p (h.drop i)) := by
  intro d
  have hL := hf.1
  induction d with
  | zero =>
    intro i p hi hp
    refine Ev.step (fun k => impl_goodHunks.l0.eq_2 ..) (ev_neg (by omega) (ev_some ?_))
    rw [List.drop_of_length_le (by omega)]
    rfl
  | succ d ih =>
    intro i p hi hp
    have hlt : i < h.length := by omega
    obtain ⟨b0, b1, b2⟩ := hf.2 _ (List.getElem_mem hlt)
    refine Ev.step (fun k => impl_goodHunks.l0.eq_2 ..) ?_
    simp only [rdIH h i hlt, impl_in_eq, Option.bind_some, chain_cons n p h i hlt]
    generalize hx : h[i] = x at *
    have bad : ¬ (hNum n (-1) x ∧ x.f2.all isLn = true) → Ev (fun k => impl_goodHunks.j2 k n h (i : Int) h (h.length : Int) (i : Int) true x.f0 x.f1 x.f2) (hOK n p x && chain n (x.f0 + x.f1) (h.drop (i + 1))) := by
      intro hb
      refine Ev.step (fun k => impl_goodHunks.j2.eq_2 ..) (ev_pos rfl (ev_some ?_))
      have : hOK n p x = false := by
        rw [Bool.eq_false_iff]
        intro ht
        unfold hOK at ht
        rw [Bool.and_eq_true, decide_eq_true_eq] at ht
        obtain ⟨⟨q0, q1, q2, q3, q4, q5⟩, q6⟩ := ht
        exact hb ⟨⟨q0, q1, q2, q3, q4, by omega⟩, q6⟩
      rw [this]
      rfl
    have ok : hNum n (-1) x → x.f2.all isLn = true → Ev (fun k => impl_goodHunks.j2 k n h (i : Int) h (h.length : Int) (i : Int) false x.f0 x.f1 x.f2) (hOK n p x && chain n (x.f0 + x.f1) (h.drop (i + 1))) := by
      intro hb hl
      obtain ⟨q0, q1, q2, q3, q4, q5⟩ := hb
      have nx : before n h (i + 1) (x.f0 + x.f1) := .inr ⟨i, hlt, rfl, by rw [hx], by rw [hx]; exact q0, by rw [hx]; exact q1, q2⟩
      have go : p < x.f0 → Ev (fun k => impl_goodHunks.l0 k n h h (h.length : Int) (wrap64 ((i : Int) + 1))) (hOK n p x && chain n (x.f0 + x.f1) (h.drop (i + 1))) := by
        intro hp
        rw [wrap_succ i (by omega)]
        refine ev_to (ih (i + 1) _ (by omega) nx) ?_
        have : hOK n p x = true := by
          unfold hOK
          rw [Bool.and_eq_true, decide_eq_true_eq]
          exact ⟨⟨q0, q1, q2, q3, q4, hp⟩, hl⟩
        rw [this, Bool.true_and]
      refine Ev.step (fun k => impl_goodHunks.j2.eq_2 ..) (ev_neg (by simp) (ev_ite (fun hi0 => ?_) (fun hi0 => go ?_)))
      · rcases hp with ⟨e, _⟩ | ⟨j, hj, rfl, rfl, r0, r1, r2⟩
        · omega
        · have ew : wrap64 (((j + 1 : Nat) : Int) - 1) = (j : Int) := by rw [wrap64_id (by omega) (by omega)]; omega
          simp only [ew, rdIH h j hj]
          rw [wrap64_id (by omega) (by omega)]
          refine ev_pos (by omega) (ev_pos (by omega) (ev_ite (fun hc => ev_some ?_) (fun hc => go (by omega))))
          have : hOK n (h[j].f0 + h[j].f1) x = false := by
            rw [Bool.eq_false_iff]
            intro ht
            unfold hOK at ht
            rw [Bool.and_eq_true, decide_eq_true_eq] at ht
            have := ht.1.2.2.2.2.2
            omega
          rw [this]
          rfl
      · rcases hp with ⟨_, e⟩ | ⟨j, hj, e, _⟩ <;> omega
    refine ev_pos (by omega) (ev_pos (by omega) (ev_pos (by omega) (ev_ite (fun c0 => ?_) (fun c0 => bad (fun hb => c0 ?_)))))
    · rw [inB_iff] at c0
      rw [wrap64_id (by omega) (by omega)]
      refine ev_ite (fun c1 => ?_) (fun c1 => bad (fun hb => c1 ?_))
      · rw [inB_iff] at c1
        refine ev_bind (areLines_ev x.f2 b2) (ev_ite (fun c2 => ?_) (fun c2 => bad (fun hb => c2 ?_)))
        · rw [Bool.and_eq_true, decide_eq_true_eq] at c2
          refine ev_ite (fun c3 => ?_) (fun c3 => ok ⟨c0.1, c1.1, by omega, fun e => c3 e.1, c2.1, by omega⟩ c2.2)
          by_cases c4 : x.f2.length = 0
          · rw [show (((x.f2.length : Int) == 0) = true) from by rw [c4]; rfl]
            exact bad (fun hb => hb.1.2.2.2.1 ⟨c3, c4⟩)
          · rw [show (((x.f2.length : Int) == 0) = false) from by rw [beq_eq_false_iff_ne]; omega]
            exact ok ⟨c0.1, c1.1, by omega, fun e => c4 e.2, c2.1, by omega⟩ c2.2
        · rw [Bool.and_eq_true, decide_eq_true_eq]
          exact ⟨hb.1.2.2.2.2.1, hb.2⟩
      · rw [inB_iff]
        obtain ⟨⟨q0, q1, q2, q3, q4, q5⟩, q6⟩ := hb
        omega
    · rw [inB_iff]
      obtain ⟨⟨q0, q1, q2, q3, q4, q5⟩, q6⟩ := hb
      omega
theorem goodHunks_ev (n : Int) (h : List IH) (hf : FitI h) : Ev (fun k => impl_goodHunks.f k n h) (goodH n h) := by
  simp only [impl_goodHunks.f, impl_in_eq, Option.bind_some]
  unfold goodH
  refine ev_ite (fun c => ?_) (fun c => ?_)
  · rw [c, Bool.true_and]
    rw [inB_iff] at c
    refine Ev.step (fun k => impl_goodHunks.j0.eq_2 ..) (ev_ite (fun e => ev_some ?_) (fun e => ?_))
    · rw [decide_eq_true_eq] at e
      rw [decide_eq_false (by omega), Bool.false_and]
    · rw [decide_eq_true_eq] at e
      rw [decide_eq_true (by omega), Bool.true_and]
      exact goodHunks_l0 n h hf c.1 c.2 h.length 0 (-1) (by omega) (.inl ⟨rfl, rfl⟩)
  · refine Ev.step (fun k => impl_goodHunks.j0.eq_2 ..) (ev_pos rfl (ev_some ?_))
    rw [Bool.not_eq_true] at c
    rw [c, Bool.false_and]

theorem wrap_zero (a : Int) (m : Nat) (h0 : 0 ≤ a) (h1 : a ≤ 9223372036854775807) (h2 : m ≤ 9223372036854775807) : wrap64 (a + (m : Int)) = 0 ↔ a = 0 ∧ m = 0 := by
  unfold wrap64
  omega
theorem l2Hunks_l0 (n : Int) (h : List IH) (hf : FitI h) (hn0 : -9223372036854775808 ≤ n) (hn : n ≤ 9223372036854775807) : ∀ d i p, i + d = h.length → before n h i p → Ev (fun k => spec_l2Hunks.l0 k n h h (h.length : Int) (i : Int)) (chain n p (h.drop i) && (decide (h.length ≤ 20) && inB n 0 40)) := by
  intro d
  have hL := hf.1
  induction d with
  | zero =>
    intro i p hi hp
    refine Ev.step (fun k => spec_l2Hunks.l0.eq_2 ..) (ev_neg (by omega) ?_)
    rw [List.drop_of_length_le (by omega)]
    simp only [spec_l1In_eq, Option.bind_some]
    refine ev_ite (fun c => ev_some ?_) (fun c => ev_some ?_)
    · rw [decide_eq_true (by omega)]
      rfl
    · rw [decide_eq_false (by omega)]
      rfl
  | succ d ih =>
    intro i p hi hp
    have hlt : i < h.length := by omega
    obtain ⟨b0, b1, b2⟩ := hf.2 _ (List.getElem_mem hlt)
    refine Ev.step (fun k => spec_l2Hunks.l0.eq_2 ..) ?_
    simp only [rdIH h i hlt, chain_cons n p h i hlt]
    generalize hx : h[i] = x at *
    have no : ¬ (hNum n p x ∧ x.f2.all isLn = true) → hOK n p x = false := by
      intro hb
      rw [Bool.eq_false_iff]
      intro ht
      unfold hOK at ht
      rw [Bool.and_eq_true, decide_eq_true_eq] at ht
      exact hb ht
    have bad : ¬ hNum n p x → Ev (fun k => spec_l2Hunks.j1 k n h h (h.length : Int) (i : Int) true x.f0 x.f1 x.f2) (hOK n p x && chain n (x.f0 + x.f1) (h.drop (i + 1)) && (decide (h.length ≤ 20) && inB n 0 40)) := by
      intro hb
      refine Ev.step (fun k => spec_l2Hunks.j1.eq_2 ..) (ev_pos rfl (ev_some ?_))
      rw [no (fun c => hb c.1)]
      rfl
    have ok : hNum n p x → Ev (fun k => spec_l2Hunks.j1 k n h h (h.length : Int) (i : Int) false x.f0 x.f1 x.f2) (hOK n p x && chain n (x.f0 + x.f1) (h.drop (i + 1)) && (decide (h.length ≤ 20) && inB n 0 40)) := by
      intro hb
      have nx : before n h (i + 1) (x.f0 + x.f1) := .inr ⟨i, hlt, rfl, by rw [hx], by rw [hx]; exact hb.1, by rw [hx]; exact hb.2.1, hb.2.2.1⟩
      have lp : ∀ e r, r + e = x.f2.length → Ev (fun k => spec_l2Hunks.l1 k n h h (h.length : Int) (i : Int) x.f2 (x.f2.length : Int) (r : Int)) (((x.f2.drop r).all isLn && chain n (x.f0 + x.f1) (h.drop (i + 1))) && (decide (h.length ≤ 20) && inB n 0 40)) := by
        intro e
        have hT := b2.1
        induction e with
        | zero =>
          intro r hr
          refine Ev.step (fun k => spec_l2Hunks.l1.eq_2 ..) (ev_neg (by omega) ?_)
          rw [List.drop_of_length_le (l := x.f2) (by omega), wrap_succ i (by omega), List.all_nil, Bool.true_and]
          exact ih (i + 1) _ (by omega) nx
        | succ e ihe =>
          intro r hr
          have hrt : r < x.f2.length := by omega
          refine Ev.step (fun k => spec_l2Hunks.l1.eq_2 ..) (ev_pos (by omega) (ev_pos (by omega) (ev_pos (by omega) ?_)))
          rw [rdOf_lt _ _ _ hrt, drop_cons x.f2 r hrt, List.all_cons]
          refine ev_bind (l1Line_ev _ (b2.2 _ (List.getElem_mem hrt))) (ev_ite (fun c => ?_) (fun c => ev_some ?_))
          · rw [wrap_succ r (by omega), c, Bool.true_and]
            exact ihe (r + 1) (by omega)
          · rw [Bool.not_eq_true] at c
            rw [c]
            rfl
      refine Ev.step (fun k => spec_l2Hunks.j1.eq_2 ..) (ev_neg (by simp) (ev_to (lp x.f2.length 0 (by omega)) ?_))
      unfold hOK
      rw [decide_eq_true hb, Bool.true_and, List.drop_zero]
    refine ev_pos (by omega) (ev_pos (by omega) (ev_pos (by omega) (ev_ite (fun c => bad (fun hb => ?_)) (fun c0 => ev_ite (fun c => bad (fun hb => ?_)) (fun c1 => ev_ite (fun c => bad (fun hb => ?_)) (fun c2 => ?_))))))
    · have := hb.1
      omega
    · have := hb.2.1
      omega
    · obtain ⟨q0, q1, q2, q3, q4, q5⟩ := hb
      omega
    rw [wrap64_id (x := n - x.f1) (by omega) (by omega)]
    refine ev_ite (fun c => bad (fun hb => ?_)) (fun c3 => ev_ite (fun c => bad (fun hb => ?_)) (fun c4 => ev_ite (fun c => bad (fun hb => ?_)) (fun c5 => ?_)))
    · have := hb.2.2.1
      omega
    · rw [wrap_zero _ _ (by omega) (by omega) b2.1] at c
      exact hb.2.2.2.1 c
    · have := hb.2.2.2.2.1
      omega
    rw [wrap_zero _ _ (by omega) (by omega) b2.1] at c4
    rcases hp with ⟨rfl, rfl⟩ | ⟨j, hj, rfl, rfl, r0, r1, r2⟩
    · refine ev_neg (by omega) (ok ⟨by omega, by omega, by omega, c4, by omega, by omega⟩)
    · have ew : wrap64 (((j + 1 : Nat) : Int) - 1) = (j : Int) := by rw [wrap64_id (by omega) (by omega)]; omega
      simp only [ew, rdIH h j hj]
      rw [wrap64_id (x := h[j].f0 + h[j].f1) (by omega) (by omega)]
      refine ev_pos (by omega) (ev_pos (by omega) (ev_pos (by omega) ?_))
      by_cases c : x.f0 ≤ h[j].f0 + h[j].f1
      · rw [decide_eq_true c]
        refine bad (fun hb => ?_)
        have := hb.2.2.2.2.2
        omega
      · rw [decide_eq_false c]
        exact ok ⟨by omega, by omega, by omega, c4, by omega, by omega⟩
theorem l2Hunks_ev (n : Int) (h : List IH) (hf : FitI h) (hn0 : -9223372036854775808 ≤ n) (hn : n ≤ 9223372036854775807) : Ev (fun k => spec_l2Hunks.f k n h) (goodH n h) := by
  simp only [spec_l2Hunks.f]
  refine ev_to (l2Hunks_l0 n h hf hn0 hn h.length 0 (-1) (by omega) (.inl ⟨rfl, rfl⟩)) ?_
  unfold goodH
  rw [List.drop_zero]
  cases inB n 0 40 <;> cases chain n (-1) h <;> cases decide (h.length ≤ 20) <;> rfl

def near (h : List IH) : Prop := ∀ x ∈ h, 0 ≤ x.f0 ∧ x.f0 ≤ 40 ∧ 0 ≤ x.f1 ∧ x.f1 ≤ 40 ∧ x.f2.length ≤ 40
theorem near_of_chain {n : Int} (hn : n ≤ 40) : ∀ (h : List IH) (p : Int), chain n p h = true → near h := by
  intro h
  induction h with
  | nil => intro p _ x hx; simp at hx
  | cons y t ih =>
    intro p hc x hx
    simp only [chain, Bool.and_eq_true, hOK, decide_eq_true_eq] at hc
    rcases List.mem_cons.1 hx with rfl | hx
    · obtain ⟨⟨⟨q0, q1, q2, q3, q4, q5⟩, _⟩, _⟩ := hc
      omega
    · exact ih _ hc.2 x hx
theorem near_of_good {n : Int} {h : List IH} (g : goodH n h = true) : near h ∧ h.length ≤ 20 ∧ 0 ≤ n ∧ n ≤ 40 := by
  unfold goodH at g
  rw [Bool.and_eq_true, Bool.and_eq_true, inB_iff, decide_eq_true_eq] at g
  exact ⟨near_of_chain g.1.2 h _ g.2.2, g.2.1, g.1.1, g.1.2⟩

theorem good_len {l : List ByteArray} (h : good l = true) : l.length ≤ 40 := by
  unfold good at h
  rw [Bool.and_eq_true] at h
  exact of_decide_eq_true h.1

def patchFrom (a : List ByteArray) : Nat → List IH → List ByteArray
  | p, [] => a.drop p
  | p, x :: t => (a.take x.f0.toNat).drop p ++ (x.f2 ++ patchFrom a (x.f0 + x.f1).toNat t)
theorem patchFrom_mem (a : List ByteArray) (s : ByteArray) : ∀ (h : List IH) (p : Nat), s ∈ patchFrom a p h → s ∈ a ∨ ∃ x ∈ h, s ∈ x.f2 := by
  intro h
  induction h with
  | nil => intro p hs; exact .inl (List.mem_of_mem_drop hs)
  | cons y t ih =>
    intro p hs
    simp only [patchFrom, List.mem_append] at hs
    rcases hs with hs | hs | hs
    · exact .inl (List.mem_of_mem_take (List.mem_of_mem_drop hs))
    · exact .inr ⟨y, List.mem_cons_self .., hs⟩
    · rcases ih _ hs with hs | ⟨x, hx, hs⟩
      · exact .inl hs
      · exact .inr ⟨x, List.mem_cons_of_mem _ hx, hs⟩
theorem patchFrom_len (a : List ByteArray) (ha : a.length ≤ 40) : ∀ (h : List IH) (p : Nat), near h → (patchFrom a p h).length ≤ 40 + 80 * h.length := by
  intro h
  induction h with
  | nil => intro p _; simp only [patchFrom, List.length_drop, List.length_nil]; omega
  | cons y t ih =>
    intro p hn
    have h1 := ih (y.f0 + y.f1).toNat (fun x hx => hn x (List.mem_cons_of_mem _ hx))
    have h2 := hn y (List.mem_cons_self ..)
    simp only [patchFrom, List.length_append, List.length_drop, List.length_take, List.length_cons]
    omega
theorem patchFrom_fit {a : List ByteArray} {h : List IH} (fa : FitS a) (fh : FitI h) (ha : a.length ≤ 40) (hn : near h) (hl : h.length ≤ 20) (p : Nat) : FitS (patchFrom a p h) := by
  have := patchFrom_len a ha h p hn
  refine ⟨by omega, fun s hs => ?_⟩
  rcases patchFrom_mem a s h p hs with hs | ⟨x, hx, hs⟩
  · exact fa.2 s hs
  · exact (fh.2 x hx).2.2.2 s hs
theorem patched_l0 (a : List ByteArray) (h : List IH) (hn : a.length ≤ 40) (hl : h.length ≤ 20) : ∀ d i (q : Int) (p : Nat) (acc : List ByteArray), i + d = h.length → chain a.length q (h.drop i) = true → (p : Int) ≤ q + 1 → p ≤ a.length → acc.length ≤ 40 * i + p →
    Ev (fun k => impl_patched.l0 k a acc (p : Int) h (h.length : Int) (i : Int)) (acc ++ patchFrom a p (h.drop i)) := by
  intro d
  induction d with
  | zero =>
    intro i q p acc hi hc hpq hp hacc
    refine Ev.step (fun k => impl_patched.l0.eq_2 ..) (ev_neg (by omega) (ev_pos (by omega) (ev_pos (by omega) (ev_pos ?_ (ev_some ?_)))))
    · rw [List.length_drop]
      omega
    · rw [List.drop_of_length_le (l := h) (by omega), Int.toNat_natCast]
      rfl
  | succ d ih =>
    intro i q p acc hi hc hpq hp hacc
    have hlt : i < h.length := by omega
    rw [List.drop_eq_getElem_cons hlt] at hc
    rw [List.drop_eq_getElem_cons hlt]
    simp only [chain, Bool.and_eq_true, hOK, decide_eq_true_eq] at hc
    obtain ⟨⟨⟨q0, q1, q2, q3, q4, q5⟩, _⟩, hc'⟩ := hc
    refine Ev.step (fun k => impl_patched.l0.eq_2 ..) ?_
    simp only [rdIH h i hlt, Option.bind_some]
    have e1 : wrap64 (h[i].f0 + h[i].f1) = (((h[i].f0 + h[i].f1).toNat : Nat) : Int) := by rw [wrap64_id (by omega) (by omega)]; omega
    rw [e1, wrap_succ i (by omega), Int.toNat_natCast]
    have e2 : ((a.take h[i].f0.toNat).drop p).length = h[i].f0.toNat - p := by rw [List.length_drop, List.length_take]; omega
    refine ev_pos (by omega) (ev_pos (by omega) (ev_pos (by omega) (ev_pos (by omega) (ev_pos (by omega) (ev_pos (by omega) (ev_pos (by rw [e2]; omega) (ev_pos (by rw [List.length_append, e2]; omega) ?_)))))))
    refine ev_to (ih (i + 1) _ _ _ (by omega) hc' (by omega) (by omega) (by rw [List.length_append, List.length_append, e2]; omega)) ?_
    simp only [patchFrom, List.append_assoc]
theorem l2Patch_l0 (a : List ByteArray) (h : List IH) (hn : a.length ≤ 40) (hl : h.length ≤ 20) : ∀ d i (q : Int) (p : Nat) (acc : List ByteArray), i + d = h.length → chain a.length q (h.drop i) = true → (p : Int) ≤ q + 1 → p ≤ a.length → acc.length ≤ 40 * i + p →
    Ev (fun k => spec_l2Patch.l0 k a acc (p : Int) h (h.length : Int) (i : Int)) (acc ++ patchFrom a p (h.drop i)) := by
  intro d
  induction d with
  | zero =>
    intro i q p acc hi hc hpq hp hacc
    refine Ev.step (fun k => spec_l2Patch.l0.eq_2 ..) (ev_neg (by omega) (ev_pos (by omega) (ev_pos (by omega) (ev_pos ?_ (ev_some ?_)))))
    · rw [List.length_drop]
      omega
    · rw [List.drop_of_length_le (l := h) (by omega), Int.toNat_natCast]
      rfl
  | succ d ih =>
    intro i q p acc hi hc hpq hp hacc
    have hlt : i < h.length := by omega
    rw [List.drop_eq_getElem_cons hlt] at hc
    rw [List.drop_eq_getElem_cons hlt]
    simp only [chain, Bool.and_eq_true, hOK, decide_eq_true_eq] at hc
    obtain ⟨⟨⟨q0, q1, q2, q3, q4, q5⟩, _⟩, hc'⟩ := hc
    refine Ev.step (fun k => spec_l2Patch.l0.eq_2 ..) ?_
    simp only [rdIH h i hlt, Option.bind_some]
    have e1 : wrap64 (h[i].f0 + h[i].f1) = (((h[i].f0 + h[i].f1).toNat : Nat) : Int) := by rw [wrap64_id (by omega) (by omega)]; omega
    rw [e1, wrap_succ i (by omega), Int.toNat_natCast]
    have e2 : ((a.take h[i].f0.toNat).drop p).length = h[i].f0.toNat - p := by rw [List.length_drop, List.length_take]; omega
    refine ev_pos (by omega) (ev_pos (by omega) (ev_pos (by omega) (ev_pos (by omega) (ev_pos (by omega) (ev_pos (by omega) (ev_pos (by rw [e2]; omega) (ev_pos (by rw [List.length_append, e2]; omega) ?_)))))))
    refine ev_to (ih (i + 1) _ _ _ (by omega) hc' (by omega) (by omega) (by rw [List.length_append, List.length_append, e2]; omega)) ?_
    simp only [patchFrom, List.append_assoc]
def asked (a : List ByteArray) (h : List IH) : Bool := good a && goodH a.length h
def patchH (a : List ByteArray) (h : List IH) : List ByteArray := patchFrom a 0 h
def patchR (a : List ByteArray) (h : List IH) : List ByteArray × Bool := if asked a h = true ∧ good (patchH a h) = true then (patchH a h, true) else ([], false)
theorem asked_of {a : List ByteArray} {h : List IH} (c : asked a h = true) : a.length ≤ 40 ∧ h.length ≤ 20 ∧ near h ∧ chain a.length (-1) h = true := by
  unfold asked at c
  rw [Bool.and_eq_true] at c
  obtain ⟨g1, g2, g3, g4⟩ := near_of_good c.2
  have := c.2
  unfold goodH at this
  rw [Bool.and_eq_true, Bool.and_eq_true] at this
  exact ⟨good_len c.1, g2, g1, this.2.2⟩
theorem patched_ev {a : List ByteArray} {h : List IH} (c : asked a h = true) : Ev (fun k => impl_patched.f k a h) (patchH a h) := by
  obtain ⟨c1, c2, c3, c4⟩ := asked_of c
  simp only [impl_patched.f]
  exact patched_l0 a h c1 c2 h.length 0 (-1) 0 [] (by omega) c4 (by omega) (by omega) (Nat.zero_le _)
theorem l2Patch_ev {a : List ByteArray} {h : List IH} (c : asked a h = true) : Ev (fun k => spec_l2Patch.f k a h) (patchH a h) := by
  obtain ⟨c1, c2, c3, c4⟩ := asked_of c
  simp only [spec_l2Patch.f]
  exact l2Patch_l0 a h c1 c2 h.length 0 (-1) 0 [] (by omega) c4 (by omega) (by omega) (Nat.zero_le _)
theorem l2Asked_ev (a : List ByteArray) (h : List IH) (fa : FitS a) (fh : FitI h) : Ev (fun k => spec_l2Asked.f k a h) (asked a h) := by
  simp only [spec_l2Asked.f]
  unfold asked
  have hL := fa.1
  refine ev_bind (l1Good_ev a fa) (ev_ite (fun c => ?_) (fun c => ev_some ?_))
  · rw [c, Bool.true_and]
    exact ev_bind (l2Hunks_ev _ h fh (by omega) (by omega)) (ev_some rfl)
  · rw [Bool.not_eq_true] at c
    rw [c, Bool.false_and]
theorem patchR_small (a : List ByteArray) (h : List IH) : (patchR a h).1.length ≤ 40 := by
  unfold patchR
  split
  · rename_i c
    exact good_len c.2
  · exact Nat.zero_le _
theorem impl_Patch_ev (a : List ByteArray) (h : List IH) (fa : FitS a) (fh : FitI h) : Ev (fun k => impl_Patch.f k a h) (patchR a h) := by
  simp only [impl_Patch.f]
  unfold patchR
  have fin : asked a h = false → Ev (fun k => impl_Patch.j0 k a h true) (if asked a h = true ∧ good (patchH a h) = true then (patchH a h, true) else (([] : List ByteArray), false)) := by
    intro c
    rw [if_neg (fun e => by rw [c] at e; cases e.1)]
    exact Ev.step (fun k => impl_Patch.j0.eq_2 ..) (ev_pos rfl (ev_some rfl))
  refine ev_bind (goodLines_ev a fa) (ev_ite (fun c => ?_) (fun c => ?_))
  · refine ev_bind (goodHunks_ev _ h fh) ?_
    cases g : goodH a.length h with
    | false =>
      refine fin ?_
      unfold asked
      rw [g, Bool.and_false]
    | true =>
      have ca : asked a h = true := by unfold asked; rw [c, g]; rfl
      obtain ⟨c1, c2, c3, c4⟩ := asked_of ca
      refine Ev.step (fun k => impl_Patch.j0.eq_2 ..) (ev_neg (by simp) (ev_bind (patched_ev ca) (ev_bind (goodLines_ev _ (patchFrom_fit fa fh c1 c3 c2 0)) (ev_ite (fun c5 => ev_some ?_) (fun c5 => ev_some ?_)))))
      · rw [if_pos ⟨ca, c5⟩]
      · rw [if_neg (fun e => c5 e.2)]
  · refine fin ?_
    unfold asked
    rw [Bool.not_eq_true] at c
    rw [c, Bool.false_and]
theorem spec_Patch_ev (a : List ByteArray) (h : List IH) (fa : FitS a) (fh : FitI h) : Ev (fun k => spec_Patch.f k a h) (patchR a h) := by
  simp only [spec_Patch.f]
  unfold patchR
  refine ev_bind (l2Asked_ev a h fa fh) (ev_ite (fun ca => ?_) (fun ca => ev_some ?_))
  · obtain ⟨c1, c2, c3, c4⟩ := asked_of ca
    refine ev_bind (l2Patch_ev ca) (ev_bind (l1Good_ev _ (patchFrom_fit fa fh c1 c3 c2 0)) (ev_ite (fun c5 => ev_some ?_) (fun c5 => ev_some ?_)))
    · rw [if_pos (show asked a h = true ∧ good (patchH a h) = true from ⟨ca, c5⟩)]
    · rw [if_neg (show ¬ (asked a h = true ∧ good (patchH a h) = true) from fun e => c5 e.2)]
  · rw [if_neg (show ¬ (asked a h = true ∧ good (patchH a h) = true) from fun e => ca e.1)]
theorem patchR_asked {a : List ByteArray} {h : List IH} (c : (patchR a h).2 = true) : asked a h = true := by
  unfold patchR at c
  split at c
  · rename_i e
    exact e.1
  · cases c

abbrev IT := S52
theorem rdIT (l : List IT) (i : Nat) (h : i < l.length) : T52 l (i : Int) = l[i] := getD_lt l _ i h
theorem it_ext {x y : IT} (h0 : x.f0 = y.f0) (h1 : x.f1 = y.f1) (h2 : x.f2 = y.f2) (h3 : x.f3 = y.f3) (h4 : x.f4 = y.f4) (h5 : x.f5 = y.f5) : x = y := by
  cases x; cases y; simp_all
instance : DecidableEq IT := fun x y => decidable_of_iff (x.f0 = y.f0 ∧ x.f1 = y.f1 ∧ x.f2 = y.f2 ∧ x.f3 = y.f3 ∧ x.f4 = y.f4 ∧ x.f5 = y.f5) ⟨fun ⟨a, b, c, d, e, f⟩ => it_ext a b c d e f, fun h => by rw [h]; exact ⟨rfl, rfl, rfl, rfl, rfl, rfl⟩⟩
def FitIT (l : List IT) : Prop := l.length ≤ 9223372036854775807 ∧ ∀ x ∈ l, FitS x.f2 ∧ FitS x.f5

def numI (f m : Int) : Int := if m > 0 then f + 1 else f
theorem numberOf_eq (f m : Int) (h : -1000000 ≤ f ∧ f ≤ 1000000) : impl_numberOf.f f m = some (numI f m) := by
  unfold impl_numberOf.f numI
  rw [wrap64_id (by omega) (by omega)]
  split <;> rfl
theorem endOf_eq (f m : Int) (h : -1000000 ≤ f + m ∧ f + m ≤ 1000000) : impl_endOf.f f m = some (f + m) := by
  unfold impl_endOf.f
  rw [wrap64_id (by omega) (by omega)]
def stepOne (a : List ByteArray) (s : Int) (x : IH) : IT := ⟨numI x.f0 x.f1, x.f0 + x.f1, (a.take (x.f0 + x.f1).toNat).drop x.f0.toNat, numI (x.f0 + s) (x.f2.length : Int), x.f0 + s + (x.f2.length : Int), x.f2⟩
def stepsFrom (a : List ByteArray) : Int → List IH → List IT
  | _, [] => []
  | s, x :: t => stepOne a s x :: stepsFrom a (s + ((x.f2.length : Int) - x.f1)) t
theorem stepsFrom_len (a : List ByteArray) : ∀ (h : List IH) (s : Int), (stepsFrom a s h).length = h.length
  | [], _ => rfl
  | x :: t, s => by simp only [stepsFrom, List.length_cons, stepsFrom_len a t]
theorem stepsFrom_mem (a : List ByteArray) : ∀ (h : List IH) (s : Int) (y : IT), y ∈ stepsFrom a s h → y.f2.length ≤ a.length ∧ (∀ z ∈ y.f2, z ∈ a) ∧ ∃ x ∈ h, y.f5 = x.f2
  | [], _, y, hy => by simp [stepsFrom] at hy
  | x :: t, s, y, hy => by
    simp only [stepsFrom, List.mem_cons] at hy
    rcases hy with rfl | hy
    · exact ⟨by unfold stepOne; rw [List.length_drop, List.length_take]; omega, fun z hz => List.mem_of_mem_take (List.mem_of_mem_drop hz), x, List.mem_cons_self .., rfl⟩
    · obtain ⟨h1, h2, z, hz, e⟩ := stepsFrom_mem a t _ y hy
      exact ⟨h1, h2, z, List.mem_cons_of_mem _ hz, e⟩
theorem steps_l0 (a : List ByteArray) (h : List IH) (hn : a.length ≤ 40) (hl : h.length ≤ 20) : ∀ d i (q s : Int) (acc : List IT), i + d = h.length → chain a.length q (h.drop i) = true → -40 * (i : Int) ≤ s → s ≤ 40 * (i : Int) → acc.length ≤ i →
    Ev (fun k => impl_stepsOf.l0 k a acc s h (h.length : Int) (i : Int)) (acc ++ stepsFrom a s (h.drop i)) := by
  intro d
  induction d with
  | zero =>
    intro i q s acc hi hc h1 h2 hacc
    refine Ev.step (fun k => impl_stepsOf.l0.eq_2 ..) (ev_neg (by omega) (ev_some ?_))
    rw [List.drop_of_length_le (l := h) (by omega)]
    simp only [stepsFrom, List.append_nil]
  | succ d ih =>
    intro i q s acc hi hc h1 h2 hacc
    have hlt : i < h.length := by omega
    rw [List.drop_eq_getElem_cons hlt] at hc
    rw [List.drop_eq_getElem_cons hlt]
    simp only [chain, Bool.and_eq_true, hOK, decide_eq_true_eq] at hc
    obtain ⟨⟨⟨q0, q1, q2, q3, q4, q5⟩, _⟩, hc'⟩ := hc
    refine Ev.step (fun k => impl_stepsOf.l0.eq_2 ..) ?_
    simp only [rdIH h i hlt]
    rw [endOf_eq h[i].f0 h[i].f1 (by omega), wrap64_id (x := h[i].f0 + h[i].f1) (by omega) (by omega), wrap64_id (x := h[i].f0 + s) (by omega) (by omega), wrap64_id (x := (h[i].f2.length : Int) - h[i].f1) (by omega) (by omega), wrap64_id (x := s + ((h[i].f2.length : Int) - h[i].f1)) (by omega) (by omega), wrap_succ i (by omega)]
    have e2 : ((a.take (h[i].f0 + h[i].f1).toNat).drop h[i].f0.toNat).length < 8796093022208 := by rw [List.length_drop, List.length_take]; omega
    rw [cloneT_eq _ e2, cloneT_eq h[i].f2 (by omega), numberOf_eq h[i].f0 h[i].f1 (by omega), numberOf_eq (h[i].f0 + s) (h[i].f2.length : Int) (by omega), endOf_eq (h[i].f0 + s) (h[i].f2.length : Int) (by omega)]
    simp only [Option.bind_some]
    refine ev_pos (by omega) (ev_pos (by omega) (ev_pos (by omega) (ev_pos (by omega) (ev_pos (by omega) (ev_pos (by omega) (ev_pos (by omega) ?_))))))
    refine ev_to (ih (i + 1) _ _ _ (by omega) hc' (by omega) (by omega) (by rw [List.length_append, List.length_singleton]; omega)) ?_
    simp only [stepsFrom, stepOne, List.append_assoc, List.singleton_append]

theorem l4Number_eq (f m : Int) (h : -1000000 ≤ f ∧ f ≤ 1000000) : spec_l4Number.f f m = some (numI f m) := by
  unfold spec_l4Number.f numI
  rw [wrap64_id (by omega) (by omega)]
  split <;> rfl
theorem l5Steps_l0 (a : List ByteArray) (h : List IH) (hn : a.length ≤ 40) (hl : h.length ≤ 20) : ∀ d i (q s : Int) (acc : List IT), i + d = h.length → chain a.length q (h.drop i) = true → -40 * (i : Int) ≤ s → s ≤ 40 * (i : Int) → acc.length ≤ i →
    Ev (fun k => spec_l5Steps.l0 k a acc s h (h.length : Int) (i : Int)) (acc ++ stepsFrom a s (h.drop i)) := by
  intro d
  induction d with
  | zero =>
    intro i q s acc hi hc h1 h2 hacc
    refine Ev.step (fun k => spec_l5Steps.l0.eq_2 ..) (ev_neg (by omega) (ev_some ?_))
    rw [List.drop_of_length_le (l := h) (by omega)]
    simp only [stepsFrom, List.append_nil]
  | succ d ih =>
    intro i q s acc hi hc h1 h2 hacc
    have hlt : i < h.length := by omega
    rw [List.drop_eq_getElem_cons hlt] at hc
    rw [List.drop_eq_getElem_cons hlt]
    simp only [chain, Bool.and_eq_true, hOK, decide_eq_true_eq] at hc
    obtain ⟨⟨⟨q0, q1, q2, q3, q4, q5⟩, _⟩, hc'⟩ := hc
    refine Ev.step (fun k => spec_l5Steps.l0.eq_2 ..) ?_
    simp only [rdIH h i hlt]
    rw [wrap64_id (x := h[i].f0 + h[i].f1) (by omega) (by omega), wrap64_id (x := h[i].f0 + s) (by omega) (by omega), wrap64_id (x := (h[i].f2.length : Int) - h[i].f1) (by omega) (by omega), wrap64_id (x := s + ((h[i].f2.length : Int) - h[i].f1)) (by omega) (by omega), wrap_succ i (by omega)]
    have e2 : ((a.take (h[i].f0 + h[i].f1).toNat).drop h[i].f0.toNat).length < 8796093022208 := by rw [List.length_drop, List.length_take]; omega
    rw [ownT_eq _ e2, ownT_eq h[i].f2 (by omega), l4Number_eq h[i].f0 h[i].f1 (by omega), l4Number_eq (h[i].f0 + s) (h[i].f2.length : Int) (by omega), wrap64_id (x := h[i].f0 + s + (h[i].f2.length : Int)) (by omega) (by omega)]
    simp only [Option.bind_some]
    refine ev_pos (by omega) (ev_pos (by omega) (ev_pos (by omega) (ev_pos (by omega) (ev_pos (by omega) (ev_pos (by omega) (ev_pos (by omega) ?_))))))
    refine ev_to (ih (i + 1) _ _ _ (by omega) hc' (by omega) (by omega) (by rw [List.length_append, List.length_singleton]; omega)) ?_
    simp only [stepsFrom, stepOne, List.append_assoc, List.singleton_append]
def stepsR (a : List ByteArray) (h : List IH) : List IT × Bool := if (patchR a h).2 = true then (stepsFrom a 0 h, true) else ([], false)
theorem impl_NormalSteps_ev (a : List ByteArray) (h : List IH) (fa : FitS a) (fh : FitI h) : Ev (fun k => impl_NormalSteps.f k a h) (stepsR a h) := by
  simp only [impl_NormalSteps.f]
  unfold stepsR
  refine ev_bind (impl_Patch_ev a h fa fh) (ev_ite (fun c => ?_) (fun c => ev_some ?_))
  · rw [if_pos c]
    obtain ⟨c1, c2, c3, c4⟩ := asked_of (patchR_asked c)
    simp only [impl_stepsOf.f]
    exact ev_bind (steps_l0 a h c1 c2 h.length 0 (-1) 0 [] (by omega) c4 (by omega) (by omega) (Nat.zero_le _)) (ev_some rfl)
  · rw [if_neg c]
theorem spec_NormalSteps_ev (a : List ByteArray) (h : List IH) (fa : FitS a) (fh : FitI h) : Ev (fun k => spec_NormalSteps.f k a h) (stepsR a h) := by
  simp only [spec_NormalSteps.f]
  unfold stepsR
  refine ev_bind (spec_Patch_ev a h fa fh) (ev_ite (fun c => ?_) (fun c => ev_some ?_))
  · rw [if_pos c]
    obtain ⟨c1, c2, c3, c4⟩ := asked_of (patchR_asked c)
    simp only [spec_l5Steps.f]
    exact ev_bind (l5Steps_l0 a h c1 c2 h.length 0 (-1) 0 [] (by omega) c4 (by omega) (by omega) (Nat.zero_le _)) (ev_some rfl)
  · rw [if_neg c]
theorem stepsR_small (a : List ByteArray) (h : List IH) : (stepsR a h).1.length ≤ 20 ∧ ∀ y ∈ (stepsR a h).1, y.f2.length ≤ 40 ∧ y.f5.length ≤ 40 := by
  unfold stepsR
  split
  · rename_i c
    obtain ⟨c1, c2, c3, c4⟩ := asked_of (patchR_asked c)
    refine ⟨by rw [stepsFrom_len]; exact c2, fun y hy => ?_⟩
    obtain ⟨h1, _, x, hx, e⟩ := stepsFrom_mem a h 0 y hy
    have := c3 x hx
    rw [e]
    exact ⟨by omega, by omega⟩
  · exact ⟨Nat.zero_le _, fun y hy => by cases hy⟩
theorem stepsR_fit (a : List ByteArray) (h : List IH) (fa : FitS a) (fh : FitI h) : FitIT (stepsR a h).1 := by
  have hs := stepsR_small a h
  refine ⟨by omega, fun y hy => ?_⟩
  have h2 := hs.2 y hy
  unfold stepsR at hy
  split at hy
  · obtain ⟨_, h1, x, hx, e⟩ := stepsFrom_mem a h 0 y hy
    refine ⟨⟨by omega, fun s hs => fa.2 s (h1 s hs)⟩, ?_⟩
    rw [e]
    exact (fh.2 x hx).2.2
  · cases hy

def SmS (p : List IT) : Prop := p.length ≤ 20 ∧ ∀ x ∈ p, (x.f2.length ≤ 41 ∧ ∀ s ∈ x.f2, s.size ≤ 100) ∧ (x.f5.length ≤ 41 ∧ ∀ s ∈ x.f5, s.size ≤ 100)
theorem smS_set {p : List IT} (h : SmS p) (i : Nat) {x : IT} (hx : (x.f2.length ≤ 41 ∧ ∀ s ∈ x.f2, s.size ≤ 100) ∧ (x.f5.length ≤ 41 ∧ ∀ s ∈ x.f5, s.size ≤ 100)) : SmS (p.set i x) := by
  refine ⟨by rw [List.length_set]; exact h.1, fun y hy => ?_⟩
  rcases List.mem_or_eq_of_mem_set hy with hy | rfl
  · exact h.2 y hy
  · exact hx
theorem fitIT_smS {p : List IT} (h : SmS p) : FitIT p := ⟨by have := h.1; omega, fun x hx => by
  obtain ⟨⟨h1, h2⟩, h3, h4⟩ := h.2 x hx
  exact ⟨⟨by omega, fun s hs => by have := h2 s hs; omega⟩, ⟨by omega, fun s hs => by have := h4 s hs; omega⟩⟩⟩
theorem rdITm (p : List IT) (k : Int) (h0 : 0 ≤ k) (h1 : k < (p.length : Int)) : T52 p k ∈ p := by
  have e : T52 p k = p[k.toNat]'(by omega) := getD_lt p _ _ (by omega)
  rw [e]
  exact List.getElem_mem _
theorem smS_steps {l : List ByteArray} {h : List IH} (hl : ∀ s ∈ l, s.size ≤ 100) (hh : ∀ x ∈ h, ∀ s ∈ x.f2, s.size ≤ 100) : (stepsR l h).1.length ≤ 20 ∧ ∀ x ∈ (stepsR l h).1, (x.f2.length ≤ 40 ∧ ∀ s ∈ x.f2, s.size ≤ 100) ∧ (x.f5.length ≤ 40 ∧ ∀ s ∈ x.f5, s.size ≤ 100) := by
  have hs := stepsR_small l h
  refine ⟨hs.1, fun x hx => ?_⟩
  have h2 := hs.2 x hx
  unfold stepsR at hx
  split at hx
  · obtain ⟨_, h1, y, hy, e⟩ := stepsFrom_mem l h 0 x hx
    exact ⟨⟨h2.1, fun s q => hl s (h1 s q)⟩, h2.2, fun s q => by rw [e] at q; exact hh y hy s q⟩
  · cases hx
section
variable (c : List Int) (hc : Bytes8 c)
include hc
theorem steps_j0 (l : List ByteArray) (hl : l.length ≤ 9) (hs : SmL 8 l) (p : List IT) (a s : Int) (h0 : 0 ≤ a) (h1 : a ≤ 999999999999000) :
    ∃ r a2 s2, Ev (fun k => spec_l1Cur_steps.j0 k l p c a s) (r, p, a2, s2) ∧ FitS r := by
  obtain ⟨v, a2, s2, e, h2⟩ := one_some c hc a s 4 (at_of h0 (by omega))
  cases v with
  | true =>
    obtain ⟨r, a3, s3, er, hr, hrs, h3⟩ := other_some c hc l (by omega) hs a2 s2 (by omega) (by omega)
    exact ⟨r, a3, s3, Ev.step (fun k => spec_l1Cur_steps.j0.eq_2 ..) (ev_bind (ev_const e) (ev_pos rfl (ev_bind er (ev_some rfl)))), by omega, fun s hs => by have := hrs s hs; omega⟩
  | false =>
    exact ⟨l, a2, s2, Ev.step (fun k => spec_l1Cur_steps.j0.eq_2 ..) (ev_bind (ev_const e) (ev_neg (by simp) (ev_some rfl))), by omega, fun s q => by have := hs s q; omega⟩
theorem steps_some (a s : Int) (h0 : 0 ≤ a) (h1 : a ≤ 999999999990000) : ∃ l p a2 s2, Ev (fun k => spec_l1Cur_steps.f k c a s) (l, p, a2, s2) ∧ FitS l ∧ SmS p := by
  simp only [spec_l1Cur_steps.f]
  obtain ⟨l, a2, s2, e, hl, hs, h2⟩ := text_some c hc a s h0 (by omega)
  have hsz : ∀ s ∈ l, s.size ≤ 9223372036854775807 := fun s q => by have := hs s q; omega
  obtain ⟨h, a3, s3, e3, hh, h3⟩ := hunks_some c hc l (by omega) hsz (fun x q => (hs x (List.mem_of_getLast? q)).1) a2 s2 (by omega) (by omega)
  have fl : FitS l := ⟨by omega, hsz⟩
  have fh := fitI_smA (smA_of hh)
  have ep := spec_NormalSteps_ev l h fl fh
  obtain ⟨q1, q2⟩ := smS_steps (l := l) (h := h) (fun s q => by have := hs s q; omega) (fun x hx s q => by have := (hh.2 x hx).2.2.2 s q; omega)
  have sp : SmS (stepsR l h).1 := ⟨q1, fun x hx => by
    obtain ⟨⟨m1, m2⟩, m3, m4⟩ := q2 x hx
    exact ⟨⟨by omega, m2⟩, by omega, m4⟩⟩
  generalize hP : (stepsR l h) = P at *
  by_cases c1 : (P.1.length : Int) > 0
  · obtain ⟨v, a4, s4, e4, v0, v1, v2, h4⟩ := pick_some c hc a3 s3 (P.1.length : Int) (at_of (by omega) (by omega))
    obtain ⟨u, a5, s5, e5, u0, u1, u2, h5⟩ := pick_some c hc a4 s4 15 (at_of (by omega) (by omega))
    have hv : v < (P.1.length : Int) := by omega
    have hm := rdITm P.1 v v0 hv
    have hX := q2 _ hm
    have hX' := sp.2 _ hm
    -- whatever the steps are then
    have fin : ∀ p : List IT, SmS p → ∃ r a6 s6, Ev (fun k => spec_l1Cur_steps.j0 k l p c a5 s5) (r, p, a6, s6) ∧ FitS r := fun p hp => steps_j0 c hc l hl hs p a5 s5 (by omega) (by omega)
    by_cases u0' : u = 0
    · obtain ⟨r, a6, s6, er, fr⟩ := fin (P.1.set v.toNat ⟨wrap64 ((T52 P.1 v).f0 + 1), (T52 P.1 v).f1, (T52 P.1 v).f2, (T52 P.1 v).f3, (T52 P.1 v).f4, (T52 P.1 v).f5⟩) (smS_set sp _ hX')
      exact ⟨r, _, a6, s6, ev_bind e (ev_bind e3 (ev_bind ep (ev_pos c1 (ev_bind (ev_const e4) (ev_bind (ev_const e5) (ev_pos u0' (ev_pos v0 (ev_pos hv er)))))))), fr, smS_set sp _ hX'⟩
    by_cases u1' : u = 1
    · obtain ⟨r, a6, s6, er, fr⟩ := fin (P.1.set v.toNat ⟨(T52 P.1 v).f0, (T52 P.1 v).f1, (T52 P.1 v).f2, wrap64 ((T52 P.1 v).f3 + 1), (T52 P.1 v).f4, (T52 P.1 v).f5⟩) (smS_set sp _ hX')
      exact ⟨r, _, a6, s6, ev_bind e (ev_bind e3 (ev_bind ep (ev_pos c1 (ev_bind (ev_const e4) (ev_bind (ev_const e5) (ev_neg u0' (ev_pos u1' (ev_pos v0 (ev_pos hv er))))))))), fr, smS_set sp _ hX'⟩
    by_cases u2' : u = 2
    · have hn : ((T52 P.1 v).f2 ++ [(⟨#[122, 10]⟩ : ByteArray)]).length ≤ 41 ∧ ∀ s ∈ ((T52 P.1 v).f2 ++ [(⟨#[122, 10]⟩ : ByteArray)]), s.size ≤ 100 := by
        refine ⟨by rw [List.length_append, List.length_singleton]; have := hX.1.1; omega, fun s q => ?_⟩
        rcases List.mem_append.1 q with q | q
        · exact hX.1.2 s q
        · rw [List.mem_singleton.1 q]; decide
      obtain ⟨r, a6, s6, er, fr⟩ := fin (P.1.set v.toNat ⟨(T52 P.1 v).f0, (T52 P.1 v).f1, (T52 P.1 v).f2 ++ [(⟨#[122, 10]⟩ : ByteArray)], (T52 P.1 v).f3, (T52 P.1 v).f4, (T52 P.1 v).f5⟩) (smS_set sp _ ⟨hn, hX'.2⟩)
      exact ⟨r, _, a6, s6, ev_bind e (ev_bind e3 (ev_bind ep (ev_pos c1 (ev_bind (ev_const e4) (ev_bind (ev_const e5) (ev_neg u0' (ev_neg u1' (ev_pos u2' (ev_pos v0 (ev_pos hv (ev_pos (by have := hX.1.1; dsimp only; omega) er))))))))))), fr, smS_set sp _ ⟨hn, hX'.2⟩⟩
    by_cases u3' : u = 3
    · obtain ⟨y, hy⟩ : ∃ y : List IT, y = P.1.set v.toNat ⟨wrap64 ((T52 P.1 v).f0 + 30), (T52 P.1 v).f1, (T52 P.1 v).f2, (T52 P.1 v).f3, (T52 P.1 v).f4, (T52 P.1 v).f5⟩ := ⟨_, rfl⟩
      have sy : SmS y := by rw [hy]; exact smS_set sp _ hX'
      have hmy := rdITm y v v0 (by rw [hy, List.length_set]; exact hv)
      have hY := sy.2 _ hmy
      obtain ⟨r, a6, s6, er, fr⟩ := fin (y.set v.toNat ⟨(T52 y v).f0, wrap64 ((T52 y v).f1 + 30), (T52 y v).f2, (T52 y v).f3, (T52 y v).f4, (T52 y v).f5⟩) (smS_set sy _ hY)
      exact ⟨r, _, a6, s6, ev_bind e (ev_bind e3 (ev_bind ep (ev_pos c1 (ev_bind (ev_const e4) (ev_bind (ev_const e5) (ev_neg u0' (ev_neg u1' (ev_neg u2' (ev_pos u3' (ev_pos v0 (ev_pos hv (ev_bind (ev_some hy.symm) er)))))))))))), fr, smS_set sy _ hY⟩
    by_cases u4' : u = 4
    · have hn : ([(⟨#[108, 97, 115, 116]⟩ : ByteArray)] : List ByteArray).length ≤ 41 ∧ ∀ s ∈ ([(⟨#[108, 97, 115, 116]⟩ : ByteArray)] : List ByteArray), s.size ≤ 100 := ⟨by simp, fun s q => by rw [List.mem_singleton.1 q]; decide⟩
      obtain ⟨r, a6, s6, er, fr⟩ := fin (P.1.set v.toNat ⟨(T52 P.1 v).f0, (T52 P.1 v).f1, (T52 P.1 v).f2, (T52 P.1 v).f3, (T52 P.1 v).f4, [(⟨#[108, 97, 115, 116]⟩ : ByteArray)]⟩) (smS_set sp _ ⟨hX'.1, hn⟩)
      exact ⟨r, _, a6, s6, ev_bind e (ev_bind e3 (ev_bind ep (ev_pos c1 (ev_bind (ev_const e4) (ev_bind (ev_const e5) (ev_neg u0' (ev_neg u1' (ev_neg u2' (ev_neg u3' (ev_pos u4' (ev_pos v0 (ev_pos hv er)))))))))))), fr, smS_set sp _ ⟨hX'.1, hn⟩⟩
    obtain ⟨r, a6, s6, er, fr⟩ := fin P.1 sp
    exact ⟨r, _, a6, s6, ev_bind e (ev_bind e3 (ev_bind ep (ev_pos c1 (ev_bind (ev_const e4) (ev_bind (ev_const e5) (ev_neg u0' (ev_neg u1' (ev_neg u2' (ev_neg u3' (ev_neg u4' er)))))))))), fr, sp⟩
  · obtain ⟨r, a6, s6, er, fr⟩ := steps_j0 c hc l hl hs P.1 a3 s3 (by omega) (by omega)
    exact ⟨r, _, a6, s6, ev_bind e (ev_bind e3 (ev_bind ep (ev_neg c1 er))), fr, sp⟩
theorem drawSteps_some : ∃ l p, Ev (fun k => spec_DrawApplySteps.f k c) (l, p) ∧ FitS l ∧ SmS p := by
  simp only [spec_DrawApplySteps.f, spec_DrawStepsHunks.f, spec_DrawStepsHunks.g]
  obtain ⟨l, p, a2, s2, e, fl, sp⟩ := steps_some c hc 0 0 (by omega) (by omega)
  exact ⟨l, p, ev_bind (ev_bind (ev_bind e (ev_some rfl)) (ev_some rfl)) (ev_some rfl), fl, sp⟩
end
end Go.Proofs.YtmcldkobejhaeaaGreatDoor.Pl
namespace Go.Proofs.YtmcldkobejhaeaaGreatDoor.Pl
open Go.RowKit Go.Proofs.YtmcldkobejhaeaaGreatDoorW.PrintWords Go.Proofs.YtmcldkobejhaeaaGreatDoorW.PrintLast Go.Proofs.YtmcldkobejhaeaaGreatDoor.My
set_option linter.unusedVariables false
theorem sameTexts_l0 (l : List ByteArray) (hl : l.length ≤ 4611686018427387904) : ∀ d i, i + d = l.length → Ev (fun k => laws_sameTexts.l0 k l l (l.length : Int) (i : Int)) true := by
  intro d
  induction d with
  | zero => intro i hi; exact Ev.step (fun k => laws_sameTexts.l0.eq_2 ..) (ev_neg (by omega) (ev_some rfl))
  | succ d ih =>
    intro i hi
    refine Ev.step (fun k => laws_sameTexts.l0.eq_2 ..) (ev_pos (by omega) (ev_pos (by omega) (ev_pos (by omega) (ev_pos (by omega) (ev_pos rfl ?_)))))
    rw [wrap_succ i (by omega)]
    exact ih (i + 1) (by omega)
theorem sameTexts_self (l : List ByteArray) (hl : l.length ≤ 4611686018427387904) : Ev (fun k => laws_sameTexts.f k l l) true := by
  unfold laws_sameTexts.f
  exact ev_pos rfl (sameTexts_l0 l hl l.length 0 (by omega))

theorem sameHunks_l0 (h : List IH) (hl : h.length ≤ 4611686018427387904) (hs : ∀ x ∈ h, x.f2.length ≤ 4611686018427387904) : ∀ d i, i + d = h.length → Ev (fun k => laws_sameHunks.l0 k h h (h.length : Int) (i : Int)) true := by
  intro d
  induction d with
  | zero => intro i hi; exact Ev.step (fun k => laws_sameHunks.l0.eq_2 ..) (ev_neg (by omega) (ev_some rfl))
  | succ d ih =>
    intro i hi
    have hlt : i < h.length := by omega
    have hr : T60 h (i : Int) = h[i] := getD_lt h _ i hlt
    refine Ev.step (fun k => laws_sameHunks.l0.eq_2 ..) (ev_pos (by omega) (ev_pos (by omega) (ev_pos (by omega) (ev_pos (by omega) (ev_pos rfl (ev_pos rfl ?_))))))
    rw [wrap_succ i (by omega), hr]
    exact ev_bind (sameTexts_self _ (hs _ (List.getElem_mem _))) (ev_pos rfl (ih (i + 1) (by omega)))
theorem sameHunks_self (h : List IH) (hl : h.length ≤ 4611686018427387904) (hs : ∀ x ∈ h, x.f2.length ≤ 4611686018427387904) : Ev (fun k => laws_sameHunks.f k h h) true := by
  unfold laws_sameHunks.f
  exact ev_pos rfl (sameHunks_l0 h hl hs h.length 0 (by omega))
end Go.Proofs.YtmcldkobejhaeaaGreatDoor.Pl
namespace Go.Proofs.YtmcldkobejhaeaaGreatDoor.Pl
open Go.RowKit Go.Proofs.YtmcldkobejhaeaaGreatDoorW.PrintWords Go.Proofs.YtmcldkobejhaeaaGreatDoorW.PrintLast Go.Proofs.YtmcldkobejhaeaaGreatDoor.My
set_option linter.unusedVariables false
set_option linter.unusedSimpArgs false

end Go.Proofs.YtmcldkobejhaeaaGreatDoor.Pl
namespace Go.Proofs.YtmcldkobejhaeaaGreatDoor.Pl
open Go.RowKit Go.Proofs.YtmcldkobejhaeaaGreatDoorW.PrintWords Go.Proofs.YtmcldkobejhaeaaGreatDoorW.PrintLast Go.Proofs.YtmcldkobejhaeaaGreatDoor.My
set_option linter.unusedVariables false
theorem drawPatch_some (c : List Int) (hc : Bytes8 c) : ∃ l h, Ev (fun k => spec_DrawPatch.f k c) (l, h) ∧ SmT l ∧ SmA h := by
  simp only [spec_DrawPatch.f, spec_DrawPatch.g]
  obtain ⟨l, h, a2, s2, e, h2⟩ := hunked_some c hc 0 0 (by omega) (by omega)
  exact ⟨l, h, ev_bind (ev_bind e (ev_some rfl)) (ev_some rfl), h2.1, h2.2.1⟩
end Go.Proofs.YtmcldkobejhaeaaGreatDoor.Pl
namespace Go.Proofs.YtmcldkobejhaeaaGreatDoor.Pl
open Go.RowKit Go.Proofs.YtmcldkobejhaeaaGreatDoorW.PrintWords Go.Proofs.YtmcldkobejhaeaaGreatDoorW.PrintLast Go.Proofs.YtmcldkobejhaeaaGreatDoor.My
set_option linter.unusedVariables false
set_option linter.unusedSimpArgs false
theorem l5Lines_l0 (l : List ByteArray) (hf : FitS l) : ∀ d i, i + d = l.length → Ev (fun k => spec_l5Lines.l0 k l l (l.length : Int) (i : Int)) ((l.drop i).all isLn && (l.dropLast.drop i).all ends && decide (l.length ≤ 40)) := by
  intro d
  have hL := hf.1
  induction d with
  | zero =>
    intro i hi
    refine Ev.step (fun k => spec_l5Lines.l0.eq_2 ..) (ev_neg (by omega) (ev_some ?_))
    rw [List.drop_of_length_le (by omega), List.drop_of_length_le (by rw [List.length_dropLast]; omega)]
    simp
    omega
  | succ d ih =>
    intro i hi
    have hlt : i < l.length := by omega
    refine Ev.step (fun k => spec_l5Lines.l0.eq_2 ..) (ev_pos (by omega) (ev_pos (by omega) (ev_pos (by omega) ?_)))
    simp only [rdOf_lt _ _ _ hlt]
    rw [wrap_pred l.length (by omega) hL, wrap_succ i (by omega), drop_cons l i hlt, List.all_cons]
    refine ev_bind (l1Line_ev _ (hf.2 _ (List.getElem_mem _))) (ev_ite (fun h => ?_) (fun h => ev_some (by simp [h])))
    rw [h, Bool.true_and, l1Ends_eq _ (isLn_size h).1 (hf.2 _ (List.getElem_mem _))]
    simp only [Option.bind_some]
    refine ev_ite (fun h => ?_) (fun h => ?_)
    · have hd : l.dropLast.drop i = l[i] :: l.dropLast.drop (i + 1) := by
        rw [List.drop_eq_getElem_cons (by rw [List.length_dropLast]; omega), List.getElem_dropLast]
      rw [hd, List.all_cons]
      refine ev_ite (fun h => ?_) (fun h => ev_some (by simp [h]))
      rw [h, Bool.true_and]
      exact ih (i + 1) (by omega)
    · have e1 : l.dropLast.drop i = [] := List.drop_of_length_le (by rw [List.length_dropLast]; omega)
      have e2 : l.dropLast.drop (i + 1) = [] := List.drop_of_length_le (by rw [List.length_dropLast]; omega)
      have := ih (i + 1) (by omega)
      rw [e2] at this
      rw [e1]
      exact this
theorem l5Lines_ev (l : List ByteArray) (hf : FitS l) : Ev (fun k => spec_l5Lines.f k l) (good l) := by
  simp only [spec_l5Lines.f]
  refine ev_to (l5Lines_l0 l hf l.length 0 (by omega)) ?_
  rw [List.drop_zero, List.drop_zero]
  unfold good
  rw [Bool.and_comm]

def tellB (f t : Int) (l : List ByteArray) : Bool := if (l.length : Int) = 0 then f == t else if f ≥ 1 then wrap64 (wrap64 (t - f) + 1) == (l.length : Int) else false
def toldB (f t : Int) (l : List ByteArray) : Bool := inB f 0 1000 && (inB t 0 1000 && (good l && tellB f t l))
theorem isTold_ev (f t : Int) (l : List ByteArray) (hf : FitS l) : Ev (fun k => impl_isTold.f k f t l) (toldB f t l) := by
  simp only [impl_isTold.f, impl_in_eq, Option.bind_some]
  unfold toldB
  have fin : ∀ b, b = false → Ev (fun k => impl_isTold.j0 k f t l true) b := fun b hb => Ev.step (fun k => impl_isTold.j0.eq_2 ..) (ev_pos rfl (ev_some hb.symm))
  refine ev_ite (fun c => ?_) (fun c => fin _ (by rw [Bool.not_eq_true] at c; rw [c]; rfl))
  rw [c, Bool.true_and]
  refine ev_ite (fun c => ?_) (fun c => fin _ (by rw [Bool.not_eq_true] at c; rw [c]; rfl))
  rw [c, Bool.true_and]
  refine ev_bind (goodLines_ev l hf) (Ev.step (fun k => impl_isTold.j0.eq_2 ..) ?_)
  cases good l with
  | false => exact ev_pos rfl (ev_some rfl)
  | true =>
    rw [Bool.true_and]
    unfold tellB
    refine ev_neg (by simp) (ev_ite (fun e => ev_some (by rw [if_pos e])) (fun e => ?_))
    rw [if_neg e]
    exact ev_ite (fun e => ev_some (by rw [if_pos e])) (fun e => ev_some (by rw [if_neg e]))
theorem l5Side_ev (f t : Int) (l : List ByteArray) (hf : FitS l) : Ev (fun k => spec_l5Side.f k f t l) (toldB f t l) := by
  simp only [spec_l5Side.f, spec_l1In_eq, Option.bind_some]
  unfold toldB
  have fin : ∀ b, b = false → Ev (fun k => spec_l5Side.j0 k f t l true) b := fun b hb => Ev.step (fun k => spec_l5Side.j0.eq_2 ..) (ev_pos rfl (ev_some hb.symm))
  refine ev_ite (fun c => ?_) (fun c => fin _ (by rw [Bool.not_eq_true] at c; rw [c]; rfl))
  rw [c, Bool.true_and]
  refine ev_ite (fun c => ?_) (fun c => fin _ (by rw [Bool.not_eq_true] at c; rw [c]; rfl))
  rw [c, Bool.true_and]
  refine ev_bind (l5Lines_ev l hf) (Ev.step (fun k => spec_l5Side.j0.eq_2 ..) ?_)
  cases good l with
  | false => exact ev_pos rfl (ev_some rfl)
  | true =>
    rw [Bool.true_and]
    unfold tellB
    refine ev_neg (by simp) (ev_ite (fun e => ev_some (by rw [if_pos e, Bool.beq_comm])) (fun e => ?_))
    rw [if_neg e]
    exact ev_ite (fun e => ev_some (by rw [if_pos e])) (fun e => ev_some (by rw [if_neg e]))
theorem told_len {f t : Int} {l : List ByteArray} (h : toldB f t l = true) : l.length ≤ 40 := by
  unfold toldB at h
  rw [Bool.and_eq_true, Bool.and_eq_true, Bool.and_eq_true] at h
  exact good_len h.2.2.1
def stepB (x : IT) : Bool := toldB x.f0 x.f1 x.f2 && (toldB x.f3 x.f4 x.f5 && decide (0 < x.f2.length + x.f5.length))
theorem badStep_ev (x : IT) (hf : FitS x.f2 ∧ FitS x.f5) : Ev (fun k => impl_goodSteps_1.f k x.f0 x.f1 x.f2 x.f3 x.f4 x.f5) (!stepB x) := by
  simp only [impl_goodSteps_1.f]
  unfold stepB
  refine ev_bind (isTold_ev _ _ _ hf.1) (ev_ite (fun c => ?_) (fun c => ev_some (by rw [Bool.not_eq_true] at c; rw [c]; rfl)))
  refine ev_bind (isTold_ev _ _ _ hf.2) (ev_ite (fun c' => ev_some ?_) (fun c' => ev_some (by rw [Bool.not_eq_true] at c'; rw [c', c]; rfl)))
  have h1 := told_len c
  have h2 := told_len c'
  rw [c, c', wrap_add _ _ (by omega), Bool.true_and, Bool.true_and]
  by_cases e : 0 < x.f2.length + x.f5.length
  · rw [decide_eq_true e]
    simp only [Bool.not_true, beq_eq_false_iff_ne, ne_eq]
    omega
  · rw [decide_eq_false e, show x.f2.length + x.f5.length = 0 from by omega]
    rfl
theorem l5Step_ev (x : IT) (hf : FitS x.f2 ∧ FitS x.f5) : Ev (fun k => spec_l5Step.f k x.f0 x.f1 x.f2 x.f3 x.f4 x.f5) (stepB x) := by
  simp only [spec_l5Step.f]
  unfold stepB
  refine ev_bind (l5Side_ev _ _ _ hf.1) (ev_ite (fun c => ?_) (fun c => ev_some (by rw [Bool.not_eq_true] at c; rw [c]; rfl)))
  refine ev_bind (l5Side_ev _ _ _ hf.2) (ev_ite (fun c' => ev_some ?_) (fun c' => ev_some (by rw [Bool.not_eq_true] at c'; rw [c', c]; rfl)))
  have h1 := told_len c
  have h2 := told_len c'
  rw [c, c', wrap_add _ _ (by omega), Bool.true_and, Bool.true_and]
  by_cases e : 0 < x.f2.length + x.f5.length
  · rw [decide_eq_true e, decide_eq_true (by omega)]
  · rw [decide_eq_false e, decide_eq_false (by omega)]
def goodT (l : List IT) : Bool := decide (l.length ≤ 20) && l.all stepB
theorem goodSteps_l0 (l : List IT) (hf : FitIT l) : ∀ d i, i + d = l.length → ∃ j : Int, Ev (fun k => slices_IndexFunc_impl_Step_impl_Step__impl_goodSteps_1.l0 k l (l.length : Int) (i : Int)) j ∧ decide (j ≥ 0) = !((l.drop i).all stepB) := by
  intro d
  induction d with
  | zero =>
    intro i hi
    refine ⟨-1, Ev.step (fun k => slices_IndexFunc_impl_Step_impl_Step__impl_goodSteps_1.l0.eq_2 ..) (ev_neg (by omega) (ev_some rfl)), ?_⟩
    rw [List.drop_of_length_le (by omega)]
    rfl
  | succ d ih =>
    intro i hi
    have hlt : i < l.length := by omega
    have hev : Ev (fun k => impl_goodSteps_1.f k (T52 l (i : Int)).f0 (T52 l (i : Int)).f1 (T52 l (i : Int)).f2 (T52 l (i : Int)).f3 (T52 l (i : Int)).f4 (T52 l (i : Int)).f5) (!stepB l[i]) := by
      rw [rdIT l i hlt]
      exact badStep_ev _ (hf.2 _ (List.getElem_mem hlt))
    obtain ⟨j, hj, hjj⟩ := ih (i + 1) (by omega)
    rw [List.drop_eq_getElem_cons hlt, List.all_cons]
    by_cases h : stepB l[i] = true
    · refine ⟨j, Ev.step (fun k => slices_IndexFunc_impl_Step_impl_Step__impl_goodSteps_1.l0.eq_2 ..) (ev_pos (by omega) (ev_pos (by omega) (ev_pos (by omega) (ev_bind hev (ev_neg (by simp [h]) ?_))))), by rw [hjj, h]; simp⟩
      rw [wrap_succ i (by have := hf.1; omega)]
      exact hj
    · refine ⟨(i : Int), Ev.step (fun k => slices_IndexFunc_impl_Step_impl_Step__impl_goodSteps_1.l0.eq_2 ..) (ev_pos (by omega) (ev_pos (by omega) (ev_pos (by omega) (ev_bind hev (ev_pos (by simp [h]) (ev_some rfl)))))), ?_⟩
      simp [h]
theorem goodSteps_ev (l : List IT) (hf : FitIT l) : Ev (fun k => impl_goodSteps.f k l) (goodT l) := by
  simp only [impl_goodSteps.f]
  unfold goodT
  refine ev_ite (fun h => ?_) (fun h => ev_some ?_)
  · obtain ⟨j, hj, hjj⟩ := goodSteps_l0 l hf l.length 0 (by omega)
    simp only [slices_ContainsFunc_impl_Step_impl_Step__impl_goodSteps_1.f, slices_IndexFunc_impl_Step_impl_Step__impl_goodSteps_1.f]
    refine ev_bind (ev_bind hj (ev_some rfl)) (ev_some ?_)
    have : l.length ≤ 20 := by omega
    rw [hjj]
    simp [this]
  · have : ¬ l.length ≤ 20 := by omega
    simp [this]
theorem specGoodSteps_l0 (l : List IT) (hf : FitIT l) : ∀ d i, i + d = l.length → Ev (fun k => spec_GoodSteps.l0 k l l (l.length : Int) (i : Int)) ((l.drop i).all stepB && decide (l.length ≤ 20)) := by
  intro d
  have hL := hf.1
  induction d with
  | zero =>
    intro i hi
    refine Ev.step (fun k => spec_GoodSteps.l0.eq_2 ..) (ev_neg (by omega) (ev_some ?_))
    rw [List.drop_of_length_le (by omega)]
    simp
    omega
  | succ d ih =>
    intro i hi
    have hlt : i < l.length := by omega
    refine Ev.step (fun k => spec_GoodSteps.l0.eq_2 ..) (ev_pos (by omega) (ev_pos (by omega) (ev_pos (by omega) ?_)))
    simp only [rdIT _ _ hlt]
    rw [wrap_succ i (by omega), List.drop_eq_getElem_cons hlt, List.all_cons]
    refine ev_bind (l5Step_ev _ (hf.2 _ (List.getElem_mem _))) (ev_ite (fun h => ?_) (fun h => ev_some (by simp [h])))
    rw [h, Bool.true_and]
    exact ih (i + 1) (by omega)
theorem spec_GoodSteps_ev (l : List IT) (hf : FitIT l) : Ev (fun k => spec_GoodSteps.f k l) (goodT l) := by
  simp only [spec_GoodSteps.f]
  refine ev_to (specGoodSteps_l0 l hf l.length 0 (by omega)) ?_
  unfold goodT
  rw [List.drop_zero, Bool.and_comm]

theorem equalT_l0 (a b : List ByteArray) (hab : a.length = b.length) (hL : a.length ≤ 9223372036854775807) : ∀ d i, i + d = a.length → Ev (fun k => slices_Equal_string_string.l0 k a b (a.length : Int) (i : Int)) (decide (a.drop i = b.drop i)) := by
  intro d
  induction d with
  | zero =>
    intro i hi
    refine Ev.step (fun k => slices_Equal_string_string.l0.eq_2 ..) (ev_neg (by omega) (ev_some ?_))
    rw [List.drop_of_length_le (by omega), List.drop_of_length_le (by omega)]
    simp
  | succ d ih =>
    intro i hi
    have h1 : i < a.length := by omega
    have h2 : i < b.length := by omega
    refine Ev.step (fun k => slices_Equal_string_string.l0.eq_2 ..) (ev_pos (by omega) (ev_pos (by omega) (ev_pos (by omega) (ev_pos (by omega) ?_))))
    rw [rdOf_lt _ _ _ h1, rdOf_lt _ _ _ h2, drop_cons a i h1, drop_cons b i h2]
    refine ev_ite (fun h => ?_) (fun h => ev_some ?_)
    · rw [wrap_succ i (by omega)]
      refine ev_to (ih (i + 1) (by omega)) ?_
      rw [ba_ext h]
      simp only [List.cons.injEq, true_and]
    · have : ¬ a[i] = b[i] := fun e => h (by rw [e])
      simp only [List.cons.injEq, this, false_and, decide_false]
theorem equalT_ev (a b : List ByteArray) (hL : a.length ≤ 9223372036854775807) : Ev (fun k => slices_Equal_string_string.f k a b) (decide (a = b)) := by
  simp only [slices_Equal_string_string.f]
  refine ev_ite (fun h => ?_) (fun h => ev_some ?_)
  · exact equalT_l0 a b (by omega) hL a.length 0 (by omega)
  · have : ¬ a = b := fun e => h (by rw [e])
    simp [this]
theorem l1SameT_l0 (a b : List ByteArray) (hab : a.length = b.length) (hL : a.length ≤ 9223372036854775807) : ∀ d i, i + d = a.length → Ev (fun k => spec_l1SameT.l0 k a b (a.length : Int) (i : Int)) (decide (a.drop i = b.drop i)) := by
  intro d
  induction d with
  | zero =>
    intro i hi
    refine Ev.step (fun k => spec_l1SameT.l0.eq_2 ..) (ev_neg (by omega) (ev_some ?_))
    rw [List.drop_of_length_le (by omega), List.drop_of_length_le (by omega)]
    simp
  | succ d ih =>
    intro i hi
    have h1 : i < a.length := by omega
    have h2 : i < b.length := by omega
    refine Ev.step (fun k => spec_l1SameT.l0.eq_2 ..) (ev_pos (by omega) (ev_pos (by omega) (ev_pos (by omega) (ev_pos (by omega) ?_))))
    rw [rdOf_lt _ _ _ h1, rdOf_lt _ _ _ h2, drop_cons a i h1, drop_cons b i h2]
    refine ev_ite (fun h => ?_) (fun h => ev_some ?_)
    · rw [wrap_succ i (by omega)]
      refine ev_to (ih (i + 1) (by omega)) ?_
      rw [ba_ext h]
      simp only [List.cons.injEq, true_and]
    · have : ¬ a[i] = b[i] := fun e => h (by rw [e])
      simp only [List.cons.injEq, this, false_and, decide_false]
theorem l1SameT_ev (a b : List ByteArray) (hL : a.length ≤ 9223372036854775807) : Ev (fun k => spec_l1SameT.f k a b) (decide (a = b)) := by
  simp only [spec_l1SameT.f]
  refine ev_ite (fun h => ?_) (fun h => ev_some ?_)
  · exact l1SameT_l0 a b (by omega) hL a.length 0 (by omega)
  · have : ¬ a = b := fun e => h (by rw [e])
    simp [this]

structure StepIn (x : IT) : Prop where
  a0 : 0 ≤ x.f0 ∧ x.f0 ≤ 1000
  a1 : 0 ≤ x.f1 ∧ x.f1 ≤ 1000
  a3 : 0 ≤ x.f3 ∧ x.f3 ≤ 1000
  a4 : 0 ≤ x.f4 ∧ x.f4 ≤ 1000
  l2 : x.f2.length ≤ 40
  l5 : x.f5.length ≤ 40
  i2 : ∀ s ∈ x.f2, isLn s = true
  i5 : ∀ s ∈ x.f5, isLn s = true
theorem goodLn {l : List ByteArray} (h : good l = true) : ∀ s ∈ l, isLn s = true := by
  unfold good at h
  rw [Bool.and_eq_true, Bool.and_eq_true] at h
  exact fun s hs => List.all_eq_true.1 h.2.1 s hs
theorem stepIn_of {x : IT} (h : stepB x = true) : StepIn x := by
  unfold stepB at h
  rw [Bool.and_eq_true, Bool.and_eq_true] at h
  obtain ⟨h1, h2, _⟩ := h
  have e1 := told_len h1
  have e2 := told_len h2
  unfold toldB at h1 h2
  rw [Bool.and_eq_true, Bool.and_eq_true, Bool.and_eq_true, inB_iff, inB_iff] at h1 h2
  exact ⟨h1.1, h1.2.1, h2.1, h2.2.1, e1, e2, goodLn h1.2.2.1, goodLn h2.2.2.1⟩
theorem goodT_in {l : List IT} (h : goodT l = true) : l.length ≤ 20 ∧ ∀ x ∈ l, StepIn x := by
  unfold goodT at h
  rw [Bool.and_eq_true, decide_eq_true_eq, List.all_eq_true] at h
  exact ⟨h.1, fun x hx => stepIn_of (h.2 x hx)⟩
def hunkOf (x : IT) : IH := ⟨if 0 < x.f2.length then x.f0 - 1 else x.f0, (x.f2.length : Int), x.f5⟩
theorem l5Base_eq (a : Int) (l : List ByteArray) (h : -1000000 ≤ a ∧ a ≤ 1000000) : spec_l5Base.f a l = some (if 0 < l.length then a - 1 else a) := by
  unfold spec_l5Base.f
  by_cases c : 0 < l.length
  · rw [if_pos (by omega), if_pos c, wrap64_id (by omega) (by omega)]
  · rw [if_neg (by omega), if_neg c]
theorem fitH_of {p : List IT} (hp : p.length ≤ 20) (h : ∀ x ∈ p, StepIn x) : FitI (p.map hunkOf) := by
  refine ⟨by rw [List.length_map]; omega, fun y hy => ?_⟩
  obtain ⟨x, hx, rfl⟩ := List.mem_map.1 hy
  have q := h x hx
  have := q.a0
  have := q.l2
  have := q.l5
  refine ⟨?_, ⟨by simp only [hunkOf]; omega, by simp only [hunkOf]; omega⟩, by simp only [hunkOf]; omega, fun s hs => by have := (isLn_size (q.i5 s hs)).2; omega⟩
  simp only [hunkOf]
  split <;> omega
theorem hunksOf_l0 (p : List IT) (hp : p.length ≤ 20) (h : ∀ x ∈ p, StepIn x) : ∀ d i (acc : List IH), i + d = p.length → acc.length ≤ i →
    Ev (fun k => impl_hunksOf.l0 k acc p (p.length : Int) (i : Int)) (acc ++ (p.drop i).map hunkOf) := by
  intro d
  induction d with
  | zero =>
    intro i acc hi ha
    refine Ev.step (fun k => impl_hunksOf.l0.eq_2 ..) (ev_neg (by omega) (ev_some ?_))
    rw [List.drop_of_length_le (by omega)]
    simp
  | succ d ih =>
    intro i acc hi ha
    have hlt : i < p.length := by omega
    have q := h _ (List.getElem_mem hlt)
    have q0 := q.a0
    have q5 := q.l5
    refine Ev.step (fun k => impl_hunksOf.l0.eq_2 ..) (ev_pos (by omega) (ev_pos (by omega) (ev_pos (by omega) ?_)))
    rw [rdIT p i hlt, wrap_succ i (by omega), cloneT_eq _ (by omega)]
    simp only [Option.bind_some]
    have nx : ∀ y, y = hunkOf p[i] → Ev (fun k => impl_hunksOf.l0 k (acc ++ [y]) p (p.length : Int) ((i + 1 : Nat) : Int)) (acc ++ (p.drop i).map hunkOf) := by
      intro y hy
      refine ev_to (ih (i + 1) _ (by omega) (by rw [List.length_append, List.length_singleton]; omega)) ?_
      rw [List.drop_eq_getElem_cons hlt, List.map_cons, List.append_assoc, hy]
      rfl
    refine ev_ite (fun c => ev_pos (by omega) (nx _ ?_)) (fun c => ev_pos (by omega) (nx _ ?_))
    · unfold hunkOf
      rw [if_pos (by omega), wrap64_id (by omega) (by omega)]
    · unfold hunkOf
      rw [if_neg (by omega)]
theorem far_l0 (n : Int) (p : List IT) (hp : p.length ≤ 20) : ∀ d i, i + d = p.length → ∃ j : Int, Ev (fun k => stepsIx.l0 n k p (p.length : Int) (i : Int)) j ∧ decide (j ≥ 0) = (p.drop i).any (fun x => decide (x.f1 > n)) := by
  intro d
  induction d with
  | zero =>
    intro i hi
    refine ⟨-1, Ev.step (fun k => stepsIx.l0.eq_2 ..) (ev_neg (by omega) (ev_some rfl)), ?_⟩
    rw [List.drop_of_length_le (by omega)]
    rfl
  | succ d ih =>
    intro i hi
    have hlt : i < p.length := by omega
    obtain ⟨j, hj, hjj⟩ := ih (i + 1) (by omega)
    rw [List.drop_eq_getElem_cons hlt, List.any_cons]
    by_cases c : p[i].f1 > n
    · refine ⟨(i : Int), Ev.step (fun k => stepsIx.l0.eq_2 ..) (ev_pos (by omega) (ev_pos (by omega) (ev_pos (by omega) ?_))), ?_⟩
      · rw [rdIT p i hlt]
        simp only [stepsFar.f, Option.bind_some]
        exact ev_pos (decide_eq_true c) (ev_some rfl)
      · rw [decide_eq_true c, Bool.true_or]
        simp
    · refine ⟨j, Ev.step (fun k => stepsIx.l0.eq_2 ..) (ev_pos (by omega) (ev_pos (by omega) (ev_pos (by omega) ?_))), ?_⟩
      · rw [rdIT p i hlt, wrap_succ i (by omega)]
        simp only [stepsFar.f, Option.bind_some]
        exact ev_neg (by rw [decide_eq_false c]; simp) hj
      · rw [decide_eq_false c, Bool.false_or]
        exact hjj
def farB (n : Int) (p : List IT) : Bool := p.any (fun x => decide (x.f1 > n))
theorem far_ev (n : Int) (p : List IT) (hp : p.length ≤ 20) : Ev (fun k => stepsCF.f k n p) (farB n p) := by
  obtain ⟨j, hj, hjj⟩ := far_l0 n p hp p.length 0 (by omega)
  simp only [stepsCF.f, stepsIx.f]
  exact ev_bind hj (ev_some hjj)
def sameFrom (a : List ByteArray) : Int → List IT → Bool
  | _, [] => true
  | s, x :: t => decide ((stepOne a s (hunkOf x)).f2 = x.f2) && (decide ((stepOne a s (hunkOf x)).f3 = x.f3) && sameFrom a (s + ((x.f5.length : Int) - (x.f2.length : Int))) t)
def restR (H : List IH) (b : Bool) : List IH × Int × Bool := if b = true then (H, 0, true) else ([], 2, true)
theorem implSame_l0 (a : List ByteArray) (p : List IT) (H : List IH) (hp : p.length ≤ 20) (h : ∀ x ∈ p, StepIn x) : ∀ d i (s : Int) (S : List IT), i + d = p.length → S.length = p.length → S.drop i = stepsFrom a s ((p.drop i).map hunkOf) → (∀ y ∈ S, y.f2.length ≤ 40) →
    Ev (fun k => impl_StepsHunks.l0 k p H S (S.length : Int) (i : Int)) (restR H (sameFrom a s (p.drop i))) := by
  intro d
  induction d with
  | zero =>
    intro i s S hi hl hS h2
    refine Ev.step (fun k => impl_StepsHunks.l0.eq_2 ..) (ev_neg (by omega) (ev_some ?_))
    rw [List.drop_of_length_le (by omega)]
    rfl
  | succ d ih =>
    intro i s S hi hl hS h2
    have hlt : i < p.length := by omega
    have hlS : i < S.length := by omega
    rw [List.drop_eq_getElem_cons hlt, List.map_cons, List.drop_eq_getElem_cons hlS] at hS
    simp only [stepsFrom, List.cons.injEq] at hS
    have hm := h2 _ (List.getElem_mem hlS)
    refine Ev.step (fun k => impl_StepsHunks.l0.eq_2 ..) (ev_pos (by omega) (ev_pos (by omega) (ev_pos (by omega) (ev_pos (by omega) ?_))))
    rw [rdIT p i hlt, rdIT S i hlS, wrap_succ i (by omega), List.drop_eq_getElem_cons hlt]
    refine ev_bind (equalT_ev S[i].f2 p[i].f2 (by omega)) ?_
    rw [hS.1]
    simp only [sameFrom]
    refine ev_ite (fun c => ev_ite (fun c2 => ?_) (fun c2 => ev_some ?_)) (fun c => ev_some ?_)
    · rw [c, decide_eq_true c2, Bool.true_and, Bool.true_and]
      exact ih (i + 1) _ S (by omega) hl hS.2 h2
    · rw [decide_eq_false c2, Bool.false_and, Bool.and_false]
      rfl
    · rw [Bool.not_eq_true] at c
      rw [c, Bool.false_and]
      rfl
def stepsHunksR (a : List ByteArray) (p : List IT) : List IH × Int × Bool :=
  if good a = true ∧ goodT p = true then (if farB a.length p = true ∨ goodH a.length (p.map hunkOf) = false then ([], 3, true) else restR (p.map hunkOf) (sameFrom a 0 p)) else ([], 0, false)
theorem impl_StepsHunks_ev (a : List ByteArray) (p : List IT) (fa : FitS a) (fp : FitIT p) : Ev (fun k => impl_StepsHunks.f k a p) (stepsHunksR a p) := by
  simp only [impl_StepsHunks.f]
  unfold stepsHunksR
  have bad : ∀ b, b = true → Ev (fun k => impl_StepsHunks.j0 k p a b) (([] : List IH), 0, false) := fun b hb => Ev.step (fun k => impl_StepsHunks.j0.eq_2 ..) (ev_pos hb (ev_some rfl))
  refine ev_bind (goodLines_ev a fa) (ev_ite (fun c => ev_bind (goodSteps_ev p fp) ?_) (fun c => ?_))
  · cases c2 : goodT p with
    | false =>
      rw [if_neg (fun e => by cases e.2)]
      exact bad _ rfl
    | true =>
      rw [if_pos ⟨c, rfl⟩]
      obtain ⟨hp, hin⟩ := goodT_in c2
      have hf := fitH_of hp hin
      have ha := good_len c
      refine Ev.step (fun k => impl_StepsHunks.j0.eq_2 ..) (ev_neg (by simp) ?_)
      have e1 : Ev (fun k => impl_hunksOf.f k p) (p.map hunkOf) := by
        simp only [impl_hunksOf.f]
        exact ev_to (hunksOf_l0 p hp hin p.length 0 [] (by omega) (Nat.le_refl _)) (by simp)
      have far3 : ∀ b, b = true → Ev (fun k => impl_StepsHunks.j1 k p a (p.map hunkOf) b) (([] : List IH), 3, true) := fun b hb => Ev.step (fun k => impl_StepsHunks.j1.eq_2 ..) (ev_pos hb (ev_some rfl))
      refine ev_bind e1 (ev_bind (far_ev a.length p hp) (ev_ite (fun c3 => ?_) (fun c3 => ev_bind (goodHunks_ev _ _ hf) ?_)))
      · rw [if_pos (.inl c3)]
        exact far3 _ rfl
      · cases c4 : goodH a.length (p.map hunkOf) with
        | false =>
          rw [if_pos (.inr rfl)]
          exact far3 _ rfl
        | true =>
          rw [if_neg (by rintro (e | e); exact c3 e; cases e)]
          have c4' := c4
          unfold goodH at c4'
          rw [Bool.and_eq_true, Bool.and_eq_true] at c4'
          have hS : Ev (fun k => impl_stepsOf.f k a (p.map hunkOf)) (stepsFrom a 0 (p.map hunkOf)) := by
            simp only [impl_stepsOf.f]
            exact ev_to (steps_l0 a (p.map hunkOf) ha (by rw [List.length_map]; exact hp) (p.map hunkOf).length 0 (-1) 0 [] (by omega) c4'.2.2 (by omega) (by omega) (Nat.zero_le _)) (by simp)
          refine Ev.step (fun k => impl_StepsHunks.j1.eq_2 ..) (ev_neg (by simp) (ev_bind hS ?_))
          exact implSame_l0 a p _ hp hin p.length 0 0 _ (by omega) (by rw [stepsFrom_len, List.length_map]) rfl (fun y hy => by have := (stepsFrom_mem a _ _ y hy).1; omega)
  · rw [if_neg (fun e => c e.1)]
    exact bad _ rfl
theorem specSame_l1 (a : List ByteArray) (ha : a.length ≤ 40) (p : List IT) (hp : p.length ≤ 20) (h : ∀ x ∈ p, StepIn x) (hn : near (p.map hunkOf)) : ∀ d i (q s : Int), i + d = p.length → chain a.length q ((p.map hunkOf).drop i) = true → -40 * (i : Int) ≤ s → s ≤ 40 * (i : Int) →
    Ev (fun k => spec_l5Hunks.l1 k a (p.map hunkOf) s p (p.length : Int) (i : Int)) (if sameFrom a s (p.drop i) = true then (p.map hunkOf, 0) else ([], 2)) := by
  intro d
  induction d with
  | zero =>
    intro i q s hi hc s0 s1
    refine Ev.step (fun k => spec_l5Hunks.l1.eq_2 ..) (ev_neg (by omega) (ev_some ?_))
    rw [List.drop_of_length_le (by omega)]
    rfl
  | succ d ih =>
    intro i q s hi hc s0 s1
    have hlt : i < p.length := by omega
    have hlm : i < (p.map hunkOf).length := by rw [List.length_map]; exact hlt
    have hg : (p.map hunkOf)[i] = hunkOf p[i] := List.getElem_map ..
    have q5 := h _ (List.getElem_mem hlt)
    have q3 := q5.a3
    have ql5 := q5.l5
    have ql2 := q5.l2
    rw [List.drop_eq_getElem_cons hlm, hg] at hc
    simp only [chain, hOK, Bool.and_eq_true, decide_eq_true_eq] at hc
    obtain ⟨⟨⟨c0, c1, c2, c4, c5, c3⟩, c6⟩, hc'⟩ := hc
    have hb := hn _ (List.getElem_mem hlm)
    rw [hg] at hb
    have ef1 : (hunkOf p[i]).f1 = (p[i].f2.length : Int) := rfl
    refine Ev.step (fun k => spec_l5Hunks.l1.eq_2 ..) (ev_pos (by omega) (ev_pos (by omega) (ev_pos (by omega) (ev_pos (by omega) ?_))))
    rw [rdIT p i hlt, rdIH _ i hlm, hg, wrap_succ i (by omega), wrap64_id (x := (hunkOf p[i]).f0 + (hunkOf p[i]).f1) (by omega) (by omega), l5Base_eq _ _ (by omega), wrap64_id (x := (hunkOf p[i]).f0 + s) (by omega) (by omega),
      wrap64_id (x := (p[i].f5.length : Int) - (hunkOf p[i]).f1) (by omega) (by omega), wrap64_id (x := s + ((p[i].f5.length : Int) - (hunkOf p[i]).f1)) (by omega) (by omega)]
    simp only [Option.bind_some]
    refine ev_pos c0 (ev_pos (by omega) (ev_pos c2 (ev_bind (l1SameT_ev _ p[i].f2 (by rw [List.length_drop, List.length_take]; omega)) ?_)))
    have es : sameFrom a s (p.drop i) = (decide ((a.take ((hunkOf p[i]).f0 + (hunkOf p[i]).f1).toNat).drop (hunkOf p[i]).f0.toNat = p[i].f2) && (decide (numI ((hunkOf p[i]).f0 + s) (p[i].f5.length : Int) = p[i].f3) && sameFrom a (s + ((p[i].f5.length : Int) - (hunkOf p[i]).f1)) (p.drop (i + 1)))) := by
      rw [List.drop_eq_getElem_cons hlt]
      rfl
    rw [es]
    have key : ((if 0 < p[i].f5.length then p[i].f3 - 1 else p[i].f3) = (hunkOf p[i]).f0 + s) ↔ numI ((hunkOf p[i]).f0 + s) (p[i].f5.length : Int) = p[i].f3 := by
      unfold numI
      by_cases c : 0 < p[i].f5.length
      · rw [if_pos c, if_pos (by omega)]; omega
      · rw [if_neg c, if_neg (by omega)]; omega
    refine ev_ite (fun d1 => ev_ite (fun d2 => ?_) (fun d2 => ev_some ?_)) (fun d1 => ev_some ?_)
    · rw [d1, decide_eq_true (key.1 d2), Bool.true_and, Bool.true_and]
      exact ih (i + 1) _ _ (by omega) hc' (by omega) (by omega)
    · rw [decide_eq_false (fun e => d2 (key.2 e)), Bool.false_and, Bool.and_false]
      rfl
    · rw [Bool.not_eq_true] at d1
      rw [d1, Bool.false_and]
      rfl
theorem specHunks_l0 (a : List ByteArray) (ha : a.length ≤ 40) (p : List IT) (hp : p.length ≤ 20) (h : ∀ x ∈ p, StepIn x) : ∀ d i, i + d = p.length →
    Ev (fun k => spec_l5Hunks.l0 k a p ((p.take i).map hunkOf) p (p.length : Int) (i : Int)) (if farB a.length (p.drop i) = true ∨ goodH a.length (p.map hunkOf) = false then ([], 3) else if sameFrom a 0 p = true then (p.map hunkOf, 0) else ([], 2)) := by
  intro d
  induction d with
  | zero =>
    intro i hi
    have hf := fitH_of hp h
    refine Ev.step (fun k => spec_l5Hunks.l0.eq_2 ..) (ev_neg (by omega) ?_)
    rw [List.drop_of_length_le (by omega), List.take_of_length_le (by omega)]
    refine ev_bind (l2Hunks_ev _ _ hf (by omega) (by omega)) ?_
    cases c4 : goodH a.length (p.map hunkOf) with
    | false =>
      rw [if_pos (.inr rfl)]
      exact ev_neg (by simp) (ev_some rfl)
    | true =>
      rw [if_neg (by rintro (e | e); cases e; cases e)]
      refine ev_pos rfl ?_
      obtain ⟨n1, n2, n3, n4⟩ := near_of_good c4
      unfold goodH at c4
      rw [Bool.and_eq_true, Bool.and_eq_true] at c4
      exact ev_to (specSame_l1 a ha p hp h n1 p.length 0 (-1) 0 (by omega) c4.2.2 (by omega) (by omega)) (by rw [List.drop_zero])
  | succ d ih =>
    intro i hi
    have hlt : i < p.length := by omega
    have q := h _ (List.getElem_mem hlt)
    have q0 := q.a0
    have q5 := q.l5
    refine Ev.step (fun k => spec_l5Hunks.l0.eq_2 ..) (ev_pos (by omega) (ev_pos (by omega) (ev_pos (by omega) ?_)))
    rw [rdIT p i hlt, wrap_succ i (by omega), l5Base_eq _ _ (by omega), ownT_eq _ (by omega)]
    simp only [Option.bind_some]
    have ed : farB a.length (p.drop i) = (decide (p[i].f1 > (a.length : Int)) || farB a.length (p.drop (i + 1))) := by
      unfold farB
      rw [List.drop_eq_getElem_cons hlt, List.any_cons]
    refine ev_ite (fun c => ev_some ?_) (fun c => ev_pos (by rw [List.length_map, List.length_take]; omega) ?_)
    · rw [if_pos (.inl (by rw [ed, decide_eq_true c, Bool.true_or]))]
    · rw [ed, decide_eq_false c, Bool.false_or]
      have e : (p.take i).map hunkOf ++ [(⟨if 0 < p[i].f2.length then p[i].f0 - 1 else p[i].f0, (p[i].f2.length : Int), p[i].f5⟩ : IH)] = (p.take (i + 1)).map hunkOf := by
        rw [List.take_succ_eq_append_getElem hlt, List.map_append]
        rfl
      rw [e]
      exact ih (i + 1) (by omega)
theorem spec_StepsHunks_ev (a : List ByteArray) (p : List IT) (fa : FitS a) (fp : FitIT p) : Ev (fun k => spec_StepsHunks.f k a p) (stepsHunksR a p) := by
  simp only [spec_StepsHunks.f]
  unfold stepsHunksR
  refine ev_bind (l1Good_ev a fa) (ev_ite (fun c => ev_bind (spec_GoodSteps_ev p fp) (ev_ite (fun c2 => ?_) (fun c2 => ev_some ?_))) (fun c => ev_some ?_))
  · rw [if_pos ⟨c, c2⟩]
    obtain ⟨hp, hin⟩ := goodT_in c2
    simp only [spec_l5Hunks.f]
    refine ev_bind (specHunks_l0 a (good_len c) p hp hin p.length 0 (by omega)) (ev_some ?_)
    rw [List.drop_zero]
    unfold restR
    split
    · rfl
    · split <;> rfl
  · rw [if_neg (fun e => c2 e.2)]
  · rw [if_neg (fun e => c e.1)]
theorem stepsHunksR_small (a : List ByteArray) (p : List IT) : (stepsHunksR a p).1.length ≤ 20 ∧ ∀ x ∈ (stepsHunksR a p).1, x.f2.length ≤ 40 := by
  unfold stepsHunksR
  split
  · rename_i c
    obtain ⟨hp, hin⟩ := goodT_in c.2
    split
    · exact ⟨Nat.zero_le _, fun x hx => by cases hx⟩
    · unfold restR
      split
      · refine ⟨by simp only [List.length_map]; exact hp, fun x hx => ?_⟩
        obtain ⟨y, hy, rfl⟩ := List.mem_map.1 hx
        exact (hin y hy).l5
      · exact ⟨Nat.zero_le _, fun x hx => by cases hx⟩
  · exact ⟨Nat.zero_le _, fun x hx => by cases hx⟩
theorem stepsHunksR_fitI (a : List ByteArray) (p : List IT) : FitI (stepsHunksR a p).1 := by
  unfold stepsHunksR
  have nil : FitI ([] : List IH) := ⟨Nat.zero_le _, fun x hx => by cases hx⟩
  split
  · rename_i c
    obtain ⟨hp, hin⟩ := goodT_in c.2
    split
    · exact nil
    · unfold restR
      split
      · exact fitH_of hp hin
      · exact nil
  · exact nil

def applyR (a : List ByteArray) (p : List IT) : List ByteArray × Int × Bool :=
  if (stepsHunksR a p).2.2 = true ∧ (stepsHunksR a p).2.1 = 0 then (if (patchR a (stepsHunksR a p).1).2 = true then ((patchR a (stepsHunksR a p).1).1, 0, true) else ([], 2, true)) else ([], (stepsHunksR a p).2.1, (stepsHunksR a p).2.2)
theorem code_pos (a : List ByteArray) (p : List IT) : 0 ≤ (stepsHunksR a p).2.1 := by
  unfold stepsHunksR
  split
  · split
    · decide
    · unfold restR
      split <;> simp
  · decide
theorem impl_ApplySteps_ev (a : List ByteArray) (p : List IT) (fa : FitS a) (fp : FitIT p) : Ev (fun k => impl_ApplySteps.f k a p) (applyR a p) := by
  simp only [impl_ApplySteps.f]
  unfold applyR
  refine ev_bind (impl_StepsHunks_ev a p fa fp) (ev_ite (fun c => ?_) (fun c => ?_))
  · cases c2 : ((stepsHunksR a p).2.1 != 0) with
    | true =>
      have hne : ¬ (stepsHunksR a p).2.1 = 0 := by simpa using c2
      rw [if_neg (fun e => hne e.2)]
      exact Ev.step (fun k => impl_ApplySteps.j0.eq_2 ..) (ev_pos rfl (ev_some rfl))
    | false =>
      have he : (stepsHunksR a p).2.1 = 0 := by simpa using c2
      rw [if_pos ⟨c, he⟩]
      exact Ev.step (fun k => impl_ApplySteps.j0.eq_2 ..) (ev_neg (by simp) (ev_bind (impl_Patch_ev a _ fa (stepsHunksR_fitI a p)) (ev_ite (fun c3 => ev_some (by rw [if_pos c3])) (fun c3 => ev_some (by rw [if_neg c3])))))
  · rw [if_neg (fun e => c e.1)]
    exact Ev.step (fun k => impl_ApplySteps.j0.eq_2 ..) (ev_pos rfl (ev_some rfl))
theorem spec_ApplySteps_ev (a : List ByteArray) (p : List IT) (fa : FitS a) (fp : FitIT p) : Ev (fun k => spec_ApplySteps.f k a p) (applyR a p) := by
  simp only [spec_ApplySteps.f]
  unfold applyR
  have hp := code_pos a p
  refine ev_bind (spec_StepsHunks_ev a p fa fp) (ev_ite (fun c => ?_) (fun c => ?_))
  · by_cases c2 : (stepsHunksR a p).2.1 > 0
    · rw [if_neg (fun e => by omega), decide_eq_true c2]
      exact Ev.step (fun k => spec_ApplySteps.j0.eq_2 ..) (ev_pos rfl (ev_some rfl))
    · rw [if_pos ⟨c, by omega⟩, decide_eq_false c2]
      exact Ev.step (fun k => spec_ApplySteps.j0.eq_2 ..) (ev_neg (by simp) (ev_bind (spec_Patch_ev a _ fa (stepsHunksR_fitI a p)) (ev_ite (fun c3 => ev_some (by rw [if_pos c3])) (fun c3 => ev_some (by rw [if_neg c3])))))
  · rw [if_neg (fun e => c e.1)]
    exact Ev.step (fun k => spec_ApplySteps.j0.eq_2 ..) (ev_pos rfl (ev_some rfl))
theorem applyR_len (a : List ByteArray) (p : List IT) : (applyR a p).1.length ≤ 40 := by
  unfold applyR
  split
  · split
    · exact patchR_small _ _
    · exact Nat.zero_le _
  · exact Nat.zero_le _

theorem hunkOf_step (a : List ByteArray) (s : Int) (x : IH) (h : hNum (a.length : Int) (-1) x) : hunkOf (stepOne a s x) = x := by
  obtain ⟨h0, h1, h2, _, _, _⟩ := h
  have e : ((a.take (x.f0 + x.f1).toNat).drop x.f0.toNat).length = x.f1.toNat := by rw [List.length_drop, List.length_take]; omega
  cases x with
  | mk f0 f1 f2 =>
    simp only [hunkOf, stepOne, numI] at *
    rw [e]
    congr 1
    · split <;> split <;> omega
    · omega
theorem hunks_steps (a : List ByteArray) : ∀ (h : List IH) (s p : Int), -1 ≤ p → chain (a.length : Int) p h = true → (stepsFrom a s h).map hunkOf = h
  | [], _, _, _, _ => rfl
  | x :: t, s, p, hp, hc => by
    simp only [chain, Bool.and_eq_true, hOK, decide_eq_true_eq] at hc
    obtain ⟨⟨hn, _⟩, hc⟩ := hc
    have hn' := hn
    obtain ⟨h0, h1, h2, h3, h4, h5⟩ := hn
    simp only [stepsFrom, List.map_cons]
    rw [hunkOf_step a s x ⟨h0, h1, h2, h3, h4, by omega⟩, hunks_steps a t _ (x.f0 + x.f1) (by omega) hc]
theorem good_mid {p m s : List ByteArray} (h : good (p ++ (m ++ s)) = true) : good m = true := by
  unfold good at h ⊢
  rw [Bool.and_eq_true, Bool.and_eq_true, decide_eq_true_eq, List.all_eq_true, List.all_eq_true] at h ⊢
  obtain ⟨h1, h2, h3⟩ := h
  refine ⟨by simp only [List.length_append] at h1; omega, fun x hx => h2 x (by simp [hx]), fun x hx => h3 x ?_⟩
  have hm : m ≠ [] := by rintro rfl; cases hx
  cases s with
  | nil =>
    rw [List.append_nil, List.dropLast_append_of_ne_nil hm]
    exact List.mem_append_right _ hx
  | cons y t =>
    rw [← List.append_assoc, List.dropLast_append_of_ne_nil (by simp)]
    exact List.mem_append_left _ (List.mem_append_right _ (List.dropLast_subset m hx))
theorem patch_mid (a : List ByteArray) (x : IH) : ∀ (h : List IH) (p : Nat), x ∈ h → ∃ u v, patchFrom a p h = u ++ (x.f2 ++ v)
  | y :: t, p, hx => by
    rcases List.mem_cons.1 hx with rfl | hx
    · exact ⟨_, _, rfl⟩
    · obtain ⟨u, v, e⟩ := patch_mid a x t (y.f0 + y.f1).toNat hx
      refine ⟨(a.take y.f0.toNat).drop p ++ (y.f2 ++ u), v, ?_⟩
      simp only [patchFrom, e, List.append_assoc]
theorem good_seg {a : List ByteArray} (h : good a = true) (i j : Nat) : good ((a.take j).drop i) = true := by
  refine good_mid (p := (a.take j).take i) (s := a.drop j) ?_
  rw [← List.append_assoc, List.take_append_drop, List.take_append_drop]
  exact h
theorem told_of {f t : Int} {l : List ByteArray} (hf : 0 ≤ f ∧ f ≤ 1000) (ht : 0 ≤ t ∧ t ≤ 1000) (hg : good l = true) (h0 : 0 ≤ t - (l.length : Int)) (h : f = numI (t - (l.length : Int)) (l.length : Int)) : toldB f t l = true := by
  unfold toldB tellB numI at *
  rw [(inB_iff ..).2 hf, (inB_iff ..).2 ht, hg]
  simp only [Bool.true_and]
  by_cases c : (l.length : Int) = 0
  · rw [if_pos c]
    rw [if_neg (by omega)] at h
    simp only [beq_iff_eq]
    omega
  · rw [if_pos (by omega)] at h
    have := good_len hg
    rw [if_neg c, if_pos (by omega), wrap64_id (x := t - f) (by omega) (by omega), wrap64_id (by omega) (by omega)]
    simp only [beq_iff_eq]
    omega
theorem steps_good (a : List ByteArray) (ga : good a = true) (ha : a.length ≤ 40) : ∀ (h : List IH) (s p : Int), -1 ≤ p → -1 ≤ p + s → s + 40 * (h.length : Int) ≤ 800 → chain (a.length : Int) p h = true → (∀ x ∈ h, good x.f2 = true) →
    (stepsFrom a s h).all stepB = true ∧ farB a.length (stepsFrom a s h) = false ∧ sameFrom a s (stepsFrom a s h) = true
  | [], _, _, _, _, _, _, _ => ⟨rfl, rfl, rfl⟩
  | x :: t, s, p, hp, hq, hs, hc, hg => by
    simp only [chain, Bool.and_eq_true, hOK, decide_eq_true_eq] at hc
    obtain ⟨⟨hn, _⟩, hc⟩ := hc
    obtain ⟨h0, h1, h2, h3, h4, h5⟩ := hn
    rw [List.length_cons] at hs
    have e : ((a.take (x.f0 + x.f1).toNat).drop x.f0.toNat).length = x.f1.toNat := by rw [List.length_drop, List.length_take]; omega
    obtain ⟨i1, i2, i3⟩ := steps_good a ga ha t (s + ((x.f2.length : Int) - x.f1)) (x.f0 + x.f1) (by omega) (by omega) (by omega) hc (fun y hy => hg y (List.mem_cons_of_mem _ hy))
    have hh := hunkOf_step a s x ⟨h0, h1, h2, h3, h4, by omega⟩
    have b1 : stepB (stepOne a s x) = true := by
      unfold stepB stepOne
      have n1 : numI x.f0 x.f1 = if x.f1 > 0 then x.f0 + 1 else x.f0 := rfl
      have n2 : numI (x.f0 + s) (x.f2.length : Int) = if (x.f2.length : Int) > 0 then x.f0 + s + 1 else x.f0 + s := rfl
      have t1 : toldB (numI x.f0 x.f1) (x.f0 + x.f1) ((a.take (x.f0 + x.f1).toNat).drop x.f0.toNat) = true := by
        refine told_of ?_ (by omega) (good_seg ga _ _) (by rw [e]; omega) ?_
        · rw [n1]; split <;> omega
        · rw [e, show x.f0 + x.f1 - ((x.f1.toNat : Nat) : Int) = x.f0 from by omega, show ((x.f1.toNat : Nat) : Int) = x.f1 from by omega]
      have t2 : toldB (numI (x.f0 + s) (x.f2.length : Int)) (x.f0 + s + (x.f2.length : Int)) x.f2 = true := by
        refine told_of ?_ (by omega) (hg x (List.mem_cons_self ..)) (by omega) ?_
        · rw [n2]; split <;> omega
        · rw [show x.f0 + s + (x.f2.length : Int) - (x.f2.length : Int) = x.f0 + s from by omega]
      simp only [t1, t2, Bool.true_and, decide_eq_true_eq, e]
      omega
    refine ⟨?_, ?_, ?_⟩
    · simp only [stepsFrom, List.all_cons, b1, i1, Bool.and_self]
    · simp only [stepsFrom, farB, List.any_cons]
      unfold farB at i2
      rw [i2, Bool.or_false, decide_eq_false_iff_not]
      simp only [stepOne]
      omega
    · simp only [stepsFrom, sameFrom, hh, decide_true, Bool.true_and]
      have e5 : (stepOne a s x).f5 = x.f2 := rfl
      have e2 : ((stepOne a s x).f2.length : Int) = x.f1 := by
        simp only [stepOne, e]
        omega
      rw [e5, e2]
      exact i3
theorem steps_law {a : List ByteArray} {h : List IH} (c : (patchR a h).2 = true) : goodT (stepsR a h).1 = true ∧ stepsHunksR a (stepsR a h).1 = (h, 0, true) ∧ applyR a (stepsR a h).1 = ((patchR a h).1, 0, true) := by
  obtain ⟨c1, c2, c3, c4⟩ := asked_of (patchR_asked c)
  have ca := patchR_asked c
  unfold asked at ca
  rw [Bool.and_eq_true] at ca
  have gp : good (patchFrom a 0 h) = true := by
    unfold patchR at c
    split at c
    · rename_i e; exact e.2
    · cases c
  have e0 : (stepsR a h).1 = stepsFrom a 0 h := by unfold stepsR; rw [if_pos c]
  obtain ⟨i1, i2, i3⟩ := steps_good a ca.1 c1 h 0 (-1) (by omega) (by omega) (by omega) c4 (fun x hx => by
    obtain ⟨u, v, e⟩ := patch_mid a x h 0 hx
    rw [e] at gp
    exact good_mid gp)
  have eh := hunks_steps a h 0 (-1) (by omega) c4
  have gt : goodT (stepsFrom a 0 h) = true := by
    unfold goodT
    rw [i1, stepsFrom_len, decide_eq_true c2]
    rfl
  have e1 : stepsHunksR a (stepsFrom a 0 h) = (h, 0, true) := by
    unfold stepsHunksR
    rw [if_pos ⟨ca.1, gt⟩, eh, if_neg (by rintro (e | e); (rw [i2] at e; cases e); (rw [ca.2] at e; cases e)), i3]
    rfl
  rw [e0]
  refine ⟨gt, e1, ?_⟩
  unfold applyR
  rw [e1, if_pos ⟨rfl, rfl⟩, if_pos c]

def num (n : Nat) : ByteArray := ⟨(Lib.decDigits n).toArray⟩
theorem num_data (n : Nat) : (num n).data.toList = Lib.decDigits n := rfl
theorem num_size (n : Nat) (h : n < 18446744073709551616) : (num n).size ≤ 20 := by
  have h1 : (num n).size = (Lib.decDigits n).length := by rw [← data_length, num_data]
  rw [h1, Lib.decDigits_length]
  exact Lib.nDigits_le20 n h
theorem itoa_eq (n : Nat) (h : n ≤ 9223372036854775807) : strconv_Itoa_115.f (n : Int) = some (num n) := by
  unfold strconv_Itoa_115.f
  rw [if_pos (by omega), Lib.itoa_nonneg]
  rfl
theorem digit_eq (d : Nat) (h : d < 10) : strOfNums [(wrap64 (48 + (d : Int))) % 256] = ⟨#[UInt8.ofNat (48 + d)]⟩ := by
  rw [wrap64_id (by omega) (by omega)]
  have e : ((48 + (d : Int)) % 256) = ((48 + d : Nat) : Int) := by omega
  rw [e]
  unfold strOfNums
  rw [List.map_cons, List.map_nil, Int.toNat_natCast]
theorem l1Num_ev : ∀ (n : Nat), n ≤ 4611686018427387904 → Ev (fun k => spec_l1Num.f k (n : Int)) (num n) := by
  intro n
  induction n using Nat.strongRecOn with
  | _ n ih =>
    intro hn
    refine Ev.step (fun k => spec_l1Num.f.eq_2 ..) ?_
    by_cases h : n < 10
    · refine ev_pos (by omega) (ev_some ?_)
      rw [digit_eq n h]
      unfold num
      rw [Lib.decDigits_one h]
    · have e1 : wrap64 (Int.tdiv (n : Int) 10) = ((n / 10 : Nat) : Int) := by
        rw [Int.tdiv_eq_ediv_of_nonneg (by omega), wrap64_id (by omega) (by omega)]
        omega
      have e2 : Int.tmod (n : Int) 10 = ((n % 10 : Nat) : Int) := by
        rw [Int.tmod_eq_emod_of_nonneg (by omega)]
        omega
      rw [e1, e2]
      refine ev_neg (by omega) (ev_bind (ih (n / 10) (by omega) (by omega)) ?_)
      simp only [Option.bind_some]
      rw [digit_eq (n % 10) (by omega)]
      refine ev_pos ?_ (ev_some ?_)
      · have := num_size (n / 10) (by omega)
        have e3 : (⟨#[UInt8.ofNat (48 + n % 10)]⟩ : ByteArray).size = 1 := rfl
        omega
      · refine ba_ext ?_
        rw [Lib.toList_data, Lib.toList_data, num_data, Lib.decDigits.eq_def n, dif_neg h]
        simp [num, ByteArray.toList_data_append]

def comma : ByteArray := ⟨#[44]⟩
def pairV (f l : Nat) : ByteArray := if f = l then num f else num f ++ comma ++ num l
theorem num_size' (n : Nat) (h : n ≤ 100000) : (num n).size ≤ 20 := num_size n (by omega)
theorem pairOf_eq (f l : Nat) (hf : f ≤ 100000) (hl : l ≤ 100000) : impl_pairOf.f (f : Int) (l : Int) = some (pairV f l) := by
  unfold impl_pairOf.f pairV
  have h1 := num_size' f hf
  have h2 := num_size' l hl
  by_cases h : f = l
  · rw [if_pos (by omega), if_pos h, itoa_eq f (by omega)]; rfl
  · rw [if_neg (by omega), if_neg h, itoa_eq f (by omega), Option.bind_some, if_pos (by omega), itoa_eq l (by omega), Option.bind_some, if_pos (by
      rw [ByteArray.size_append, show (⟨#[44]⟩ : ByteArray).size = 1 from rfl]; omega)]
    rfl
end Go.Proofs.YtmcldkobejhaeaaGreatDoor.Pl