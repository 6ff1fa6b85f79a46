/- Part 4 of 6 of a proof of this sentence: The Go function loop.example/g00825/laws.FnExactGroupHunks returns true for every input, and each argument reads afterwards as it read before. No condition. -/
import Derived.Lib.Strings
import Derived.Lib.Slices
import Derived.Lib.Walk
import Derived.Lib.Bytealg
import Derived.Test.YtmcldkobejhaeaaCFnExactGroupHunks3
namespace Go.Proofs.Ytmcldkobejhaeaa.My
open Go.RowKit Go.Proofs.YtmcldkobejhaeaaW.PrintWords Go.Proofs.YtmcldkobejhaeaaW.PrintLast Go.Proofs.YtmcldkobejhaeaaW.PrintMore
attribute [local go_sem] max2_int min2_int max_two min_two max_three min_three max_four min_four
set_option linter.unusedVariables false
set_option linter.unusedSimpArgs false
def spec_l6Good.l0 : Nat → List (S73) → List (S73) → Int → Int → Option (Bool)
 | 0, _, _, _, _ => none
 | k + 1, x0, x5, x6, x7 => if x7 < x6 then (if 0 ≤ x7 then (if x7 < (x5.length : Int) then ((spec_l6Group.f k ((T73 x5 x7).f0) ((T73 x5 x7).f1) ((T73 x5 x7).f2)).bind fun t600 => (if t600 = true then (if x7 > 0 then (if 0 ≤ (wrap64 (x7 - 1)) then (if (wrap64 (x7 - 1)) < (x0.length : Int) then ((spec_l6Old.f k ((T73 x0 (wrap64 (x7 - 1))).f0) ((T73 x0 (wrap64 (x7 - 1))).f1) ((T73 x0 (wrap64 (x7 - 1))).f2)).bind fun t603 => (if ((T73 x5 x7).f0) < (wrap64 (((T73 x0 (wrap64 (x7 - 1))).f0) + (t603.length : Int))) then (some false) else ((spec_l6New.f k ((T73 x0 (wrap64 (x7 - 1))).f0) ((T73 x0 (wrap64 (x7 - 1))).f1) ((T73 x0 (wrap64 (x7 - 1))).f2)).bind fun t608 => (if ((T73 x5 x7).f1) < (wrap64 (((T73 x0 (wrap64 (x7 - 1))).f1) + (t608.length : Int))) then (some false) else (spec_l6Good.l0 k x0 x5 x6 (wrap64 (x7 + 1))))))) else (none)) else (none)) else (spec_l6Good.l0 k x0 x5 x6 (wrap64 (x7 + 1)))) else (some false))) else (none)) else (none)) else (some (decide ((x0.length : Int) ≤ 20)))
def spec_l6Good.f (k : Nat) (l0 : List (S73)) : Option (Bool) := spec_l6Good.l0 k l0 l0 (l0.length : Int) 0
def spec_l6Good.T6 : Bool × List (List Nat × List Nat) := (true, [([], []), ([0], [0]), ([1], [1]), ([2], [2]), ([3, 2], [2, 3]), ([2], [2]), ([2], [2]), ([6, 2], [2, 6]), ([5, 7, 2], [2, 5, 7]), ([8, 2], [2, 8]), ([9, 2], [2, 9]), ([2], [2]), ([2], [2]), ([12, 2], [2, 12]), ([11, 13, 2], [2, 11, 13]), ([14, 2], [2, 14]), ([15, 2, 2], [2, 15]), ([16, 2], [2, 16]), ([10, 17, 2], [2, 10, 17]), ([4, 18, 2], [2, 4, 18]), ([19, 16, 2], [2, 19]), ([20], [20]), ([21, 20], [20, 21]), ([20], [20]), ([20], [20]), ([24, 20], [20, 24]), ([23, 25, 20], [20, 23, 25]), ([26, 20], [20, 26]), ([27, 20], [20, 27]), ([20], [20]), ([20], [20]), ([30, 20], [20, 30]), ([29, 31, 20], [20, 29, 31]), ([32, 20], [20, 32]), ([33, 20, 20], [20, 33]), ([34, 20], [20, 34]), ([28, 35, 20], [20, 28, 35]), ([22, 36, 20], [20, 22, 36]), ([20, 37, 2], [2, 20, 37]), ([2, 38], [2, 38])])
def spec_l6Good.B6 : List Nat := [0, 1, 3, 7, 15, 7, 7, 71, 231, 487, 999, 7, 7, 4103, 14343, 30727, 63495, 129031, 262119, 524287, 1048575, 2097151, 4194303, 2097151, 2097151, 18874367, 60817407, 127926271, 262143999, 2097151, 2097151, 1075838975, 3760193535, 8055160831, 16645095423, 33824964607, 68713185279, 137438953471, 274877906943, 549755813887]
theorem spec_l6Good.tab6 : rtab .any (opsOf Try.f115 6) = spec_l6Good.T6 := by kernel_rfl
theorem spec_l6Good.bits6 : waitsOk spec_l6Good.T6.2 spec_l6Good.B6 = true := by kernel_rfl
set_option maxHeartbeats 8000000 in
set_option maxRecDepth 100000 in
theorem spec_l6Good.calls (k : Nat) (A0 : Option Addr) (c0 : Nat) (l0 : List (S73)) (r : Bool) (w : World) (hr0 : Kd.C k73 w A0 l0.length l0) (hc0 : l0.length ≤ c0) (h : spec_l6Good.f k l0 = some r) :
  Calls Try.prog 115 #[.slice A0 l0.length c0] w fun e w' => e = .returned (.bool r) ∧ Below w.heap.size w w' := by
 have hu73 := Try.underlying73
 have HR0 := am hr0
 have HC0 := am hc0
 clear hr0 hc0
 have HB := am (Below.refl w.heap.size w)
 have H := h
 clear h
 unfold spec_l6Good.f at H
 have H' := am H
 clear H
 go_enter Try.func115, Try.ntmps115
 go_wp2
 go_loopg [7] k (fun kq v7 w' => ∃ (x7_1 : Int), v7 = .int .i64 x7_1 ∧ Aside0 (spec_l6Good.l0 kq l0 l0 (l0.length : Int) x7_1 = some r) ∧ Aside0 (kq ≤ k) ∧ Aside0 (Below w.heap.size w w'))
 case atStart => exact ⟨(0), zf, H', ⟨Nat.le_refl _⟩, ⟨by repeat ((with_reducible exact HB.out))⟩⟩
 case round =>
  clear H'
  obtain ⟨x7_1, rfl, HA, HK1, HB⟩ := hrel
  cases gk with
  | zero => exact absurd HA.out (by simp [spec_l6Good.l0])
  | succ k1 =>
   have H := HA.out
   clear HA
   simp only [spec_l6Good.l0] at H
   by_cases c2 : x7_1 < (l0.length : Int)
   ·rw [if_pos c2] at H
    have c2b0 : decide (x7_1 < (l0.length : Int)) = true := decide_eq_true c2
    clear c2
    obtain ⟨c3, H⟩ := itn H
    have c3b0 := decide_eq_true c3
    clear c3
    obtain ⟨c4, H⟩ := itn H
    have c4b0 := decide_eq_true c4
    clear c4
    replace H := Option.bind_eq_some_iff.mp H
    obtain ⟨t600, A50, H⟩ := H
    replace H : (if t600 = true then (if x7_1 > 0 then (if 0 ≤ (wrap64 (x7_1 - 1)) then (if (wrap64 (x7_1 - 1)) < (l0.length : Int) then ((spec_l6Old.f k1 ((T73 l0 (wrap64 (x7_1 - 1))).f0) ((T73 l0 (wrap64 (x7_1 - 1))).f1) ((T73 l0 (wrap64 (x7_1 - 1))).f2)).bind fun t603 => (if ((T73 l0 x7_1).f0) < (wrap64 (((T73 l0 (wrap64 (x7_1 - 1))).f0) + (t603.length : Int))) then (some false) else ((spec_l6New.f k1 ((T73 l0 (wrap64 (x7_1 - 1))).f0) ((T73 l0 (wrap64 (x7_1 - 1))).f1) ((T73 l0 (wrap64 (x7_1 - 1))).f2)).bind fun t608 => (if ((T73 l0 x7_1).f1) < (wrap64 (((T73 l0 (wrap64 (x7_1 - 1))).f1) + (t608.length : Int))) then (some false) else (spec_l6Good.l0 k1 l0 l0 (l0.length : Int) (wrap64 (x7_1 + 1))))))) else (none)) else (none)) else (spec_l6Good.l0 k1 l0 l0 (l0.length : Int) (wrap64 (x7_1 + 1)))) else (some false)) = some r := H
    have A5 := am A50
    clear A50
    by_cases c6 : t600 = true
    ·subst c6
     rw [if_pos rfl] at H
     by_cases c7 : x7_1 > 0
     ·rw [if_pos c7] at H
      have c7b0 : decide (0 < x7_1) = true := decide_eq_true c7
      clear c7
      obtain ⟨ji8, hji8⟩ : ∃ j_ : Int, (wrap64 (x7_1 - 1)) = j_ := ⟨_, rfl⟩
      rw [hji8] at H
      have hji8w : (IntKind.i64.wrap (x7_1 - 1)) = ji8 := (i64_w _).trans hji8
      obtain ⟨c9, H⟩ := itn H
      have c9b0 := decide_eq_true c9
      clear c9
      obtain ⟨c10, H⟩ := itn H
      have c10b0 := decide_eq_true c10
      clear c10
      replace H := Option.bind_eq_some_iff.mp H
      obtain ⟨t603, A110, H⟩ := H
      replace H : (if ((T73 l0 x7_1).f0) < (wrap64 (((T73 l0 (ji8)).f0) + (t603.length : Int))) then (some false) else ((spec_l6New.f k1 ((T73 l0 (ji8)).f0) ((T73 l0 (ji8)).f1) ((T73 l0 (ji8)).f2)).bind fun t608 => (if ((T73 l0 x7_1).f1) < (wrap64 (((T73 l0 (ji8)).f1) + (t608.length : Int))) then (some false) else (spec_l6Good.l0 k1 l0 l0 (l0.length : Int) (wrap64 (x7_1 + 1)))))) = some r := H
      have A11 := am A110
      clear A110
      by_cases c12 : ((T73 l0 x7_1).f0) < (wrap64 (((T73 l0 (ji8)).f0) + (t603.length : Int)))
      ·rw [if_pos c12] at H
       have c12b0 : decide (((T73 l0 x7_1).f0) < (wrap64 (((T73 l0 (ji8)).f0) + (t603.length : Int)))) = true := decide_eq_true c12
       clear c12
       obtain rfl := Option.some.inj H
       have p598 : 0 ≤ (x7_1 : Int) := oa
       have q598 : x7_1 < (l0.length : Int) := oa
       obtain ⟨ad598, A598_2, c598_2, e598, hx598_0, hx598_1, hx598_2, hl598_2, hi598_2⟩ := at_T73 HR0.out x7_1 p598 q598
       cases e598
       replace hx598_0 := bc HB.out hx598_0
       replace hx598_1 := bc HB.out hx598_1
       replace hx598_2 := bc HB.out hx598_2
       have HR598_2 := am hi598_2
       have HC598_2 := am hl598_2
       clear hi598_2 hl598_2
       replace p598 := eq_true p598
       replace q598 := eq_true q598
       try go_wp2_with (first | ((with_reducible refine gate_dst (N := 4) rfl ?_); (try (refine gate_guard (by rfl) ?_; dsimp only)); refine box_event ?hg (N := 4) ?hd (cs := #[.int .i64 0, .int .i64 0, .slice none 0 0]) (t := 73) ?hr ?_; (case hd => rfl); (case hg => rfl); (case hr => (go_simp; done)); intro gb599 hg w13 hbox hb; have BK599 := am (hbox); have GW599 := am ((by rw [hg]; exact (below_size zb) : w.heap.size ≤ gb599)); have GE599 := am ((by rw [hg]; exact (below_size zb) : w.heap.size ≤ gb599)); replace HB := am (below_step zb hb); clear hb hbox hg; obtain ⟨hcz14_0, hcz14_1, hcz14_2⟩ := cz3 BK599.out; obtain ⟨hfz14_0, hfz14_1, hfz14_2⟩ := fz3 BK599.out) | ((with_reducible refine gateC (f := 107) rfl ?_); refine goesL_ (some 13) rfl rfl Try.func107 (by kernel_rfl) rfl #[.agg #[.int .i64 ((T73 l0 x7_1).f0), .int .i64 ((T73 l0 x7_1).f1), .slice A598_2 ((T73 l0 x7_1).f2).length c598_2]] rfl zm ?_; (with_reducible refine (spec_l6Group.calls k1 ((T73 l0 x7_1).f0) ((T73 l0 x7_1).f1) _ _ ((T73 l0 x7_1).f2) true _ ?side1 ?side2 A5.out).mono ?_); (case side1 => exact Kd.C_below HR598_2.out (by repeat ((with_reducible first | exact HB.out | refine below_set ?_ GE599.out)))); (case side2 => exact HC598_2.out); rintro e w15 ⟨rfl, hb⟩; refine ⟨_, rfl, ?_⟩; replace BK599 := am (blk_below (g := gb599) (o := .cells #[.int .i64 ((T73 l0 x7_1).f0), .int .i64 ((T73 l0 x7_1).f1), .slice A598_2 ((T73 l0 x7_1).f2).length c598_2] 73 (0, 0)) (by refine blk_put (cs := #[.int .i64 ((T73 l0 x7_1).f0), .int .i64 ((T73 l0 x7_1).f1), .slice none 0 0]) ?_ 2 _ rfl; refine blk_put (cs := #[.int .i64 ((T73 l0 x7_1).f0), .int .i64 0, .slice none 0 0]) ?_ 1 _ rfl; refine blk_put (cs := #[.int .i64 0, .int .i64 0, .slice none 0 0]) ?_ 0 _ rfl; exact BK599.out) hb); replace HB := am (below_step (by repeat ((with_reducible first | exact HB.out | refine below_set ?_ GE599.out))) hb); (try clear hb)))
       replace BK599 := am (blk_drew BK599.out)
       replace HB := am (below_drew1 HB.out)
       have p601 : 0 ≤ ((ji8) : Int) := oa
       have q601 : (ji8) < (l0.length : Int) := oa
       obtain ⟨ad601, A601_2, c601_2, e601, hx601_0, hx601_1, hx601_2, hl601_2, hi601_2⟩ := at_T73 HR0.out (ji8) p601 q601
       have hw601_2 := hx601_2
       have hw601_1 := hx601_1
       have hw601_0 := hx601_0
       obtain rfl : ad598 = ad601 := (by injection e601)
       replace hx601_0 := bc HB.out hx601_0
       replace hx601_1 := bc HB.out hx601_1
       replace hx601_2 := bc HB.out hx601_2
       have HR601_2 := am hi601_2
       have HC601_2 := am hl601_2
       clear hi601_2 hl601_2
       replace p601 := eq_true p601
       replace q601 := eq_true q601
       have p602 : 0 ≤ ((ji8) : Int) := oa
       have q602 : (ji8) < (l0.length : Int) := oa
       obtain ⟨ad602, A602_2, c602_2, e602, hx602_0, hx602_1, hx602_2, hl602_2, hi602_2⟩ := at_T73 HR0.out (ji8) p602 q602
       have hw602_2 := hx602_2
       have hw602_1 := hx602_1
       have hw602_0 := hx602_0
       obtain rfl : ad598 = ad602 := (by injection e602)
       replace hx602_0 := bc HB.out hx602_0
       replace hx602_1 := bc HB.out hx602_1
       replace hx602_2 := bc HB.out hx602_2
       have HR602_2 := am hi602_2
       have HC602_2 := am hl602_2
       clear hi602_2 hl602_2
       replace p602 := eq_true p602
       replace q602 := eq_true q602
       have ea_ := Option.some.inj (hx601_2.symm.trans hx602_2)
       injection ea_ with ea_ en_ ec_
       subst ea_
       subst ec_
       clear en_
       refine start_ (n := 40) (S := fun w' => w'.cell? ⟨gb599, 0, none⟩ = some (.int .i64 ((T73 l0 x7_1).f0)) ∧ w'.cell? ⟨gb599, 1, none⟩ = some (.int .i64 ((T73 l0 x7_1).f1)) ∧ w'.cell? ⟨gb599, 2, none⟩ = some (.slice A598_2 ((T73 l0 x7_1).f2).length c598_2) ∧ w'.cell? (ad598.add (((ji8)).toNat * 3)) = some (.int .i64 ((T73 l0 (ji8)).f0)) ∧ w'.cell? ⟨(ad598.add (((ji8)).toNat * 3)).block, (ad598.add (((ji8)).toNat * 3)).off + 1, none⟩ = some (.int .i64 ((T73 l0 (ji8)).f1)) ∧ w'.cell? ⟨(ad598.add (((ji8)).toNat * 3)).block, (ad598.add (((ji8)).toNat * 3)).off + 2, none⟩ = some (.slice A601_2 ((T73 l0 (ji8)).f2).length c601_2) ∧ w'.cell? (ad598.add (((ji8)).toNat * 3)) = some (.int .i64 ((T73 l0 (ji8)).f0)) ∧ w'.cell? ⟨(ad598.add (((ji8)).toNat * 3)).block, (ad598.add (((ji8)).toNat * 3)).off + 1, none⟩ = some (.int .i64 ((T73 l0 (ji8)).f1)) ∧ w'.cell? ⟨(ad598.add (((ji8)).toNat * 3)).block, (ad598.add (((ji8)).toNat * 3)).off + 2, none⟩ = some (.slice A601_2 ((T73 l0 (ji8)).f2).length c601_2)) (ds := []) #[O,O,O,O,O,O,O,O,O,O,O,O,O,O,O,O,O,O,O,O,O,O,O,O,O,O,O,O,O,O,O,O,O,O,O,O,O,O,O,O] (by kernel_rfl) rfl rfl ⟨(blk_cell BK599.out 0).trans rfl, (blk_cell BK599.out 1).trans rfl, (blk_cell BK599.out 2).trans rfl, ((HB.out.cell (World.block_lt_of_cell? w _ hw601_0)).trans hw601_0), ((HB.out.cell (World.block_lt_of_cell? w _ hw601_1)).trans hw601_1), ((HB.out.cell (World.block_lt_of_cell? w _ hw601_2)).trans hw601_2), ((HB.out.cell (World.block_lt_of_cell? w _ hw602_0)).trans hw602_0), ((HB.out.cell (World.block_lt_of_cell? w _ hw602_1)).trans hw602_1), ((HB.out.cell (World.block_lt_of_cell? w _ hw602_2)).trans hw602_2)⟩ (fun hHeld => ?_); refine with_tabW spec_l6Good.tab6 spec_l6Good.bits6 (fun HT_ HW_ => ?_)
       generalize w15.drew = w16 at BK599 HB HR601_2 HR602_2 hx601_0 hx601_1 hx601_2 hx602_0 hx602_1 hx602_2 hHeld ⊢
       refine pu 0 (some 15) ?_
       refine pu 1 (some 16) ?_
       refine pu 2 (some 17) ?_
       refine pu 3 (some 18) ?_
       refine pu 5 (some 20) ?_
       refine pu 6 (some 21) ?_
       refine pu 7 (some 22) ?_
       refine pu 8 (some 23) ?_
       refine pu 9 (some 24) ?_
       refine pu 11 (some 26) ?_
       refine pu 12 (some 27) ?_
       refine pu 13 (some 28) ?_
       refine pu 14 (some 29) ?_
       refine ta 4 (some 19) ?_
       refine ta 10 (some 25) ?_
       refine ta 15 (some 30) ?_
       refine one_ (i := 16) (N := some 31) #[Y,Y,Y,Y,Y,Y,Y,Y,Y,Y,Y,Y,Y,Y,Y,Y,Y,O,O,O,O,O,O,O,O,O,O,O,O,O,O,O,O,O,O,O,O,O,O,O] rfl rfl (one_of HT_.out (by kernel_rfl)) (by decide) (fun K hK => ?_)
       refine goes_ Try.func108 (by kernel_rfl) rfl #[.agg #[.int .i64 ((T73 l0 (ji8)).f0), .int .i64 ((T73 l0 (ji8)).f1), .slice A601_2 ((T73 l0 (ji8)).f2).length c601_2]] (by rfl) rfl rfl (by (try simp only [List.map_toArray, List.map_cons, List.map_nil]); rfl) ?_
       with_reducible refine (spec_l6Old.calls k1 ((T73 l0 (ji8)).f0) ((T73 l0 (ji8)).f1) _ _ ((T73 l0 (ji8)).f2) t603 _ ?side1 ?side2 A11.out).mono ?_
       (case side1 => exact zq (Kd.C_below HR602_2.out HB.out))
       (case side2 => exact HC602_2.out)
       rintro e w17 ⟨v604, rfl, ho0, hb⟩
       refine ⟨_, rfl, ?_⟩
       have HO605 := am (Kd.R_lower ho0 (below_size (by repeat ((with_reducible exact HB.out)))))
       replace BK599 := am (blk_below (g := gb599) (o := .cells #[.int .i64 ((T73 l0 x7_1).f0), .int .i64 ((T73 l0 x7_1).f1), .slice A598_2 ((T73 l0 x7_1).f2).length c598_2] 73 (0, 0)) (zk BK599.out) hb)
       replace HB := am (below_step (by repeat ((with_reducible exact HB.out))) hb)
       (try clear hb)
       (try clear ho0)
       obtain ⟨Ao18, co18, eo18⟩ := Kd.R_slice HO605.out
       (subst eo18)
       refine hK.out _ _ ⟨(blk_cell BK599.out 0).trans rfl, (blk_cell BK599.out 1).trans rfl, (blk_cell BK599.out 2).trans rfl, ((HB.out.cell (World.block_lt_of_cell? w _ hw601_0)).trans hw601_0), ((HB.out.cell (World.block_lt_of_cell? w _ hw601_1)).trans hw601_1), ((HB.out.cell (World.block_lt_of_cell? w _ hw601_2)).trans hw601_2), ((HB.out.cell (World.block_lt_of_cell? w _ hw602_0)).trans hw602_0), ((HB.out.cell (World.block_lt_of_cell? w _ hw602_1)).trans hw602_1), ((HB.out.cell (World.block_lt_of_cell? w _ hw602_2)).trans hw602_2)⟩ (fun hHeld => ?_)
       clear hK K
       refine norm_ (a' := ?_) ?_ ?_
       rotate_left
       ·show Act.put _ (some 31) _ = _
        simp only [Act.put,qa,qb,qc,i64_w,i32_w]
        rfl
       refine pu 17 (some 32) ?_
       refine pu 18 (some 33) ?_
       refine pu 19 (some 34) ?_
       refine pu 20 (some 35) ?_
       refine pure_ (i := 21) (N := some 36) (v := undef) (a' := ?_) #[Y,Y,Y,Y,Y,Y,Y,Y,Y,Y,Y,Y,Y,Y,Y,Y,Y,Y,Y,Y,Y,Y,O,O,O,O,O,O,O,O,O,O,O,O,O,O,O,O,O,O] rfl rfl zx (fun _ _ _ h => h) (Or.inr ⟨by rfl, rfl⟩) ?_ ?_
       rotate_left
       ·simp only [Act.put,qa,qb,qc,i64_w,i32_w]
        rfl
       refine pure_ (i := 22) (N := some 37) (v := undef) (a' := ?_) #[Y,Y,Y,Y,Y,Y,Y,Y,Y,Y,Y,Y,Y,Y,Y,Y,Y,Y,Y,Y,Y,Y,Y,O,O,O,O,O,O,O,O,O,O,O,O,O,O,O,O,O] rfl rfl zx (fun _ _ _ h => h) (Or.inr ⟨by rfl, rfl⟩) ?_ ?_
       rotate_left
       ·simp only [Act.put,qa,qb,qc,i64_w,i32_w]
        rfl
       refine pure_ (i := 23) (N := some 38) (v := undef) (a' := ?_) #[Y,Y,Y,Y,Y,Y,Y,Y,Y,Y,Y,Y,Y,Y,Y,Y,Y,Y,Y,Y,Y,Y,Y,Y,O,O,O,O,O,O,O,O,O,O,O,O,O,O,O,O] rfl rfl zx (fun _ _ _ h => h) (Or.inr ⟨by rfl, rfl⟩) ?_ ?_
       rotate_left
       ·simp only [Act.put,qa,qb,qc,i64_w,i32_w]
        rfl
       refine pure_ (i := 24) (N := some 39) (v := undef) (a' := ?_) #[Y,Y,Y,Y,Y,Y,Y,Y,Y,Y,Y,Y,Y,Y,Y,Y,Y,Y,Y,Y,Y,Y,Y,Y,Y,O,O,O,O,O,O,O,O,O,O,O,O,O,O,O] rfl rfl zx (fun _ _ _ h => h) (Or.inr ⟨by rfl, rfl⟩) ?_ ?_
       rotate_left
       ·simp only [Act.put,qa,qb,qc,i64_w,i32_w]
        rfl
       refine pure_ (i := 25) (N := some 40) (v := undef) (a' := ?_) #[Y,Y,Y,Y,Y,Y,Y,Y,Y,Y,Y,Y,Y,Y,Y,Y,Y,Y,Y,Y,Y,Y,Y,Y,Y,Y,O,O,O,O,O,O,O,O,O,O,O,O,O,O] rfl rfl zx (fun _ _ _ h => h) (Or.inr ⟨by rfl, rfl⟩) ?_ ?_
       rotate_left
       ·simp only [Act.put,qa,qb,qc,i64_w,i32_w]
        rfl
       refine pure_ (i := 26) (N := some 41) (v := undef) (a' := ?_) #[Y,Y,Y,Y,Y,Y,Y,Y,Y,Y,Y,Y,Y,Y,Y,Y,Y,Y,Y,Y,Y,Y,Y,Y,Y,Y,Y,O,O,O,O,O,O,O,O,O,O,O,O,O] rfl rfl zx (fun _ _ _ h => h) (Or.inr ⟨by rfl, rfl⟩) ?_ ?_
       rotate_left
       ·simp only [Act.put,qa,qb,qc,i64_w,i32_w]
        rfl
       refine pure_ (i := 27) (N := some 42) (v := undef) (a' := ?_) #[Y,Y,Y,Y,Y,Y,Y,Y,Y,Y,Y,Y,Y,Y,Y,Y,Y,Y,Y,Y,Y,Y,Y,Y,Y,Y,Y,Y,O,O,O,O,O,O,O,O,O,O,O,O] rfl rfl zx (fun _ _ _ h => h) (Or.inr ⟨by rfl, rfl⟩) ?_ ?_
       rotate_left
       ·simp only [Act.put,qa,qb,qc,i64_w,i32_w]
        rfl
       refine pure_ (i := 28) (N := some 43) (v := undef) (a' := ?_) #[Y,Y,Y,Y,Y,Y,Y,Y,Y,Y,Y,Y,Y,Y,Y,Y,Y,Y,Y,Y,Y,Y,Y,Y,Y,Y,Y,Y,Y,O,O,O,O,O,O,O,O,O,O,O] rfl rfl zx (fun _ _ _ h => h) (Or.inr ⟨by rfl, rfl⟩) ?_ ?_
       rotate_left
       ·simp only [Act.put,qa,qb,qc,i64_w,i32_w]
        rfl
       refine pure_ (i := 29) (N := some 44) (v := undef) (a' := ?_) #[Y,Y,Y,Y,Y,Y,Y,Y,Y,Y,Y,Y,Y,Y,Y,Y,Y,Y,Y,Y,Y,Y,Y,Y,Y,Y,Y,Y,Y,Y,O,O,O,O,O,O,O,O,O,O] rfl rfl zx (fun _ _ _ h => h) (Or.inr ⟨by rfl, rfl⟩) ?_ ?_
       rotate_left
       ·simp only [Act.put,qa,qb,qc,i64_w,i32_w]
        rfl
       refine pure_ (i := 30) (N := some 45) (v := undef) (a' := ?_) #[Y,Y,Y,Y,Y,Y,Y,Y,Y,Y,Y,Y,Y,Y,Y,Y,Y,Y,Y,Y,Y,Y,Y,Y,Y,Y,Y,Y,Y,Y,Y,O,O,O,O,O,O,O,O,O] rfl rfl zx (fun _ _ _ h => h) (Or.inr ⟨by rfl, rfl⟩) ?_ ?_
       rotate_left
       ·simp only [Act.put,qa,qb,qc,i64_w,i32_w]
        rfl
       refine pure_ (i := 31) (N := some 46) (v := undef) (a' := ?_) #[Y,Y,Y,Y,Y,Y,Y,Y,Y,Y,Y,Y,Y,Y,Y,Y,Y,Y,Y,Y,Y,Y,Y,Y,Y,Y,Y,Y,Y,Y,Y,Y,O,O,O,O,O,O,O,O] rfl rfl zx (fun _ _ _ h => h) (Or.inr ⟨by rfl, rfl⟩) ?_ ?_
       rotate_left
       ·simp only [Act.put,qa,qb,qc,i64_w,i32_w]
        rfl
       refine pure_ (i := 32) (N := some 47) (v := undef) (a' := ?_) #[Y,Y,Y,Y,Y,Y,Y,Y,Y,Y,Y,Y,Y,Y,Y,Y,Y,Y,Y,Y,Y,Y,Y,Y,Y,Y,Y,Y,Y,Y,Y,Y,Y,O,O,O,O,O,O,O] rfl rfl zx (fun _ _ _ h => h) (Or.inr ⟨by rfl, rfl⟩) ?_ ?_
       rotate_left
       ·simp only [Act.put,qa,qb,qc,i64_w,i32_w]
        rfl
       refine pure_ (i := 33) (N := some 48) (v := undef) (a' := ?_) #[Y,Y,Y,Y,Y,Y,Y,Y,Y,Y,Y,Y,Y,Y,Y,Y,Y,Y,Y,Y,Y,Y,Y,Y,Y,Y,Y,Y,Y,Y,Y,Y,Y,Y,O,O,O,O,O,O] rfl rfl zx (fun _ _ _ h => h) (Or.inr ⟨by rfl, rfl⟩) ?_ ?_
       rotate_left
       ·simp only [Act.put,qa,qb,qc,i64_w,i32_w]
        rfl
       refine pure_ (i := 34) (N := some 49) (v := undef) (a' := ?_) #[Y,Y,Y,Y,Y,Y,Y,Y,Y,Y,Y,Y,Y,Y,Y,Y,Y,Y,Y,Y,Y,Y,Y,Y,Y,Y,Y,Y,Y,Y,Y,Y,Y,Y,Y,O,O,O,O,O] rfl rfl zx (fun _ _ _ h => h) (Or.inr ⟨by rfl, rfl⟩) ?_ ?_
       rotate_left
       ·simp only [Act.put,qa,qb,qc,i64_w,i32_w]
        rfl
       refine pure_ (i := 35) (N := some 50) (v := undef) (a' := ?_) #[Y,Y,Y,Y,Y,Y,Y,Y,Y,Y,Y,Y,Y,Y,Y,Y,Y,Y,Y,Y,Y,Y,Y,Y,Y,Y,Y,Y,Y,Y,Y,Y,Y,Y,Y,Y,O,O,O,O] rfl rfl zx (fun _ _ _ h => h) (Or.inr ⟨by rfl, rfl⟩) ?_ ?_
       rotate_left
       ·simp only [Act.put,qa,qb,qc,i64_w,i32_w]
        rfl
       refine pure_ (i := 36) (N := some 51) (v := undef) (a' := ?_) #[Y,Y,Y,Y,Y,Y,Y,Y,Y,Y,Y,Y,Y,Y,Y,Y,Y,Y,Y,Y,Y,Y,Y,Y,Y,Y,Y,Y,Y,Y,Y,Y,Y,Y,Y,Y,Y,O,O,O] rfl rfl zx (fun _ _ _ h => h) (Or.inr ⟨by rfl, rfl⟩) ?_ ?_
       rotate_left
       ·simp only [Act.put,qa,qb,qc,i64_w,i32_w]
        rfl
       refine pure_ (i := 37) (N := some 52) (v := undef) (a' := ?_) #[Y,Y,Y,Y,Y,Y,Y,Y,Y,Y,Y,Y,Y,Y,Y,Y,Y,Y,Y,Y,Y,Y,Y,Y,Y,Y,Y,Y,Y,Y,Y,Y,Y,Y,Y,Y,Y,Y,O,O] rfl rfl zx (fun _ _ _ h => h) (Or.inr ⟨by rfl, rfl⟩) ?_ ?_
       rotate_left
       ·simp only [Act.put,qa,qb,qc,i64_w,i32_w]
        rfl
       refine pu 38 (some 53) ?_
       refine pu 39 (some 54) ?_
       refine done_ (done_of HT_.out (by kernel_rfl)) ?_
       try go_wp2
       go_ret
       exact ⟨by rfl, by repeat ((with_reducible exact HB.out))⟩
      ·rw [if_neg c12] at H
       have c12b0 : decide (((T73 l0 x7_1).f0) < (wrap64 (((T73 l0 (ji8)).f0) + (t603.length : Int)))) = false := decide_eq_false c12
       clear c12
       replace H := Option.bind_eq_some_iff.mp H
       obtain ⟨t608, A190, H⟩ := H
       replace H : (if ((T73 l0 x7_1).f1) < (wrap64 (((T73 l0 (ji8)).f1) + (t608.length : Int))) then (some false) else (spec_l6Good.l0 k1 l0 l0 (l0.length : Int) (wrap64 (x7_1 + 1)))) = some r := H
       have A19 := am A190
       clear A190
       by_cases c20 : ((T73 l0 x7_1).f1) < (wrap64 (((T73 l0 (ji8)).f1) + (t608.length : Int)))
       ·rw [if_pos c20] at H
        have c20b0 : decide (((T73 l0 x7_1).f1) < (wrap64 (((T73 l0 (ji8)).f1) + (t608.length : Int)))) = true := decide_eq_true c20
        clear c20
        obtain rfl := Option.some.inj H
        have p598 : 0 ≤ (x7_1 : Int) := oa
        have q598 : x7_1 < (l0.length : Int) := oa
        obtain ⟨ad598, A598_2, c598_2, e598, hx598_0, hx598_1, hx598_2, hl598_2, hi598_2⟩ := at_T73 HR0.out x7_1 p598 q598
        cases e598
        replace hx598_0 := bc HB.out hx598_0
        replace hx598_1 := bc HB.out hx598_1
        replace hx598_2 := bc HB.out hx598_2
        have HR598_2 := am hi598_2
        have HC598_2 := am hl598_2
        clear hi598_2 hl598_2
        replace p598 := eq_true p598
        replace q598 := eq_true q598
        try go_wp2_with (first | ((with_reducible refine gate_dst (N := 4) rfl ?_); (try (refine gate_guard (by rfl) ?_; dsimp only)); refine box_event ?hg (N := 4) ?hd (cs := #[.int .i64 0, .int .i64 0, .slice none 0 0]) (t := 73) ?hr ?_; (case hd => rfl); (case hg => rfl); (case hr => (go_simp; done)); intro gb599 hg w21 hbox hb; have BK599 := am (hbox); have GW599 := am ((by rw [hg]; exact (below_size zb) : w.heap.size ≤ gb599)); have GE599 := am ((by rw [hg]; exact (below_size zb) : w.heap.size ≤ gb599)); replace HB := am (below_step zb hb); clear hb hbox hg; obtain ⟨hcz22_0, hcz22_1, hcz22_2⟩ := cz3 BK599.out; obtain ⟨hfz22_0, hfz22_1, hfz22_2⟩ := fz3 BK599.out) | ((with_reducible refine gateC (f := 107) rfl ?_); refine goesL_ (some 13) rfl rfl Try.func107 (by kernel_rfl) rfl #[.agg #[.int .i64 ((T73 l0 x7_1).f0), .int .i64 ((T73 l0 x7_1).f1), .slice A598_2 ((T73 l0 x7_1).f2).length c598_2]] rfl zm ?_; (with_reducible refine (spec_l6Group.calls k1 ((T73 l0 x7_1).f0) ((T73 l0 x7_1).f1) _ _ ((T73 l0 x7_1).f2) true _ ?side1 ?side2 A5.out).mono ?_); (case side1 => exact Kd.C_below HR598_2.out (by repeat ((with_reducible first | exact HB.out | refine below_set ?_ GE599.out)))); (case side2 => exact HC598_2.out); rintro e w23 ⟨rfl, hb⟩; refine ⟨_, rfl, ?_⟩; replace BK599 := am (blk_below (g := gb599) (o := .cells #[.int .i64 ((T73 l0 x7_1).f0), .int .i64 ((T73 l0 x7_1).f1), .slice A598_2 ((T73 l0 x7_1).f2).length c598_2] 73 (0, 0)) (by refine blk_put (cs := #[.int .i64 ((T73 l0 x7_1).f0), .int .i64 ((T73 l0 x7_1).f1), .slice none 0 0]) ?_ 2 _ rfl; refine blk_put (cs := #[.int .i64 ((T73 l0 x7_1).f0), .int .i64 0, .slice none 0 0]) ?_ 1 _ rfl; refine blk_put (cs := #[.int .i64 0, .int .i64 0, .slice none 0 0]) ?_ 0 _ rfl; exact BK599.out) hb); replace HB := am (below_step (by repeat ((with_reducible first | exact HB.out | refine below_set ?_ GE599.out))) hb); (try clear hb)))
        replace BK599 := am (blk_drew BK599.out)
        replace HB := am (below_drew1 HB.out)
        have p601 : 0 ≤ ((ji8) : Int) := oa
        have q601 : (ji8) < (l0.length : Int) := oa
        obtain ⟨ad601, A601_2, c601_2, e601, hx601_0, hx601_1, hx601_2, hl601_2, hi601_2⟩ := at_T73 HR0.out (ji8) p601 q601
        have hw601_2 := hx601_2
        have hw601_1 := hx601_1
        have hw601_0 := hx601_0
        obtain rfl : ad598 = ad601 := (by injection e601)
        replace hx601_0 := bc HB.out hx601_0
        replace hx601_1 := bc HB.out hx601_1
        replace hx601_2 := bc HB.out hx601_2
        have HR601_2 := am hi601_2
        have HC601_2 := am hl601_2
        clear hi601_2 hl601_2
        replace p601 := eq_true p601
        replace q601 := eq_true q601
        have p602 : 0 ≤ ((ji8) : Int) := oa
        have q602 : (ji8) < (l0.length : Int) := oa
        obtain ⟨ad602, A602_2, c602_2, e602, hx602_0, hx602_1, hx602_2, hl602_2, hi602_2⟩ := at_T73 HR0.out (ji8) p602 q602
        have hw602_2 := hx602_2
        have hw602_1 := hx602_1
        have hw602_0 := hx602_0
        obtain rfl : ad598 = ad602 := (by injection e602)
        replace hx602_0 := bc HB.out hx602_0
        replace hx602_1 := bc HB.out hx602_1
        replace hx602_2 := bc HB.out hx602_2
        have HR602_2 := am hi602_2
        have HC602_2 := am hl602_2
        clear hi602_2 hl602_2
        replace p602 := eq_true p602
        replace q602 := eq_true q602
        have ea_ := Option.some.inj (hx601_2.symm.trans hx602_2)
        injection ea_ with ea_ en_ ec_
        subst ea_
        subst ec_
        clear en_
        have p606 : 0 ≤ ((ji8) : Int) := oa
        have q606 : (ji8) < (l0.length : Int) := oa
        obtain ⟨ad606, A606_2, c606_2, e606, hx606_0, hx606_1, hx606_2, hl606_2, hi606_2⟩ := at_T73 HR0.out (ji8) p606 q606
        have hw606_2 := hx606_2
        have hw606_1 := hx606_1
        have hw606_0 := hx606_0
        obtain rfl : ad598 = ad606 := (by injection e606)
        replace hx606_0 := bc HB.out hx606_0
        replace hx606_1 := bc HB.out hx606_1
        replace hx606_2 := bc HB.out hx606_2
        have HR606_2 := am hi606_2
        have HC606_2 := am hl606_2
        clear hi606_2 hl606_2
        replace p606 := eq_true p606
        replace q606 := eq_true q606
        have eb_ := Option.some.inj (hx601_2.symm.trans hx606_2)
        injection eb_ with ea_ en_ ec_
        subst ea_
        subst ec_
        clear en_
        have p607 : 0 ≤ ((ji8) : Int) := oa
        have q607 : (ji8) < (l0.length : Int) := oa
        obtain ⟨ad607, A607_2, c607_2, e607, hx607_0, hx607_1, hx607_2, hl607_2, hi607_2⟩ := at_T73 HR0.out (ji8) p607 q607
        have hw607_2 := hx607_2
        have hw607_1 := hx607_1
        have hw607_0 := hx607_0
        obtain rfl : ad598 = ad607 := (by injection e607)
        replace hx607_0 := bc HB.out hx607_0
        replace hx607_1 := bc HB.out hx607_1
        replace hx607_2 := bc HB.out hx607_2
        have HR607_2 := am hi607_2
        have HC607_2 := am hl607_2
        clear hi607_2 hl607_2
        replace p607 := eq_true p607
        replace q607 := eq_true q607
        have ea_ := Option.some.inj (hx606_2.symm.trans hx607_2)
        injection ea_ with ea_ en_ ec_
        subst ea_
        subst ec_
        clear en_
        refine start_ (n := 40) (S := fun w' => w'.cell? ⟨gb599, 0, none⟩ = some (.int .i64 ((T73 l0 x7_1).f0)) ∧ w'.cell? ⟨gb599, 1, none⟩ = some (.int .i64 ((T73 l0 x7_1).f1)) ∧ w'.cell? ⟨gb599, 2, none⟩ = some (.slice A598_2 ((T73 l0 x7_1).f2).length c598_2) ∧ w'.cell? (ad598.add (((ji8)).toNat * 3)) = some (.int .i64 ((T73 l0 (ji8)).f0)) ∧ w'.cell? ⟨(ad598.add (((ji8)).toNat * 3)).block, (ad598.add (((ji8)).toNat * 3)).off + 1, none⟩ = some (.int .i64 ((T73 l0 (ji8)).f1)) ∧ w'.cell? ⟨(ad598.add (((ji8)).toNat * 3)).block, (ad598.add (((ji8)).toNat * 3)).off + 2, none⟩ = some (.slice A601_2 ((T73 l0 (ji8)).f2).length c601_2) ∧ w'.cell? (ad598.add (((ji8)).toNat * 3)) = some (.int .i64 ((T73 l0 (ji8)).f0)) ∧ w'.cell? ⟨(ad598.add (((ji8)).toNat * 3)).block, (ad598.add (((ji8)).toNat * 3)).off + 1, none⟩ = some (.int .i64 ((T73 l0 (ji8)).f1)) ∧ w'.cell? ⟨(ad598.add (((ji8)).toNat * 3)).block, (ad598.add (((ji8)).toNat * 3)).off + 2, none⟩ = some (.slice A601_2 ((T73 l0 (ji8)).f2).length c601_2) ∧ w'.cell? (ad598.add (((ji8)).toNat * 3)) = some (.int .i64 ((T73 l0 (ji8)).f0)) ∧ w'.cell? ⟨(ad598.add (((ji8)).toNat * 3)).block, (ad598.add (((ji8)).toNat * 3)).off + 1, none⟩ = some (.int .i64 ((T73 l0 (ji8)).f1)) ∧ w'.cell? ⟨(ad598.add (((ji8)).toNat * 3)).block, (ad598.add (((ji8)).toNat * 3)).off + 2, none⟩ = some (.slice A601_2 ((T73 l0 (ji8)).f2).length c601_2) ∧ w'.cell? (ad598.add (((ji8)).toNat * 3)) = some (.int .i64 ((T73 l0 (ji8)).f0)) ∧ w'.cell? ⟨(ad598.add (((ji8)).toNat * 3)).block, (ad598.add (((ji8)).toNat * 3)).off + 1, none⟩ = some (.int .i64 ((T73 l0 (ji8)).f1)) ∧ w'.cell? ⟨(ad598.add (((ji8)).toNat * 3)).block, (ad598.add (((ji8)).toNat * 3)).off + 2, none⟩ = some (.slice A601_2 ((T73 l0 (ji8)).f2).length c601_2)) (ds := []) #[O,O,O,O,O,O,O,O,O,O,O,O,O,O,O,O,O,O,O,O,O,O,O,O,O,O,O,O,O,O,O,O,O,O,O,O,O,O,O,O] (by kernel_rfl) rfl rfl ⟨(blk_cell BK599.out 0).trans rfl, (blk_cell BK599.out 1).trans rfl, (blk_cell BK599.out 2).trans rfl, ((HB.out.cell (World.block_lt_of_cell? w _ hw601_0)).trans hw601_0), ((HB.out.cell (World.block_lt_of_cell? w _ hw601_1)).trans hw601_1), ((HB.out.cell (World.block_lt_of_cell? w _ hw601_2)).trans hw601_2), ((HB.out.cell (World.block_lt_of_cell? w _ hw602_0)).trans hw602_0), ((HB.out.cell (World.block_lt_of_cell? w _ hw602_1)).trans hw602_1), ((HB.out.cell (World.block_lt_of_cell? w _ hw602_2)).trans hw602_2), ((HB.out.cell (World.block_lt_of_cell? w _ hw606_0)).trans hw606_0), ((HB.out.cell (World.block_lt_of_cell? w _ hw606_1)).trans hw606_1), ((HB.out.cell (World.block_lt_of_cell? w _ hw606_2)).trans hw606_2), ((HB.out.cell (World.block_lt_of_cell? w _ hw607_0)).trans hw607_0), ((HB.out.cell (World.block_lt_of_cell? w _ hw607_1)).trans hw607_1), ((HB.out.cell (World.block_lt_of_cell? w _ hw607_2)).trans hw607_2)⟩ (fun hHeld => ?_); refine with_tabW spec_l6Good.tab6 spec_l6Good.bits6 (fun HT_ HW_ => ?_)
        generalize w23.drew = w24 at BK599 HB HR601_2 HR602_2 HR606_2 HR607_2 hx601_0 hx601_1 hx601_2 hx602_0 hx602_1 hx602_2 hx606_0 hx606_1 hx606_2 hx607_0 hx607_1 hx607_2 hHeld ⊢
        refine pu 0 (some 15) ?_
        refine pu 1 (some 16) ?_
        refine pu 2 (some 17) ?_
        refine pu 3 (some 18) ?_
        refine pu 5 (some 20) ?_
        refine pu 6 (some 21) ?_
        refine pu 7 (some 22) ?_
        refine pu 8 (some 23) ?_
        refine pu 9 (some 24) ?_
        refine pu 11 (some 26) ?_
        refine pu 12 (some 27) ?_
        refine pu 13 (some 28) ?_
        refine pu 14 (some 29) ?_
        refine ta 4 (some 19) ?_
        refine ta 10 (some 25) ?_
        refine ta 15 (some 30) ?_
        refine one_ (i := 16) (N := some 31) #[Y,Y,Y,Y,Y,Y,Y,Y,Y,Y,Y,Y,Y,Y,Y,Y,Y,O,O,O,O,O,O,O,O,O,O,O,O,O,O,O,O,O,O,O,O,O,O,O] rfl rfl (one_of HT_.out (by kernel_rfl)) (by decide) (fun K hK => ?_)
        refine goes_ Try.func108 (by kernel_rfl) rfl #[.agg #[.int .i64 ((T73 l0 (ji8)).f0), .int .i64 ((T73 l0 (ji8)).f1), .slice A601_2 ((T73 l0 (ji8)).f2).length c601_2]] (by rfl) rfl rfl (by (try simp only [List.map_toArray, List.map_cons, List.map_nil]); rfl) ?_
        with_reducible refine (spec_l6Old.calls k1 ((T73 l0 (ji8)).f0) ((T73 l0 (ji8)).f1) _ _ ((T73 l0 (ji8)).f2) t603 _ ?side1 ?side2 A11.out).mono ?_
        (case side1 => exact zq (Kd.C_below HR602_2.out HB.out))
        (case side2 => exact HC602_2.out)
        rintro e w25 ⟨v604, rfl, ho0, hb⟩
        refine ⟨_, rfl, ?_⟩
        have HO605 := am (Kd.R_lower ho0 (below_size (by repeat ((with_reducible exact HB.out)))))
        replace BK599 := am (blk_below (g := gb599) (o := .cells #[.int .i64 ((T73 l0 x7_1).f0), .int .i64 ((T73 l0 x7_1).f1), .slice A598_2 ((T73 l0 x7_1).f2).length c598_2] 73 (0, 0)) (zk BK599.out) hb)
        replace HB := am (below_step (by repeat ((with_reducible exact HB.out))) hb)
        (try clear hb)
        (try clear ho0)
        obtain ⟨Ao26, co26, eo26⟩ := Kd.R_slice HO605.out
        (subst eo26)
        refine hK.out _ _ ⟨(blk_cell BK599.out 0).trans rfl, (blk_cell BK599.out 1).trans rfl, (blk_cell BK599.out 2).trans rfl, ((HB.out.cell (World.block_lt_of_cell? w _ hw601_0)).trans hw601_0), ((HB.out.cell (World.block_lt_of_cell? w _ hw601_1)).trans hw601_1), ((HB.out.cell (World.block_lt_of_cell? w _ hw601_2)).trans hw601_2), ((HB.out.cell (World.block_lt_of_cell? w _ hw602_0)).trans hw602_0), ((HB.out.cell (World.block_lt_of_cell? w _ hw602_1)).trans hw602_1), ((HB.out.cell (World.block_lt_of_cell? w _ hw602_2)).trans hw602_2), ((HB.out.cell (World.block_lt_of_cell? w _ hw606_0)).trans hw606_0), ((HB.out.cell (World.block_lt_of_cell? w _ hw606_1)).trans hw606_1), ((HB.out.cell (World.block_lt_of_cell? w _ hw606_2)).trans hw606_2), ((HB.out.cell (World.block_lt_of_cell? w _ hw607_0)).trans hw607_0), ((HB.out.cell (World.block_lt_of_cell? w _ hw607_1)).trans hw607_1), ((HB.out.cell (World.block_lt_of_cell? w _ hw607_2)).trans hw607_2)⟩ (fun hHeld => ?_)
        clear hK K
        refine norm_ (a' := ?_) ?_ ?_
        rotate_left
        ·show Act.put _ (some 31) _ = _
         simp only [Act.put,qa,qb,qc,i64_w,i32_w]
         rfl
        refine pu 17 (some 32) ?_
        refine pu 18 (some 33) ?_
        refine pu 19 (some 34) ?_
        refine pu 20 (some 35) ?_
        refine pu 21 (some 36) ?_
        refine pu 23 (some 38) ?_
        refine pu 24 (some 39) ?_
        refine pu 25 (some 40) ?_
        refine pu 26 (some 41) ?_
        refine pu 27 (some 42) ?_
        refine pu 29 (some 44) ?_
        refine pu 30 (some 45) ?_
        refine pu 31 (some 46) ?_
        refine pu 32 (some 47) ?_
        refine ta 22 (some 37) ?_
        refine ta 28 (some 43) ?_
        refine ta 33 (some 48) ?_
        refine one_ (i := 34) (N := some 49) #[Y,Y,Y,Y,Y,Y,Y,Y,Y,Y,Y,Y,Y,Y,Y,Y,Y,Y,Y,Y,Y,Y,Y,Y,Y,Y,Y,Y,Y,Y,Y,Y,Y,Y,Y,O,O,O,O,O] rfl rfl (one_of HT_.out (by kernel_rfl)) (by decide) (fun K hK => ?_)
        refine goes_ Try.func140 (by kernel_rfl) rfl #[.agg #[.int .i64 ((T73 l0 (ji8)).f0), .int .i64 ((T73 l0 (ji8)).f1), .slice A601_2 ((T73 l0 (ji8)).f2).length c601_2]] (by rfl) rfl rfl (by (try simp only [List.map_toArray, List.map_cons, List.map_nil]); rfl) ?_
        with_reducible refine (spec_l6New.calls k1 ((T73 l0 (ji8)).f0) ((T73 l0 (ji8)).f1) _ _ ((T73 l0 (ji8)).f2) t608 _ ?side1 ?side2 A19.out).mono ?_
        (case side1 => exact zq (Kd.C_below HR607_2.out HB.out))
        (case side2 => exact HC607_2.out)
        rintro e w27 ⟨v609, rfl, ho0, hb⟩
        refine ⟨_, rfl, ?_⟩
        have HO610 := am (Kd.R_lower (Kd.R_new' ho0 (Kd.R_lt (zr HO605.out))) (below_size (by repeat ((with_reducible exact HB.out)))))
        replace HO605 := am (Kd.R_elder' (zr HO605.out) (Kd.R_base ho0) hb)
        replace BK599 := am (blk_below (g := gb599) (o := .cells #[.int .i64 ((T73 l0 x7_1).f0), .int .i64 ((T73 l0 x7_1).f1), .slice A598_2 ((T73 l0 x7_1).f2).length c598_2] 73 (0, 0)) (zk BK599.out) hb)
        replace HB := am (below_step (by repeat ((with_reducible exact HB.out))) hb)
        (try clear hb)
        (try clear ho0)
        obtain ⟨Ao28, co28, eo28⟩ := Kd.R_slice HO610.out
        (subst eo28)
        refine hK.out _ _ ⟨(blk_cell BK599.out 0).trans rfl, (blk_cell BK599.out 1).trans rfl, (blk_cell BK599.out 2).trans rfl, ((HB.out.cell (World.block_lt_of_cell? w _ hw601_0)).trans hw601_0), ((HB.out.cell (World.block_lt_of_cell? w _ hw601_1)).trans hw601_1), ((HB.out.cell (World.block_lt_of_cell? w _ hw601_2)).trans hw601_2), ((HB.out.cell (World.block_lt_of_cell? w _ hw602_0)).trans hw602_0), ((HB.out.cell (World.block_lt_of_cell? w _ hw602_1)).trans hw602_1), ((HB.out.cell (World.block_lt_of_cell? w _ hw602_2)).trans hw602_2), ((HB.out.cell (World.block_lt_of_cell? w _ hw606_0)).trans hw606_0), ((HB.out.cell (World.block_lt_of_cell? w _ hw606_1)).trans hw606_1), ((HB.out.cell (World.block_lt_of_cell? w _ hw606_2)).trans hw606_2), ((HB.out.cell (World.block_lt_of_cell? w _ hw607_0)).trans hw607_0), ((HB.out.cell (World.block_lt_of_cell? w _ hw607_1)).trans hw607_1), ((HB.out.cell (World.block_lt_of_cell? w _ hw607_2)).trans hw607_2)⟩ (fun hHeld => ?_)
        clear hK K
        refine norm_ (a' := ?_) ?_ ?_
        rotate_left
        ·show Act.put _ (some 49) _ = _
         simp only [Act.put,qa,qb,qc,i64_w,i32_w]
         rfl
        refine pu 35 (some 50) ?_
        refine pu 36 (some 51) ?_
        refine pu 37 (some 52) ?_
        refine pu 38 (some 53) ?_
        refine pu 39 (some 54) ?_
        refine done_ (done_of HT_.out (by kernel_rfl)) ?_
        try go_wp2
        go_ret
        exact ⟨by rfl, by repeat ((with_reducible exact HB.out))⟩
       ·rw [if_neg c20] at H
        have c20b0 : decide (((T73 l0 x7_1).f1) < (wrap64 (((T73 l0 (ji8)).f1) + (t608.length : Int)))) = false := decide_eq_false c20
        clear c20
        have H' := am H
        clear H
        have p598 : 0 ≤ (x7_1 : Int) := oa
        have q598 : x7_1 < (l0.length : Int) := oa
        obtain ⟨ad598, A598_2, c598_2, e598, hx598_0, hx598_1, hx598_2, hl598_2, hi598_2⟩ := at_T73 HR0.out x7_1 p598 q598
        cases e598
        replace hx598_0 := bc HB.out hx598_0
        replace hx598_1 := bc HB.out hx598_1
        replace hx598_2 := bc HB.out hx598_2
        have HR598_2 := am hi598_2
        have HC598_2 := am hl598_2
        clear hi598_2 hl598_2
        replace p598 := eq_true p598
        replace q598 := eq_true q598
        try go_wp2_with (first | ((with_reducible refine gate_dst (N := 4) rfl ?_); (try (refine gate_guard (by rfl) ?_; dsimp only)); refine box_event ?hg (N := 4) ?hd (cs := #[.int .i64 0, .int .i64 0, .slice none 0 0]) (t := 73) ?hr ?_; (case hd => rfl); (case hg => rfl); (case hr => (go_simp; done)); intro gb599 hg w29 hbox hb; have BK599 := am (hbox); have GW599 := am ((by rw [hg]; exact (below_size zb) : w.heap.size ≤ gb599)); have GE599 := am ((by rw [hg]; exact (below_size zb) : w.heap.size ≤ gb599)); replace HB := am (below_step zb hb); clear hb hbox hg; obtain ⟨hcz30_0, hcz30_1, hcz30_2⟩ := cz3 BK599.out; obtain ⟨hfz30_0, hfz30_1, hfz30_2⟩ := fz3 BK599.out) | ((with_reducible refine gateC (f := 107) rfl ?_); refine goesL_ (some 13) rfl rfl Try.func107 (by kernel_rfl) rfl #[.agg #[.int .i64 ((T73 l0 x7_1).f0), .int .i64 ((T73 l0 x7_1).f1), .slice A598_2 ((T73 l0 x7_1).f2).length c598_2]] rfl zm ?_; (with_reducible refine (spec_l6Group.calls k1 ((T73 l0 x7_1).f0) ((T73 l0 x7_1).f1) _ _ ((T73 l0 x7_1).f2) true _ ?side1 ?side2 A5.out).mono ?_); (case side1 => exact Kd.C_below HR598_2.out (by repeat ((with_reducible first | exact HB.out | refine below_set ?_ GE599.out)))); (case side2 => exact HC598_2.out); rintro e w31 ⟨rfl, hb⟩; refine ⟨_, rfl, ?_⟩; replace BK599 := am (blk_below (g := gb599) (o := .cells #[.int .i64 ((T73 l0 x7_1).f0), .int .i64 ((T73 l0 x7_1).f1), .slice A598_2 ((T73 l0 x7_1).f2).length c598_2] 73 (0, 0)) (by refine blk_put (cs := #[.int .i64 ((T73 l0 x7_1).f0), .int .i64 ((T73 l0 x7_1).f1), .slice none 0 0]) ?_ 2 _ rfl; refine blk_put (cs := #[.int .i64 ((T73 l0 x7_1).f0), .int .i64 0, .slice none 0 0]) ?_ 1 _ rfl; refine blk_put (cs := #[.int .i64 0, .int .i64 0, .slice none 0 0]) ?_ 0 _ rfl; exact BK599.out) hb); replace HB := am (below_step (by repeat ((with_reducible first | exact HB.out | refine below_set ?_ GE599.out))) hb); (try clear hb)))
        replace BK599 := am (blk_drew BK599.out)
        replace HB := am (below_drew1 HB.out)
        have p601 : 0 ≤ ((ji8) : Int) := oa
        have q601 : (ji8) < (l0.length : Int) := oa
        obtain ⟨ad601, A601_2, c601_2, e601, hx601_0, hx601_1, hx601_2, hl601_2, hi601_2⟩ := at_T73 HR0.out (ji8) p601 q601
        have hw601_2 := hx601_2
        have hw601_1 := hx601_1
        have hw601_0 := hx601_0
        obtain rfl : ad598 = ad601 := (by injection e601)
        replace hx601_0 := bc HB.out hx601_0
        replace hx601_1 := bc HB.out hx601_1
        replace hx601_2 := bc HB.out hx601_2
        have HR601_2 := am hi601_2
        have HC601_2 := am hl601_2
        clear hi601_2 hl601_2
        replace p601 := eq_true p601
        replace q601 := eq_true q601
        have p602 : 0 ≤ ((ji8) : Int) := oa
        have q602 : (ji8) < (l0.length : Int) := oa
        obtain ⟨ad602, A602_2, c602_2, e602, hx602_0, hx602_1, hx602_2, hl602_2, hi602_2⟩ := at_T73 HR0.out (ji8) p602 q602
        have hw602_2 := hx602_2
        have hw602_1 := hx602_1
        have hw602_0 := hx602_0
        obtain rfl : ad598 = ad602 := (by injection e602)
        replace hx602_0 := bc HB.out hx602_0
        replace hx602_1 := bc HB.out hx602_1
        replace hx602_2 := bc HB.out hx602_2
        have HR602_2 := am hi602_2
        have HC602_2 := am hl602_2
        clear hi602_2 hl602_2
        replace p602 := eq_true p602
        replace q602 := eq_true q602
        have ea_ := Option.some.inj (hx601_2.symm.trans hx602_2)
        injection ea_ with ea_ en_ ec_
        subst ea_
        subst ec_
        clear en_
        have p606 : 0 ≤ ((ji8) : Int) := oa
        have q606 : (ji8) < (l0.length : Int) := oa
        obtain ⟨ad606, A606_2, c606_2, e606, hx606_0, hx606_1, hx606_2, hl606_2, hi606_2⟩ := at_T73 HR0.out (ji8) p606 q606
        have hw606_2 := hx606_2
        have hw606_1 := hx606_1
        have hw606_0 := hx606_0
        obtain rfl : ad598 = ad606 := (by injection e606)
        replace hx606_0 := bc HB.out hx606_0
        replace hx606_1 := bc HB.out hx606_1
        replace hx606_2 := bc HB.out hx606_2
        have HR606_2 := am hi606_2
        have HC606_2 := am hl606_2
        clear hi606_2 hl606_2
        replace p606 := eq_true p606
        replace q606 := eq_true q606
        have eb_ := Option.some.inj (hx601_2.symm.trans hx606_2)
        injection eb_ with ea_ en_ ec_
        subst ea_
        subst ec_
        clear en_
        have p607 : 0 ≤ ((ji8) : Int) := oa
        have q607 : (ji8) < (l0.length : Int) := oa
        obtain ⟨ad607, A607_2, c607_2, e607, hx607_0, hx607_1, hx607_2, hl607_2, hi607_2⟩ := at_T73 HR0.out (ji8) p607 q607
        have hw607_2 := hx607_2
        have hw607_1 := hx607_1
        have hw607_0 := hx607_0
        obtain rfl : ad598 = ad607 := (by injection e607)
        replace hx607_0 := bc HB.out hx607_0
        replace hx607_1 := bc HB.out hx607_1
        replace hx607_2 := bc HB.out hx607_2
        have HR607_2 := am hi607_2
        have HC607_2 := am hl607_2
        clear hi607_2 hl607_2
        replace p607 := eq_true p607
        replace q607 := eq_true q607
        have ea_ := Option.some.inj (hx606_2.symm.trans hx607_2)
        injection ea_ with ea_ en_ ec_
        subst ea_
        subst ec_
        clear en_
        refine start_ (n := 40) (S := fun w' => w'.cell? ⟨gb599, 0, none⟩ = some (.int .i64 ((T73 l0 x7_1).f0)) ∧ w'.cell? ⟨gb599, 1, none⟩ = some (.int .i64 ((T73 l0 x7_1).f1)) ∧ w'.cell? ⟨gb599, 2, none⟩ = some (.slice A598_2 ((T73 l0 x7_1).f2).length c598_2) ∧ w'.cell? (ad598.add (((ji8)).toNat * 3)) = some (.int .i64 ((T73 l0 (ji8)).f0)) ∧ w'.cell? ⟨(ad598.add (((ji8)).toNat * 3)).block, (ad598.add (((ji8)).toNat * 3)).off + 1, none⟩ = some (.int .i64 ((T73 l0 (ji8)).f1)) ∧ w'.cell? ⟨(ad598.add (((ji8)).toNat * 3)).block, (ad598.add (((ji8)).toNat * 3)).off + 2, none⟩ = some (.slice A601_2 ((T73 l0 (ji8)).f2).length c601_2) ∧ w'.cell? (ad598.add (((ji8)).toNat * 3)) = some (.int .i64 ((T73 l0 (ji8)).f0)) ∧ w'.cell? ⟨(ad598.add (((ji8)).toNat * 3)).block, (ad598.add (((ji8)).toNat * 3)).off + 1, none⟩ = some (.int .i64 ((T73 l0 (ji8)).f1)) ∧ w'.cell? ⟨(ad598.add (((ji8)).toNat * 3)).block, (ad598.add (((ji8)).toNat * 3)).off + 2, none⟩ = some (.slice A601_2 ((T73 l0 (ji8)).f2).length c601_2) ∧ w'.cell? (ad598.add (((ji8)).toNat * 3)) = some (.int .i64 ((T73 l0 (ji8)).f0)) ∧ w'.cell? ⟨(ad598.add (((ji8)).toNat * 3)).block, (ad598.add (((ji8)).toNat * 3)).off + 1, none⟩ = some (.int .i64 ((T73 l0 (ji8)).f1)) ∧ w'.cell? ⟨(ad598.add (((ji8)).toNat * 3)).block, (ad598.add (((ji8)).toNat * 3)).off + 2, none⟩ = some (.slice A601_2 ((T73 l0 (ji8)).f2).length c601_2) ∧ w'.cell? (ad598.add (((ji8)).toNat * 3)) = some (.int .i64 ((T73 l0 (ji8)).f0)) ∧ w'.cell? ⟨(ad598.add (((ji8)).toNat * 3)).block, (ad598.add (((ji8)).toNat * 3)).off + 1, none⟩ = some (.int .i64 ((T73 l0 (ji8)).f1)) ∧ w'.cell? ⟨(ad598.add (((ji8)).toNat * 3)).block, (ad598.add (((ji8)).toNat * 3)).off + 2, none⟩ = some (.slice A601_2 ((T73 l0 (ji8)).f2).length c601_2)) (ds := []) #[O,O,O,O,O,O,O,O,O,O,O,O,O,O,O,O,O,O,O,O,O,O,O,O,O,O,O,O,O,O,O,O,O,O,O,O,O,O,O,O] (by kernel_rfl) rfl rfl ⟨(blk_cell BK599.out 0).trans rfl, (blk_cell BK599.out 1).trans rfl, (blk_cell BK599.out 2).trans rfl, ((HB.out.cell (World.block_lt_of_cell? w _ hw601_0)).trans hw601_0), ((HB.out.cell (World.block_lt_of_cell? w _ hw601_1)).trans hw601_1), ((HB.out.cell (World.block_lt_of_cell? w _ hw601_2)).trans hw601_2), ((HB.out.cell (World.block_lt_of_cell? w _ hw602_0)).trans hw602_0), ((HB.out.cell (World.block_lt_of_cell? w _ hw602_1)).trans hw602_1), ((HB.out.cell (World.block_lt_of_cell? w _ hw602_2)).trans hw602_2), ((HB.out.cell (World.block_lt_of_cell? w _ hw606_0)).trans hw606_0), ((HB.out.cell (World.block_lt_of_cell? w _ hw606_1)).trans hw606_1), ((HB.out.cell (World.block_lt_of_cell? w _ hw606_2)).trans hw606_2), ((HB.out.cell (World.block_lt_of_cell? w _ hw607_0)).trans hw607_0), ((HB.out.cell (World.block_lt_of_cell? w _ hw607_1)).trans hw607_1), ((HB.out.cell (World.block_lt_of_cell? w _ hw607_2)).trans hw607_2)⟩ (fun hHeld => ?_); refine with_tabW spec_l6Good.tab6 spec_l6Good.bits6 (fun HT_ HW_ => ?_)
        generalize w31.drew = w32 at BK599 HB HR601_2 HR602_2 HR606_2 HR607_2 hx601_0 hx601_1 hx601_2 hx602_0 hx602_1 hx602_2 hx606_0 hx606_1 hx606_2 hx607_0 hx607_1 hx607_2 hHeld ⊢
        refine pu 0 (some 15) ?_
        refine pu 1 (some 16) ?_
        refine pu 2 (some 17) ?_
        refine pu 3 (some 18) ?_
        refine pu 5 (some 20) ?_
        refine pu 6 (some 21) ?_
        refine pu 7 (some 22) ?_
        refine pu 8 (some 23) ?_
        refine pu 9 (some 24) ?_
        refine pu 11 (some 26) ?_
        refine pu 12 (some 27) ?_
        refine pu 13 (some 28) ?_
        refine pu 14 (some 29) ?_
        refine ta 4 (some 19) ?_
        refine ta 10 (some 25) ?_
        refine ta 15 (some 30) ?_
        refine one_ (i := 16) (N := some 31) #[Y,Y,Y,Y,Y,Y,Y,Y,Y,Y,Y,Y,Y,Y,Y,Y,Y,O,O,O,O,O,O,O,O,O,O,O,O,O,O,O,O,O,O,O,O,O,O,O] rfl rfl (one_of HT_.out (by kernel_rfl)) (by decide) (fun K hK => ?_)
        refine goes_ Try.func108 (by kernel_rfl) rfl #[.agg #[.int .i64 ((T73 l0 (ji8)).f0), .int .i64 ((T73 l0 (ji8)).f1), .slice A601_2 ((T73 l0 (ji8)).f2).length c601_2]] (by rfl) rfl rfl (by (try simp only [List.map_toArray, List.map_cons, List.map_nil]); rfl) ?_
        with_reducible refine (spec_l6Old.calls k1 ((T73 l0 (ji8)).f0) ((T73 l0 (ji8)).f1) _ _ ((T73 l0 (ji8)).f2) t603 _ ?side1 ?side2 A11.out).mono ?_
        (case side1 => exact zq (Kd.C_below HR602_2.out HB.out))
        (case side2 => exact HC602_2.out)
        rintro e w33 ⟨v604, rfl, ho0, hb⟩
        refine ⟨_, rfl, ?_⟩
        have HO605 := am (Kd.R_lower ho0 (below_size (by repeat ((with_reducible exact HB.out)))))
        replace BK599 := am (blk_below (g := gb599) (o := .cells #[.int .i64 ((T73 l0 x7_1).f0), .int .i64 ((T73 l0 x7_1).f1), .slice A598_2 ((T73 l0 x7_1).f2).length c598_2] 73 (0, 0)) (zk BK599.out) hb)
        replace HB := am (below_step (by repeat ((with_reducible exact HB.out))) hb)
        (try clear hb)
        (try clear ho0)
        obtain ⟨Ao34, co34, eo34⟩ := Kd.R_slice HO605.out
        (subst eo34)
        refine hK.out _ _ ⟨(blk_cell BK599.out 0).trans rfl, (blk_cell BK599.out 1).trans rfl, (blk_cell BK599.out 2).trans rfl, ((HB.out.cell (World.block_lt_of_cell? w _ hw601_0)).trans hw601_0), ((HB.out.cell (World.block_lt_of_cell? w _ hw601_1)).trans hw601_1), ((HB.out.cell (World.block_lt_of_cell? w _ hw601_2)).trans hw601_2), ((HB.out.cell (World.block_lt_of_cell? w _ hw602_0)).trans hw602_0), ((HB.out.cell (World.block_lt_of_cell? w _ hw602_1)).trans hw602_1), ((HB.out.cell (World.block_lt_of_cell? w _ hw602_2)).trans hw602_2), ((HB.out.cell (World.block_lt_of_cell? w _ hw606_0)).trans hw606_0), ((HB.out.cell (World.block_lt_of_cell? w _ hw606_1)).trans hw606_1), ((HB.out.cell (World.block_lt_of_cell? w _ hw606_2)).trans hw606_2), ((HB.out.cell (World.block_lt_of_cell? w _ hw607_0)).trans hw607_0), ((HB.out.cell (World.block_lt_of_cell? w _ hw607_1)).trans hw607_1), ((HB.out.cell (World.block_lt_of_cell? w _ hw607_2)).trans hw607_2)⟩ (fun hHeld => ?_)
        clear hK K
        refine norm_ (a' := ?_) ?_ ?_
        rotate_left
        ·show Act.put _ (some 31) _ = _
         simp only [Act.put,qa,qb,qc,i64_w,i32_w]
         rfl
        refine pu 17 (some 32) ?_
        refine pu 18 (some 33) ?_
        refine pu 19 (some 34) ?_
        refine pu 20 (some 35) ?_
        refine pu 21 (some 36) ?_
        refine pu 23 (some 38) ?_
        refine pu 24 (some 39) ?_
        refine pu 25 (some 40) ?_
        refine pu 26 (some 41) ?_
        refine pu 27 (some 42) ?_
        refine pu 29 (some 44) ?_
        refine pu 30 (some 45) ?_
        refine pu 31 (some 46) ?_
        refine pu 32 (some 47) ?_
        refine ta 22 (some 37) ?_
        refine ta 28 (some 43) ?_
        refine ta 33 (some 48) ?_
        refine one_ (i := 34) (N := some 49) #[Y,Y,Y,Y,Y,Y,Y,Y,Y,Y,Y,Y,Y,Y,Y,Y,Y,Y,Y,Y,Y,Y,Y,Y,Y,Y,Y,Y,Y,Y,Y,Y,Y,Y,Y,O,O,O,O,O] rfl rfl (one_of HT_.out (by kernel_rfl)) (by decide) (fun K hK => ?_)
        refine goes_ Try.func140 (by kernel_rfl) rfl #[.agg #[.int .i64 ((T73 l0 (ji8)).f0), .int .i64 ((T73 l0 (ji8)).f1), .slice A601_2 ((T73 l0 (ji8)).f2).length c601_2]] (by rfl) rfl rfl (by (try simp only [List.map_toArray, List.map_cons, List.map_nil]); rfl) ?_
        with_reducible refine (spec_l6New.calls k1 ((T73 l0 (ji8)).f0) ((T73 l0 (ji8)).f1) _ _ ((T73 l0 (ji8)).f2) t608 _ ?side1 ?side2 A19.out).mono ?_
        (case side1 => exact zq (Kd.C_below HR607_2.out HB.out))
        (case side2 => exact HC607_2.out)
        rintro e w35 ⟨v609, rfl, ho0, hb⟩
        refine ⟨_, rfl, ?_⟩
        have HO610 := am (Kd.R_lower (Kd.R_new' ho0 (Kd.R_lt (zr HO605.out))) (below_size (by repeat ((with_reducible exact HB.out)))))
        replace HO605 := am (Kd.R_elder' (zr HO605.out) (Kd.R_base ho0) hb)
        replace BK599 := am (blk_below (g := gb599) (o := .cells #[.int .i64 ((T73 l0 x7_1).f0), .int .i64 ((T73 l0 x7_1).f1), .slice A598_2 ((T73 l0 x7_1).f2).length c598_2] 73 (0, 0)) (zk BK599.out) hb)
        replace HB := am (below_step (by repeat ((with_reducible exact HB.out))) hb)
        (try clear hb)
        (try clear ho0)
        obtain ⟨Ao36, co36, eo36⟩ := Kd.R_slice HO610.out
        (subst eo36)
        refine hK.out _ _ ⟨(blk_cell BK599.out 0).trans rfl, (blk_cell BK599.out 1).trans rfl, (blk_cell BK599.out 2).trans rfl, ((HB.out.cell (World.block_lt_of_cell? w _ hw601_0)).trans hw601_0), ((HB.out.cell (World.block_lt_of_cell? w _ hw601_1)).trans hw601_1), ((HB.out.cell (World.block_lt_of_cell? w _ hw601_2)).trans hw601_2), ((HB.out.cell (World.block_lt_of_cell? w _ hw602_0)).trans hw602_0), ((HB.out.cell (World.block_lt_of_cell? w _ hw602_1)).trans hw602_1), ((HB.out.cell (World.block_lt_of_cell? w _ hw602_2)).trans hw602_2), ((HB.out.cell (World.block_lt_of_cell? w _ hw606_0)).trans hw606_0), ((HB.out.cell (World.block_lt_of_cell? w _ hw606_1)).trans hw606_1), ((HB.out.cell (World.block_lt_of_cell? w _ hw606_2)).trans hw606_2), ((HB.out.cell (World.block_lt_of_cell? w _ hw607_0)).trans hw607_0), ((HB.out.cell (World.block_lt_of_cell? w _ hw607_1)).trans hw607_1), ((HB.out.cell (World.block_lt_of_cell? w _ hw607_2)).trans hw607_2)⟩ (fun hHeld => ?_)
        clear hK K
        refine norm_ (a' := ?_) ?_ ?_
        rotate_left
        ·show Act.put _ (some 49) _ = _
         simp only [Act.put,qa,qb,qc,i64_w,i32_w]
         rfl
        refine pu 35 (some 50) ?_
        refine pu 36 (some 51) ?_
        refine pu 37 (some 52) ?_
        refine pu 38 (some 53) ?_
        refine pu 39 (some 54) ?_
        refine done_ (done_of HT_.out (by kernel_rfl)) ?_
        try go_wp2
        go_roundg k1
        case measure => have := HK1.out; omega
        case rel => exact ⟨(wrap64 (x7_1 + 1)), zf, H', ⟨by have := HK1.out; omega⟩, ⟨by repeat ((with_reducible exact HB.out))⟩⟩
     ·rw [if_neg c7] at H
      have c7b0 : decide (0 < x7_1) = false := decide_eq_false c7
      clear c7
      have H' := am H
      clear H
      have p598 : 0 ≤ (x7_1 : Int) := oa
      have q598 : x7_1 < (l0.length : Int) := oa
      obtain ⟨ad598, A598_2, c598_2, e598, hx598_0, hx598_1, hx598_2, hl598_2, hi598_2⟩ := at_T73 HR0.out x7_1 p598 q598
      cases e598
      replace hx598_0 := bc HB.out hx598_0
      replace hx598_1 := bc HB.out hx598_1
      replace hx598_2 := bc HB.out hx598_2
      have HR598_2 := am hi598_2
      have HC598_2 := am hl598_2
      clear hi598_2 hl598_2
      replace p598 := eq_true p598
      replace q598 := eq_true q598
      try go_wp2_with (first | ((with_reducible refine gate_dst (N := 4) rfl ?_); (try (refine gate_guard (by rfl) ?_; dsimp only)); refine box_event ?hg (N := 4) ?hd (cs := #[.int .i64 0, .int .i64 0, .slice none 0 0]) (t := 73) ?hr ?_; (case hd => rfl); (case hg => rfl); (case hr => (go_simp; done)); intro gb599 hg w37 hbox hb; have BK599 := am (hbox); have GW599 := am ((by rw [hg]; exact (below_size zb) : w.heap.size ≤ gb599)); have GE599 := am ((by rw [hg]; exact (below_size zb) : w.heap.size ≤ gb599)); replace HB := am (below_step zb hb); clear hb hbox hg; obtain ⟨hcz38_0, hcz38_1, hcz38_2⟩ := cz3 BK599.out; obtain ⟨hfz38_0, hfz38_1, hfz38_2⟩ := fz3 BK599.out) | ((with_reducible refine gateC (f := 107) rfl ?_); refine goesL_ (some 13) rfl rfl Try.func107 (by kernel_rfl) rfl #[.agg #[.int .i64 ((T73 l0 x7_1).f0), .int .i64 ((T73 l0 x7_1).f1), .slice A598_2 ((T73 l0 x7_1).f2).length c598_2]] rfl zm ?_; (with_reducible refine (spec_l6Group.calls k1 ((T73 l0 x7_1).f0) ((T73 l0 x7_1).f1) _ _ ((T73 l0 x7_1).f2) true _ ?side1 ?side2 A5.out).mono ?_); (case side1 => exact Kd.C_below HR598_2.out (by repeat ((with_reducible first | exact HB.out | refine below_set ?_ GE599.out)))); (case side2 => exact HC598_2.out); rintro e w39 ⟨rfl, hb⟩; refine ⟨_, rfl, ?_⟩; replace BK599 := am (blk_below (g := gb599) (o := .cells #[.int .i64 ((T73 l0 x7_1).f0), .int .i64 ((T73 l0 x7_1).f1), .slice A598_2 ((T73 l0 x7_1).f2).length c598_2] 73 (0, 0)) (by refine blk_put (cs := #[.int .i64 ((T73 l0 x7_1).f0), .int .i64 ((T73 l0 x7_1).f1), .slice none 0 0]) ?_ 2 _ rfl; refine blk_put (cs := #[.int .i64 ((T73 l0 x7_1).f0), .int .i64 0, .slice none 0 0]) ?_ 1 _ rfl; refine blk_put (cs := #[.int .i64 0, .int .i64 0, .slice none 0 0]) ?_ 0 _ rfl; exact BK599.out) hb); replace HB := am (below_step (by repeat ((with_reducible first | exact HB.out | refine below_set ?_ GE599.out))) hb); (try clear hb)))
      replace BK599 := am (blk_drew BK599.out)
      replace HB := am (below_drew1 HB.out)
      refine start_ (n := 40) (S := fun w' => True) (ds := []) #[O,O,O,O,O,O,O,O,O,O,O,O,O,O,O,O,O,O,O,O,O,O,O,O,O,O,O,O,O,O,O,O,O,O,O,O,O,O,O,O] (by kernel_rfl) rfl rfl trivial (fun hHeld => ?_); refine with_tabW spec_l6Good.tab6 spec_l6Good.bits6 (fun HT_ HW_ => ?_)
      generalize w39.drew = w40 at BK599 HB hHeld ⊢
      refine pu 0 (some 15) ?_
      refine pu 1 (some 16) ?_
      refine pu 2 (some 17) ?_
      refine pure_ (i := 3) (N := some 18) (v := undef) (a' := ?_) #[Y,Y,Y,Y,O,O,O,O,O,O,O,O,O,O,O,O,O,O,O,O,O,O,O,O,O,O,O,O,O,O,O,O,O,O,O,O,O,O,O,O] rfl rfl zx (fun _ _ _ h => h) (Or.inr ⟨by rfl, rfl⟩) ?_ ?_
      rotate_left
      ·simp only [Act.put,qa,qb,qc,i64_w,i32_w]
       rfl
      refine pure_ (i := 4) (N := some 19) (v := undef) (a' := ?_) #[Y,Y,Y,Y,Y,O,O,O,O,O,O,O,O,O,O,O,O,O,O,O,O,O,O,O,O,O,O,O,O,O,O,O,O,O,O,O,O,O,O,O] rfl rfl zx (fun _ _ _ h => h) (Or.inr ⟨by rfl, rfl⟩) ?_ ?_
      rotate_left
      ·simp only [Act.put,qa,qb,qc,i64_w,i32_w]
       rfl
      refine pure_ (i := 5) (N := some 20) (v := undef) (a' := ?_) #[Y,Y,Y,Y,Y,Y,O,O,O,O,O,O,O,O,O,O,O,O,O,O,O,O,O,O,O,O,O,O,O,O,O,O,O,O,O,O,O,O,O,O] rfl rfl zx (fun _ _ _ h => h) (Or.inr ⟨by rfl, rfl⟩) ?_ ?_
      rotate_left
      ·simp only [Act.put,qa,qb,qc,i64_w,i32_w]
       rfl
      refine pure_ (i := 6) (N := some 21) (v := undef) (a' := ?_) #[Y,Y,Y,Y,Y,Y,Y,O,O,O,O,O,O,O,O,O,O,O,O,O,O,O,O,O,O,O,O,O,O,O,O,O,O,O,O,O,O,O,O,O] rfl rfl zx (fun _ _ _ h => h) (Or.inr ⟨by rfl, rfl⟩) ?_ ?_
      rotate_left
      ·simp only [Act.put,qa,qb,qc,i64_w,i32_w]
       rfl
      refine pure_ (i := 7) (N := some 22) (v := undef) (a' := ?_) #[Y,Y,Y,Y,Y,Y,Y,Y,O,O,O,O,O,O,O,O,O,O,O,O,O,O,O,O,O,O,O,O,O,O,O,O,O,O,O,O,O,O,O,O] rfl rfl zx (fun _ _ _ h => h) (Or.inr ⟨by rfl, rfl⟩) ?_ ?_
      rotate_left
      ·simp only [Act.put,qa,qb,qc,i64_w,i32_w]
       rfl
      refine pure_ (i := 8) (N := some 23) (v := undef) (a' := ?_) #[Y,Y,Y,Y,Y,Y,Y,Y,Y,O,O,O,O,O,O,O,O,O,O,O,O,O,O,O,O,O,O,O,O,O,O,O,O,O,O,O,O,O,O,O] rfl rfl zx (fun _ _ _ h => h) (Or.inr ⟨by rfl, rfl⟩) ?_ ?_
      rotate_left
      ·simp only [Act.put,qa,qb,qc,i64_w,i32_w]
       rfl
      refine pure_ (i := 9) (N := some 24) (v := undef) (a' := ?_) #[Y,Y,Y,Y,Y,Y,Y,Y,Y,Y,O,O,O,O,O,O,O,O,O,O,O,O,O,O,O,O,O,O,O,O,O,O,O,O,O,O,O,O,O,O] rfl rfl zx (fun _ _ _ h => h) (Or.inr ⟨by rfl, rfl⟩) ?_ ?_
      rotate_left
      ·simp only [Act.put,qa,qb,qc,i64_w,i32_w]
       rfl
      refine pure_ (i := 10) (N := some 25) (v := undef) (a' := ?_) #[Y,Y,Y,Y,Y,Y,Y,Y,Y,Y,Y,O,O,O,O,O,O,O,O,O,O,O,O,O,O,O,O,O,O,O,O,O,O,O,O,O,O,O,O,O] rfl rfl zx (fun _ _ _ h => h) (Or.inr ⟨by rfl, rfl⟩) ?_ ?_
      rotate_left
      ·simp only [Act.put,qa,qb,qc,i64_w,i32_w]
       rfl
      refine pure_ (i := 11) (N := some 26) (v := undef) (a' := ?_) #[Y,Y,Y,Y,Y,Y,Y,Y,Y,Y,Y,Y,O,O,O,O,O,O,O,O,O,O,O,O,O,O,O,O,O,O,O,O,O,O,O,O,O,O,O,O] rfl rfl zx (fun _ _ _ h => h) (Or.inr ⟨by rfl, rfl⟩) ?_ ?_
      rotate_left
      ·simp only [Act.put,qa,qb,qc,i64_w,i32_w]
       rfl
      refine pure_ (i := 12) (N := some 27) (v := undef) (a' := ?_) #[Y,Y,Y,Y,Y,Y,Y,Y,Y,Y,Y,Y,Y,O,O,O,O,O,O,O,O,O,O,O,O,O,O,O,O,O,O,O,O,O,O,O,O,O,O,O] rfl rfl zx (fun _ _ _ h => h) (Or.inr ⟨by rfl, rfl⟩) ?_ ?_
      rotate_left
      ·simp only [Act.put,qa,qb,qc,i64_w,i32_w]
       rfl
      refine pure_ (i := 13) (N := some 28) (v := undef) (a' := ?_) #[Y,Y,Y,Y,Y,Y,Y,Y,Y,Y,Y,Y,Y,Y,O,O,O,O,O,O,O,O,O,O,O,O,O,O,O,O,O,O,O,O,O,O,O,O,O,O] rfl rfl zx (fun _ _ _ h => h) (Or.inr ⟨by rfl, rfl⟩) ?_ ?_
      rotate_left
      ·simp only [Act.put,qa,qb,qc,i64_w,i32_w]
       rfl
      refine pure_ (i := 14) (N := some 29) (v := undef) (a' := ?_) #[Y,Y,Y,Y,Y,Y,Y,Y,Y,Y,Y,Y,Y,Y,Y,O,O,O,O,O,O,O,O,O,O,O,O,O,O,O,O,O,O,O,O,O,O,O,O,O] rfl rfl zx (fun _ _ _ h => h) (Or.inr ⟨by rfl, rfl⟩) ?_ ?_
      rotate_left
      ·simp only [Act.put,qa,qb,qc,i64_w,i32_w]
       rfl
      refine pure_ (i := 15) (N := some 30) (v := undef) (a' := ?_) #[Y,Y,Y,Y,Y,Y,Y,Y,Y,Y,Y,Y,Y,Y,Y,Y,O,O,O,O,O,O,O,O,O,O,O,O,O,O,O,O,O,O,O,O,O,O,O,O] rfl rfl zx (fun _ _ _ h => h) (Or.inr ⟨by rfl, rfl⟩) ?_ ?_
      rotate_left
      ·simp only [Act.put,qa,qb,qc,i64_w,i32_w]
       rfl
      refine pure_ (i := 16) (N := some 31) (v := undef) (a' := ?_) #[Y,Y,Y,Y,Y,Y,Y,Y,Y,Y,Y,Y,Y,Y,Y,Y,Y,O,O,O,O,O,O,O,O,O,O,O,O,O,O,O,O,O,O,O,O,O,O,O] rfl rfl zx (fun _ _ _ h => h) (Or.inr ⟨by rfl, rfl⟩) ?_ ?_
      rotate_left
      ·simp only [Act.put,qa,qb,qc,i64_w,i32_w]
       rfl
      refine pure_ (i := 17) (N := some 32) (v := undef) (a' := ?_) #[Y,Y,Y,Y,Y,Y,Y,Y,Y,Y,Y,Y,Y,Y,Y,Y,Y,Y,O,O,O,O,O,O,O,O,O,O,O,O,O,O,O,O,O,O,O,O,O,O] rfl rfl zx (fun _ _ _ h => h) (Or.inr ⟨by rfl, rfl⟩) ?_ ?_
      rotate_left
      ·simp only [Act.put,qa,qb,qc,i64_w,i32_w]
       rfl
      refine pure_ (i := 18) (N := some 33) (v := undef) (a' := ?_) #[Y,Y,Y,Y,Y,Y,Y,Y,Y,Y,Y,Y,Y,Y,Y,Y,Y,Y,Y,O,O,O,O,O,O,O,O,O,O,O,O,O,O,O,O,O,O,O,O,O] rfl rfl zx (fun _ _ _ h => h) (Or.inr ⟨by rfl, rfl⟩) ?_ ?_
      rotate_left
      ·simp only [Act.put,qa,qb,qc,i64_w,i32_w]
       rfl
      refine pure_ (i := 19) (N := some 34) (v := undef) (a' := ?_) #[Y,Y,Y,Y,Y,Y,Y,Y,Y,Y,Y,Y,Y,Y,Y,Y,Y,Y,Y,Y,O,O,O,O,O,O,O,O,O,O,O,O,O,O,O,O,O,O,O,O] rfl rfl zx (fun _ _ _ h => h) (Or.inr ⟨by rfl, rfl⟩) ?_ ?_
      rotate_left
      ·simp only [Act.put,qa,qb,qc,i64_w,i32_w]
       rfl
      refine pure_ (i := 20) (N := some 35) (v := undef) (a' := ?_) #[Y,Y,Y,Y,Y,Y,Y,Y,Y,Y,Y,Y,Y,Y,Y,Y,Y,Y,Y,Y,Y,O,O,O,O,O,O,O,O,O,O,O,O,O,O,O,O,O,O,O] rfl rfl zx (fun _ _ _ h => h) (Or.inr ⟨by rfl, rfl⟩) ?_ ?_
      rotate_left
      ·simp only [Act.put,qa,qb,qc,i64_w,i32_w]
       rfl
      refine pure_ (i := 21) (N := some 36) (v := undef) (a' := ?_) #[Y,Y,Y,Y,Y,Y,Y,Y,Y,Y,Y,Y,Y,Y,Y,Y,Y,Y,Y,Y,Y,Y,O,O,O,O,O,O,O,O,O,O,O,O,O,O,O,O,O,O] rfl rfl zx (fun _ _ _ h => h) (Or.inr ⟨by rfl, rfl⟩) ?_ ?_
      rotate_left
      ·simp only [Act.put,qa,qb,qc,i64_w,i32_w]
       rfl
      refine pure_ (i := 22) (N := some 37) (v := undef) (a' := ?_) #[Y,Y,Y,Y,Y,Y,Y,Y,Y,Y,Y,Y,Y,Y,Y,Y,Y,Y,Y,Y,Y,Y,Y,O,O,O,O,O,O,O,O,O,O,O,O,O,O,O,O,O] rfl rfl zx (fun _ _ _ h => h) (Or.inr ⟨by rfl, rfl⟩) ?_ ?_
      rotate_left
      ·simp only [Act.put,qa,qb,qc,i64_w,i32_w]
       rfl
      refine pure_ (i := 23) (N := some 38) (v := undef) (a' := ?_) #[Y,Y,Y,Y,Y,Y,Y,Y,Y,Y,Y,Y,Y,Y,Y,Y,Y,Y,Y,Y,Y,Y,Y,Y,O,O,O,O,O,O,O,O,O,O,O,O,O,O,O,O] rfl rfl zx (fun _ _ _ h => h) (Or.inr ⟨by rfl, rfl⟩) ?_ ?_
      rotate_left
      ·simp only [Act.put,qa,qb,qc,i64_w,i32_w]
       rfl
      refine pure_ (i := 24) (N := some 39) (v := undef) (a' := ?_) #[Y,Y,Y,Y,Y,Y,Y,Y,Y,Y,Y,Y,Y,Y,Y,Y,Y,Y,Y,Y,Y,Y,Y,Y,Y,O,O,O,O,O,O,O,O,O,O,O,O,O,O,O] rfl rfl zx (fun _ _ _ h => h) (Or.inr ⟨by rfl, rfl⟩) ?_ ?_
      rotate_left
      ·simp only [Act.put,qa,qb,qc,i64_w,i32_w]
       rfl
      refine pure_ (i := 25) (N := some 40) (v := undef) (a' := ?_) #[Y,Y,Y,Y,Y,Y,Y,Y,Y,Y,Y,Y,Y,Y,Y,Y,Y,Y,Y,Y,Y,Y,Y,Y,Y,Y,O,O,O,O,O,O,O,O,O,O,O,O,O,O] rfl rfl zx (fun _ _ _ h => h) (Or.inr ⟨by rfl, rfl⟩) ?_ ?_
      rotate_left
      ·simp only [Act.put,qa,qb,qc,i64_w,i32_w]
       rfl
      refine pure_ (i := 26) (N := some 41) (v := undef) (a' := ?_) #[Y,Y,Y,Y,Y,Y,Y,Y,Y,Y,Y,Y,Y,Y,Y,Y,Y,Y,Y,Y,Y,Y,Y,Y,Y,Y,Y,O,O,O,O,O,O,O,O,O,O,O,O,O] rfl rfl zx (fun _ _ _ h => h) (Or.inr ⟨by rfl, rfl⟩) ?_ ?_
      rotate_left
      ·simp only [Act.put,qa,qb,qc,i64_w,i32_w]
       rfl
      refine pure_ (i := 27) (N := some 42) (v := undef) (a' := ?_) #[Y,Y,Y,Y,Y,Y,Y,Y,Y,Y,Y,Y,Y,Y,Y,Y,Y,Y,Y,Y,Y,Y,Y,Y,Y,Y,Y,Y,O,O,O,O,O,O,O,O,O,O,O,O] rfl rfl zx (fun _ _ _ h => h) (Or.inr ⟨by rfl, rfl⟩) ?_ ?_
      rotate_left
      ·simp only [Act.put,qa,qb,qc,i64_w,i32_w]
       rfl
      refine pure_ (i := 28) (N := some 43) (v := undef) (a' := ?_) #[Y,Y,Y,Y,Y,Y,Y,Y,Y,Y,Y,Y,Y,Y,Y,Y,Y,Y,Y,Y,Y,Y,Y,Y,Y,Y,Y,Y,Y,O,O,O,O,O,O,O,O,O,O,O] rfl rfl zx (fun _ _ _ h => h) (Or.inr ⟨by rfl, rfl⟩) ?_ ?_
      rotate_left
      ·simp only [Act.put,qa,qb,qc,i64_w,i32_w]
       rfl
      refine pure_ (i := 29) (N := some 44) (v := undef) (a' := ?_) #[Y,Y,Y,Y,Y,Y,Y,Y,Y,Y,Y,Y,Y,Y,Y,Y,Y,Y,Y,Y,Y,Y,Y,Y,Y,Y,Y,Y,Y,Y,O,O,O,O,O,O,O,O,O,O] rfl rfl zx (fun _ _ _ h => h) (Or.inr ⟨by rfl, rfl⟩) ?_ ?_
      rotate_left
      ·simp only [Act.put,qa,qb,qc,i64_w,i32_w]
       rfl
      refine pure_ (i := 30) (N := some 45) (v := undef) (a' := ?_) #[Y,Y,Y,Y,Y,Y,Y,Y,Y,Y,Y,Y,Y,Y,Y,Y,Y,Y,Y,Y,Y,Y,Y,Y,Y,Y,Y,Y,Y,Y,Y,O,O,O,O,O,O,O,O,O] rfl rfl zx (fun _ _ _ h => h) (Or.inr ⟨by rfl, rfl⟩) ?_ ?_
      rotate_left
      ·simp only [Act.put,qa,qb,qc,i64_w,i32_w]
       rfl
      refine pure_ (i := 31) (N := some 46) (v := undef) (a' := ?_) #[Y,Y,Y,Y,Y,Y,Y,Y,Y,Y,Y,Y,Y,Y,Y,Y,Y,Y,Y,Y,Y,Y,Y,Y,Y,Y,Y,Y,Y,Y,Y,Y,O,O,O,O,O,O,O,O] rfl rfl zx (fun _ _ _ h => h) (Or.inr ⟨by rfl, rfl⟩) ?_ ?_
      rotate_left
      ·simp only [Act.put,qa,qb,qc,i64_w,i32_w]
       rfl
      refine pure_ (i := 32) (N := some 47) (v := undef) (a' := ?_) #[Y,Y,Y,Y,Y,Y,Y,Y,Y,Y,Y,Y,Y,Y,Y,Y,Y,Y,Y,Y,Y,Y,Y,Y,Y,Y,Y,Y,Y,Y,Y,Y,Y,O,O,O,O,O,O,O] rfl rfl zx (fun _ _ _ h => h) (Or.inr ⟨by rfl, rfl⟩) ?_ ?_
      rotate_left
      ·simp only [Act.put,qa,qb,qc,i64_w,i32_w]
       rfl
      refine pure_ (i := 33) (N := some 48) (v := undef) (a' := ?_) #[Y,Y,Y,Y,Y,Y,Y,Y,Y,Y,Y,Y,Y,Y,Y,Y,Y,Y,Y,Y,Y,Y,Y,Y,Y,Y,Y,Y,Y,Y,Y,Y,Y,Y,O,O,O,O,O,O] rfl rfl zx (fun _ _ _ h => h) (Or.inr ⟨by rfl, rfl⟩) ?_ ?_
      rotate_left
      ·simp only [Act.put,qa,qb,qc,i64_w,i32_w]
       rfl
      refine pure_ (i := 34) (N := some 49) (v := undef) (a' := ?_) #[Y,Y,Y,Y,Y,Y,Y,Y,Y,Y,Y,Y,Y,Y,Y,Y,Y,Y,Y,Y,Y,Y,Y,Y,Y,Y,Y,Y,Y,Y,Y,Y,Y,Y,Y,O,O,O,O,O] rfl rfl zx (fun _ _ _ h => h) (Or.inr ⟨by rfl, rfl⟩) ?_ ?_
      rotate_left
      ·simp only [Act.put,qa,qb,qc,i64_w,i32_w]
       rfl
      refine pure_ (i := 35) (N := some 50) (v := undef) (a' := ?_) #[Y,Y,Y,Y,Y,Y,Y,Y,Y,Y,Y,Y,Y,Y,Y,Y,Y,Y,Y,Y,Y,Y,Y,Y,Y,Y,Y,Y,Y,Y,Y,Y,Y,Y,Y,Y,O,O,O,O] rfl rfl zx (fun _ _ _ h => h) (Or.inr ⟨by rfl, rfl⟩) ?_ ?_
      rotate_left
      ·simp only [Act.put,qa,qb,qc,i64_w,i32_w]
       rfl
      refine pure_ (i := 36) (N := some 51) (v := undef) (a' := ?_) #[Y,Y,Y,Y,Y,Y,Y,Y,Y,Y,Y,Y,Y,Y,Y,Y,Y,Y,Y,Y,Y,Y,Y,Y,Y,Y,Y,Y,Y,Y,Y,Y,Y,Y,Y,Y,Y,O,O,O] rfl rfl zx (fun _ _ _ h => h) (Or.inr ⟨by rfl, rfl⟩) ?_ ?_
      rotate_left
      ·simp only [Act.put,qa,qb,qc,i64_w,i32_w]
       rfl
      refine pure_ (i := 37) (N := some 52) (v := undef) (a' := ?_) #[Y,Y,Y,Y,Y,Y,Y,Y,Y,Y,Y,Y,Y,Y,Y,Y,Y,Y,Y,Y,Y,Y,Y,Y,Y,Y,Y,Y,Y,Y,Y,Y,Y,Y,Y,Y,Y,Y,O,O] rfl rfl zx (fun _ _ _ h => h) (Or.inr ⟨by rfl, rfl⟩) ?_ ?_
      rotate_left
      ·simp only [Act.put,qa,qb,qc,i64_w,i32_w]
       rfl
      refine pure_ (i := 38) (N := some 53) (v := undef) (a' := ?_) #[Y,Y,Y,Y,Y,Y,Y,Y,Y,Y,Y,Y,Y,Y,Y,Y,Y,Y,Y,Y,Y,Y,Y,Y,Y,Y,Y,Y,Y,Y,Y,Y,Y,Y,Y,Y,Y,Y,Y,O] rfl rfl zx (fun _ _ _ h => h) (Or.inr ⟨by rfl, rfl⟩) ?_ ?_
      rotate_left
      ·simp only [Act.put,qa,qb,qc,i64_w,i32_w]
       rfl
      refine pu 39 (some 54) ?_
      refine done_ (done_of HT_.out (by kernel_rfl)) ?_
      try go_wp2
      go_roundg k1
      case measure => have := HK1.out; omega
      case rel => exact ⟨(wrap64 (x7_1 + 1)), zf, H', ⟨by have := HK1.out; omega⟩, ⟨by repeat ((with_reducible exact HB.out))⟩⟩
    ·replace c6 := Bool.eq_false_iff.mpr c6
     subst c6
     rw [if_neg nofun] at H
     obtain rfl := Option.some.inj H
     have p598 : 0 ≤ (x7_1 : Int) := oa
     have q598 : x7_1 < (l0.length : Int) := oa
     obtain ⟨ad598, A598_2, c598_2, e598, hx598_0, hx598_1, hx598_2, hl598_2, hi598_2⟩ := at_T73 HR0.out x7_1 p598 q598
     cases e598
     replace hx598_0 := bc HB.out hx598_0
     replace hx598_1 := bc HB.out hx598_1
     replace hx598_2 := bc HB.out hx598_2
     have HR598_2 := am hi598_2
     have HC598_2 := am hl598_2
     clear hi598_2 hl598_2
     replace p598 := eq_true p598
     replace q598 := eq_true q598
     go_wp2_with (first | ((with_reducible refine gate_dst (N := 4) rfl ?_); (try (refine gate_guard (by rfl) ?_; dsimp only)); refine box_event ?hg (N := 4) ?hd (cs := #[.int .i64 0, .int .i64 0, .slice none 0 0]) (t := 73) ?hr ?_; (case hd => rfl); (case hg => rfl); (case hr => (go_simp; done)); intro gb599 hg w41 hbox hb; have BK599 := am (hbox); have GW599 := am ((by rw [hg]; exact (below_size zb) : w.heap.size ≤ gb599)); have GE599 := am ((by rw [hg]; exact (below_size zb) : w.heap.size ≤ gb599)); replace HB := am (below_step zb hb); clear hb hbox hg; obtain ⟨hcz42_0, hcz42_1, hcz42_2⟩ := cz3 BK599.out; obtain ⟨hfz42_0, hfz42_1, hfz42_2⟩ := fz3 BK599.out) | ((with_reducible refine gateC (f := 107) rfl ?_); refine goesL_ (some 13) rfl rfl Try.func107 (by kernel_rfl) rfl #[.agg #[.int .i64 ((T73 l0 x7_1).f0), .int .i64 ((T73 l0 x7_1).f1), .slice A598_2 ((T73 l0 x7_1).f2).length c598_2]] rfl zm ?_; (with_reducible refine (spec_l6Group.calls k1 ((T73 l0 x7_1).f0) ((T73 l0 x7_1).f1) _ _ ((T73 l0 x7_1).f2) false _ ?side1 ?side2 A5.out).mono ?_); (case side1 => exact Kd.C_below HR598_2.out (by repeat ((with_reducible first | exact HB.out | refine below_set ?_ GE599.out)))); (case side2 => exact HC598_2.out); rintro e w43 ⟨rfl, hb⟩; refine ⟨_, rfl, ?_⟩; replace BK599 := am (blk_below (g := gb599) (o := .cells #[.int .i64 ((T73 l0 x7_1).f0), .int .i64 ((T73 l0 x7_1).f1), .slice A598_2 ((T73 l0 x7_1).f2).length c598_2] 73 (0, 0)) (by refine blk_put (cs := #[.int .i64 ((T73 l0 x7_1).f0), .int .i64 ((T73 l0 x7_1).f1), .slice none 0 0]) ?_ 2 _ rfl; refine blk_put (cs := #[.int .i64 ((T73 l0 x7_1).f0), .int .i64 0, .slice none 0 0]) ?_ 1 _ rfl; refine blk_put (cs := #[.int .i64 0, .int .i64 0, .slice none 0 0]) ?_ 0 _ rfl; exact BK599.out) hb); replace HB := am (below_step (by repeat ((with_reducible first | exact HB.out | refine below_set ?_ GE599.out))) hb); (try clear hb)))
     go_ret
     exact ⟨by rfl, by repeat ((with_reducible exact HB.out))⟩
   ·rw [if_neg c2] at H
    have c2b0 : decide (x7_1 < (l0.length : Int)) = false := decide_eq_false c2
    clear c2
    obtain rfl := Option.some.inj H
    go_wp2
    go_ret
    exact ⟨by rfl, by repeat ((with_reducible exact HB.out))⟩

def spec_GroupHunks.f (k : Nat) (l0 : List ByteArray) (l1 : List (S73)) : Option ((List (S106)) × Int × Bool) := (spec_l1Good.f k l0).bind fun t634 => (if t634 = true then ((spec_l6Good.f k l1).bind fun t635 => (if t635 = true then ((spec_l6All.f k l0 l1).bind fun bt636 => (some (bt636.1, bt636.2, true))) else (some (([] : List (S106)), 0, false)))) else (some (([] : List (S106)), 0, false)))
set_option maxHeartbeats 8000000 in
set_option maxRecDepth 100000 in
theorem spec_GroupHunks.calls (k : Nat) (A0 : Option Addr) (c0 : Nat) (l0 : List ByteArray) (A1 : Option Addr) (c1 : Nat) (l1 : List (S73)) (r1 : List (S106)) (r2 : Int) (r3 : Bool) (w : World) (hr0 : Kd.C Kd.string w A0 l0.length l0) (hc0 : l0.length ≤ c0) (hr1 : Kd.C k73 w A1 l1.length l1) (hc1 : l1.length ≤ c1) (h : spec_GroupHunks.f k l0 l1 = some (r1, r2, r3)) :
  Calls Try.prog 57 #[.slice A0 l0.length c0, .slice A1 l1.length c1] w fun e w' => ∃ v0_ : Value, e = .returned (.tuple #[v0_, .int .i64 r2, .bool r3]) ∧ Kd.N k106 106 w' w.heap.size (fun k_ => (w.heap.size ≤ k_)) v0_ r1 ∧ Below w.heap.size w w' := by
 have HR0 := am hr0
 have HC0 := am hc0
 clear hr0 hc0
 have HR1 := am hr1
 have HC1 := am hc1
 clear hr1 hc1
 have HB := am (Below.refl w.heap.size w)
 have H : ((spec_l1Good.f k l0).bind fun t634 => (if t634 = true then ((spec_l6Good.f k l1).bind fun t635 => (if t635 = true then ((spec_l6All.f k l0 l1).bind fun bt636 => (some (bt636.1, bt636.2, true))) else (some (([] : List (S106)), 0, false)))) else (some (([] : List (S106)), 0, false)))) = some (r1, r2, r3) := h
 clear h
 replace H := Option.bind_eq_some_iff.mp H
 obtain ⟨t634, A30, H⟩ := H
 replace H : (if t634 = true then ((spec_l6Good.f k l1).bind fun t635 => (if t635 = true then ((spec_l6All.f k l0 l1).bind fun bt636 => (some (bt636.1, bt636.2, true))) else (some (([] : List (S106)), 0, false)))) else (some (([] : List (S106)), 0, false))) = some (r1, r2, r3) := H
 have A3 := am A30
 clear A30
 by_cases c4 : t634 = true
 ·subst c4
  have H1 : ((spec_l6Good.f k l1).bind fun t635 => (if t635 = true then ((spec_l6All.f k l0 l1).bind fun bt636 => (some (bt636.1, bt636.2, true))) else (some (([] : List (S106)), 0, false)))) = some (r1, r2, r3) := by rw [if_pos rfl] at H; exact H
  clear H
  have H := H1
  clear H1
  replace H := Option.bind_eq_some_iff.mp H
  obtain ⟨t635, A50, H⟩ := H
  replace H : (if t635 = true then ((spec_l6All.f k l0 l1).bind fun bt636 => (some (bt636.1, bt636.2, true))) else (some (([] : List (S106)), 0, false))) = some (r1, r2, r3) := H
  have A5 := am A50
  clear A50
  by_cases c6 : t635 = true
  ·subst c6
   have H1 : ((spec_l6All.f k l0 l1).bind fun bt636 => (some (bt636.1, bt636.2, true))) = some (r1, r2, r3) := by rw [if_pos rfl] at H; exact H
   clear H
   have H := H1
   clear H1
   replace H := Option.bind_eq_some_iff.mp H
   obtain ⟨⟨t636, t639⟩, A70, H⟩ := H
   replace H : (some (t636, t639, true)) = some (r1, r2, r3) := H
   have A7 := am A70
   clear A70
   simp only [Option.some.injEq, Prod.mk.injEq] at H
   obtain ⟨rfl, rfl, rfl⟩ := H
   go_enter Try.func57, Try.ntmps57
   go_wp2_with (first | ((with_reducible refine gateC (f := 66) rfl ?_); refine goesL_ (some 10) rfl rfl Try.func66 (by kernel_rfl) rfl #[.slice A0 l0.length c0] rfl zm ?_; (with_reducible refine (spec_l1Good.calls k _ _ l0 true _ ?side1 ?side2 A3.out).mono ?_); (case side1 => exact zq HR0.out); (case side2 => exact HC0.out); rintro e w' ⟨rfl, ⟨nd, rfl⟩⟩; refine ⟨_, rfl, ?_⟩) | (go_at_call 115; (with_reducible refine (spec_l6Good.calls k _ _ l1 true _ ?side1 ?side2 A5.out).mono ?_); (case side1 => exact zq HR1.out); (case side2 => exact HC1.out); rintro e w8 ⟨rfl, hb⟩; have n0_ := am (below_step zb hb); clear HB; have HB := n0_; clear n0_; (try clear hb)) | ((with_reducible refine gateC (f := 116) rfl ?_); refine goesL_ (some 20) rfl rfl Try.func116 (by kernel_rfl) rfl #[.slice A0 l0.length c0, .slice A1 l1.length c1] rfl zm ?_; (with_reducible refine (spec_l6All.calls k _ _ l0 _ _ l1 t636 t639 _ ?side1 ?side2 ?side3 ?side4 A7.out).mono ?_); (case side1 => exact zq (Kd.C_below HR0.out HB.out)); (case side2 => exact HC0.out); (case side3 => exact zq (Kd.C_below HR1.out HB.out)); (case side4 => exact HC1.out); rintro e w9 ⟨v637, rfl, ho0, hb⟩; refine ⟨_, rfl, ?_⟩; have n0_ := am (Kd.N_lower (Kd.N_mono (ok' := fun k_ => (w.heap.size ≤ k_)) ho0 (fun k_ hk_ => (Nat.le_trans (below_size zb) hk_))) (below_size zb)); have n1_ := am (below_step zb hb); clear HB; have HO638 := n0_; have HB := n1_; clear n0_ n1_; (try clear hb); (try clear ho0)))
   go_ret3
   exact ⟨_, by first | rfl | (simp [errW_none, errW_some] <;> rfl) | (simp [*, errW_none, errW_some] <;> rfl), by (with_reducible repeat (first | apply Kd.N_alloc | apply Kd.N_drewN | apply Kd.N_drew)); exact HO638.out, zb⟩
  ·replace c6 := Bool.eq_false_iff.mpr c6
   subst c6
   have H1 : (some (([] : List (S106)), 0, false)) = some (r1, r2, r3) := by rw [if_neg (show ¬ (false = true) by decide)] at H; exact H
   clear H
   have H := H1
   clear H1
   simp only [Option.some.injEq, Prod.mk.injEq] at H
   obtain ⟨rfl, rfl, rfl⟩ := H
   go_enter Try.func57, Try.ntmps57
   go_wp2_with (first | ((with_reducible refine gateC (f := 66) rfl ?_); refine goesL_ (some 10) rfl rfl Try.func66 (by kernel_rfl) rfl #[.slice A0 l0.length c0] rfl zm ?_; (with_reducible refine (spec_l1Good.calls k _ _ l0 true _ ?side1 ?side2 A3.out).mono ?_); (case side1 => exact zq HR0.out); (case side2 => exact HC0.out); rintro e w' ⟨rfl, ⟨nd, rfl⟩⟩; refine ⟨_, rfl, ?_⟩) | (go_at_call 115; (with_reducible refine (spec_l6Good.calls k _ _ l1 false _ ?side1 ?side2 A5.out).mono ?_); (case side1 => exact zq HR1.out); (case side2 => exact HC1.out); rintro e w10 ⟨rfl, hb⟩; have n0_ := am (below_step zb hb); clear HB; have HB := n0_; clear n0_; (try clear hb)))
   go_ret3
   exact ⟨_, by first | rfl | (simp [errW_none, errW_some] <;> rfl) | (simp [*, errW_none, errW_some] <;> rfl), by first | exact Kd.S_nil _ _ _ _ _ | exact Kd.N_nil _ _ _ _ _ | exact Kd.V_nil _ _ _ _ _ | exact Kd.Q_nil _ _ _ _ _ | exact Kd.R_nil _ _ _ _ _, zb⟩
 ·replace c4 := Bool.eq_false_iff.mpr c4
  subst c4
  have H1 : (some (([] : List (S106)), 0, false)) = some (r1, r2, r3) := by rw [if_neg (show ¬ (false = true) by decide)] at H; exact H
  clear H
  have H := H1
  clear H1
  simp only [Option.some.injEq, Prod.mk.injEq] at H
  obtain ⟨rfl, rfl, rfl⟩ := H
  go_enter Try.func57, Try.ntmps57
  go_wp2_with (first | ((with_reducible refine gateC (f := 66) rfl ?_); refine goesL_ (some 10) rfl rfl Try.func66 (by kernel_rfl) rfl #[.slice A0 l0.length c0] rfl zm ?_; (with_reducible refine (spec_l1Good.calls k _ _ l0 false _ ?side1 ?side2 A3.out).mono ?_); (case side1 => exact zq HR0.out); (case side2 => exact HC0.out); rintro e w' ⟨rfl, ⟨nd, rfl⟩⟩; refine ⟨_, rfl, ?_⟩))
  go_ret3
  exact ⟨_, by first | rfl | (simp [errW_none, errW_some] <;> rfl) | (simp [*, errW_none, errW_some] <;> rfl), by first | exact Kd.S_nil _ _ _ _ _ | exact Kd.N_nil _ _ _ _ _ | exact Kd.V_nil _ _ _ _ _ | exact Kd.Q_nil _ _ _ _ _ | exact Kd.R_nil _ _ _ _ _, zb⟩
end Go.Proofs.Ytmcldkobejhaeaa.My
namespace Go.Proofs.Ytmcldkobejhaeaa.Pl
open Go.RowKit Go.Proofs.YtmcldkobejhaeaaW.PrintWords Go.Proofs.YtmcldkobejhaeaaW.PrintLast
set_option linter.unusedVariables false
set_option linter.unusedSimpArgs false
section
variable {α β : Type}
theorem ev_pos {c : Prop} [Decidable c] {g g' : Nat → Option α} {r : α} (hc : c) (h : Ev g r) : Ev (fun k => if c then g k else g' k) r :=
  Ev.congr (fun _ => if_pos hc) h
theorem ev_neg {c : Prop} [Decidable c] {g g' : Nat → Option α} {r : α} (hc : ¬ c) (h : Ev g' r) : Ev (fun k => if c then g k else g' k) r :=
  Ev.congr (fun _ => if_neg hc) h
theorem ev_ite {c : Prop} [Decidable c] {g g' : Nat → Option α} {r : α} (h : c → Ev g r) (h' : ¬ c → Ev g' r) : Ev (fun k => if c then g k else g' k) r := by
  by_cases hc : c
  · exact ev_pos hc (h hc)
  · exact ev_neg hc (h' hc)
theorem ev_some {r r' : α} (h : r = r') : Ev (fun _ => some r) r' := h ▸ Ev.now r
theorem ev_const {o : Option α} {r : α} (h : o = some r) : Ev (fun _ => o) r := ⟨0, fun _ _ => h⟩
theorem ev_to {g : Nat → Option α} {r r' : α} (h : Ev g r) (e : r = r') : Ev g r' := e ▸ h
theorem ev_bind {g : Nat → Option α} {f : Nat → α → Option β} {a : α} {r : β} (h : Ev g a) (k : Ev (fun n => f n a) r) : Ev (fun n => (g n).bind fun t => f n t) r := Ev.bind h k
end
theorem wrap64_id {x : Int} (h : -9223372036854775808 ≤ x) (h' : x ≤ 9223372036854775807) : wrap64 x = x := by
  unfold wrap64
  omega
theorem wrap_succ (i : Nat) (h : i < 9223372036854775807) : wrap64 ((i : Int) + 1) = ((i + 1 : Nat) : Int) := by
  rw [wrap64_id (by omega) (by omega)]
  omega
theorem wrap_pred (n : Nat) (h0 : 0 < n) (h : n ≤ 9223372036854775807) : wrap64 ((n : Int) - 1) = ((n - 1 : Nat) : Int) := by
  rw [wrap64_id (by omega) (by omega)]
  omega
theorem getD_lt {α : Type} (xs : List α) (d : α) (i : Nat) (h : i < xs.length) : xs.getD i d = xs[i] := by
  simp [List.getD_eq_getElem?_getD, List.getElem?_eq_getElem h]
theorem rdOf_lt {α : Type} (d : α) (xs : List α) (i : Nat) (h : i < xs.length) : rdOf d xs (i : Int) = xs[i] := getD_lt xs d i h
theorem ba_ext {a b : ByteArray} (h : a.toList = b.toList) : a = b := by
  rw [Lib.toList_data, Lib.toList_data] at h
  cases a with | mk a => cases b with | mk b =>
  cases a with | mk a => cases b with | mk b =>
  simp_all
theorem drop_cons {α : Type} (xs : List α) (i : Nat) (h : i < xs.length) : xs.drop i = xs[i] :: xs.drop (i + 1) := List.drop_eq_getElem_cons h
theorem bt_nat (s : ByteArray) (i : Nat) (h : i < s.size) : bt s (i : Int) = ((s.data.toList[i]'(by rw [data_length]; exact h)).toNat : Int) := by
  unfold bt
  rw [dif_pos (by simpa using h)]
  simp [ByteArray.getElem_eq_getElem_data]
theorem u8_eq {b c : UInt8} (h : (b.toNat : Int) = (c.toNat : Int)) : b = c := UInt8.toNat_inj.1 (by omega)
theorem u8_ne {b c : UInt8} (h : ¬ (b.toNat : Int) = (c.toNat : Int)) : ¬ c = b := fun e => h (by rw [e])
end Go.Proofs.Ytmcldkobejhaeaa.Pl
namespace Go.Proofs.Ytmcldkobejhaeaa.Pl
open Go.RowKit Go.Proofs.YtmcldkobejhaeaaW.PrintWords Go.Proofs.YtmcldkobejhaeaaW.PrintLast
set_option linter.unusedVariables false
set_option linter.unusedSimpArgs false
def FitS (l : List ByteArray) : Prop := l.length ≤ 9223372036854775807 ∧ ∀ s ∈ l, s.size ≤ 9223372036854775807
end Go.Proofs.Ytmcldkobejhaeaa.Pl
namespace Go.Proofs.Ytmcldkobejhaeaa.My
open Go.RowKit Go.Proofs.YtmcldkobejhaeaaW.PrintWords Go.Proofs.YtmcldkobejhaeaaW.PrintLast Go.Proofs.YtmcldkobejhaeaaW.PrintMore
attribute [local go_sem] max2_int min2_int max_two min_two max_three min_three max_four min_four
set_option linter.unusedVariables false
set_option linter.unusedSimpArgs false
def laws_szStringS.l0 : Nat → List ByteArray → Int → Int → Option (Int)
 | 0, _, _, _ => none
 | k + 1, x0, x1, x5 => if x5 < (x0.length : Int) then (if 0 ≤ x5 then (if (wrap64 (x1 - ((rdOf ByteArray.empty x0 x5).size : Int))) < 0 then (some (-1)) else (laws_szStringS.l0 k x0 (wrap64 (x1 - ((rdOf ByteArray.empty x0 x5).size : Int))) (wrap64 (x5 + 1)))) else (none)) else (some x1)
def laws_szStringS.f (k : Nat) (l0 : List ByteArray) (a1 : Int) : Option (Int) := if (wrap64 (a1 - (l0.length : Int))) < 0 then (some (-1)) else (laws_szStringS.l0 k l0 (wrap64 (a1 - (l0.length : Int))) 0)
set_option maxHeartbeats 8000000 in
set_option maxRecDepth 100000 in
theorem laws_szStringS.calls (k : Nat) (A0 : Option Addr) (c0 : Nat) (l0 : List ByteArray) (a1 : Int) (r : Int) (w : World) (hr0 : Kd.C Kd.string w A0 l0.length l0) (hc0 : l0.length ≤ c0) (h : laws_szStringS.f k l0 a1 = some r) :
  Calls Try.prog 37 #[.slice A0 l0.length c0, .int .i64 a1] w fun e w' => e = .returned (.int .i64 r) ∧ Drawn0 w w' := by
 have HR0 := am hr0
 have HC0 := am hc0
 clear hr0 hc0
 have H : (if (wrap64 (a1 - (l0.length : Int))) < 0 then (some (-1)) else (laws_szStringS.l0 k l0 (wrap64 (a1 - (l0.length : Int))) 0)) = some r := h
 clear h
 by_cases c3 : (wrap64 (a1 - (l0.length : Int))) < 0
 ·rw [if_pos c3] at H
  have c3b0 : decide ((wrap64 (a1 - (l0.length : Int))) < 0) = true := decide_eq_true c3
  clear c3
  obtain rfl := Option.some.inj H
  go_enter Try.func37, Try.ntmps37
  go_wp2
  go_ret
  exact ⟨by first | rfl | (simp; done) | (simp [*]; done), by repeat (first | exact Drawn0.refl _ | apply Drawn0.step)⟩
 ·rw [if_neg c3] at H
  have c3b0 : decide ((wrap64 (a1 - (l0.length : Int))) < 0) = false := decide_eq_false c3
  clear c3
  have H' := am H
  clear H
  go_enter Try.func37, Try.ntmps37
  go_wp2
  go_loopg [1, 5] k (fun kq v1 v5 w' => ∃ (x1_1 : Int) (x5_1 : Int), v1 = .int .i64 x1_1 ∧ v5 = .int .i64 x5_1 ∧ Aside0 (laws_szStringS.l0 kq l0 x1_1 x5_1 = some r) ∧ Aside0 (kq ≤ k) ∧ Drawn0 w w')
  case atStart => exact ⟨(wrap64 (a1 - (l0.length : Int))), (0), zf, zf, H', ⟨Nat.le_refl _⟩, by repeat (first | exact Drawn0.refl _ | apply Drawn0.step)⟩
  case round =>
   clear H'
   try clear p2
   try clear c3
   try clear c3b0
   obtain ⟨x1_1, x5_1, rfl, rfl, HA, HK1, ⟨m1, rfl⟩⟩ := hrel
   cases gk with
   | zero => exact absurd HA.out (by simp [laws_szStringS.l0])
   | succ k1 =>
    have H := HA.out
    clear HA
    simp only [laws_szStringS.l0] at H
    by_cases c4 : x5_1 < (l0.length : Int)
    ·rw [if_pos c4] at H
     have c4b0 : decide (x5_1 < (l0.length : Int)) = true := decide_eq_true c4
     clear c4
     by_cases c5 : 0 ≤ x5_1
     ·rw [if_pos c5] at H
      have c5b0 : decide (0 ≤ x5_1) = true := decide_eq_true c5
      clear c5
      by_cases c6 : (wrap64 (x1_1 - ((rdOf ByteArray.empty l0 x5_1).size : Int))) < 0
      ·rw [if_pos c6] at H
       have c6b0 : decide ((wrap64 (x1_1 - ((rdOf ByteArray.empty l0 x5_1).size : Int))) < 0) = true := decide_eq_true c6
       clear c6
       obtain rfl := Option.some.inj H
       have p101 : 0 ≤ (x5_1 : Int) := oa
       have q101 : x5_1 < (l0.length : Int) := oa
       obtain ⟨ad101, e101, hx101_0⟩ := Kd.at_string HR0.out x5_1 p101 q101
       cases e101
       replace p101 := eq_true p101
       replace q101 := eq_true q101
       go_wp2
       go_ret
       exact ⟨by first | rfl | (simp; done) | (simp [*]; done), by repeat (first | exact Drawn0.refl _ | apply Drawn0.step)⟩
      ·rw [if_neg c6] at H
       have c6b0 : decide ((wrap64 (x1_1 - ((rdOf ByteArray.empty l0 x5_1).size : Int))) < 0) = false := decide_eq_false c6
       clear c6
       have H' := am H
       clear H
       have p101 : 0 ≤ (x5_1 : Int) := oa
       have q101 : x5_1 < (l0.length : Int) := oa
       obtain ⟨ad101, e101, hx101_0⟩ := Kd.at_string HR0.out x5_1 p101 q101
       cases e101
       replace p101 := eq_true p101
       replace q101 := eq_true q101
       go_wp2
       go_roundg k1
       case measure => have := HK1.out; omega
       case rel => exact ⟨(wrap64 (x1_1 - ((rdOf ByteArray.empty l0 x5_1).size : Int))), (wrap64 (x5_1 + 1)), zf, zf, H', ⟨by have := HK1.out; omega⟩, by repeat (first | exact Drawn0.refl _ | apply Drawn0.step)⟩
     ·rw [if_neg c5] at H
      exact absurd H (by simp)
    ·rw [if_neg c4] at H
     have c4b0 : decide (x5_1 < (l0.length : Int)) = false := decide_eq_false c4
     clear c4
     obtain rfl := Option.some.inj H
     go_wp2
     go_ret
     exact ⟨by first | rfl | (simp; done) | (simp [*]; done), by repeat (first | exact Drawn0.refl _ | apply Drawn0.step)⟩

def laws_toStringS.l0 : Nat → List ByteArray → List ByteArray → Int → Option (List ByteArray)
 | 0, _, _, _ => none
 | k + 1, x0, x3, x4 => if x4 < (x0.length : Int) then (if 0 ≤ x4 then (if x4 < (x3.length : Int) then (laws_toStringS.l0 k x0 (x3.set (x4 : Int).toNat (rdOf ByteArray.empty x0 x4)) (wrap64 (x4 + 1))) else (none)) else (none)) else (some x3)
def laws_toStringS.f (k : Nat) (l0 : List ByteArray) : Option (List ByteArray) := if 0 ≤ (l0.length : Int) then (if ((l0.length : Int) : Int).toNat ≤ 17592186044416 then (laws_toStringS.l0 k l0 (List.replicate ((l0.length : Int) : Int).toNat (⟨#[]⟩ : ByteArray)) 0) else (none)) else (none)
set_option maxHeartbeats 8000000 in
set_option maxRecDepth 100000 in
theorem laws_toStringS.calls (k : Nat) (A0 : Option Addr) (c0 : Nat) (l0 : List ByteArray) (r : List ByteArray) (w : World) (hr0 : Kd.C Kd.string w A0 l0.length l0) (hc0 : l0.length ≤ c0) (h : laws_toStringS.f k l0 = some r) :
  Calls Try.prog 40 #[.slice A0 l0.length c0] w fun e w' => ∃ v0_ : Value, e = .returned (v0_) ∧ Kd.R Kd.string 9 w' w.heap.size (fun _ => True) v0_ r ∧ Below w.heap.size w w' := by
 have HR0 := am hr0
 have HC0 := am hc0
 clear hr0 hc0
 have HB := am (Below.refl w.heap.size w)
 have H : (if 0 ≤ (l0.length : Int) then (if ((l0.length : Int) : Int).toNat ≤ 17592186044416 then (laws_toStringS.l0 k l0 (List.replicate ((l0.length : Int) : Int).toNat (⟨#[]⟩ : ByteArray)) 0) else (none)) else (none)) = some r := h
 clear h
 by_cases c2 : 0 ≤ (l0.length : Int)
 ·rw [if_pos c2] at H
  have c2b0 := eq_true c2
  have c2b1 : decide (0 ≤ (l0.length : Int)) = true := decide_eq_true c2
  clear c2
  by_cases c3 : ((l0.length : Int) : Int).toNat ≤ 17592186044416
  ·rw [if_pos c3] at H
   have c3b0 := eq_true c3
   have c3b1 : decide (((l0.length : Int) : Int).toNat ≤ 17592186044416) = true := decide_eq_true c3
   clear c3
   obtain ⟨y206, hy206⟩ : ∃ y_ : List ByteArray, y_ = (List.replicate ((l0.length : Int) : Int).toNat (⟨#[]⟩ : ByteArray)) := ⟨_, rfl⟩
   replace H : (laws_toStringS.l0 k l0 y206 0) = some r := by first | (rw [hy206]; with_reducible exact H) | (have H2_ := (Option.bind_some _ _).symm.trans H; rw [hy206]; with_reducible exact H2_) | (have H2_ := (Option.bind_some _ _).symm.trans H; with_reducible exact H2_) | with_reducible exact H | (rw [hy206]; exact H) | exact H
   have Ny206 := am hy206
   clear hy206
   have H' := am H
   clear H
   go_enter Try.func40, Try.ntmps40
   go_wp2_with (first | ((with_reducible refine gate_dst (N := 7) rfl ?_); refine Kd.R_make Kd.string _ 9 rfl (N := 7) rfl 24 _ _ rfl (l0.length : Int) rfl rfl Try.underlying24 (.string ⟨#[]⟩) 16 info9 rfl (by decide) (by omega) (⟨#[]⟩ : ByteArray) (ok := fun _ => True) (okp := fun _ => True) rfl (fun _ hk => hk) trivial oa (Nat.le_trans (Nat.mul_le_mul_right _ (oa : (l0.length : Int).toNat ≤ 17592186044416)) (by omega)) (Below.refl _ _) (Nat.le_refl _) ?_; intro v207 w4 ho5 hb hg_ hnew_; clear hg_ hnew_; (first | rw [← Ny206.out] at ho5 | (simp only [Int.reduceToNat] at ho5; rw [← Ny206.out] at ho5)); have n0_ := am (Kd.R_lower ho5 (below_size zb)); have n1_ := am (below_step zb hb); clear HB; have HO208 := n0_; have HB := n1_; clear n0_ n1_; clear hb ho5))
   go_loopg [4] k (fun kq v4 w' => ∃ (x3_1 : List ByteArray) (x4_1 : Int), v4 = .int .i64 x4_1 ∧ Aside0 (laws_toStringS.l0 kq l0 x3_1 x4_1 = some r) ∧ Aside0 (kq ≤ k) ∧ Aside0 (Kd.R Kd.string 9 w' w.heap.size (fun _ => True) v207 x3_1) ∧ Aside0 (Below w.heap.size w w'))
   case atStart => exact ⟨(y206), (0), zf, H', ⟨Nat.le_refl _⟩, ⟨zr HO208.out⟩, ⟨zb⟩⟩
   case round =>
    clear H'
    try clear c2
    try clear c2b0
    try clear c2b1
    try clear p2
    try clear c3
    try clear c3b0
    try clear c3b1
    try clear c4
    obtain ⟨x3_1, x4_1, rfl, HA, HK1, HO_3, HB⟩ := hrel
    cases gk with
    | zero => exact absurd HA.out (by simp [laws_toStringS.l0])
    | succ k1 =>
     have H := HA.out
     clear HA
     simp only [laws_toStringS.l0] at H
     by_cases c6 : x4_1 < (l0.length : Int)
     ·rw [if_pos c6] at H
      have c6b0 : decide (x4_1 < (l0.length : Int)) = true := decide_eq_true c6
      clear c6
      by_cases c7 : 0 ≤ x4_1
      ·rw [if_pos c7] at H
       have c7b0 : decide (0 ≤ x4_1) = true := decide_eq_true c7
       clear c7
       by_cases c8 : x4_1 < (x3_1.length : Int)
       ·rw [if_pos c8] at H
        have c8b0 : decide (x4_1 < (x3_1.length : Int)) = true := decide_eq_true c8
        clear c8
        obtain ⟨y210, hy210⟩ : ∃ y_ : List ByteArray, y_ = (x3_1.set (x4_1 : Int).toNat (rdOf ByteArray.empty l0 x4_1)) := ⟨_, rfl⟩
        replace H : (laws_toStringS.l0 k1 l0 y210 (wrap64 (x4_1 + 1))) = some r := by first | (rw [hy210]; with_reducible exact H) | (have H2_ := (Option.bind_some _ _).symm.trans H; rw [hy210]; with_reducible exact H2_) | (have H2_ := (Option.bind_some _ _).symm.trans H; with_reducible exact H2_) | with_reducible exact H | (rw [hy210]; exact H) | exact H
        have Ny210 := am hy210
        clear hy210
        have H' := am H
        clear H
        have p209 : 0 ≤ (x4_1 : Int) := oa
        have q209 : x4_1 < (l0.length : Int) := oa
        obtain ⟨ad209, e209, hx209_0⟩ := Kd.at_string HR0.out x4_1 p209 q209
        cases e209
        replace hx209_0 := (HB.out.cell (World.block_lt_of_cell? w _ hx209_0)).trans hx209_0
        replace p209 := eq_true p209
        replace q209 := eq_true q209
        have p9 : 0 ≤ (x4_1 : Int) := oa
        have q9 : (x4_1 : Int) < ((x3_1.length : Int) : Int) := oa
        obtain ⟨go9, co9, eo9, gb9, gl9, cl9, HG9⟩ := Kd.R_form HO_3.out (by omega)
        (first | cases eo9 | (injection eo9 with ea_ en_ ec_; (first | subst ea_ | (injection ea_ with ea_; subst ea_)); subst ec_; clear en_))
        have GB9 := am gb9
        have GG9 := am HG9
        clear gb9 gl9 HG9
        obtain ⟨hx9_0, hf9_0⟩ := Kd.R_celln (⟨#[]⟩ : ByteArray) HO_3.out (x4_1 : Int) p9 q9
        replace p9 := eq_true p9
        replace q9 := eq_true q9
        have HP10 := Kd.R_putg HO_3.out (x4_1 : Int) (rdOf ByteArray.empty l0 x4_1)
        go_wp2_with (first | ((with_reducible refine gate_store (t := 9) (p := 20) rfl ?_); refine store_event (t := 9) (p := 20) (v := ?vo_w11) (w1 := (wr.setCell ⟨go9, (x4_1 : Int).toNat, none⟩ (.string (rdOf ByteArray.empty l0 x4_1)))) ?hg ?ho ?hn ?hr ?_; (case ho => rfl); (case hg => rfl); (case hn => rfl); (case hr => first | (go_simp; done) | (go_simp; rfl)); intro w11 hw; have hg : wr.grownBy w11 (some go9) := (by rw [hw]; exact HP10.2); have hp_ : Kd.R Kd.string 9 w11 w.heap.size (fun _ => True) (.slice (some ⟨go9, 0, none⟩) x3_1.length co9) y210 := (by rw [hw, Ny210.out]; exact HP10.1); clear HP10; have n0_ := am (hp_); have n1_ := am ((by rw [hw]; exact below_set (HB.out) GB9.out : Below w.heap.size w w11)); clear HO_3; clear HB; have HO_3 := n0_; have HB := n1_; clear n0_ n1_; clear hg hw hp_))
        go_roundg k1
        case measure => have := HK1.out; omega
        case rel => exact ⟨(y210), (wrap64 (x4_1 + 1)), zf, H', ⟨by have := HK1.out; omega⟩, ⟨zr HO_3.out⟩, ⟨zb⟩⟩
       ·rw [if_neg c8] at H
        exact absurd H (by simp)
      ·rw [if_neg c7] at H
       exact absurd H (by simp)
     ·rw [if_neg c6] at H
      have c6b0 : decide (x4_1 < (l0.length : Int)) = false := decide_eq_false c6
      clear c6
      obtain rfl := Option.some.inj H
      go_wp2
      go_ret
      exact ⟨_, by first | rfl | (simp [errW_none, errW_some] <;> rfl) | (simp [*, errW_none, errW_some] <;> rfl), zr HO_3.out, zb⟩
  ·rw [if_neg c3] at H
   exact absurd H (by simp)
 ·rw [if_neg c2] at H
  exact absurd H (by simp)

def laws_eqStringS.l0 : Nat → List ByteArray → List ByteArray → Int → Option (Bool)
 | 0, _, _, _ => none
 | k + 1, x0, x1, x5 => if x5 < (x0.length : Int) then (if 0 ≤ x5 then (if x5 < (x1.length : Int) then (if (rdOf ByteArray.empty x0 x5).toList = (rdOf ByteArray.empty x1 x5).toList then (laws_eqStringS.l0 k x0 x1 (wrap64 (x5 + 1))) else (some false)) else (none)) else (none)) else (some true)
def laws_eqStringS.f (k : Nat) (l0 : List ByteArray) (l1 : List ByteArray) : Option (Bool) := if (l0.length : Int) = (l1.length : Int) then (laws_eqStringS.l0 k l0 l1 0) else (some false)
set_option maxHeartbeats 8000000 in
set_option maxRecDepth 100000 in
theorem laws_eqStringS.calls (k : Nat) (A0 : Option Addr) (c0 : Nat) (l0 : List ByteArray) (A1 : Option Addr) (c1 : Nat) (l1 : List ByteArray) (r : Bool) (w : World) (hr0 : Kd.C Kd.string w A0 l0.length l0) (hc0 : l0.length ≤ c0) (hr1 : Kd.C Kd.string w A1 l1.length l1) (hc1 : l1.length ≤ c1) (h : laws_eqStringS.f k l0 l1 = some r) :
  Calls Try.prog 44 #[.slice A0 l0.length c0, .slice A1 l1.length c1] w fun e w' => e = .returned (.bool r) ∧ Drawn0 w w' := by
 have HR0 := am hr0
 have HC0 := am hc0
 clear hr0 hc0
 have HR1 := am hr1
 have HC1 := am hc1
 clear hr1 hc1
 have H : (if (l0.length : Int) = (l1.length : Int) then (laws_eqStringS.l0 k l0 l1 0) else (some false)) = some r := h
 clear h
 by_cases c3 : (l0.length : Int) = (l1.length : Int)
 ·rw [if_pos c3] at H
  have c3b0 : ((l0.length : Int) == (l1.length : Int)) = true := beq_iff_eq.mpr c3
  have c3b1 : ((l0.length : Int) != (l1.length : Int)) = false := bne_eq_false_iff_eq.mpr c3
  have c3b2 : (l0.length == l1.length) = true := by first | simpa using c3 | (simp at c3 ⊢; omega)
  clear c3
  have H' := am H
  clear H
  go_enter Try.func44, Try.ntmps44
  go_wp2
  repeat (go_quiet (fail); try go_wp2)
  go_loopg [5] k (fun kq v5 w' => ∃ (x5_1 : Int), v5 = .int .i64 x5_1 ∧ Aside0 (laws_eqStringS.l0 kq l0 l1 x5_1 = some r) ∧ Aside0 (kq ≤ k) ∧ Drawn0 w w')
  case atStart => exact ⟨(0), zf, H', ⟨Nat.le_refl _⟩, by repeat (first | exact Drawn0.refl _ | apply Drawn0.step)⟩
  case round =>
   clear H'
   try clear c1
   try clear p2
   try clear c3
   try clear c3b0
   try clear c3b1
   try clear c3b2
   obtain ⟨x5_1, rfl, HA, HK1, ⟨m1, rfl⟩⟩ := hrel
   cases gk with
   | zero => exact absurd HA.out (by simp [laws_eqStringS.l0])
   | succ k1 =>
    have H := HA.out
    clear HA
    simp only [laws_eqStringS.l0] at H
    by_cases c4 : x5_1 < (l0.length : Int)
    ·rw [if_pos c4] at H
     have c4b0 : decide (x5_1 < (l0.length : Int)) = true := decide_eq_true c4
     clear c4
     by_cases c5 : 0 ≤ x5_1
     ·rw [if_pos c5] at H
      have c5b0 : decide (0 ≤ x5_1) = true := decide_eq_true c5
      clear c5
      by_cases c6 : x5_1 < (l1.length : Int)
      ·rw [if_pos c6] at H
       have c6b0 : decide (x5_1 < (l1.length : Int)) = true := decide_eq_true c6
       clear c6
       by_cases c7 : (rdOf ByteArray.empty l0 x5_1).toList = (rdOf ByteArray.empty l1 x5_1).toList
       ·rw [if_pos c7] at H
        have c7b0 : ((rdOf ByteArray.empty l0 x5_1).toList == (rdOf ByteArray.empty l1 x5_1).toList) = true := beq_iff_eq.mpr c7
        have c7b1 : ((rdOf ByteArray.empty l0 x5_1).toList != (rdOf ByteArray.empty l1 x5_1).toList) = false := bne_eq_false_iff_eq.mpr c7
        clear c7
        have H' := am H
        clear H
        have p305 : 0 ≤ (x5_1 : Int) := oa
        have q305 : x5_1 < (l0.length : Int) := oa
        obtain ⟨ad305, e305, hx305_0⟩ := Kd.at_string HR0.out x5_1 p305 q305
        cases e305
        replace p305 := eq_true p305
        replace q305 := eq_true q305
        have p306 : 0 ≤ (x5_1 : Int) := oa
        have q306 : x5_1 < (l1.length : Int) := oa
        obtain ⟨ad306, e306, hx306_0⟩ := Kd.at_string HR1.out x5_1 p306 q306
        cases e306
        replace p306 := eq_true p306
        replace q306 := eq_true q306
        go_wp2
        repeat (go_quiet (fail); try go_wp2)
        go_roundg k1
        case measure => have := HK1.out; omega
        case rel => exact ⟨(wrap64 (x5_1 + 1)), zf, H', ⟨by have := HK1.out; omega⟩, by repeat (first | exact Drawn0.refl _ | apply Drawn0.step)⟩
       ·rw [if_neg c7] at H
        have c7b0 : ((rdOf ByteArray.empty l0 x5_1).toList == (rdOf ByteArray.empty l1 x5_1).toList) = false := beq_eq_false_iff_ne.mpr c7
        have c7b1 : ((rdOf ByteArray.empty l0 x5_1).toList != (rdOf ByteArray.empty l1 x5_1).toList) = true := bne_iff_ne.mpr c7
        obtain rfl := Option.some.inj H
        have p305 : 0 ≤ (x5_1 : Int) := oa
        have q305 : x5_1 < (l0.length : Int) := oa
        obtain ⟨ad305, e305, hx305_0⟩ := Kd.at_string HR0.out x5_1 p305 q305
        cases e305
        replace p305 := eq_true p305
        replace q305 := eq_true q305
        have p306 : 0 ≤ (x5_1 : Int) := oa
        have q306 : x5_1 < (l1.length : Int) := oa
        obtain ⟨ad306, e306, hx306_0⟩ := Kd.at_string HR1.out x5_1 p306 q306
        cases e306
        replace p306 := eq_true p306
        replace q306 := eq_true q306
        go_wp2
        repeat (go_quiet (fail); try go_wp2)
        go_ret
        exact ⟨by first | rfl | (simp; done) | (simp [*]; done), by repeat (first | exact Drawn0.refl _ | apply Drawn0.step)⟩
      ·rw [if_neg c6] at H
       exact absurd H (by simp)
     ·rw [if_neg c5] at H
      exact absurd H (by simp)
    ·rw [if_neg c4] at H
     have c4b0 : decide (x5_1 < (l0.length : Int)) = false := decide_eq_false c4
     clear c4
     obtain rfl := Option.some.inj H
     go_wp2
     repeat (go_quiet (fail); try go_wp2)
     go_ret
     exact ⟨by first | rfl | (simp; done) | (simp [*]; done), by repeat (first | exact Drawn0.refl _ | apply Drawn0.step)⟩
 ·rw [if_neg c3] at H
  have c3b0 : ((l0.length : Int) == (l1.length : Int)) = false := beq_eq_false_iff_ne.mpr c3
  have c3b1 : ((l0.length : Int) != (l1.length : Int)) = true := bne_iff_ne.mpr c3
  have c3b2 : (l0.length == l1.length) = false := by first | simpa using c3 | (simp at c3 ⊢; omega)
  obtain rfl := Option.some.inj H
  go_enter Try.func44, Try.ntmps44
  go_wp2
  repeat (go_quiet (fail); try go_wp2)
  go_ret
  exact ⟨by first | rfl | (simp; done) | (simp [*]; done), by repeat (first | exact Drawn0.refl _ | apply Drawn0.step)⟩
end Go.Proofs.Ytmcldkobejhaeaa.My
namespace Go.Proofs.Ytmcldkobejhaeaa.Pl
open Go.RowKit Go.Proofs.YtmcldkobejhaeaaW.PrintWords Go.Proofs.YtmcldkobejhaeaaW.PrintLast Go.Proofs.Ytmcldkobejhaeaa.My
set_option linter.unusedVariables false
set_option linter.unusedSimpArgs false
theorem eqStringS_l0 (a b : List ByteArray) (hab : a.length = b.length) (hL : a.length ≤ 9223372036854775807) : ∀ d i, i + d = a.length → Ev (fun k => laws_eqStringS.l0 k a b (i : Int)) (decide (a.drop i = b.drop i)) := by
  intro d
  induction d with
  | zero =>
    intro i hi
    refine Ev.step (fun k => laws_eqStringS.l0.eq_2 ..) (ev_neg (by omega) (ev_some ?_))
    rw [List.drop_of_length_le (by omega), List.drop_of_length_le (by omega)]
    simp
  | succ d ih =>
    intro i hi
    have h1 : i < a.length := by omega
    have h2 : i < b.length := by omega
    refine Ev.step (fun k => laws_eqStringS.l0.eq_2 ..) (ev_pos (by omega) (ev_pos (by omega) (ev_pos (by omega) ?_)))
    rw [rdOf_lt _ _ _ h1, rdOf_lt _ _ _ h2, drop_cons a i h1, drop_cons b i h2]
    refine ev_ite (fun h => ?_) (fun h => ev_some ?_)
    · rw [wrap_succ i (by omega)]
      refine ev_to (ih (i + 1) (by omega)) ?_
      rw [ba_ext h]
      simp only [List.cons.injEq, true_and]
    · have : ¬ a[i] = b[i] := fun e => h (by rw [e])
      simp only [List.cons.injEq, this, false_and, decide_false]
theorem eqStringS_ev (a b : List ByteArray) (hL : a.length ≤ 9223372036854775807) : Ev (fun k => laws_eqStringS.f k a b) (decide (a = b)) := by
  simp only [laws_eqStringS.f]
  refine ev_ite (fun h => ?_) (fun h => ev_some ?_)
  · exact eqStringS_l0 a b (by omega) hL a.length 0 (by omega)
  · have : ¬ a = b := fun e => h (by rw [e])
    simp [this]

def sumS (l : List ByteArray) : Nat := (l.map ByteArray.size).sum
def szS (l : List ByteArray) : Nat := l.length + sumS l
theorem sumS_drop (l : List ByteArray) (i : Nat) (h : i < l.length) : sumS (l.drop i) = l[i].size + sumS (l.drop (i + 1)) := by
  unfold sumS
  rw [List.drop_eq_getElem_cons h, List.map_cons, List.sum_cons]
theorem fitS_of_wl {l : List ByteArray} (h : WL Wstr l) : FitS l := by
  unfold WL Wstr maxLen at h
  exact h
def leftOf (a : Int) (n : Nat) (r : Int) : Prop := r < 0 ∨ (0 ≤ r ∧ r + n = a)
theorem szStringS_l0 (l : List ByteArray) (hf : FitS l) : ∀ d i (a : Int), i + d = l.length → 0 ≤ a → a ≤ 1048576 → ∃ r, Ev (fun k => laws_szStringS.l0 k l a (i : Int)) r ∧ leftOf a (sumS (l.drop i)) r := by
  intro d
  have hL := hf.1
  induction d with
  | zero =>
    intro i a hi h0 h1
    refine ⟨a, Ev.step (fun k => laws_szStringS.l0.eq_2 ..) (ev_neg (by omega) (ev_some rfl)), .inr ⟨h0, ?_⟩⟩
    rw [List.drop_of_length_le (by omega)]
    simp [sumS]
  | succ d ih =>
    intro i a hi h0 h1
    have hlt : i < l.length := by omega
    have hs := hf.2 _ (List.getElem_mem hlt)
    rw [sumS_drop l i hlt]
    by_cases h : a - (l[i].size : Int) < 0
    · refine ⟨-1, Ev.step (fun k => laws_szStringS.l0.eq_2 ..) (ev_pos (by omega) (ev_pos (by omega) (ev_pos ?_ (ev_some rfl)))), .inl (by omega)⟩
      rw [rdOf_lt _ _ _ hlt, wrap64_id (by omega) (by omega)]
      exact h
    · obtain ⟨r, hr, hl⟩ := ih (i + 1) (a - (l[i].size : Int)) (by omega) (by omega) (by omega)
      refine ⟨r, Ev.step (fun k => laws_szStringS.l0.eq_2 ..) (ev_pos (by omega) (ev_pos (by omega) (ev_neg ?_ ?_))), ?_⟩
      · rw [rdOf_lt _ _ _ hlt, wrap64_id (by omega) (by omega)]
        exact h
      · rw [rdOf_lt _ _ _ hlt, wrap64_id (by omega) (by omega), wrap_succ i (by omega)]
        exact hr
      · rcases hl with hl | hl
        · exact .inl hl
        · exact .inr (by omega)
theorem szStringS_ev (l : List ByteArray) (hf : FitS l) (a : Int) (h0 : 0 ≤ a) (h1 : a ≤ 1048576) : ∃ r, Ev (fun k => laws_szStringS.f k l a) r ∧ leftOf a (szS l) r := by
  have hL := hf.1
  simp only [laws_szStringS.f]
  rw [wrap64_id (by omega) (by omega)]
  by_cases h : a - (l.length : Int) < 0
  · exact ⟨-1, ev_pos h (ev_some rfl), .inl (by omega)⟩
  · obtain ⟨r, hr, hl⟩ := szStringS_l0 l hf l.length 0 (a - (l.length : Int)) (by omega) (by omega) (by omega)
    refine ⟨r, ev_neg h hr, ?_⟩
    rcases hl with hl | hl
    · exact .inl hl
    · rw [List.drop_zero] at hl
      exact .inr (by unfold szS; omega)
theorem toStringS_l0 (l : List ByteArray) (hL : l.length ≤ 17592186044416) : ∀ d i (o : List ByteArray), i + d = l.length → o.length = l.length → o.take i = l.take i → Ev (fun k => laws_toStringS.l0 k l o (i : Int)) l := by
  intro d
  induction d with
  | zero =>
    intro i o hi hl ht
    refine Ev.step (fun k => laws_toStringS.l0.eq_2 ..) (ev_neg (by omega) (ev_some ?_))
    rw [List.take_of_length_le (by omega), List.take_of_length_le (by omega)] at ht
    exact ht
  | succ d ih =>
    intro i o hi hl ht
    have hlt : i < l.length := by omega
    refine Ev.step (fun k => laws_toStringS.l0.eq_2 ..) (ev_pos (by omega) (ev_pos (by omega) (ev_pos (by omega) ?_)))
    rw [wrap_succ i (by omega), Int.toNat_natCast, rdOf_lt _ _ _ hlt]
    refine ih (i + 1) _ (by omega) (by rw [List.length_set]; exact hl) ?_
    rw [List.take_succ_eq_append_getElem (by rw [List.length_set]; omega), List.take_succ_eq_append_getElem hlt, List.getElem_set_self, List.take_set_of_le (Nat.le_refl i), ht]
theorem toStringS_ev (l : List ByteArray) (hL : l.length ≤ 17592186044416) : Ev (fun k => laws_toStringS.f k l) l := by
  simp only [laws_toStringS.f]
  refine ev_pos (by omega) (ev_pos (by omega) ?_)
  exact toStringS_l0 l hL l.length 0 _ (by omega) (by simp) rfl
end Go.Proofs.Ytmcldkobejhaeaa.Pl
namespace Go.Proofs.Ytmcldkobejhaeaa.Pl
open Go.RowKit Go.Proofs.YtmcldkobejhaeaaW.PrintWords Go.Proofs.YtmcldkobejhaeaaW.PrintLast Go.Proofs.Ytmcldkobejhaeaa.My
theorem wint_bounds {z : Int} (h : Wint z) : -9223372036854775808 ≤ z ∧ z ≤ 9223372036854775807 := by
  have h' : (Lit.int .i64 z).wf = true := h
  simp [Lit.wf, show IntKind.i64.min = -9223372036854775808 from rfl, show IntKind.i64.max = 9223372036854775807 from rfl] at h'
  omega
end Go.Proofs.Ytmcldkobejhaeaa.Pl
namespace Go.Proofs.Ytmcldkobejhaeaa.My
open Go.RowKit Go.Proofs.YtmcldkobejhaeaaW.PrintWords Go.Proofs.YtmcldkobejhaeaaW.PrintLast Go.Proofs.YtmcldkobejhaeaaW.PrintMore
attribute [local go_sem] max2_int min2_int max_two min_two max_three min_three max_four min_four
set_option linter.unusedVariables false
set_option linter.unusedSimpArgs false
def laws_szRow.f (a0_0 : Int) (a0_1 : ByteArray) (a1 : Int) : Option (Int) := if (wrap64 (a1 - (a0_1.size : Int))) < 0 then (some (-1)) else (some (wrap64 (a1 - (a0_1.size : Int))))
set_option maxHeartbeats 8000000 in
set_option maxRecDepth 100000 in
theorem laws_szRow.calls (a0_0 : Int) (a0_1 : ByteArray) (a1 : Int) (r : Int) (w : World) (h : laws_szRow.f a0_0 a0_1 a1 = some r) :
  Calls Try.prog 139 #[.agg #[.int .i64 a0_0, .string a0_1], .int .i64 a1] w fun e w' => e = .returned (.int .i64 r) ∧ Below w.heap.size w w' := by
 have hu143 := Try.underlying143
 have HB := am (Below.refl w.heap.size w)
 have H : (if (wrap64 (a1 - (a0_1.size : Int))) < 0 then (some (-1)) else (some (wrap64 (a1 - (a0_1.size : Int))))) = some r := h
 clear h
 by_cases c3 : (wrap64 (a1 - (a0_1.size : Int))) < 0
 ·rw [if_pos c3] at H
  have c3b0 : decide ((wrap64 (a1 - (a0_1.size : Int))) < 0) = true := decide_eq_true c3
  clear c3
  obtain rfl := Option.some.inj H
  go_enter Try.func139, Try.ntmps139
  go_wp2_with (first | ((with_reducible refine gate_dst (N := 2) rfl ?_); refine box_event ?hg (N := 2) ?hd (cs := #[.int .i64 a0_0, .string a0_1]) (t := 143) ?hr ?_; (case hd => rfl); (case hg => rfl); (case hr => first | (go_simp; done) | (go_simp; rfl)); intro gb377 hg w4 hbox hb; have n0_ := am (below_step zb hb); have n1_ := am (hbox); have n2_ := am ((by rw [hg]; exact (below_size zb) : w.heap.size ≤ gb377)); have n3_ := am ((by rw [hg]; exact (below_size zb) : w.heap.size ≤ gb377)); clear HB; have HB := n0_; have BK377 := n1_; have GW377 := n2_; have GE377 := n3_; clear n0_ n1_ n2_ n3_; clear hb hbox hg; have hcz5_0 : w4.cell? ⟨gb377, 0, none⟩ = some (.int .i64 a0_0) := (blk_cell BK377.out 0).trans rfl; have hcz5_1 : w4.cell? ⟨gb377, 1, none⟩ = some (.string a0_1) := (blk_cell BK377.out 1).trans rfl; have hfz5_0 := blk_frozen BK377.out 0; have hfz5_1 := blk_frozen BK377.out 1))
  go_ret
  exact ⟨by first | rfl | (simp [errW_none, errW_some] <;> rfl) | (simp [*, errW_none, errW_some] <;> rfl), zw⟩
 ·rw [if_neg c3] at H
  have c3b0 : decide ((wrap64 (a1 - (a0_1.size : Int))) < 0) = false := decide_eq_false c3
  clear c3
  obtain rfl := Option.some.inj H
  go_enter Try.func139, Try.ntmps139
  go_wp2_with (first | ((with_reducible refine gate_dst (N := 2) rfl ?_); refine box_event ?hg (N := 2) ?hd (cs := #[.int .i64 a0_0, .string a0_1]) (t := 143) ?hr ?_; (case hd => rfl); (case hg => rfl); (case hr => first | (go_simp; done) | (go_simp; rfl)); intro gb377 hg w6 hbox hb; have n0_ := am (below_step zb hb); have n1_ := am (hbox); have n2_ := am ((by rw [hg]; exact (below_size zb) : w.heap.size ≤ gb377)); have n3_ := am ((by rw [hg]; exact (below_size zb) : w.heap.size ≤ gb377)); clear HB; have HB := n0_; have BK377 := n1_; have GW377 := n2_; have GE377 := n3_; clear n0_ n1_ n2_ n3_; clear hb hbox hg; have hcz7_0 : w6.cell? ⟨gb377, 0, none⟩ = some (.int .i64 a0_0) := (blk_cell BK377.out 0).trans rfl; have hcz7_1 : w6.cell? ⟨gb377, 1, none⟩ = some (.string a0_1) := (blk_cell BK377.out 1).trans rfl; have hfz7_0 := blk_frozen BK377.out 0; have hfz7_1 := blk_frozen BK377.out 1))
  go_ret
  exact ⟨by first | rfl | (simp [errW_none, errW_some] <;> rfl) | (simp [*, errW_none, errW_some] <;> rfl), zw⟩

def laws_szRowS.l0 : Nat → List (S143) → Int → Int → Option (Int)
 | 0, _, _, _ => none
 | k + 1, x0, x1, x5 => if x5 < (x0.length : Int) then (if 0 ≤ x5 then ((laws_szRow.f ((T143 x0 x5).f0) ((T143 x0 x5).f1) x1).bind fun t379 => (if t379 < 0 then (some (-1)) else (laws_szRowS.l0 k x0 t379 (wrap64 (x5 + 1))))) else (none)) else (some x1)
def laws_szRowS.f (k : Nat) (l0 : List (S143)) (a1 : Int) : Option (Int) := if (wrap64 (a1 - (l0.length : Int))) < 0 then (some (-1)) else (laws_szRowS.l0 k l0 (wrap64 (a1 - (l0.length : Int))) 0)
set_option maxHeartbeats 8000000 in
set_option maxRecDepth 100000 in
theorem laws_szRowS.calls (k : Nat) (A0 : Option Addr) (c0 : Nat) (l0 : List (S143)) (a1 : Int) (r : Int) (w : World) (hr0 : Kd.C k143 w A0 l0.length l0) (hc0 : l0.length ≤ c0) (h : laws_szRowS.f k l0 a1 = some r) :
  Calls Try.prog 106 #[.slice A0 l0.length c0, .int .i64 a1] w fun e w' => e = .returned (.int .i64 r) ∧ Below w.heap.size w w' := by
 have hu143 := Try.underlying143
 have HR0 := am hr0
 have HC0 := am hc0
 clear hr0 hc0
 have HB := am (Below.refl w.heap.size w)
 have H : (if (wrap64 (a1 - (l0.length : Int))) < 0 then (some (-1)) else (laws_szRowS.l0 k l0 (wrap64 (a1 - (l0.length : Int))) 0)) = some r := h
 clear h
 by_cases c3 : (wrap64 (a1 - (l0.length : Int))) < 0
 ·rw [if_pos c3] at H
  have c3b0 : decide ((wrap64 (a1 - (l0.length : Int))) < 0) = true := decide_eq_true c3
  clear c3
  obtain rfl := Option.some.inj H
  go_enter Try.func106, Try.ntmps106
  go_wp2
  go_ret
  exact ⟨by first | rfl | (simp [errW_none, errW_some] <;> rfl) | (simp [*, errW_none, errW_some] <;> rfl), zb⟩
 ·rw [if_neg c3] at H
  have c3b0 : decide ((wrap64 (a1 - (l0.length : Int))) < 0) = false := decide_eq_false c3
  clear c3
  have H' := am H
  clear H
  go_enter Try.func106, Try.ntmps106
  go_wp2
  go_loopg [1, 5] k (fun kq v1 v5 w' => ∃ (x1_1 : Int) (x5_1 : Int), v1 = .int .i64 x1_1 ∧ v5 = .int .i64 x5_1 ∧ Aside0 (laws_szRowS.l0 kq l0 x1_1 x5_1 = some r) ∧ Aside0 (kq ≤ k) ∧ Aside0 (Below w.heap.size w w'))
  case atStart => exact ⟨(wrap64 (a1 - (l0.length : Int))), (0), zf, zf, H', ⟨Nat.le_refl _⟩, ⟨zb⟩⟩
  case round =>
   clear H'
   try clear c1
   try clear p2
   try clear c3
   try clear c3b0
   obtain ⟨x1_1, x5_1, rfl, rfl, HA, HK1, HB⟩ := hrel
   cases gk with
   | zero => exact absurd HA.out (by simp [laws_szRowS.l0])
   | succ k1 =>
    have H := HA.out
    clear HA
    simp only [laws_szRowS.l0] at H
    by_cases c4 : x5_1 < (l0.length : Int)
    ·rw [if_pos c4] at H
     have c4b0 : decide (x5_1 < (l0.length : Int)) = true := decide_eq_true c4
     clear c4
     by_cases c5 : 0 ≤ x5_1
     ·rw [if_pos c5] at H
      have c5b0 : decide (0 ≤ x5_1) = true := decide_eq_true c5
      clear c5
      replace H := Option.bind_eq_some_iff.mp H
      obtain ⟨t379, A60, H⟩ := H
      replace H : (if t379 < 0 then (some (-1)) else (laws_szRowS.l0 k1 l0 t379 (wrap64 (x5_1 + 1)))) = some r := H
      have A6 := am A60
      clear A60
      by_cases c7 : t379 < 0
      ·rw [if_pos c7] at H
       have c7b0 : decide (t379 < 0) = true := decide_eq_true c7
       clear c7
       obtain rfl := Option.some.inj H
       have p378 : 0 ≤ (x5_1 : Int) := oa
       have q378 : x5_1 < (l0.length : Int) := oa
       obtain ⟨ad378, e378, hx378_0, hx378_1⟩ := at_T143 HR0.out x5_1 p378 q378
       cases e378
       replace hx378_0 := (HB.out.cell (World.block_lt_of_cell? w _ hx378_0)).trans hx378_0
       replace hx378_1 := (HB.out.cell (World.block_lt_of_cell? w _ hx378_1)).trans hx378_1
       replace p378 := eq_true p378
       replace q378 := eq_true q378
       go_wp2_with (first | ((with_reducible refine gateC (f := 139) rfl ?_); refine goesL_ (some 23) rfl rfl Try.func139 (by kernel_rfl) rfl #[.agg #[.int .i64 ((T143 l0 x5_1).f0), .string ((T143 l0 x5_1).f1)], .int .i64 x1_1] rfl zm ?_; (with_reducible refine (laws_szRow.calls ((T143 l0 x5_1).f0) ((T143 l0 x5_1).f1) x1_1 t379 _ A6.out).mono ?_); rintro e w8 ⟨rfl, hb⟩; refine ⟨_, rfl, ?_⟩; have n0_ := am (below_step zb hb); clear HB; have HB := n0_; clear n0_; (try clear hb)))
       go_ret
       exact ⟨by first | rfl | (simp [errW_none, errW_some] <;> rfl) | (simp [*, errW_none, errW_some] <;> rfl), zb⟩
      ·rw [if_neg c7] at H
       have c7b0 : decide (t379 < 0) = false := decide_eq_false c7
       clear c7
       have H' := am H
       clear H
       have p378 : 0 ≤ (x5_1 : Int) := oa
       have q378 : x5_1 < (l0.length : Int) := oa
       obtain ⟨ad378, e378, hx378_0, hx378_1⟩ := at_T143 HR0.out x5_1 p378 q378
       cases e378
       replace hx378_0 := (HB.out.cell (World.block_lt_of_cell? w _ hx378_0)).trans hx378_0
       replace hx378_1 := (HB.out.cell (World.block_lt_of_cell? w _ hx378_1)).trans hx378_1
       replace p378 := eq_true p378
       replace q378 := eq_true q378
       go_wp2_with (first | ((with_reducible refine gateC (f := 139) rfl ?_); refine goesL_ (some 23) rfl rfl Try.func139 (by kernel_rfl) rfl #[.agg #[.int .i64 ((T143 l0 x5_1).f0), .string ((T143 l0 x5_1).f1)], .int .i64 x1_1] rfl zm ?_; (with_reducible refine (laws_szRow.calls ((T143 l0 x5_1).f0) ((T143 l0 x5_1).f1) x1_1 t379 _ A6.out).mono ?_); rintro e w9 ⟨rfl, hb⟩; refine ⟨_, rfl, ?_⟩; have n0_ := am (below_step zb hb); clear HB; have HB := n0_; clear n0_; (try clear hb)))
       go_roundg k1
       case measure => have := HK1.out; omega
       case rel => exact ⟨(t379), (wrap64 (x5_1 + 1)), zf, zf, H', ⟨by have := HK1.out; omega⟩, ⟨zb⟩⟩
     ·rw [if_neg c5] at H
      exact absurd H (by simp)
    ·rw [if_neg c4] at H
     have c4b0 : decide (x5_1 < (l0.length : Int)) = false := decide_eq_false c4
     clear c4
     obtain rfl := Option.some.inj H
     go_wp2
     go_ret
     exact ⟨by first | rfl | (simp [errW_none, errW_some] <;> rfl) | (simp [*, errW_none, errW_some] <;> rfl), zb⟩

def laws_toRow.f (a0_0 : Int) (a0_1 : ByteArray) : Option (Int × ByteArray) := some (a0_0, a0_1)
set_option maxHeartbeats 8000000 in
set_option maxRecDepth 100000 in
theorem laws_toRow.calls (a0_0 : Int) (a0_1 : ByteArray) (r1 : Int) (r2 : ByteArray) (w : World) (h : laws_toRow.f a0_0 a0_1 = some (r1, r2)) :
  Calls Try.prog 142 #[.agg #[.int .i64 a0_0, .string a0_1]] w fun e w' => e = .returned (.agg #[.int .i64 r1, .string r2]) ∧ Below w.heap.size w w' := by
 have hu143 := Try.underlying143
 have hu140 := Try.underlying140
 have HB := am (Below.refl w.heap.size w)
 have H : (some (a0_0, a0_1)) = some (r1, r2) := h
 clear h
 simp only [Option.some.injEq, Prod.mk.injEq] at H
 obtain ⟨rfl, rfl⟩ := H
 go_enter Try.func142, Try.ntmps142
 go_wp2_with (first | ((with_reducible refine gate_dst (N := 1) rfl ?_); refine box_event ?hg (N := 1) ?hd (cs := #[.int .i64 a0_0, .string a0_1]) (t := 143) ?hr ?_; (case hd => rfl); (case hg => rfl); (case hr => first | (go_simp; done) | (go_simp; rfl)); intro gb458 hg w2 hbox hb; have n0_ := am (below_step zb hb); have n1_ := am (hbox); have n2_ := am ((by rw [hg]; exact (below_size zb) : w.heap.size ≤ gb458)); have n3_ := am ((by rw [hg]; exact (below_size zb) : w.heap.size ≤ gb458)); clear HB; have HB := n0_; have BK458 := n1_; have GW458 := n2_; have GE458 := n3_; clear n0_ n1_ n2_ n3_; clear hb hbox hg) | ((with_reducible refine gate_dst (N := 2) rfl ?_); refine box_event ?hg (N := 2) ?hd (cs := #[.int .i64 0, .string (⟨#[]⟩ : ByteArray)]) (t := 140) ?hr ?_; (case hd => rfl); (case hg => rfl); (case hr => first | (go_simp; done) | (go_simp; rfl)); intro gb459 hg w3 hbox hb; have n0_ := am (blk_below (g := gb458) (o := .cells #[.int .i64 a0_0, .string a0_1] 143 (0, 0)) (zk BK458.out) hb); have n1_ := am (below_step zw hb); have n2_ := am (hbox); have n3_ := am ((by rw [hg]; exact (below_size zw) : w.heap.size ≤ gb459)); have n4_ := am ((by rw [hg]; exact (below_size zw) : w.heap.size ≤ gb459)); have n5_ := am ((by rw [hg]; exact Nat.ne_of_lt (blk_lt (g := gb458) (o := .cells #[.int .i64 a0_0, .string a0_1] 143 (0, 0)) (zk BK458.out)) : gb458 ≠ gb459)); have n6_ := am ((by rw [hg]; exact Nat.ne_of_gt (blk_lt (g := gb458) (o := .cells #[.int .i64 a0_0, .string a0_1] 143 (0, 0)) (zk BK458.out)) : gb459 ≠ gb458)); clear BK458; clear HB; have BK458 := n0_; have HB := n1_; have BK459 := n2_; have GW459 := n3_; have GE459 := n4_; have NB458_459 := n5_; have NB459_458 := n6_; clear n0_ n1_ n2_ n3_ n4_ n5_ n6_; clear hb hbox hg) | ((with_reducible refine gate_dst (N := 3) rfl ?_); refine box_event ?hg (N := 3) ?hd (cs := #[.int .i64 0, .string (⟨#[]⟩ : ByteArray)]) (t := 140) ?hr ?_; (case hd => rfl); (case hg => rfl); (case hr => first | (go_simp; done) | (go_simp; rfl)); intro gb460 hg w4 hbox hb; have n0_ := am (blk_below (g := gb458) (o := .cells #[.int .i64 a0_0, .string a0_1] 143 (0, 0)) (zk BK458.out) hb); have n1_ := am (blk_below (g := gb459) (o := .cells #[.int .i64 0, .string (⟨#[]⟩ : ByteArray)] 140 (0, 0)) (zk BK459.out) hb); have n2_ := am (below_step zw hb); have n3_ := am (hbox); have n4_ := am ((by rw [hg]; exact (below_size zw) : w.heap.size ≤ gb460)); have n5_ := am ((by rw [hg]; exact (below_size zw) : w.heap.size ≤ gb460)); have n6_ := am ((by rw [hg]; exact Nat.ne_of_lt (blk_lt (g := gb458) (o := .cells #[.int .i64 a0_0, .string a0_1] 143 (0, 0)) (zk BK458.out)) : gb458 ≠ gb460)); have n7_ := am ((by rw [hg]; exact Nat.ne_of_gt (blk_lt (g := gb458) (o := .cells #[.int .i64 a0_0, .string a0_1] 143 (0, 0)) (zk BK458.out)) : gb460 ≠ gb458)); have n8_ := am ((by rw [hg]; exact Nat.ne_of_lt (blk_lt (g := gb459) (o := .cells #[.int .i64 0, .string (⟨#[]⟩ : ByteArray)] 140 (0, 0)) (zk BK459.out)) : gb459 ≠ gb460)); have n9_ := am ((by rw [hg]; exact Nat.ne_of_gt (blk_lt (g := gb459) (o := .cells #[.int .i64 0, .string (⟨#[]⟩ : ByteArray)] 140 (0, 0)) (zk BK459.out)) : gb460 ≠ gb459)); clear BK458; clear BK459; clear HB; have BK458 := n0_; have BK459 := n1_; have HB := n2_; have BK460 := n3_; have GW460 := n4_; have GE460 := n5_; have NB458_460 := n6_; have NB460_458 := n7_; have NB459_460 := n8_; have NB460_459 := n9_; clear n0_ n1_ n2_ n3_ n4_ n5_ n6_ n7_ n8_ n9_; clear hb hbox hg; have hnb5 := NB458_459.out; have hnc5 := NB459_458.out; have hnb6 := NB458_460.out; have hnc6 := NB460_458.out; have hcz7_0 : w4.cell? ⟨gb458, 0, none⟩ = some (.int .i64 a0_0) := (blk_cell BK458.out 0).trans rfl; have hcz7_1 : w4.cell? ⟨gb458, 1, none⟩ = some (.string a0_1) := (blk_cell BK458.out 1).trans rfl; have hfz7_0 := blk_frozen BK458.out 0; have hfz7_1 := blk_frozen BK458.out 1; have hnb8 := NB460_459.out; have hnc8 := NB459_460.out; have hcz9_0 : w4.cell? ⟨gb460, 0, none⟩ = some (.int .i64 0) := (blk_cell BK460.out 0).trans rfl; have hcz9_1 : w4.cell? ⟨gb460, 1, none⟩ = some (.string (⟨#[]⟩ : ByteArray)) := (blk_cell BK460.out 1).trans rfl; have hfz9_0 := blk_frozen BK460.out 0; have hfz9_1 := blk_frozen BK460.out 1; have hcz10_0 : w4.cell? ⟨gb459, 0, none⟩ = some (.int .i64 0) := (blk_cell BK459.out 0).trans rfl; have hcz10_1 : w4.cell? ⟨gb459, 1, none⟩ = some (.string (⟨#[]⟩ : ByteArray)) := (blk_cell BK459.out 1).trans rfl; have hfz10_0 := blk_frozen BK459.out 0; have hfz10_1 := blk_frozen BK459.out 1))
 refine bodyPost_ret (results_cell_row rfl _ _ gb459 140 #[.int .i64 a0_0, .string a0_1] (0, 0) _ rfl (by (with_reducible repeat (first | refine blk_drewN ?_ _ | refine blk_drew ?_ | refine blk_alloc ?_ _)); refine blk_put (cs := #[.int .i64 a0_0, .string (⟨#[]⟩ : ByteArray)]) ?_ 1 _ rfl; (with_reducible repeat (first | refine blk_drewN ?_ _ | refine blk_drew ?_ | refine blk_alloc ?_ _)); refine blk_put (cs := #[.int .i64 0, .string (⟨#[]⟩ : ByteArray)]) ?_ 0 _ rfl; (with_reducible repeat (first | refine blk_drewN ?_ _ | refine blk_drew ?_ | refine blk_alloc ?_ _)); refine blk_far ?_ NB459_460.out _; (with_reducible repeat (first | refine blk_drewN ?_ _ | refine blk_drew ?_ | refine blk_alloc ?_ _)); refine blk_far ?_ NB459_460.out _; (with_reducible repeat (first | refine blk_drewN ?_ _ | refine blk_drew ?_ | refine blk_alloc ?_ _)); exact BK459.out) Try.underlying140 rfl (by kernel_rfl)) rfl ?_
 exact ⟨by first | rfl | (simp [errW_none, errW_some] <;> rfl) | (simp [*, errW_none, errW_some] <;> rfl), zw⟩

def laws_toRowS.l0 : Nat → List (S143) → List (S140) → Int → Option ((List (S140)))
 | 0, _, _, _ => none
 | k + 1, x0, x3, x4 => if x4 < (x0.length : Int) then (if 0 ≤ x4 then ((laws_toRow.f ((T143 x0 x4).f0) ((T143 x0 x4).f1)).bind fun bt465 => (if x4 < (x3.length : Int) then (laws_toRowS.l0 k x0 (x3.set (x4 : Int).toNat (⟨bt465.1, bt465.2⟩ : S140)) (wrap64 (x4 + 1))) else (none))) else (none)) else (some x3)
def laws_toRowS.f (k : Nat) (l0 : List (S143)) : Option ((List (S140))) := if 0 ≤ (l0.length : Int) then (if ((l0.length : Int) : Int).toNat ≤ 11728124029610 then (laws_toRowS.l0 k l0 (List.replicate ((l0.length : Int) : Int).toNat z140) 0) else (none)) else (none)
set_option maxHeartbeats 8000000 in
set_option maxRecDepth 100000 in
theorem laws_toRowS.calls (k : Nat) (A0 : Option Addr) (c0 : Nat) (l0 : List (S143)) (r : List (S140)) (w : World) (hr0 : Kd.C k143 w A0 l0.length l0) (hc0 : l0.length ≤ c0) (h : laws_toRowS.f k l0 = some r) :
  Calls Try.prog 110 #[.slice A0 l0.length c0] w fun e w' => ∃ v0_ : Value, e = .returned (v0_) ∧ Kd.R k140 140 w' w.heap.size (fun _ => True) v0_ r ∧ Below w.heap.size w w' := by
 have hu143 := Try.underlying143
 have hu140 := Try.underlying140
 have HR0 := am hr0
 have HC0 := am hc0
 clear hr0 hc0
 have HB := am (Below.refl w.heap.size w)
 have H := h
 clear h
 unfold laws_toRowS.f at H
 obtain ⟨c2, H⟩ := itn H
 have c2b0 := eq_true c2
 have c2b1 := decide_eq_true c2
 clear c2
 obtain ⟨c3, H⟩ := itn H
 have c3b0 := eq_true c3
 have c3b1 := decide_eq_true c3
 clear c3
 obtain ⟨y461, hy461⟩ : ∃ y_ : List (S140), y_ = (List.replicate ((l0.length : Int) : Int).toNat z140) := ⟨_, rfl⟩
 replace H : (laws_toRowS.l0 k l0 y461 0) = some r := by first | (rw [hy461]; with_reducible exact H) | (have H2_ := (Option.bind_some _ _).symm.trans H; rw [hy461]; with_reducible exact H2_) | (have H2_ := (Option.bind_some _ _).symm.trans H; with_reducible exact H2_) | with_reducible exact H | (rw [hy461]; exact H) | exact H
 have Ny461 := am hy461
 clear hy461
 have H' := am H
 clear H
 go_enter Try.func110, Try.ntmps110
 go_wp2_with (first | ((with_reducible refine gate_dst (N := 7) rfl ?_); refine Kd.R_make k140 _ 140 rfl (N := 7) rfl 71 _ _ rfl (l0.length : Int) rfl rfl Try.underlying71 (.agg #[(.int .i64 0), (.string ⟨#[]⟩)]) 24 info140 rfl (by decide) (by omega) z140 (ok := fun _ => True) (okp := fun _ => True) (k140_mkM _ _ _ z140 ) (fun _ hk => hk) trivial oa (Nat.le_trans (Nat.mul_le_mul_right _ (oa : (l0.length : Int).toNat ≤ 11728124029610)) (by omega)) (Below.refl _ _) (Nat.le_refl _) ?_; intro v462 w4 ho5 hb hg_ hnew_; clear hg_ hnew_; (first | rw [← Ny461.out] at ho5 | (simp only [Int.reduceToNat] at ho5; rw [← Ny461.out] at ho5)); have HO463 := am (Kd.R_lower ho5 (below_size zb)); replace HB := am (below_step zb hb); clear hb ho5))
 go_loopg [4] k (fun kq v4 w' => ∃ (x3_1 : List (S140)) (x4_1 : Int), v4 = .int .i64 x4_1 ∧ Aside0 (laws_toRowS.l0 kq l0 x3_1 x4_1 = some r) ∧ Aside0 (kq ≤ k) ∧ Aside0 (Kd.R k140 140 w' w.heap.size (fun _ => True) v462 x3_1) ∧ Aside0 (Below w.heap.size w w'))
 case atStart => exact ⟨(y461), (0), zf, H', ⟨Nat.le_refl _⟩, ⟨zr HO463.out⟩, ⟨zb⟩⟩
 case round =>
  clear H'
  try clear c1
  try clear c2
  try clear c2b0
  try clear c2b1
  try clear p2
  try clear c3
  try clear c3b0
  try clear c3b1
  obtain ⟨x3_1, x4_1, rfl, HA, HK1, HO_3, HB⟩ := hrel
  cases gk with
  | zero => exact absurd HA.out (by simp [laws_toRowS.l0])
  | succ k1 =>
   have H := HA.out
   clear HA
   simp only [laws_toRowS.l0] at H
   by_cases c6 : x4_1 < (l0.length : Int)
   ·rw [if_pos c6] at H
    have c6b0 : decide (x4_1 < (l0.length : Int)) = true := decide_eq_true c6
    clear c6
    obtain ⟨c7, H⟩ := itn H
    have c7b0 := decide_eq_true c7
    clear c7
    replace H := Option.bind_eq_some_iff.mp H
    obtain ⟨⟨t465, t466⟩, A80, H⟩ := H
    dsimp only at H
    have A8 := am A80
    clear A80
    obtain ⟨c9, H⟩ := itn H
    have c9b0 := decide_eq_true c9
    clear c9
    obtain ⟨y467, hy467⟩ : ∃ y_ : List (S140), y_ = (x3_1.set (x4_1 : Int).toNat (⟨t465, t466⟩ : S140)) := ⟨_, rfl⟩
    replace H : (laws_toRowS.l0 k1 l0 y467 (wrap64 (x4_1 + 1))) = some r := by first | (rw [hy467]; with_reducible exact H) | (have H2_ := (Option.bind_some _ _).symm.trans H; rw [hy467]; with_reducible exact H2_) | (have H2_ := (Option.bind_some _ _).symm.trans H; with_reducible exact H2_) | with_reducible exact H | (rw [hy467]; exact H) | exact H
    have Ny467 := am hy467
    clear hy467
    have H' := am H
    clear H
    have p464 : 0 ≤ (x4_1 : Int) := oa
    have q464 : x4_1 < (l0.length : Int) := oa
    obtain ⟨ad464, e464, hx464_0, hx464_1⟩ := at_T143 HR0.out x4_1 p464 q464
    cases e464
    replace hx464_0 := bc HB.out hx464_0
    replace hx464_1 := bc HB.out hx464_1
    replace p464 := eq_true p464
    replace q464 := eq_true q464
    go_wp2_with (first | ((with_reducible refine gateC (f := 142) rfl ?_); refine goesL_ (some 20) rfl rfl Try.func142 (by kernel_rfl) rfl #[.agg #[.int .i64 ((T143 l0 x4_1).f0), .string ((T143 l0 x4_1).f1)]] rfl zm ?_; (with_reducible refine (laws_toRow.calls ((T143 l0 x4_1).f0) ((T143 l0 x4_1).f1) t465 t466 _ A8.out).mono ?_); rintro e w11 ⟨rfl, hb⟩; refine ⟨_, rfl, ?_⟩; replace HO_3 := am (Kd.R_below (zr HO_3.out) hb); replace HB := am (below_step zb hb); (try clear hb); have p10 : 0 ≤ (x4_1 : Int) := oa; have q10 : (x4_1 : Int) < ((x3_1.length : Int) : Int) := oa; obtain ⟨go10, co10, eo10, gb10, gl10, cl10, HG10⟩ := Kd.R_form HO_3.out (by omega); (first | cases eo10 | (injection eo10 with ea_ en_ ec_; (first | subst ea_ | (injection ea_ with ea_; subst ea_)); subst ec_; clear en_)); have GB10 := am gb10; have GG10 := am HG10; clear gb10 gl10 HG10; obtain ⟨ce10, hcl10, hM10, hcc10, hfr10⟩ := Kd.R_elem HO_3.out z140 (x4_1 : Int) p10 q10; obtain rfl := k140_openM hM10; have hx10_0 : w11.cell? ⟨go10, (x4_1 : Int).toNat * 2, none⟩ = some (.int .i64 ((T140 x3_1 x4_1).f0)) := hcc10 0 _ rfl; have hx10_1 : w11.cell? ⟨go10, (x4_1 : Int).toNat * 2 + 1, none⟩ = some (.string ((T140 x3_1 x4_1).f1)) := hcc10 1 _ rfl; have hf10_0 : w11.frozen? ⟨go10, (x4_1 : Int).toNat * 2, none⟩ = false := hfr10 0; have hf10_1 : w11.frozen? ⟨go10, (x4_1 : Int).toNat * 2 + 1, none⟩ = false := hfr10 1; clear hcl10 hcc10 hfr10; (try clear hM10); replace p10 := eq_true p10; replace q10 := eq_true q10; have HX12 := am (show Kd.R k140 140 w11 w.heap.size (fun _ => True) (.slice (some ⟨go10, 0, none⟩) x3_1.length co10) x3_1 from (zr HO_3.out)); obtain ⟨ce12, hcl12, hM12, hcc12, hfr12⟩ := Kd.R_elem HX12.out z140 (x4_1 : Int) oa (by have h_ : (x4_1 : Int) < ((x3_1.length : Int) : Int) := oa; first | exact h_ | (have e_ := (Kd.R_reads' HO_3.out).1; omega) | simpa using h_); obtain rfl := k140_openM hM12; have HP12 := Kd.R_seg HX12.out (x4_1 : Int) oa (by have h_ : (x4_1 : Int) < ((x3_1.length : Int) : Int) := oa; first | exact h_ | (have e_ := (Kd.R_reads' HO_3.out).1; omega) | simpa using h_) (seg := [.int .i64 t465, .string t466]) (j := 0) hcl12 hcc12 (show 2 ≤ 2 from by decide) (x' := (⟨t465, t466⟩ : S140)) (k140_mkM _ _ _ (⟨t465, t466⟩ : S140) ) (fun _ hk => hk); have hx12_0 := hcc12 0 _ rfl; (try simp only [show (k140).sz = 2 from rfl, Nat.mul_one, Nat.add_zero] at hx12_0); have hf12_0 := hfr12 0; (try simp only [show (k140).sz = 2 from rfl, Nat.mul_one, Nat.add_zero] at hf12_0); have hx12_1 := hcc12 1 _ rfl; (try simp only [show (k140).sz = 2 from rfl, Nat.mul_one, Nat.add_zero] at hx12_1); have hf12_1 := hfr12 1; (try simp only [show (k140).sz = 2 from rfl, Nat.mul_one, Nat.add_zero] at hf12_1); clear hcl12 hcc12 hfr12; (try clear hM12)) | ((with_reducible refine gate_store (t := 140) (p := 21) rfl ?_); refine store_event (t := 140) (p := 21) (v := ?vo_w13) (w1 := ((w11.setCell ⟨go10, (x4_1 : Int).toNat * 2, none⟩ (.int .i64 t465)).setCell ⟨go10, (x4_1 : Int).toNat * 2 + 1, none⟩ (.string t466))) ?hg ?ho ?hn ?hr ?_; (case ho => rfl); (case hg => rfl); (case hn => rfl); (case hr => first | (go_simp; done) | (go_simp; rfl)); intro w13 hw; have hg : w11.grownBy w13 (some go10) := (by rw [hw]; exact HP12.2); have hp_ : Kd.R k140 140 w13 w.heap.size (fun _ => True) (.slice (some ⟨go10, 0, none⟩) x3_1.length co10) y467 := (by rw [hw, Ny467.out]; exact HP12.1); clear HP12; replace HO_3 := am (hp_); replace HB := am ((by rw [hw]; exact below_set (below_set (HB.out) GB10.out) GB10.out : Below w.heap.size w w13)); clear hg hw hp_))
    go_roundg k1
    case measure => have := HK1.out; omega
    case rel => exact ⟨(y467), (wrap64 (x4_1 + 1)), zf, H', ⟨by have := HK1.out; omega⟩, ⟨zr HO_3.out⟩, ⟨zb⟩⟩
   ·rw [if_neg c6] at H
    have c6b0 : decide (x4_1 < (l0.length : Int)) = false := decide_eq_false c6
    clear c6
    obtain rfl := Option.some.inj H
    go_wp2
    go_ret
    exact ⟨_, by first | rfl | (simp [errW_none, errW_some] <;> rfl) | (simp [*, errW_none, errW_some] <;> rfl), zr HO_3.out, zb⟩

def laws_eqRow.f (a0_0 : Int) (a0_1 : ByteArray) (a1_0 : Int) (a1_1 : ByteArray) : Option (Bool) := if a0_0 = a1_0 then (if a0_1.toList = a1_1.toList then (some true) else (some false)) else (some false)
set_option maxHeartbeats 8000000 in
set_option maxRecDepth 100000 in
theorem laws_eqRow.calls (a0_0 : Int) (a0_1 : ByteArray) (a1_0 : Int) (a1_1 : ByteArray) (r : Bool) (w : World) (h : laws_eqRow.f a0_0 a0_1 a1_0 a1_1 = some r) :
  Calls Try.prog 144 #[.agg #[.int .i64 a0_0, .string a0_1], .agg #[.int .i64 a1_0, .string a1_1]] w fun e w' => e = .returned (.bool r) ∧ Below w.heap.size w w' := by
 have hu140 := Try.underlying140
 have HB := am (Below.refl w.heap.size w)
 have H : (if a0_0 = a1_0 then (if a0_1.toList = a1_1.toList then (some true) else (some false)) else (some false)) = some r := h
 clear h
 by_cases c3 : a0_0 = a1_0
 ·rw [if_pos c3] at H
  have c3b0 : (a0_0 == a1_0) = true := beq_iff_eq.mpr c3
  have c3b1 : (a0_0 != a1_0) = false := bne_eq_false_iff_eq.mpr c3
  clear c3
  by_cases c4 : a0_1.toList = a1_1.toList
  ·rw [if_pos c4] at H
   have c4b0 : (a0_1.toList == a1_1.toList) = true := beq_iff_eq.mpr c4
   have c4b1 : (a0_1.toList != a1_1.toList) = false := bne_eq_false_iff_eq.mpr c4
   clear c4
   obtain rfl := Option.some.inj H
   go_enter Try.func144, Try.ntmps144
   go_wp2_with (first | ((with_reducible refine gate_dst (N := 2) rfl ?_); refine box_event ?hg (N := 2) ?hd (cs := #[.int .i64 a0_0, .string a0_1]) (t := 140) ?hr ?_; (case hd => rfl); (case hg => rfl); (case hr => first | (go_simp; done) | (go_simp; rfl)); intro gb294 hg w5 hbox hb; have n0_ := am (below_step zb hb); have n1_ := am (hbox); have n2_ := am ((by rw [hg]; exact (below_size zb) : w.heap.size ≤ gb294)); have n3_ := am ((by rw [hg]; exact (below_size zb) : w.heap.size ≤ gb294)); clear HB; have HB := n0_; have BK294 := n1_; have GW294 := n2_; have GE294 := n3_; clear n0_ n1_ n2_ n3_; clear hb hbox hg) | ((with_reducible refine gate_dst (N := 3) rfl ?_); refine box_event ?hg (N := 3) ?hd (cs := #[.int .i64 a1_0, .string a1_1]) (t := 140) ?hr ?_; (case hd => rfl); (case hg => rfl); (case hr => first | (go_simp; done) | (go_simp; rfl)); intro gb295 hg w6 hbox hb; have n0_ := am (blk_below (g := gb294) (o := .cells #[.int .i64 a0_0, .string a0_1] 140 (0, 0)) (zk BK294.out) hb); have n1_ := am (below_step zw hb); have n2_ := am (hbox); have n3_ := am ((by rw [hg]; exact (below_size zw) : w.heap.size ≤ gb295)); have n4_ := am ((by rw [hg]; exact (below_size zw) : w.heap.size ≤ gb295)); have n5_ := am ((by rw [hg]; exact Nat.ne_of_lt (blk_lt (g := gb294) (o := .cells #[.int .i64 a0_0, .string a0_1] 140 (0, 0)) (zk BK294.out)) : gb294 ≠ gb295)); have n6_ := am ((by rw [hg]; exact Nat.ne_of_gt (blk_lt (g := gb294) (o := .cells #[.int .i64 a0_0, .string a0_1] 140 (0, 0)) (zk BK294.out)) : gb295 ≠ gb294)); clear BK294; clear HB; have BK294 := n0_; have HB := n1_; have BK295 := n2_; have GW295 := n3_; have GE295 := n4_; have NB294_295 := n5_; have NB295_294 := n6_; clear n0_ n1_ n2_ n3_ n4_ n5_ n6_; clear hb hbox hg; have hnb7 := NB294_295.out; have hnc7 := NB295_294.out; have hcz8_0 : w6.cell? ⟨gb294, 0, none⟩ = some (.int .i64 a0_0) := (blk_cell BK294.out 0).trans rfl; have hcz8_1 : w6.cell? ⟨gb294, 1, none⟩ = some (.string a0_1) := (blk_cell BK294.out 1).trans rfl; have hfz8_0 := blk_frozen BK294.out 0; have hfz8_1 := blk_frozen BK294.out 1; have hcz9_0 : w6.cell? ⟨gb295, 0, none⟩ = some (.int .i64 a1_0) := (blk_cell BK295.out 0).trans rfl; have hcz9_1 : w6.cell? ⟨gb295, 1, none⟩ = some (.string a1_1) := (blk_cell BK295.out 1).trans rfl; have hfz9_0 := blk_frozen BK295.out 0; have hfz9_1 := blk_frozen BK295.out 1))
   go_ret
   exact ⟨by first | rfl | (simp [errW_none, errW_some] <;> rfl) | (simp [*, errW_none, errW_some] <;> rfl), zw⟩
  ·rw [if_neg c4] at H
   have c4b0 : (a0_1.toList == a1_1.toList) = false := beq_eq_false_iff_ne.mpr c4
   have c4b1 : (a0_1.toList != a1_1.toList) = true := bne_iff_ne.mpr c4
   obtain rfl := Option.some.inj H
   go_enter Try.func144, Try.ntmps144
   go_wp2_with (first | ((with_reducible refine gate_dst (N := 2) rfl ?_); refine box_event ?hg (N := 2) ?hd (cs := #[.int .i64 a0_0, .string a0_1]) (t := 140) ?hr ?_; (case hd => rfl); (case hg => rfl); (case hr => first | (go_simp; done) | (go_simp; rfl)); intro gb294 hg w10 hbox hb; have n0_ := am (below_step zb hb); have n1_ := am (hbox); have n2_ := am ((by rw [hg]; exact (below_size zb) : w.heap.size ≤ gb294)); have n3_ := am ((by rw [hg]; exact (below_size zb) : w.heap.size ≤ gb294)); clear HB; have HB := n0_; have BK294 := n1_; have GW294 := n2_; have GE294 := n3_; clear n0_ n1_ n2_ n3_; clear hb hbox hg) | ((with_reducible refine gate_dst (N := 3) rfl ?_); refine box_event ?hg (N := 3) ?hd (cs := #[.int .i64 a1_0, .string a1_1]) (t := 140) ?hr ?_; (case hd => rfl); (case hg => rfl); (case hr => first | (go_simp; done) | (go_simp; rfl)); intro gb295 hg w11 hbox hb; have n0_ := am (blk_below (g := gb294) (o := .cells #[.int .i64 a0_0, .string a0_1] 140 (0, 0)) (zk BK294.out) hb); have n1_ := am (below_step zw hb); have n2_ := am (hbox); have n3_ := am ((by rw [hg]; exact (below_size zw) : w.heap.size ≤ gb295)); have n4_ := am ((by rw [hg]; exact (below_size zw) : w.heap.size ≤ gb295)); have n5_ := am ((by rw [hg]; exact Nat.ne_of_lt (blk_lt (g := gb294) (o := .cells #[.int .i64 a0_0, .string a0_1] 140 (0, 0)) (zk BK294.out)) : gb294 ≠ gb295)); have n6_ := am ((by rw [hg]; exact Nat.ne_of_gt (blk_lt (g := gb294) (o := .cells #[.int .i64 a0_0, .string a0_1] 140 (0, 0)) (zk BK294.out)) : gb295 ≠ gb294)); clear BK294; clear HB; have BK294 := n0_; have HB := n1_; have BK295 := n2_; have GW295 := n3_; have GE295 := n4_; have NB294_295 := n5_; have NB295_294 := n6_; clear n0_ n1_ n2_ n3_ n4_ n5_ n6_; clear hb hbox hg; have hnb12 := NB294_295.out; have hnc12 := NB295_294.out; have hcz13_0 : w11.cell? ⟨gb294, 0, none⟩ = some (.int .i64 a0_0) := (blk_cell BK294.out 0).trans rfl; have hcz13_1 : w11.cell? ⟨gb294, 1, none⟩ = some (.string a0_1) := (blk_cell BK294.out 1).trans rfl; have hfz13_0 := blk_frozen BK294.out 0; have hfz13_1 := blk_frozen BK294.out 1; have hcz14_0 : w11.cell? ⟨gb295, 0, none⟩ = some (.int .i64 a1_0) := (blk_cell BK295.out 0).trans rfl; have hcz14_1 : w11.cell? ⟨gb295, 1, none⟩ = some (.string a1_1) := (blk_cell BK295.out 1).trans rfl; have hfz14_0 := blk_frozen BK295.out 0; have hfz14_1 := blk_frozen BK295.out 1))
   go_ret
   exact ⟨by first | rfl | (simp [errW_none, errW_some] <;> rfl) | (simp [*, errW_none, errW_some] <;> rfl), zw⟩
 ·rw [if_neg c3] at H
  have c3b0 : (a0_0 == a1_0) = false := beq_eq_false_iff_ne.mpr c3
  have c3b1 : (a0_0 != a1_0) = true := bne_iff_ne.mpr c3
  obtain rfl := Option.some.inj H
  go_enter Try.func144, Try.ntmps144
  go_wp2_with (first | ((with_reducible refine gate_dst (N := 2) rfl ?_); refine box_event ?hg (N := 2) ?hd (cs := #[.int .i64 a0_0, .string a0_1]) (t := 140) ?hr ?_; (case hd => rfl); (case hg => rfl); (case hr => first | (go_simp; done) | (go_simp; rfl)); intro gb294 hg w15 hbox hb; have n0_ := am (below_step zb hb); have n1_ := am (hbox); have n2_ := am ((by rw [hg]; exact (below_size zb) : w.heap.size ≤ gb294)); have n3_ := am ((by rw [hg]; exact (below_size zb) : w.heap.size ≤ gb294)); clear HB; have HB := n0_; have BK294 := n1_; have GW294 := n2_; have GE294 := n3_; clear n0_ n1_ n2_ n3_; clear hb hbox hg) | ((with_reducible refine gate_dst (N := 3) rfl ?_); refine box_event ?hg (N := 3) ?hd (cs := #[.int .i64 a1_0, .string a1_1]) (t := 140) ?hr ?_; (case hd => rfl); (case hg => rfl); (case hr => first | (go_simp; done) | (go_simp; rfl)); intro gb295 hg w16 hbox hb; have n0_ := am (blk_below (g := gb294) (o := .cells #[.int .i64 a0_0, .string a0_1] 140 (0, 0)) (zk BK294.out) hb); have n1_ := am (below_step zw hb); have n2_ := am (hbox); have n3_ := am ((by rw [hg]; exact (below_size zw) : w.heap.size ≤ gb295)); have n4_ := am ((by rw [hg]; exact (below_size zw) : w.heap.size ≤ gb295)); have n5_ := am ((by rw [hg]; exact Nat.ne_of_lt (blk_lt (g := gb294) (o := .cells #[.int .i64 a0_0, .string a0_1] 140 (0, 0)) (zk BK294.out)) : gb294 ≠ gb295)); have n6_ := am ((by rw [hg]; exact Nat.ne_of_gt (blk_lt (g := gb294) (o := .cells #[.int .i64 a0_0, .string a0_1] 140 (0, 0)) (zk BK294.out)) : gb295 ≠ gb294)); clear BK294; clear HB; have BK294 := n0_; have HB := n1_; have BK295 := n2_; have GW295 := n3_; have GE295 := n4_; have NB294_295 := n5_; have NB295_294 := n6_; clear n0_ n1_ n2_ n3_ n4_ n5_ n6_; clear hb hbox hg; have hnb17 := NB294_295.out; have hnc17 := NB295_294.out; have hcz18_0 : w16.cell? ⟨gb294, 0, none⟩ = some (.int .i64 a0_0) := (blk_cell BK294.out 0).trans rfl; have hcz18_1 : w16.cell? ⟨gb294, 1, none⟩ = some (.string a0_1) := (blk_cell BK294.out 1).trans rfl; have hfz18_0 := blk_frozen BK294.out 0; have hfz18_1 := blk_frozen BK294.out 1; have hcz19_0 : w16.cell? ⟨gb295, 0, none⟩ = some (.int .i64 a1_0) := (blk_cell BK295.out 0).trans rfl; have hcz19_1 : w16.cell? ⟨gb295, 1, none⟩ = some (.string a1_1) := (blk_cell BK295.out 1).trans rfl; have hfz19_0 := blk_frozen BK295.out 0; have hfz19_1 := blk_frozen BK295.out 1))
  go_ret
  exact ⟨by first | rfl | (simp [errW_none, errW_some] <;> rfl) | (simp [*, errW_none, errW_some] <;> rfl), zw⟩

def laws_eqRowS.l0 : Nat → List (S140) → List (S140) → Int → Option (Bool)
 | 0, _, _, _ => none
 | k + 1, x0, x1, x5 => if x5 < (x0.length : Int) then (if 0 ≤ x5 then (if x5 < (x1.length : Int) then ((laws_eqRow.f ((T140 x0 x5).f0) ((T140 x0 x5).f1) ((T140 x1 x5).f0) ((T140 x1 x5).f1)).bind fun t298 => (if t298 = true then (laws_eqRowS.l0 k x0 x1 (wrap64 (x5 + 1))) else (some false))) else (none)) else (none)) else (some true)
def laws_eqRowS.f (k : Nat) (l0 : List (S140)) (l1 : List (S140)) : Option (Bool) := if (l0.length : Int) = (l1.length : Int) then (laws_eqRowS.l0 k l0 l1 0) else (some false)
def laws_eqRowS.T6 : Bool × List (List Nat × List Nat) := (true, [([], []), ([], []), ([0, 1], [0, 1]), ([2], [2]), ([], []), ([], []), ([4, 5], [4, 5]), ([6], [6]), ([3, 7], [3, 7]), ([8], [8])])
def laws_eqRowS.B6 : List Nat := [0, 0, 3, 7, 0, 0, 48, 112, 255, 511]
theorem laws_eqRowS.tab6 : rtab .any (opsOf Try.f114 6) = laws_eqRowS.T6 := by kernel_rfl
theorem laws_eqRowS.bits6 : waitsOk laws_eqRowS.T6.2 laws_eqRowS.B6 = true := by kernel_rfl
set_option maxHeartbeats 8000000 in
set_option maxRecDepth 100000 in
theorem laws_eqRowS.calls (k : Nat) (A0 : Option Addr) (c0 : Nat) (l0 : List (S140)) (A1 : Option Addr) (c1 : Nat) (l1 : List (S140)) (r : Bool) (w : World) (hr0 : Kd.C k140 w A0 l0.length l0) (hc0 : l0.length ≤ c0) (hr1 : Kd.C k140 w A1 l1.length l1) (hc1 : l1.length ≤ c1) (h : laws_eqRowS.f k l0 l1 = some r) :
  Calls Try.prog 114 #[.slice A0 l0.length c0, .slice A1 l1.length c1] w fun e w' => e = .returned (.bool r) ∧ Below w.heap.size w w' := by
 have hu140 := Try.underlying140
 have HR0 := am hr0
 have HC0 := am hc0
 clear hr0 hc0
 have HR1 := am hr1
 have HC1 := am hc1
 clear hr1 hc1
 have HB := am (Below.refl w.heap.size w)
 have H := h
 clear h
 unfold laws_eqRowS.f at H
 by_cases c3 : (l0.length : Int) = (l1.length : Int)
 ·rw [if_pos c3] at H
  have c3b0 : ((l0.length : Int) == (l1.length : Int)) = true := beq_iff_eq.mpr c3
  have c3b1 : ((l0.length : Int) != (l1.length : Int)) = false := bne_eq_false_iff_eq.mpr c3
  have c3b2 : (l0.length == l1.length) = true := by first | simpa using c3 | (simp at c3 ⊢; omega)
  clear c3
  have H' := am H
  clear H
  go_enter Try.func114, Try.ntmps114
  go_wp2
  go_loopg [5] k (fun kq v5 w' => ∃ (x5_1 : Int), v5 = .int .i64 x5_1 ∧ Aside0 (laws_eqRowS.l0 kq l0 l1 x5_1 = some r) ∧ Aside0 (kq ≤ k) ∧ Aside0 (Below w.heap.size w w'))
  case atStart => exact ⟨(0), zf, H', ⟨Nat.le_refl _⟩, ⟨zb⟩⟩
  case round =>
   clear H'
   try clear c1
   try clear p2
   try clear c3
   try clear c3b0
   try clear c3b1
   try clear c3b2
   obtain ⟨x5_1, rfl, HA, HK1, HB⟩ := hrel
   cases gk with
   | zero => exact absurd HA.out (by simp [laws_eqRowS.l0])
   | succ k1 =>
    have H := HA.out
    clear HA
    simp only [laws_eqRowS.l0] at H
    by_cases c4 : x5_1 < (l0.length : Int)
    ·rw [if_pos c4] at H
     have c4b0 : decide (x5_1 < (l0.length : Int)) = true := decide_eq_true c4
     clear c4
     obtain ⟨c5, H⟩ := itn H
     have c5b0 := decide_eq_true c5
     clear c5
     obtain ⟨c6, H⟩ := itn H
     have c6b0 := decide_eq_true c6
     clear c6
     replace H := Option.bind_eq_some_iff.mp H
     obtain ⟨t298, A70, H⟩ := H
     replace H : (if t298 = true then (laws_eqRowS.l0 k1 l0 l1 (wrap64 (x5_1 + 1))) else (some false)) = some r := H
     have A7 := am A70
     clear A70
     by_cases c8 : t298 = true
     ·subst c8
      rw [if_pos rfl] at H
      have H' := am H
      clear H
      try go_wp2
      replace HB := am (below_drew1 HB.out)
      have p296 : 0 ≤ (x5_1 : Int) := oa
      have q296 : x5_1 < (l0.length : Int) := oa
      obtain ⟨ad296, e296, hx296_0, hx296_1⟩ := at_T140 HR0.out x5_1 p296 q296
      have hw296_1 := hx296_1
      have hw296_0 := hx296_0
      cases e296
      replace hx296_0 := bc HB.out hx296_0
      replace hx296_1 := bc HB.out hx296_1
      replace p296 := eq_true p296
      replace q296 := eq_true q296
      have p297 : 0 ≤ (x5_1 : Int) := oa
      have q297 : x5_1 < (l1.length : Int) := oa
      obtain ⟨ad297, e297, hx297_0, hx297_1⟩ := at_T140 HR1.out x5_1 p297 q297
      have hw297_1 := hx297_1
      have hw297_0 := hx297_0
      cases e297
      replace hx297_0 := bc HB.out hx297_0
      replace hx297_1 := bc HB.out hx297_1
      replace p297 := eq_true p297
      replace q297 := eq_true q297
      refine start_ (n := 10) (S := fun w' => w'.cell? (ad296.add ((x5_1).toNat * 2)) = some (.int .i64 ((T140 l0 x5_1).f0)) ∧ w'.cell? ⟨(ad296.add ((x5_1).toNat * 2)).block, (ad296.add ((x5_1).toNat * 2)).off + 1, none⟩ = some (.string ((T140 l0 x5_1).f1)) ∧ w'.cell? (ad297.add ((x5_1).toNat * 2)) = some (.int .i64 ((T140 l1 x5_1).f0)) ∧ w'.cell? ⟨(ad297.add ((x5_1).toNat * 2)).block, (ad297.add ((x5_1).toNat * 2)).off + 1, none⟩ = some (.string ((T140 l1 x5_1).f1))) (ds := []) #[O,O,O,O,O,O,O,O,O,O] (by kernel_rfl) rfl rfl ⟨((HB.out.cell (World.block_lt_of_cell? w _ hw296_0)).trans hw296_0), ((HB.out.cell (World.block_lt_of_cell? w _ hw296_1)).trans hw296_1), ((HB.out.cell (World.block_lt_of_cell? w _ hw297_0)).trans hw297_0), ((HB.out.cell (World.block_lt_of_cell? w _ hw297_1)).trans hw297_1)⟩ (fun hHeld => ?_); refine with_tabW laws_eqRowS.tab6 laws_eqRowS.bits6 (fun HT_ HW_ => ?_)
      generalize wr.drew = w9 at HB hx296_0 hx296_1 hx297_0 hx297_1 hHeld ⊢
      refine pu 0 (some 17) ?_
      refine pu 1 (some 18) ?_
      refine pu 2 (some 19) ?_
      refine pu 4 (some 21) ?_
      refine pu 5 (some 22) ?_
      refine pu 6 (some 23) ?_
      refine ta 3 (some 20) ?_
      refine ta 7 (some 24) ?_
      refine one_ (i := 8) (N := some 25) #[Y,Y,Y,Y,Y,Y,Y,Y,Y,O] rfl rfl (one_of HT_.out (by kernel_rfl)) (by decide) (fun K hK => ?_)
      refine goes_ Try.func144 (by kernel_rfl) rfl #[.agg #[.int .i64 ((T140 l0 x5_1).f0), .string ((T140 l0 x5_1).f1)], .agg #[.int .i64 ((T140 l1 x5_1).f0), .string ((T140 l1 x5_1).f1)]] (by rfl) rfl rfl zm ?_
      with_reducible refine (laws_eqRow.calls ((T140 l0 x5_1).f0) ((T140 l0 x5_1).f1) ((T140 l1 x5_1).f0) ((T140 l1 x5_1).f1) true _ A7.out).mono ?_
      rintro e w10 ⟨rfl, hb⟩
      refine ⟨_, rfl, ?_⟩
      replace HB := am (below_step zb hb)
      (try clear hb)
      (try clear hb2)
      (try clear hk)
      (try clear hi)
      refine hK.out _ _ ⟨((HB.out.cell (World.block_lt_of_cell? w _ hw296_0)).trans hw296_0), ((HB.out.cell (World.block_lt_of_cell? w _ hw296_1)).trans hw296_1), ((HB.out.cell (World.block_lt_of_cell? w _ hw297_0)).trans hw297_0), ((HB.out.cell (World.block_lt_of_cell? w _ hw297_1)).trans hw297_1)⟩ (fun hHeld => ?_)
      clear hK K
      refine norm_ (a' := ?_) ?_ ?_
      rotate_left
      ·show Act.put _ (some 25) _ = _
       simp only [Act.put,qa,qb,qc,i64_w,i32_w]
       rfl
      refine pu 9 (some 26) ?_
      refine done_ (done_of HT_.out (by kernel_rfl)) ?_
      try go_wp2
      go_roundg k1
      case measure => have := HK1.out; omega
      case rel => exact ⟨(wrap64 (x5_1 + 1)), zf, H', ⟨by have := HK1.out; omega⟩, ⟨zb⟩⟩
     ·replace c8 := Bool.eq_false_iff.mpr c8
      subst c8
      rw [if_neg nofun] at H
      obtain rfl := Option.some.inj H
      try go_wp2
      replace HB := am (below_drew1 HB.out)
      have p296 : 0 ≤ (x5_1 : Int) := oa
      have q296 : x5_1 < (l0.length : Int) := oa
      obtain ⟨ad296, e296, hx296_0, hx296_1⟩ := at_T140 HR0.out x5_1 p296 q296
      have hw296_1 := hx296_1
      have hw296_0 := hx296_0
      cases e296
      replace hx296_0 := bc HB.out hx296_0
      replace hx296_1 := bc HB.out hx296_1
      replace p296 := eq_true p296
      replace q296 := eq_true q296
      have p297 : 0 ≤ (x5_1 : Int) := oa
      have q297 : x5_1 < (l1.length : Int) := oa
      obtain ⟨ad297, e297, hx297_0, hx297_1⟩ := at_T140 HR1.out x5_1 p297 q297
      have hw297_1 := hx297_1
      have hw297_0 := hx297_0
      cases e297
      replace hx297_0 := bc HB.out hx297_0
      replace hx297_1 := bc HB.out hx297_1
      replace p297 := eq_true p297
      replace q297 := eq_true q297
      refine start_ (n := 10) (S := fun w' => w'.cell? (ad296.add ((x5_1).toNat * 2)) = some (.int .i64 ((T140 l0 x5_1).f0)) ∧ w'.cell? ⟨(ad296.add ((x5_1).toNat * 2)).block, (ad296.add ((x5_1).toNat * 2)).off + 1, none⟩ = some (.string ((T140 l0 x5_1).f1)) ∧ w'.cell? (ad297.add ((x5_1).toNat * 2)) = some (.int .i64 ((T140 l1 x5_1).f0)) ∧ w'.cell? ⟨(ad297.add ((x5_1).toNat * 2)).block, (ad297.add ((x5_1).toNat * 2)).off + 1, none⟩ = some (.string ((T140 l1 x5_1).f1))) (ds := []) #[O,O,O,O,O,O,O,O,O,O] (by kernel_rfl) rfl rfl ⟨((HB.out.cell (World.block_lt_of_cell? w _ hw296_0)).trans hw296_0), ((HB.out.cell (World.block_lt_of_cell? w _ hw296_1)).trans hw296_1), ((HB.out.cell (World.block_lt_of_cell? w _ hw297_0)).trans hw297_0), ((HB.out.cell (World.block_lt_of_cell? w _ hw297_1)).trans hw297_1)⟩ (fun hHeld => ?_); refine with_tabW laws_eqRowS.tab6 laws_eqRowS.bits6 (fun HT_ HW_ => ?_)
      generalize wr.drew = w11 at HB hx296_0 hx296_1 hx297_0 hx297_1 hHeld ⊢
      refine pu 0 (some 17) ?_
      refine pu 1 (some 18) ?_
      refine pu 2 (some 19) ?_
      refine pu 4 (some 21) ?_
      refine pu 5 (some 22) ?_
      refine pu 6 (some 23) ?_
      refine ta 3 (some 20) ?_
      refine ta 7 (some 24) ?_
      refine one_ (i := 8) (N := some 25) #[Y,Y,Y,Y,Y,Y,Y,Y,Y,O] rfl rfl (one_of HT_.out (by kernel_rfl)) (by decide) (fun K hK => ?_)
      refine goes_ Try.func144 (by kernel_rfl) rfl #[.agg #[.int .i64 ((T140 l0 x5_1).f0), .string ((T140 l0 x5_1).f1)], .agg #[.int .i64 ((T140 l1 x5_1).f0), .string ((T140 l1 x5_1).f1)]] (by rfl) rfl rfl zm ?_
      with_reducible refine (laws_eqRow.calls ((T140 l0 x5_1).f0) ((T140 l0 x5_1).f1) ((T140 l1 x5_1).f0) ((T140 l1 x5_1).f1) false _ A7.out).mono ?_
      rintro e w12 ⟨rfl, hb⟩
      refine ⟨_, rfl, ?_⟩
      replace HB := am (below_step zb hb)
      (try clear hb)
      (try clear hb2)
      (try clear hk)
      (try clear hi)
      refine hK.out _ _ ⟨((HB.out.cell (World.block_lt_of_cell? w _ hw296_0)).trans hw296_0), ((HB.out.cell (World.block_lt_of_cell? w _ hw296_1)).trans hw296_1), ((HB.out.cell (World.block_lt_of_cell? w _ hw297_0)).trans hw297_0), ((HB.out.cell (World.block_lt_of_cell? w _ hw297_1)).trans hw297_1)⟩ (fun hHeld => ?_)
      clear hK K
      refine norm_ (a' := ?_) ?_ ?_
      rotate_left
      ·show Act.put _ (some 25) _ = _
       simp only [Act.put,qa,qb,qc,i64_w,i32_w]
       rfl
      refine pu 9 (some 26) ?_
      refine done_ (done_of HT_.out (by kernel_rfl)) ?_
      try go_wp2
      go_ret
      exact ⟨by first | rfl | (simp [errW_none, errW_some] <;> rfl) | (simp [*, errW_none, errW_some] <;> rfl), zb⟩
    ·rw [if_neg c4] at H
     have c4b0 : decide (x5_1 < (l0.length : Int)) = false := decide_eq_false c4
     clear c4
     obtain rfl := Option.some.inj H
     go_wp2
     go_ret
     exact ⟨by first | rfl | (simp [errW_none, errW_some] <;> rfl) | (simp [*, errW_none, errW_some] <;> rfl), zb⟩
 ·rw [if_neg c3] at H
  have c3b0 : ((l0.length : Int) == (l1.length : Int)) = false := beq_eq_false_iff_ne.mpr c3
  have c3b1 : ((l0.length : Int) != (l1.length : Int)) = true := bne_iff_ne.mpr c3
  have c3b2 : (l0.length == l1.length) = false := by first | simpa using c3 | (simp at c3 ⊢; omega)
  obtain rfl := Option.some.inj H
  go_enter Try.func114, Try.ntmps114
  go_wp2
  go_ret
  exact ⟨by first | rfl | (simp [errW_none, errW_some] <;> rfl) | (simp [*, errW_none, errW_some] <;> rfl), zb⟩
end Go.Proofs.Ytmcldkobejhaeaa.My
namespace Go.Proofs.Ytmcldkobejhaeaa.Pl
open Go.RowKit Go.Proofs.YtmcldkobejhaeaaW.PrintWords Go.Proofs.YtmcldkobejhaeaaW.PrintLast Go.Proofs.Ytmcldkobejhaeaa.My
set_option linter.unusedVariables false
set_option linter.unusedSimpArgs false
abbrev LR := S143
abbrev IR := S140
def toR (x : LR) : IR := ⟨x.f0, x.f1⟩
def FitR (l : List LR) : Prop := l.length ≤ 9223372036854775807 ∧ ∀ x ∈ l, Wint x.f0 ∧ x.f1.size ≤ 9223372036854775807
def szR (l : List LR) : Nat := l.length + (l.map fun x => x.f1.size).sum
theorem fitR_of_wl {l : List LR} (h : WL W143 l) : FitR l := by
  refine ⟨h.1, fun x hx => ?_⟩
  obtain ⟨h0, h1⟩ := h.2 x hx
  exact ⟨h0, h1⟩
theorem sumR_drop (l : List LR) (i : Nat) (h : i < l.length) : ((l.drop i).map fun x => x.f1.size).sum = l[i].f1.size + ((l.drop (i + 1)).map fun x => x.f1.size).sum := by
  rw [List.drop_eq_getElem_cons h, List.map_cons, List.sum_cons]
theorem rdLR (l : List LR) (i : Nat) (h : i < l.length) : T143 l (i : Int) = l[i] := getD_lt l _ i h
theorem rdIR (l : List IR) (i : Nat) (h : i < l.length) : T140 l (i : Int) = l[i] := getD_lt l _ i h
theorem szRowS_l0 (l : List LR) (hf : FitR l) : ∀ d i (a : Int), i + d = l.length → 0 ≤ a → a ≤ 1048576 → ∃ r, Ev (fun k => laws_szRowS.l0 k l a (i : Int)) r ∧ leftOf a (((l.drop i).map fun x => x.f1.size).sum) r := by
  intro d
  have hL := hf.1
  induction d with
  | zero =>
    intro i a hi h0 h1
    refine ⟨a, Ev.step (fun k => laws_szRowS.l0.eq_2 ..) (ev_neg (by omega) (ev_some rfl)), .inr ⟨h0, ?_⟩⟩
    rw [List.drop_of_length_le (by omega)]
    simp
  | succ d ih =>
    intro i a hi h0 h1
    have hlt : i < l.length := by omega
    have hs := (hf.2 _ (List.getElem_mem hlt)).2
    rw [sumR_drop l i hlt]
    have hz : laws_szRow.f (T143 l (i : Int)).f0 (T143 l (i : Int)).f1 a = some (if a - (l[i].f1.size : Int) < 0 then -1 else a - (l[i].f1.size : Int)) := by
      rw [rdLR l i hlt]
      simp only [laws_szRow.f]
      rw [wrap64_id (by omega) (by omega)]
      split <;> rfl
    by_cases h : a - (l[i].f1.size : Int) < 0
    · rw [if_pos h] at hz
      exact ⟨-1, Ev.step (fun k => laws_szRowS.l0.eq_2 ..) (ev_pos (by omega) (ev_pos (by omega) (ev_bind (ev_const hz) (ev_pos (by omega) (ev_some rfl))))), .inl (by omega)⟩
    · rw [if_neg h] at hz
      obtain ⟨r, hr, hl⟩ := ih (i + 1) (a - (l[i].f1.size : Int)) (by omega) (by omega) (by omega)
      refine ⟨r, Ev.step (fun k => laws_szRowS.l0.eq_2 ..) (ev_pos (by omega) (ev_pos (by omega) (ev_bind (ev_const hz) (ev_neg h ?_)))), ?_⟩
      · rw [wrap_succ i (by omega)]
        exact hr
      · rcases hl with hl | hl
        · exact .inl hl
        · exact .inr (by omega)
theorem szRowS_ev (l : List LR) (hf : FitR l) (a : Int) (h0 : 0 ≤ a) (h1 : a ≤ 1048576) : ∃ r, Ev (fun k => laws_szRowS.f k l a) r ∧ leftOf a (szR l) r := by
  have hL := hf.1
  simp only [laws_szRowS.f]
  rw [wrap64_id (by omega) (by omega)]
  by_cases h : a - (l.length : Int) < 0
  · exact ⟨-1, ev_pos h (ev_some rfl), .inl (by omega)⟩
  · obtain ⟨r, hr, hl⟩ := szRowS_l0 l hf l.length 0 (a - (l.length : Int)) (by omega) (by omega) (by omega)
    refine ⟨r, ev_neg h hr, ?_⟩
    rcases hl with hl | hl
    · exact .inl hl
    · rw [List.drop_zero] at hl
      exact .inr (by unfold szR; omega)
theorem toRowS_l0 (l : List LR) (hL : l.length ≤ 1048576) : ∀ d i (o : List IR), i + d = l.length → o.length = l.length → o.take i = (l.map toR).take i → Ev (fun k => laws_toRowS.l0 k l o (i : Int)) (l.map toR) := by
  intro d
  induction d with
  | zero =>
    intro i o hi hl ht
    refine Ev.step (fun k => laws_toRowS.l0.eq_2 ..) (ev_neg (by omega) (ev_some ?_))
    rw [List.take_of_length_le (by omega), List.take_of_length_le (by rw [List.length_map]; omega)] at ht
    exact ht
  | succ d ih =>
    intro i o hi hl ht
    have hlt : i < l.length := by omega
    have hx : laws_toRow.f (T143 l (i : Int)).f0 (T143 l (i : Int)).f1 = some (l[i].f0, l[i].f1) := by
      rw [rdLR l i hlt]
      rfl
    refine Ev.step (fun k => laws_toRowS.l0.eq_2 ..) (ev_pos (by omega) (ev_pos (by omega) (ev_bind (ev_const hx) (ev_pos (by omega) ?_))))
    rw [wrap_succ i (by omega), Int.toNat_natCast]
    refine ih (i + 1) _ (by omega) (by rw [List.length_set]; exact hl) ?_
    rw [List.take_succ_eq_append_getElem (by rw [List.length_set]; omega), List.take_succ_eq_append_getElem (by rw [List.length_map]; exact hlt), List.getElem_set_self, List.take_set_of_le (Nat.le_refl i), ht, List.getElem_map]
    rfl
theorem toRowS_ev (l : List LR) (hL : l.length ≤ 1048576) : Ev (fun k => laws_toRowS.f k l) (l.map toR) := by
  simp only [laws_toRowS.f]
  refine ev_pos (by omega) (ev_pos (by omega) ?_)
  exact toRowS_l0 l hL l.length 0 _ (by omega) (by simp) rfl
def FitIR (l : List IR) : Prop := l.length ≤ 9223372036854775807 ∧ ∀ x ∈ l, (-9223372036854775808 ≤ x.f0 ∧ x.f0 ≤ 9223372036854775807) ∧ x.f1.size ≤ 9223372036854775807
theorem fitIR_of {l : List LR} (h : FitR l) : FitIR (l.map toR) := by
  refine ⟨by rw [List.length_map]; exact h.1, fun x hx => ?_⟩
  obtain ⟨y, hy, rfl⟩ := List.mem_map.1 hx
  exact ⟨wint_bounds (h.2 y hy).1, (h.2 y hy).2⟩
theorem ir_ext {x y : IR} (h0 : x.f0 = y.f0) (h1 : x.f1 = y.f1) : x = y := by
  cases x; cases y; simp_all
instance : DecidableEq IR := fun x y => decidable_of_iff (x.f0 = y.f0 ∧ x.f1 = y.f1) ⟨fun ⟨a, b⟩ => ir_ext a b, fun h => by rw [h]; exact ⟨rfl, rfl⟩⟩
theorem eqRow_eq (x y : IR) : laws_eqRow.f x.f0 x.f1 y.f0 y.f1 = some (decide (x = y)) := by
  simp only [laws_eqRow.f]
  by_cases h0 : x.f0 = y.f0
  · rw [if_pos h0]
    by_cases h1 : x.f1.toList = y.f1.toList
    · rw [if_pos h1, ir_ext h0 (ba_ext h1)]
      simp
    · rw [if_neg h1]
      have : ¬ x = y := fun e => h1 (by rw [e])
      simp [this]
  · rw [if_neg h0]
    have : ¬ x = y := fun e => h0 (by rw [e])
    simp [this]
theorem eqRowS_l0 (a b : List IR) (hab : a.length = b.length) (hL : a.length ≤ 9223372036854775807) : ∀ d i, i + d = a.length → Ev (fun k => laws_eqRowS.l0 k a b (i : Int)) (decide (a.drop i = b.drop i)) := by
  intro d
  induction d with
  | zero =>
    intro i hi
    refine Ev.step (fun k => laws_eqRowS.l0.eq_2 ..) (ev_neg (by omega) (ev_some ?_))
    rw [List.drop_of_length_le (by omega), List.drop_of_length_le (by omega)]
    simp
  | succ d ih =>
    intro i hi
    have h1 : i < a.length := by omega
    have h2 : i < b.length := by omega
    refine Ev.step (fun k => laws_eqRowS.l0.eq_2 ..) (ev_pos (by omega) (ev_pos (by omega) (ev_pos (by omega) ?_)))
    simp only [rdIR _ _ h1, rdIR _ _ h2, drop_cons a i h1, drop_cons b i h2]
    refine ev_bind (ev_const (eqRow_eq _ _)) (ev_ite (fun h => ?_) (fun h => ev_some ?_))
    · rw [wrap_succ i (by omega)]
      refine ev_to (ih (i + 1) (by omega)) ?_
      rw [of_decide_eq_true h]
      simp only [List.cons.injEq, true_and]
    · have : ¬ a[i] = b[i] := fun e => h (decide_eq_true e)
      simp only [List.cons.injEq, this, false_and, decide_false]
theorem eqRowS_ev (a b : List IR) (hL : a.length ≤ 9223372036854775807) : Ev (fun k => laws_eqRowS.f k a b) (decide (a = b)) := by
  simp only [laws_eqRowS.f]
  refine ev_ite (fun h => ?_) (fun h => ev_some ?_)
  · exact eqRowS_l0 a b (by omega) hL a.length 0 (by omega)
  · have : ¬ a = b := fun e => h (by rw [e])
    simp [this]

abbrev IH := S106
theorem rdIH (l : List IH) (i : Nat) (h : i < l.length) : T106 l (i : Int) = l[i] := getD_lt l _ i h
theorem ih_ext {x y : IH} (h0 : x.f0 = y.f0) (h1 : x.f1 = y.f1) (h2 : x.f2 = y.f2) : x = y := by
  cases x; cases y; simp_all
instance : DecidableEq IH := fun x y => decidable_of_iff (x.f0 = y.f0 ∧ x.f1 = y.f1 ∧ x.f2 = y.f2) ⟨fun ⟨a, b, c⟩ => ih_ext a b c, fun h => by rw [h]; exact ⟨rfl, rfl, rfl⟩⟩
end Go.Proofs.Ytmcldkobejhaeaa.Pl
namespace Go.Proofs.Ytmcldkobejhaeaa.My
open Go.RowKit Go.Proofs.YtmcldkobejhaeaaW.PrintWords Go.Proofs.YtmcldkobejhaeaaW.PrintLast Go.Proofs.YtmcldkobejhaeaaW.PrintMore
attribute [local go_sem] max2_int min2_int max_two min_two max_three min_three max_four min_four
set_option linter.unusedVariables false
set_option linter.unusedSimpArgs false
def impl_Group_hunks.l0 : Nat → Int → List (S106) → Bool → List (S140) → Int → Int → Option ((List (S106)))
 | 0, _, _, _, _, _, _ => none
 | k + 1, x1, x5, x6, x12, x13, x14 => if x14 < x13 then (if 0 ≤ x14 then (if x14 < (x12.length : Int) then (if ((T140 x12 x14).f0) = 1 then (impl_Group_hunks.l0 k (wrap64 (x1 + 1)) x5 false x12 x13 (wrap64 (x14 + 1))) else (if x6 = true then (if 0 ≤ (wrap64 ((x5.length : Int) - 1)) then (if (wrap64 ((x5.length : Int) - 1)) < (x5.length : Int) then (if ((T140 x12 x14).f0) = 2 then (impl_Group_hunks.l0 k (wrap64 (x1 + 1)) (x5.set ((wrap64 ((x5.length : Int) - 1)) : Int).toNat (⟨(T106 x5 (wrap64 ((x5.length : Int) - 1))).f0, wrap64 (((T106 x5 (wrap64 ((x5.length : Int) - 1))).f1) + 1), (T106 x5 (wrap64 ((x5.length : Int) - 1))).f2⟩ : S106)) x6 x12 x13 (wrap64 (x14 + 1))) else (if ((T106 x5 (wrap64 ((x5.length : Int) - 1))).f2).length < 8796093022208 then (impl_Group_hunks.l0 k x1 (x5.set ((wrap64 ((x5.length : Int) - 1)) : Int).toNat (⟨(T106 x5 (wrap64 ((x5.length : Int) - 1))).f0, (T106 x5 (wrap64 ((x5.length : Int) - 1))).f1, (((T106 x5 (wrap64 ((x5.length : Int) - 1))).f2) ++ [(T140 x12 x14).f1])⟩ : S106)) x6 x12 x13 (wrap64 (x14 + 1))) else (none))) else (none)) else (none)) else (if x5.length < 3518437208883 then ((some (x5 ++ [(⟨x1, 0, ([] : List ByteArray)⟩ : S106)] : List (S106))).bind fun y521 => (if 0 ≤ (wrap64 ((y521.length : Int) - 1)) then (if (wrap64 ((y521.length : Int) - 1)) < (y521.length : Int) then (if ((T140 x12 x14).f0) = 2 then (impl_Group_hunks.l0 k (wrap64 (x1 + 1)) (y521.set ((wrap64 ((y521.length : Int) - 1)) : Int).toNat (⟨(T106 y521 (wrap64 ((y521.length : Int) - 1))).f0, wrap64 (((T106 y521 (wrap64 ((y521.length : Int) - 1))).f1) + 1), (T106 y521 (wrap64 ((y521.length : Int) - 1))).f2⟩ : S106)) true x12 x13 (wrap64 (x14 + 1))) else (if ((T106 y521 (wrap64 ((y521.length : Int) - 1))).f2).length < 8796093022208 then (impl_Group_hunks.l0 k x1 (y521.set ((wrap64 ((y521.length : Int) - 1)) : Int).toNat (⟨(T106 y521 (wrap64 ((y521.length : Int) - 1))).f0, (T106 y521 (wrap64 ((y521.length : Int) - 1))).f1, (((T106 y521 (wrap64 ((y521.length : Int) - 1))).f2) ++ [(T140 x12 x14).f1])⟩ : S106)) true x12 x13 (wrap64 (x14 + 1))) else (none))) else (none)) else (none))) else (none)))) else (none)) else (none)) else (some x5)
def impl_Group_hunks.f (k : Nat) (a0_0 : Int) (a0_1 : Int) (l0_2 : List (S140)) (a1 : Int) : Option ((List (S106))) := impl_Group_hunks.l0 k a1 (([] : List (S106))) false l0_2 (l0_2.length : Int) 0
def impl_Group_hunks.T14 : Bool × List (List Nat × List Nat) := (true, [([], []), ([], []), ([1], [1]), ([2], [2]), ([3], [3]), ([], []), ([5], [5]), ([6], [6]), ([4, 7], [4, 7]), ([0, 0, 1, 2, 3, 4, 5, 6, 7, 8], [0]), ([9, 0, 1, 2, 3, 4, 5, 6, 7, 8], [9]), ([10, 8, 8, 0, 1, 2, 3, 4, 5, 6, 7, 8], [8, 10])])
def impl_Group_hunks.B14 : List Nat := [0, 0, 2, 6, 14, 0, 32, 96, 254, 511, 1023, 2047]
theorem impl_Group_hunks.tab14 : rtab .any (opsOf Try.f113 14) = impl_Group_hunks.T14 := by kernel_rfl
theorem impl_Group_hunks.bits14 : waitsOk impl_Group_hunks.T14.2 impl_Group_hunks.B14 = true := by kernel_rfl
set_option maxHeartbeats 8000000 in
set_option maxRecDepth 100000 in
theorem impl_Group_hunks.calls (k : Nat) (a0_0 : Int) (a0_1 : Int) (A0_2 : Option Addr) (c0_2 : Nat) (l0_2 : List (S140)) (a1 : Int) (r : List (S106)) (w : World) (hr0_2 : Kd.C k140 w A0_2 l0_2.length l0_2) (hc0_2 : l0_2.length ≤ c0_2) (h : impl_Group_hunks.f k a0_0 a0_1 l0_2 a1 = some r) :
  Calls Try.prog 113 #[.agg #[.int .i64 a0_0, .int .i64 a0_1, .slice A0_2 l0_2.length c0_2], .int .i64 a1] w fun e w' => ∃ v0_ : Value, e = .returned (v0_) ∧ Kd.S k106 106 w' w.heap.size (fun _ => True) v0_ r ∧ Below w.heap.size w w' := by
 have hu73 := Try.underlying73
 have hu140 := Try.underlying140
 have hu106 := Try.underlying106
 have HR0_2 := am hr0_2
 have HC0_2 := am hc0_2
 clear hr0_2 hc0_2
 have HB := am (Below.refl w.heap.size w)
 have H := h
 clear h
 unfold impl_Group_hunks.f at H
 obtain ⟨y508, hy508⟩ : ∃ y_ : List (S106), y_ = (([] : List (S106))) := ⟨_, rfl⟩
 rw [← hy508] at H
 have Ny508 := am hy508
 clear hy508
 have H' := am H
 clear H
 go_enter Try.func113, Try.ntmps113
 go_wp2_with (first | ((with_reducible refine gate_dst (N := 2) rfl ?_); refine box_event ?hg (N := 2) ?hd (cs := #[.int .i64 a0_0, .int .i64 a0_1, .slice A0_2 l0_2.length c0_2]) (t := 73) ?hr ?_; (case hd => rfl); (case hg => rfl); (case hr => (go_simp; done)); intro gb507 hg w3 hbox hb; have BK507 := am (hbox); have GW507 := am ((by rw [hg]; exact (below_size zb) : w.heap.size ≤ gb507)); have GE507 := am ((by rw [hg]; exact (below_size zb) : w.heap.size ≤ gb507)); replace HB := am (below_step zb hb); clear hb hbox hg) | ((with_reducible refine gate_dst (N := 10) rfl ?_); refine Kd.S_lit k106 _ 106 ?hg (N := 10) ?hd (xs := ([] : List (S106))) (inner := []) (ok := fun _ => True) (okp := fun _ => True) ?hr ?hp (fun _ hk => hk) trivial (Below.refl _ _) (Nat.le_refl _) (by simp) ?_; (case hd => rfl); (case hg => rfl); (case hr => (go_simp; done)); (case hp => exact (Reps.none _ _)); intro v509 w4 ho5 hb hg_ hnew_; clear hg_ hnew_; (rw [← Ny508.out] at ho5); have HO510 := am (Kd.S_lower ho5 (below_size (by repeat ((with_reducible exact HB.out))))); replace BK507 := am (blk_below (g := gb507) (o := .cells #[.int .i64 a0_0, .int .i64 a0_1, .slice A0_2 l0_2.length c0_2] 73 (0, 0)) (zk BK507.out) hb); replace HB := am (below_step (by repeat ((with_reducible exact HB.out))) hb); clear hb ho5; obtain ⟨hcz6_0, hcz6_1, hcz6_2⟩ := cz3 BK507.out; obtain ⟨hfz6_0, hfz6_1, hfz6_2⟩ := fz3 BK507.out))
 go_loopg [1, 5, 6, 14] k (fun kq v1 v5 v6 v14 w' => ∃ (x1_1 : Int) (x5_1 : List (S106)) (x6_1 : Bool) (x14_1 : Int), v1 = .int .i64 x1_1 ∧ v6 = .bool x6_1 ∧ v14 = .int .i64 x14_1 ∧ Aside0 (impl_Group_hunks.l0 kq x1_1 x5_1 x6_1 l0_2 (l0_2.length : Int) x14_1 = some r) ∧ Aside0 (kq ≤ k) ∧ Aside0 (Kd.S k106 106 w' w.heap.size (fun _ => True) v5 x5_1) ∧ Aside0 (w'.heap[gb507]? = some (.cells #[.int .i64 a0_0, .int .i64 a0_1, (.slice A0_2 l0_2.length c0_2)] 73 (0, 0))) ∧ Aside0 (Below w.heap.size w w'))
 case atStart => exact ⟨(a1), (y508), (false), (0), zf, zf, zf, H', ⟨Nat.le_refl _⟩, ⟨by exact HO510.out⟩, ⟨by exact BK507.out⟩, ⟨by repeat ((with_reducible exact HB.out))⟩⟩
 case round =>
  clear H'
  try clear hcz6_0
  try clear hcz6_1
  try clear hcz6_2
  try clear hfz6_0
  try clear hfz6_1
  try clear hfz6_2
  obtain ⟨x1_1, x5_1, x6_1, x14_1, rfl, rfl, rfl, HA, HK1, HO_5, BK507, HB⟩ := hrel
  cases gk with
  | zero => exact absurd HA.out (by simp [impl_Group_hunks.l0])
  | succ k1 =>
   have H := HA.out
   clear HA
   simp only [impl_Group_hunks.l0] at H
   by_cases c7 : x14_1 < (l0_2.length : Int)
   ·rw [if_pos c7] at H
    have c7b0 : decide (x14_1 < (l0_2.length : Int)) = true := decide_eq_true c7
    clear c7
    obtain ⟨c8, H⟩ := itn H
    have c8b0 := decide_eq_true c8
    clear c8
    obtain ⟨c9, H⟩ := itn H
    have c9b0 := decide_eq_true c9
    clear c9
    by_cases c10 : ((T140 l0_2 x14_1).f0) = 1
    ·rw [if_pos c10] at H
     have c10b0 : (((T140 l0_2 x14_1).f0) == 1) = true := beq_iff_eq.mpr c10
     have c10b1 : (((T140 l0_2 x14_1).f0) != 1) = false := bne_eq_false_iff_eq.mpr c10
     clear c10
     have H' := am H
     clear H
     have p511 : 0 ≤ (x14_1 : Int) := oa
     have q511 : x14_1 < (l0_2.length : Int) := oa
     obtain ⟨ad511, e511, hx511_0, hx511_1⟩ := at_T140 HR0_2.out x14_1 p511 q511
     cases e511
     replace hx511_0 := bc HB.out hx511_0
     replace hx511_1 := bc HB.out hx511_1
     replace p511 := eq_true p511
     replace q511 := eq_true q511
     go_wp2_with (((with_reducible refine gate_dst (N := 8) rfl ?_); refine box_event ?hg (N := 8) ?hd (cs := #[.int .i64 0, .string (⟨#[]⟩ : ByteArray)]) (t := 140) ?hr ?_; (case hd => rfl); (case hg => rfl); (case hr => (go_simp; done)); intro gb512 hg w11 hbox hb; replace HO_5 := am (Kd.S_below (zs HO_5.out) hb); have BK512 := am (hbox); have GW512 := am ((by rw [hg]; exact (below_size (by repeat ((with_reducible exact HB.out)))) : w.heap.size ≤ gb512)); have GE512 := am ((by rw [hg]; exact (below_size (by repeat ((with_reducible exact HB.out)))) : w.heap.size ≤ gb512)); replace HB := am (below_step (by repeat ((with_reducible exact HB.out))) hb); have NB507_512 := am ((by rw [hg]; exact Nat.ne_of_lt (blk_lt (g := gb507) (o := .cells #[.int .i64 a0_0, .int .i64 a0_1, .slice (some ad511) l0_2.length c0_2] 73 (0, 0)) (zk BK507.out)) : gb507 ≠ gb512)); have NB512_507 := am ((by rw [hg]; exact Nat.ne_of_gt (blk_lt (g := gb507) (o := .cells #[.int .i64 a0_0, .int .i64 a0_1, .slice (some ad511) l0_2.length c0_2] 73 (0, 0)) (zk BK507.out)) : gb512 ≠ gb507)); replace BK507 := am (blk_below (g := gb507) (o := .cells #[.int .i64 a0_0, .int .i64 a0_1, .slice (some ad511) l0_2.length c0_2] 73 (0, 0)) (zk BK507.out) hb); clear hb hbox hg; have hnb12 := NB512_507.out; have hnc12 := NB507_512.out; obtain ⟨hcz13_0, hcz13_1⟩ := cz2 BK512.out; obtain ⟨hfz13_0, hfz13_1⟩ := fz2 BK512.out))
     go_roundg k1
     case measure => have := HK1.out; omega
     case rel => exact ⟨(wrap64 (x1_1 + 1)), (x5_1), (false), (wrap64 (x14_1 + 1)), zf, zf, zf, H', ⟨by have := HK1.out; omega⟩, ⟨by exact Kd.S_mono (Kd.S_far (p := ⟨gb512, 1, none⟩) (Kd.S_far (p := ⟨gb512, 0, none⟩) (Kd.S_types HO_5.out BK512.out (by decide)) (fun _ hk => hk.2) (.int .i64 ((T140 l0_2 x14_1).f0))) (fun _ hk => hk.2) (.string ((T140 l0_2 x14_1).f1))) (fun _ hk => trivial)⟩, ⟨by refine blk_far ?_ NB507_512.out _; refine blk_far ?_ NB507_512.out _; exact BK507.out⟩, ⟨by repeat ((with_reducible first | exact HB.out | refine below_set ?_ GE512.out))⟩⟩
    ·rw [if_neg c10] at H
     have c10b0 : (((T140 l0_2 x14_1).f0) == 1) = false := beq_eq_false_iff_ne.mpr c10
     have c10b1 : (((T140 l0_2 x14_1).f0) != 1) = true := bne_iff_ne.mpr c10
     by_cases c14 : x6_1 = true
     ·subst c14
      rw [if_pos rfl] at H
      obtain ⟨ji15, hji15⟩ : ∃ j_ : Int, (wrap64 ((x5_1.length : Int) - 1)) = j_ := ⟨_, rfl⟩
      rw [hji15] at H
      have hji15w : (IntKind.i64.wrap ((x5_1.length : Int) - 1)) = ji15 := (i64_w _).trans hji15
      obtain ⟨c16, H⟩ := itn H
      have c16b0 := decide_eq_true c16
      clear c16
      obtain ⟨c17, H⟩ := itn H
      have c17b0 := decide_eq_true c17
      clear c17
      by_cases c18 : ((T140 l0_2 x14_1).f0) = 2
      ·rw [if_pos c18] at H
       have c18b0 : (((T140 l0_2 x14_1).f0) == 2) = true := beq_iff_eq.mpr c18
       have c18b1 : (((T140 l0_2 x14_1).f0) != 2) = false := bne_eq_false_iff_eq.mpr c18
       clear c18
       obtain ⟨y515, hy515⟩ : ∃ y_ : List (S106), y_ = (x5_1.set ((ji15) : Int).toNat (⟨(T106 x5_1 (ji15)).f0, wrap64 (((T106 x5_1 (ji15)).f1) + 1), (T106 x5_1 (ji15)).f2⟩ : S106)) := ⟨_, rfl⟩
       rw [← hy515] at H
       have Ny515 := am hy515
       clear hy515
       have H' := am H
       clear H
       have p511 : 0 ≤ (x14_1 : Int) := oa
       have q511 : x14_1 < (l0_2.length : Int) := oa
       obtain ⟨ad511, e511, hx511_0, hx511_1⟩ := at_T140 HR0_2.out x14_1 p511 q511
       cases e511
       replace hx511_0 := bc HB.out hx511_0
       replace hx511_1 := bc HB.out hx511_1
       replace p511 := eq_true p511
       replace q511 := eq_true q511
       go_wp2_with (first | ((with_reducible refine gate_dst (N := 8) rfl ?_); refine box_event ?hg (N := 8) ?hd (cs := #[.int .i64 0, .string (⟨#[]⟩ : ByteArray)]) (t := 140) ?hr ?_; (case hd => rfl); (case hg => rfl); (case hr => (go_simp; done)); intro gb512 hg w20 hbox hb; replace HO_5 := am (Kd.S_below (zs HO_5.out) hb); have BK512 := am (hbox); have GW512 := am ((by rw [hg]; exact (below_size (by repeat ((with_reducible exact HB.out)))) : w.heap.size ≤ gb512)); have GE512 := am ((by rw [hg]; exact (below_size (by repeat ((with_reducible exact HB.out)))) : w.heap.size ≤ gb512)); replace HB := am (below_step (by repeat ((with_reducible exact HB.out))) hb); have NB507_512 := am ((by rw [hg]; exact Nat.ne_of_lt (blk_lt (g := gb507) (o := .cells #[.int .i64 a0_0, .int .i64 a0_1, .slice (some ad511) l0_2.length c0_2] 73 (0, 0)) (zk BK507.out)) : gb507 ≠ gb512)); have NB512_507 := am ((by rw [hg]; exact Nat.ne_of_gt (blk_lt (g := gb507) (o := .cells #[.int .i64 a0_0, .int .i64 a0_1, .slice (some ad511) l0_2.length c0_2] 73 (0, 0)) (zk BK507.out)) : gb512 ≠ gb507)); replace BK507 := am (blk_below (g := gb507) (o := .cells #[.int .i64 a0_0, .int .i64 a0_1, .slice (some ad511) l0_2.length c0_2] 73 (0, 0)) (zk BK507.out) hb); clear hb hbox hg; have hnb21 := NB512_507.out; have hnc21 := NB507_512.out; obtain ⟨hcz22_0, hcz22_1⟩ := cz2 BK512.out; obtain ⟨hfz22_0, hfz22_1⟩ := fz2 BK512.out) | ((with_reducible refine gate_store (t := 140) (p := 8) rfl ?_); refine store_event (t := 140) (p := 8) (v := ?vo_w23) (w1 := ((w20.setCell ⟨gb512, 0, none⟩ (.int .i64 ((T140 l0_2 x14_1).f0))).setCell ⟨gb512, 1, none⟩ (.string ((T140 l0_2 x14_1).f1)))) ?hg ?ho ?hn ?hr ?_; (case ho => rfl); (case hg => rfl); (case hn => rfl); (case hr => (go_simp; done)); intro w23 hw; have n0_ : Aside0 (Kd.S k106 106 w23 w.heap.size (fun _ => True) u5 x5_1) := ⟨(by rw [hw]; exact (by exact Kd.S_mono (Kd.S_far (p := ⟨gb512, 1, none⟩) (Kd.S_far (p := ⟨gb512, 0, none⟩) (Kd.S_types HO_5.out BK512.out (by decide)) (fun _ hk => hk.2) (.int .i64 ((T140 l0_2 x14_1).f0))) (fun _ hk => hk.2) (.string ((T140 l0_2 x14_1).f1))) (fun _ hk => trivial)))⟩; have n1_ : Aside0 (w23.heap[gb507]? = some (.cells #[.int .i64 a0_0, .int .i64 a0_1, .slice (some ad511) l0_2.length c0_2] 73 (0, 0))) := ⟨(by rw [hw]; exact (by refine blk_far ?_ NB507_512.out _; refine blk_far ?_ NB507_512.out _; exact BK507.out))⟩; have n2_ : Aside0 (w23.heap[gb512]? = some (.cells #[.int .i64 ((T140 l0_2 x14_1).f0), .string ((T140 l0_2 x14_1).f1)] 140 (0, 0))) := ⟨(by rw [hw]; exact (by refine blk_put (cs := #[.int .i64 ((T140 l0_2 x14_1).f0), .string (⟨#[]⟩ : ByteArray)]) ?_ 1 _ rfl; refine blk_put (cs := #[.int .i64 0, .string (⟨#[]⟩ : ByteArray)]) ?_ 0 _ rfl; exact BK512.out))⟩; have n3_ : Aside0 (Below w.heap.size w w23) := ⟨(by rw [hw]; exact (by repeat ((with_reducible first | exact HB.out | refine below_set ?_ GE512.out))))⟩; clear hw; clear HO_5; clear BK507; clear BK512; clear HB; have HO_5 := n0_; have BK507 := n1_; have BK512 := n2_; have HB := n3_; clear n0_ n1_ n2_ n3_; obtain ⟨hcz24_0, hcz24_1⟩ := cz2 BK512.out; obtain ⟨hfz24_0, hfz24_1⟩ := fz2 BK512.out; obtain ⟨Ao25, co25, eo25⟩ := Kd.S_slice HO_5.out; subst eo25; have p513 : 0 ≤ ((ji15) : Int) := oa; have q513 : (ji15) < (x5_1.length : Int) := oa; obtain ⟨ad513, A513_2, c513_2, e513, hx513_0, hx513_1, hx513_2, hl513_2, hi513_2⟩ := at_T106 (Kd.S_reads' HO_5.out).2.2 (ji15) p513 q513; cases e513; obtain ⟨ce513, hce513, hMe513, hcc513⟩ := Kd.S_get HO_5.out z106 (ji15) p513 (by exact q513); obtain ⟨ve513_2, rfl, ge513_2⟩ := k106_openM hMe513; have hv513_2 := hcc513 2 _ rfl; rw [add_field _ _ 2 (by omega)] at hv513_2; replace hv513_2 := Option.some.inj (hv513_2.symm.trans hx513_2); rw [hv513_2] at ge513_2; have HL513_2 := am (show Kd.R Kd.string 9 _ _ _ _ ((T106 x5_1 (ji15)).f2) from ge513_2); clear hv513_2 ge513_2; have HX513_2 := am hx513_2; clear hcc513 hce513; have HR513_2 := am hi513_2; have HC513_2 := am hl513_2; clear hi513_2 hl513_2; replace p513 := eq_true p513; replace q513 := eq_true q513; have p514 : 0 ≤ ((ji15) : Int) := oa; have q514 : (ji15) < (x5_1.length : Int) := oa; obtain ⟨ad514, A514_2, c514_2, e514, hx514_0, hx514_1, hx514_2, hl514_2, hi514_2⟩ := at_T106 (Kd.S_reads' HO_5.out).2.2 (ji15) p514 q514; obtain rfl : ad513 = ad514 := (by injection e514); obtain ⟨ce514, hce514, hMe514, hcc514⟩ := Kd.S_get HO_5.out z106 (ji15) p514 (by exact q514); obtain ⟨ve514_2, rfl, ge514_2⟩ := k106_openM hMe514; have hv514_2 := hcc514 2 _ rfl; rw [add_field _ _ 2 (by omega)] at hv514_2; replace hv514_2 := Option.some.inj (hv514_2.symm.trans hx514_2); rw [hv514_2] at ge514_2; have HL514_2 := am (show Kd.R Kd.string 9 _ _ _ _ ((T106 x5_1 (ji15)).f2) from ge514_2); clear hv514_2 ge514_2; have HX514_2 := am hx514_2; clear hcc514 hce514; have HR514_2 := am hi514_2; have HC514_2 := am hl514_2; clear hi514_2 hl514_2; replace p514 := eq_true p514; replace q514 := eq_true q514; have ea_ := Option.some.inj (hx513_2.symm.trans hx514_2); injection ea_ with ea_ en_ ec_; subst ea_; subst ec_; clear en_; have p19 : 0 ≤ ((ji15) : Int) := oa; have q19 : ((ji15) : Int) < ((x5_1.length : Int) : Int) := oa; obtain ⟨go19, co19, eo19, gb19, gl19, cl19, HG19⟩ := Kd.S_form HO_5.out (by omega); (cases eo19); have GB19 := am gb19; have GG19 := am HG19; clear gb19 gl19 HG19; (simp only [add_plain] at hx513_0); (simp only [add_plain] at hx513_1); (simp only [add_plain] at hx513_2); (simp only [add_plain] at hx514_0); (simp only [add_plain] at hx514_1); (simp only [add_plain] at hx514_2); obtain ⟨_, ce19, hcl19, hM19, hcc19, hfr19, _, _⟩ := Kd.S_elem HO_5.out z106 ((ji15) : Int) p19 q19; obtain ⟨ve19_2, rfl, ge19_2⟩ := k106_openM hM19; have hx19_0 : w23.cell? ⟨go19, ((ji15) : Int).toNat * 3, none⟩ = some (.int .i64 ((T106 x5_1 (ji15)).f0)) := hcc19 0 _ rfl; have hx19_1 : w23.cell? ⟨go19, ((ji15) : Int).toNat * 3 + 1, none⟩ = some (.int .i64 ((T106 x5_1 (ji15)).f1)) := hcc19 1 _ rfl; have hx19_2 : w23.cell? ⟨go19, ((ji15) : Int).toNat * 3 + 2, none⟩ = some (ve19_2) := hcc19 2 _ rfl; have hf19_0 : w23.frozen? ⟨go19, ((ji15) : Int).toNat * 3, none⟩ = false := hfr19 0; have hf19_1 : w23.frozen? ⟨go19, ((ji15) : Int).toNat * 3 + 1, none⟩ = false := hfr19 1; have hf19_2 : w23.frozen? ⟨go19, ((ji15) : Int).toNat * 3 + 2, none⟩ = false := hfr19 2; clear hcl19 hcc19 hfr19; (try clear hM19); replace p19 := eq_true p19; replace q19 := eq_true q19; have HX26 := am (show Kd.S k106 106 w23 w.heap.size (fun k_ => ((fun _ => True)) k_ ∧ ¬ ((fun _ => False)) k_) (.slice (some ⟨go19, 0, none⟩) x5_1.length co25) x5_1 from (by exact Kd.S_mono HO_5.out (fun k_ hk => ⟨trivial, fun e_ => e_⟩))); obtain ⟨oki26, ce26, hcl26, hM26, hcc26, hfr26, hoki26, hH26⟩ := Kd.S_elem HX26.out z106 ((ji15) : Int) oa (by have h_ : ((ji15) : Int) < ((x5_1.length : Int) : Int) := oa; exact h_); obtain ⟨ve26_2, rfl, ge26_2⟩ := k106_openM hM26; have HP26 := Kd.S_seg hH26 oa (by have h_ : ((ji15) : Int) < ((x5_1.length : Int) : Int) := oa; exact h_) (seg := [.int .i64 (wrap64 (((T106 x5_1 (ji15)).f1) + 1))]) (j := 1) (show 2 ≤ 3 from by decide) (x' := (⟨(T106 x5_1 (ji15)).f0, wrap64 (((T106 x5_1 (ji15)).f1) + 1), (T106 x5_1 (ji15)).f2⟩ : S106)) (k106_mkM _ _ _ (⟨(T106 x5_1 (ji15)).f0, wrap64 (((T106 x5_1 (ji15)).f1) + 1), (T106 x5_1 (ji15)).f2⟩ : S106) (Kd.R_mono ge26_2 (fun _ h_ => Or.inl h_))) (fun _ hk => hk) (fun k_ hk_ => hk_.elim); have hx26_1 := hcc26 1 _ rfl; (try simp only [show (k106).sz = 3 from rfl, Nat.mul_one, Nat.add_zero] at hx26_1); have hf26_1 := hfr26 1; (try simp only [show (k106).sz = 3 from rfl, Nat.mul_one, Nat.add_zero] at hf26_1); clear hcl26 hcc26 hfr26 hoki26 hH26; (try clear hM26)) | ((with_reducible refine gate_store (t := 3) (p := 44) rfl ?_); refine store_event (t := 3) (p := 44) (v := ?vo_w27) (w1 := (w23.setCell ⟨go19, ((ji15) : Int).toNat * 3 + 1, none⟩ (.int .i64 (wrap64 (((T106 x5_1 (ji15)).f1) + 1))))) ?hg ?ho ?hn ?hr ?_; (case ho => rfl); (case hg => rfl); (case hn => rfl); (case hr => (go_simp; done)); intro w27 hw; have hg : w23.grownBy w27 (some go19) := (by rw [hw]; exact HP26.2); have hp_ : Kd.S k106 106 w27 w.heap.size (fun _ => True) (.slice (some ⟨go19, 0, none⟩) x5_1.length co25) y515 := (by rw [hw, Ny515.out]; exact HP26.1); clear HP26; replace BK507 := am (blk_grown (g := gb507) (o := .cells #[.int .i64 a0_0, .int .i64 a0_1, .slice (some ad511) l0_2.length c0_2] 73 (0, 0)) (zk BK507.out) hg (Kd.S_ne HO_5.out BK507.out (by decide))); replace BK512 := am (blk_grown (g := gb512) (o := .cells #[.int .i64 ((T140 l0_2 x14_1).f0), .string ((T140 l0_2 x14_1).f1)] 140 (0, 0)) (zk BK512.out) hg (Kd.S_ne HO_5.out BK512.out (by decide))); replace HO_5 := am (hp_); replace HL513_2 := am (Kd.R_after (v := (.slice (some ⟨go19, 0, none⟩) x5_1.length co25)) (v1 := (.slice (some ⟨go19, 0, none⟩) x5_1.length co25)) (ok := (fun _ => True)) (zr HL513_2.out) hg (.inl rfl)); replace HL514_2 := am (Kd.R_after (v := (.slice (some ⟨go19, 0, none⟩) x5_1.length co25)) (v1 := (.slice (some ⟨go19, 0, none⟩) x5_1.length co25)) (ok := (fun _ => True)) (zr HL514_2.out) hg (.inl rfl)); replace HB := am ((by rw [hw]; exact below_set (HB.out) GB19.out : Below w.heap.size w w27)); clear hg hw hp_))
       go_roundg k1
       case measure => have := HK1.out; omega
       case rel => exact ⟨(wrap64 (x1_1 + 1)), (y515), (true), (wrap64 (x14_1 + 1)), zf, zf, zf, H', ⟨by have := HK1.out; omega⟩, ⟨by exact HO_5.out⟩, ⟨by exact BK507.out⟩, ⟨by repeat ((with_reducible exact HB.out))⟩⟩
      ·rw [if_neg c18] at H
       have c18b0 : (((T140 l0_2 x14_1).f0) == 2) = false := beq_eq_false_iff_ne.mpr c18
       have c18b1 : (((T140 l0_2 x14_1).f0) != 2) = true := bne_iff_ne.mpr c18
       obtain ⟨c28, H⟩ := itn H
       have LMc28 := am c28
       clear c28
       obtain ⟨y517, hy517⟩ : ∃ y_ : List ByteArray, y_ = (((T106 x5_1 (ji15)).f2) ++ [(T140 l0_2 x14_1).f1]) := ⟨_, rfl⟩
       rw [← hy517] at H
       have Ny517 := am hy517
       clear hy517
       obtain ⟨y520, hy520⟩ : ∃ y_ : List (S106), y_ = (x5_1.set ((ji15) : Int).toNat (⟨(T106 x5_1 (ji15)).f0, (T106 x5_1 (ji15)).f1, y517⟩ : S106)) := ⟨_, rfl⟩
       rw [← hy520] at H
       have Ny520 := am hy520
       clear hy520
       have H' := am H
       clear H
       have p511 : 0 ≤ (x14_1 : Int) := oa
       have q511 : x14_1 < (l0_2.length : Int) := oa
       obtain ⟨ad511, e511, hx511_0, hx511_1⟩ := at_T140 HR0_2.out x14_1 p511 q511
       cases e511
       replace hx511_0 := bc HB.out hx511_0
       replace hx511_1 := bc HB.out hx511_1
       replace p511 := eq_true p511
       replace q511 := eq_true q511
       try go_wp2_with (first | ((with_reducible refine gate_dst (N := 8) rfl ?_); refine box_event ?hg (N := 8) ?hd (cs := #[.int .i64 0, .string (⟨#[]⟩ : ByteArray)]) (t := 140) ?hr ?_; (case hd => rfl); (case hg => rfl); (case hr => (go_simp; done)); intro gb512 hg w30 hbox hb; replace HO_5 := am (Kd.S_below (zs HO_5.out) hb); have BK512 := am (hbox); have GW512 := am ((by rw [hg]; exact (below_size (by repeat ((with_reducible exact HB.out)))) : w.heap.size ≤ gb512)); have GE512 := am ((by rw [hg]; exact (below_size (by repeat ((with_reducible exact HB.out)))) : w.heap.size ≤ gb512)); replace HB := am (below_step (by repeat ((with_reducible exact HB.out))) hb); have NB507_512 := am ((by rw [hg]; exact Nat.ne_of_lt (blk_lt (g := gb507) (o := .cells #[.int .i64 a0_0, .int .i64 a0_1, .slice (some ad511) l0_2.length c0_2] 73 (0, 0)) (zk BK507.out)) : gb507 ≠ gb512)); have NB512_507 := am ((by rw [hg]; exact Nat.ne_of_gt (blk_lt (g := gb507) (o := .cells #[.int .i64 a0_0, .int .i64 a0_1, .slice (some ad511) l0_2.length c0_2] 73 (0, 0)) (zk BK507.out)) : gb512 ≠ gb507)); replace BK507 := am (blk_below (g := gb507) (o := .cells #[.int .i64 a0_0, .int .i64 a0_1, .slice (some ad511) l0_2.length c0_2] 73 (0, 0)) (zk BK507.out) hb); clear hb hbox hg; have hnb31 := NB512_507.out; have hnc31 := NB507_512.out; obtain ⟨hcz32_0, hcz32_1⟩ := cz2 BK512.out; obtain ⟨hfz32_0, hfz32_1⟩ := fz2 BK512.out) | ((with_reducible refine gate_store (t := 140) (p := 8) rfl ?_); refine store_event (t := 140) (p := 8) (v := ?vo_w33) (w1 := ((w30.setCell ⟨gb512, 0, none⟩ (.int .i64 ((T140 l0_2 x14_1).f0))).setCell ⟨gb512, 1, none⟩ (.string ((T140 l0_2 x14_1).f1)))) ?hg ?ho ?hn ?hr ?_; (case ho => rfl); (case hg => rfl); (case hn => rfl); (case hr => (go_simp; done)); intro w33 hw; have n0_ : Aside0 (Kd.S k106 106 w33 w.heap.size (fun _ => True) u5 x5_1) := ⟨(by rw [hw]; exact (by exact Kd.S_mono (Kd.S_far (p := ⟨gb512, 1, none⟩) (Kd.S_far (p := ⟨gb512, 0, none⟩) (Kd.S_types HO_5.out BK512.out (by decide)) (fun _ hk => hk.2) (.int .i64 ((T140 l0_2 x14_1).f0))) (fun _ hk => hk.2) (.string ((T140 l0_2 x14_1).f1))) (fun _ hk => trivial)))⟩; have n1_ : Aside0 (w33.heap[gb507]? = some (.cells #[.int .i64 a0_0, .int .i64 a0_1, .slice (some ad511) l0_2.length c0_2] 73 (0, 0))) := ⟨(by rw [hw]; exact (by refine blk_far ?_ NB507_512.out _; refine blk_far ?_ NB507_512.out _; exact BK507.out))⟩; have n2_ : Aside0 (w33.heap[gb512]? = some (.cells #[.int .i64 ((T140 l0_2 x14_1).f0), .string ((T140 l0_2 x14_1).f1)] 140 (0, 0))) := ⟨(by rw [hw]; exact (by refine blk_put (cs := #[.int .i64 ((T140 l0_2 x14_1).f0), .string (⟨#[]⟩ : ByteArray)]) ?_ 1 _ rfl; refine blk_put (cs := #[.int .i64 0, .string (⟨#[]⟩ : ByteArray)]) ?_ 0 _ rfl; exact BK512.out))⟩; have n3_ : Aside0 (Below w.heap.size w w33) := ⟨(by rw [hw]; exact (by repeat ((with_reducible first | exact HB.out | refine below_set ?_ GE512.out))))⟩; clear hw; clear HO_5; clear BK507; clear BK512; clear HB; have HO_5 := n0_; have BK507 := n1_; have BK512 := n2_; have HB := n3_; clear n0_ n1_ n2_ n3_; obtain ⟨hcz34_0, hcz34_1⟩ := cz2 BK512.out; obtain ⟨hfz34_0, hfz34_1⟩ := fz2 BK512.out; obtain ⟨Ao35, co35, eo35⟩ := Kd.S_slice HO_5.out; subst eo35; have p513 : 0 ≤ ((ji15) : Int) := oa; have q513 : (ji15) < (x5_1.length : Int) := oa; obtain ⟨ad513, A513_2, c513_2, e513, hx513_0, hx513_1, hx513_2, hl513_2, hi513_2⟩ := at_T106 (Kd.S_reads' HO_5.out).2.2 (ji15) p513 q513; cases e513; obtain ⟨ce513, hce513, hMe513, hcc513⟩ := Kd.S_get HO_5.out z106 (ji15) p513 (by exact q513); obtain ⟨ve513_2, rfl, ge513_2⟩ := k106_openM hMe513; have hv513_2 := hcc513 2 _ rfl; rw [add_field _ _ 2 (by omega)] at hv513_2; replace hv513_2 := Option.some.inj (hv513_2.symm.trans hx513_2); rw [hv513_2] at ge513_2; have HL513_2 := am (show Kd.R Kd.string 9 _ _ _ _ ((T106 x5_1 (ji15)).f2) from ge513_2); clear hv513_2 ge513_2; have HX513_2 := am hx513_2; clear hcc513 hce513; have HR513_2 := am hi513_2; have HC513_2 := am hl513_2; clear hi513_2 hl513_2; replace p513 := eq_true p513; replace q513 := eq_true q513))
       replace HO_5 := am (Kd.S_drew HO_5.out)
       replace HL513_2 := am (Kd.R_drew HL513_2.out)
       replace BK507 := am (blk_drew BK507.out)
       replace BK512 := am (blk_drew BK512.out)
       replace HR513_2 := am (Kd.C_drew HR513_2.out)
       replace HB := am (below_drew1 HB.out)
       have p516 : 0 ≤ ((ji15) : Int) := oa
       have q516 : (ji15) < (x5_1.length : Int) := oa
       obtain ⟨ad516, A516_2, c516_2, e516, hx516_0, hx516_1, hx516_2, hl516_2, hi516_2⟩ := at_T106 (Kd.S_reads' HO_5.out).2.2 (ji15) p516 q516
       obtain rfl : ad513 = ad516 := (by injection e516)
       obtain ⟨ce516, hce516, hMe516, hcc516⟩ := Kd.S_get HO_5.out z106 (ji15) p516 (by exact q516)
       obtain ⟨ve516_2, rfl, ge516_2⟩ := k106_openM hMe516
       have hv516_2 := hcc516 2 _ rfl
       rw [add_field _ _ 2 (by omega)] at hv516_2
       replace hv516_2 := Option.some.inj (hv516_2.symm.trans hx516_2)
       rw [hv516_2] at ge516_2
       have HL516_2 := am (show Kd.R Kd.string 9 _ _ _ _ ((T106 x5_1 (ji15)).f2) from ge516_2)
       clear hv516_2 ge516_2
       have HX516_2 := am hx516_2
       clear hcc516 hce516
       have HR516_2 := am hi516_2
       have HC516_2 := am hl516_2
       clear hi516_2 hl516_2
       replace p516 := eq_true p516
       replace q516 := eq_true q516
       obtain ⟨go37, co37, eo37, gb37, gl37, cl37, HG37⟩ := Kd.S_form HO_5.out (by have h_ : ((ji15) : Int) < ((x5_1.length : Int) : Int) := oa; have h2_ : 0 ≤ ((ji15) : Int) := oa; omega)
       (cases eo37)
       have GB37 := am gb37
       have GG37 := am HG37
       clear gb37 gl37 HG37
       (simp only [add_plain] at hx513_0)
       (simp only [add_plain] at hx513_1)
       (simp only [add_plain] at hx513_2)
       (simp only [add_plain] at hx516_0)
       (simp only [add_plain] at hx516_1)
       (simp only [add_plain] at hx516_2)
       obtain ⟨oki37, ce37, hcl37, hM37, hcc37, _, _, hH37⟩ := Kd.S_elem HO_5.out z106 ((ji15) : Int) oa (by have h_ : ((ji15) : Int) < ((x5_1.length : Int) : Int) := oa; exact h_)
       obtain ⟨ve37_2, rfl, ge37_2⟩ := k106_openM hM37
       have hv37 := hcc37 2 _ rfl
       have hX37 := HX516_2.out
       (try simp only [add_plain] at hX37)
       replace hv37 := Option.some.inj (hv37.symm.trans hX37)
       subst hv37
       clear hX37 hcc37 hcl37
       have UU37 := am (show Kd.R Kd.string 9 _ w.heap.size oki37 (.slice A516_2 ((T106 x5_1 (ji15)).f2).length c516_2) ((T106 x5_1 (ji15)).f2) from ge37_2)
       have HH37 := am hH37
       have HN37 := am (Kd.S_reads' HO_5.out).1
       clear hH37 ge37_2
       refine start_ (n := 12) (S := fun w' => w'.cell? ⟨gb512, 0, none⟩ = some (.int .i64 ((T140 l0_2 x14_1).f0)) ∧ w'.cell? ⟨gb512, 1, none⟩ = some (.string ((T140 l0_2 x14_1).f1)) ∧ w'.cell? ⟨go37, (ji15).toNat * 3, none⟩ = some (.int .i64 ((T106 x5_1 (ji15)).f0)) ∧ w'.cell? ⟨go37, (ji15).toNat * 3 + 1, none⟩ = some (.int .i64 ((T106 x5_1 (ji15)).f1)) ∧ w'.cell? ⟨go37, (ji15).toNat * 3 + 2, none⟩ = some (.slice A516_2 ((T106 x5_1 (ji15)).f2).length c516_2)) (ds := [11]) #[O,O,O,O,O,O,O,O,O,O,O,O] (by kernel_rfl) rfl rfl ⟨(blk_cell BK512.out 0).trans rfl, (blk_cell BK512.out 1).trans rfl, hx516_0, hx516_1, hx516_2⟩ (fun hHeld => ?_); refine with_tabW impl_Group_hunks.tab14 impl_Group_hunks.bits14 (fun HT_ HW_ => ?_)
       generalize w33.drew = w36 at HO_5 HL513_2 BK507 BK512 HR513_2 HB GG37 HH37 HL516_2 HR516_2 HX516_2 UU37 hx513_0 hx513_1 hx513_2 hx516_0 hx516_1 hx516_2 hHeld ⊢
       refine pu 0 (some 47) ?_
       refine pu 1 (some 48) ?_
       refine pu 2 (some 49) ?_
       refine pu 3 (some 50) ?_
       refine pu 5 (some 52) ?_
       refine ta 4 (some 51) ?_
       refine ta 6 (some 53) ?_
       refine one_ (i := 7) (N := some 54) #[Y,Y,Y,Y,Y,Y,Y,Y,O,O,O,O] rfl rfl (one_of HT_.out (by kernel_rfl)) (by decide) (fun K hK => ?_)
       refine value_ (w1 := ?_) (v := ?_) (by rfl) rfl ?_ ?_
       rotate_left 2
       ·go_simp
        constructor
        ·rfl
        ·rfl
       refine hK.out _ _ ⟨(blk_cell (blk_alloc BK512.out _) 0).trans rfl, (blk_cell (blk_alloc BK512.out _) 1).trans rfl, (World.cell?_alloc_lt _ _ _ (World.block_lt_of_cell? _ _ (hHeld.2.2.1))).trans (hHeld.2.2.1), (World.cell?_alloc_lt _ _ _ (World.block_lt_of_cell? _ _ (hHeld.2.2.2.1))).trans (hHeld.2.2.2.1), (World.cell?_alloc_lt _ _ _ (World.block_lt_of_cell? _ _ (hHeld.2.2.2.2))).trans (hHeld.2.2.2.2)⟩ (fun hHeld => ?_)
       clear hK K
       refine norm_ (a' := ?_) ?_ ?_
       rotate_left
       ·show Act.put _ (some 54) _ = _
        simp only [Act.put,qa,qb,qc,i64_w,i32_w]
        rfl
       refine one_ (i := 8) (N := some 55) #[Y,Y,Y,Y,Y,Y,Y,Y,Y,O,O,O] rfl rfl (one_of HT_.out (by kernel_rfl)) (by decide) (fun K hK => ?_)
       refine Kd.R_append_step Kd.string (w0 := w) w.heap.size (by rfl) (.tmp 51) (.tmp 54) 24 9 (.string ⟨#[]⟩) 16 rfl Try.underlying24 info9 rfl (by decide) (by omega) (.slice A516_2 ((T106 x5_1 (ji15)).f2).length c516_2) ((T106 x5_1 (ji15)).f2) ((T140 l0_2 x14_1).f1) [.string ((T140 l0_2 x14_1).f1)] (fun k_ => oki37 k_ ∨ ((fun _ => True)) k_ ∧ w36.heap.size ≤ k_) (fun _ => False) rfl rfl ?aP (fun _ hk => hk.elim) ?aF ?aO ?aB ?aS ?aL ?_
       (case aP => exact rfl)
       (case aB => exact (by repeat ((with_reducible exact HB.out))))
       (case aF => exact (fun k_ hk => .inr ⟨trivial, hk⟩))
       (case aO => exact (by exact Kd.R_mono UU37.out (fun _ hk => .inl hk)))
       (case aS => exact (below_size (by repeat ((with_reducible exact HB.out)))))
       (case aL => have := LMc28.out; omega)
       intro v518 w38 ho hb hg hat
       (have HS2_ := cell_grown hg (cell_unalloc (hHeld.2.2.1) (by exact Kd.S_lt HO_5.out _ rfl)) (by exact (fun e_ => ((HL516_2.out.1 _ e_.symm).2) rfl)))
       (have HS3_ := cell_grown hg (cell_unalloc (hHeld.2.2.2.1) (by exact Kd.S_lt HO_5.out _ rfl)) (by exact (fun e_ => ((HL516_2.out.1 _ e_.symm).2) rfl)))
       (have HS4_ := cell_grown hg (cell_unalloc (hHeld.2.2.2.2) (by exact Kd.S_lt HO_5.out _ rfl)) (by exact (fun e_ => ((HL516_2.out.1 _ e_.symm).2) rfl)))
       rw [← Ny517.out] at ho
       replace BK507 := am (blk_grown (g := gb507) (o := .cells #[.int .i64 a0_0, .int .i64 a0_1, .slice (some ad511) l0_2.length c0_2] 73 (0, 0)) (zk BK507.out) hg (Kd.R_ne HL516_2.out BK507.out (by decide)))
       replace BK512 := am (blk_grown (g := gb512) (o := .cells #[.int .i64 ((T140 l0_2 x14_1).f0), .string ((T140 l0_2 x14_1).f1)] 140 (0, 0)) (zk BK512.out) hg (Kd.R_ne HL516_2.out BK512.out (by decide)))
       replace HB := am (hb)
       replace HH37 := am (Kd.H_grown (Kd.H_widen (by repeat (exact HH37.out))) hg (fun k_ e_ => .inl (UU37.out.1 k_ e_)))
       have HO519 := am (ho)
       clear HO_5
       clear UU37
       clear HL513_2
       clear HL516_2
       clear ho hb hg hat
       have p29 : 0 ≤ ((ji15) : Int) := oa
       have q29 : ((ji15) : Int) < ((x5_1.length : Int) : Int) := oa
       replace p29 := eq_true p29
       replace q29 := eq_true q29
       obtain ⟨Ao41, co41, eo41⟩ := Kd.R_slice HO519.out
       (subst eo41)
       obtain ⟨_, _, hraw39, _, _, hcc39, _⟩ := Kd.H_raw HH37.out oa (by have h_ : ((ji15) : Int) < ((x5_1.length : Int) : Int) := oa; exact h_)
       obtain ⟨_, hfr39⟩ := Kd.H_at HH37.out oa (by have h_ : ((ji15) : Int) < ((x5_1.length : Int) : Int) := oa; exact h_)
       have hx39_0 := hcc39 2 _ rfl
       have hf39_0 := hfr39 2
       (try rw [show (k106).sz = 3 from rfl] at hx39_0)
       (try rw [show (k106).sz = 3 from rfl] at hf39_0)
       have HP39 := Kd.S_seg0 HH37.out oa (by have h_ : ((ji15) : Int) < ((x5_1.length : Int) : Int) := oa; exact h_) (seg := [.slice Ao41 y517.length co41]) (j := 2) (show 3 ≤ 3 from by decide) (x' := (⟨(T106 x5_1 (ji15)).f0, (T106 x5_1 (ji15)).f1, y517⟩ : S106)) (k106_mkM _ _ _ (⟨(T106 x5_1 (ji15)).f0, (T106 x5_1 (ji15)).f1, y517⟩ : S106) HO519.out) (fun _ hk => hk)
       clear hcc39 hfr39
       have HNB507_go37 := am (show gb507 ≠ go37 from by have h_ := Kd.R_ne hraw39 BK507.out (by decide); intro e_; exact h_ (by rw [e_]; rfl))
       have HNB512_go37 := am (show gb512 ≠ go37 from by have h_ := Kd.R_ne hraw39 BK512.out (by decide); intro e_; exact h_ (by rw [e_]; rfl))
       have HS39 := HP39.1
       rw [← Ny520.out] at HS39
       have HQ39 := am HS39
       obtain ⟨_, hgg39⟩ := Kd.R_typed hraw39 go37 rfl
       have GG39_ := am hgg39
       clear HP39 HS39 hgg39
       refine hK.out _ _ ⟨(blk_cell BK512.out 0).trans rfl, (blk_cell BK512.out 1).trans rfl, HS2_, HS3_, HS4_⟩ (fun hHeld => ?_)
       clear hK K
       refine norm_ (a' := ?_) ?_ ?_
       rotate_left
       ·show Act.put _ (some 55) _ = _
        simp only [Act.put,qa,qb,qc,i64_w,i32_w]
        rfl
       refine pu 9 (some 56) ?_
       refine pu 10 (some 57) ?_
       refine last_ (i := 11) (N := none) #[Y,Y,Y,Y,Y,Y,Y,Y,Y,Y,Y,Y] rfl rfl (one_of HT_.out (by kernel_rfl)) (by decide) (fun K hK => ?_)
       refine skip_ (w1 := ?_) (by rfl) rfl ?_ ?_
       rotate_left
       ·go_simp
        rfl
       refine hK.out _ _ ?_
       clear hK K
       refine done_ (done_of HT_.out (by kernel_rfl)) ?_
       try go_wp2
       go_roundg k1
       case measure => have := HK1.out; omega
       case rel => exact ⟨(x1_1), (y520), (true), (wrap64 (x14_1 + 1)), zf, zf, zf, H', ⟨by have := HK1.out; omega⟩, ⟨by exact HQ39.out⟩, ⟨by refine blk_far ?_ HNB507_go37.out _; exact BK507.out⟩, ⟨by repeat ((with_reducible first | exact HB.out | refine below_set ?_ GB37.out))⟩⟩
     ·replace c14 := Bool.eq_false_iff.mpr c14
      subst c14
      rw [if_neg nofun] at H
      obtain ⟨c42, H⟩ := itn H
      have LMc42 := am c42
      clear c42
      obtain ⟨y521, hy521⟩ : ∃ y_ : List (S106), y_ = (x5_1 ++ [(⟨x1_1, 0, ([] : List ByteArray)⟩ : S106)]) := ⟨_, rfl⟩
      replace H : (if 0 ≤ (wrap64 ((y521.length : Int) - 1)) then (if (wrap64 ((y521.length : Int) - 1)) < (y521.length : Int) then (if ((T140 l0_2 x14_1).f0) = 2 then (impl_Group_hunks.l0 k1 (wrap64 (x1_1 + 1)) (y521.set ((wrap64 ((y521.length : Int) - 1)) : Int).toNat (⟨(T106 y521 (wrap64 ((y521.length : Int) - 1))).f0, wrap64 (((T106 y521 (wrap64 ((y521.length : Int) - 1))).f1) + 1), (T106 y521 (wrap64 ((y521.length : Int) - 1))).f2⟩ : S106)) true l0_2 (l0_2.length : Int) (wrap64 (x14_1 + 1))) else (if ((T106 y521 (wrap64 ((y521.length : Int) - 1))).f2).length < 8796093022208 then (impl_Group_hunks.l0 k1 x1_1 (y521.set ((wrap64 ((y521.length : Int) - 1)) : Int).toNat (⟨(T106 y521 (wrap64 ((y521.length : Int) - 1))).f0, (T106 y521 (wrap64 ((y521.length : Int) - 1))).f1, (((T106 y521 (wrap64 ((y521.length : Int) - 1))).f2) ++ [(T140 l0_2 x14_1).f1])⟩ : S106)) true l0_2 (l0_2.length : Int) (wrap64 (x14_1 + 1))) else (none))) else (none)) else (none)) = some r := by (have H2_ := (Option.bind_some _ _).symm.trans H; rw [hy521]; with_reducible exact H2_)
      have Ny521 := am hy521
      clear hy521
      obtain ⟨ji43, hji43⟩ : ∃ j_ : Int, (wrap64 ((y521.length : Int) - 1)) = j_ := ⟨_, rfl⟩
      rw [hji43] at H
      have hji43w : (IntKind.i64.wrap ((y521.length : Int) - 1)) = ji43 := (i64_w _).trans hji43
      obtain ⟨c44, H⟩ := itn H
      have c44b0 := decide_eq_true c44
      clear c44
      obtain ⟨c45, H⟩ := itn H
      have c45b0 := decide_eq_true c45
      clear c45
      by_cases c46 : ((T140 l0_2 x14_1).f0) = 2
      ·rw [if_pos c46] at H
       have c46b0 : (((T140 l0_2 x14_1).f0) == 2) = true := beq_iff_eq.mpr c46
       have c46b1 : (((T140 l0_2 x14_1).f0) != 2) = false := bne_eq_false_iff_eq.mpr c46
       clear c46
       obtain ⟨y526, hy526⟩ : ∃ y_ : List (S106), y_ = (y521.set ((ji43) : Int).toNat (⟨(T106 y521 (ji43)).f0, wrap64 (((T106 y521 (ji43)).f1) + 1), (T106 y521 (ji43)).f2⟩ : S106)) := ⟨_, rfl⟩
       rw [← hy526] at H
       have Ny526 := am hy526
       clear hy526
       have H' := am H
       clear H
       have p511 : 0 ≤ (x14_1 : Int) := oa
       have q511 : x14_1 < (l0_2.length : Int) := oa
       obtain ⟨ad511, e511, hx511_0, hx511_1⟩ := at_T140 HR0_2.out x14_1 p511 q511
       cases e511
       replace hx511_0 := bc HB.out hx511_0
       replace hx511_1 := bc HB.out hx511_1
       replace p511 := eq_true p511
       replace q511 := eq_true q511
       go_wp2_with (first | ((with_reducible refine gate_dst (N := 8) rfl ?_); refine box_event ?hg (N := 8) ?hd (cs := #[.int .i64 0, .string (⟨#[]⟩ : ByteArray)]) (t := 140) ?hr ?_; (case hd => rfl); (case hg => rfl); (case hr => (go_simp; done)); intro gb512 hg w48 hbox hb; replace HO_5 := am (Kd.S_below (zs HO_5.out) hb); have BK512 := am (hbox); have GW512 := am ((by rw [hg]; exact (below_size (by repeat ((with_reducible exact HB.out)))) : w.heap.size ≤ gb512)); have GE512 := am ((by rw [hg]; exact (below_size (by repeat ((with_reducible exact HB.out)))) : w.heap.size ≤ gb512)); replace HB := am (below_step (by repeat ((with_reducible exact HB.out))) hb); have NB507_512 := am ((by rw [hg]; exact Nat.ne_of_lt (blk_lt (g := gb507) (o := .cells #[.int .i64 a0_0, .int .i64 a0_1, .slice (some ad511) l0_2.length c0_2] 73 (0, 0)) (zk BK507.out)) : gb507 ≠ gb512)); have NB512_507 := am ((by rw [hg]; exact Nat.ne_of_gt (blk_lt (g := gb507) (o := .cells #[.int .i64 a0_0, .int .i64 a0_1, .slice (some ad511) l0_2.length c0_2] 73 (0, 0)) (zk BK507.out)) : gb512 ≠ gb507)); replace BK507 := am (blk_below (g := gb507) (o := .cells #[.int .i64 a0_0, .int .i64 a0_1, .slice (some ad511) l0_2.length c0_2] 73 (0, 0)) (zk BK507.out) hb); clear hb hbox hg; have hnb49 := NB512_507.out; have hnc49 := NB507_512.out; obtain ⟨hcz50_0, hcz50_1⟩ := cz2 BK512.out; obtain ⟨hfz50_0, hfz50_1⟩ := fz2 BK512.out) | ((with_reducible refine gateB (b := .append) (xs := #[.tmp 25, .tmp 28]) rfl ?_); at_builtin; refine Kd.S_append k106 (w0 := w) w.heap.size rfl (.tmp 25) (.tmp 28) 42 106 (.agg #[(.int .i64 0), (.int .i64 0), (.slice none 0 0)]) 40 rfl Try.underlying42 info106 rfl (by decide) (by omega) u5 x5_1 (⟨x1_1, 0, ([] : List ByteArray)⟩ : S106) [.int .i64 x1_1, .int .i64 0, .slice none 0 0] (fun _ => True) (fun _ => False) rfl (by (go_simp; done)) ?aP (fun k_ hk_ => hk_.elim) ?aF ?aO ?aB ?aS ?aL ?_; (case aP => exact k106_mkM _ _ _ (⟨x1_1, 0, ([] : List ByteArray)⟩ : S106) (Kd.R_nil _ _ _ _ _)); (case aB => exact (by repeat ((with_reducible first | exact HB.out | refine below_set ?_ GE512.out)))); (case aF => exact (fun _ _ => trivial)); (case aO => exact (by exact Kd.S_mono (Kd.S_far (p := ⟨gb512, 1, none⟩) (Kd.S_far (p := ⟨gb512, 0, none⟩) (Kd.S_types HO_5.out BK512.out (by decide)) (fun _ hk => hk.2) (.int .i64 ((T140 l0_2 x14_1).f0))) (fun _ hk => hk.2) (.string ((T140 l0_2 x14_1).f1))) (fun k_ hk => ⟨trivial, fun e_ => e_⟩))); (case aS => exact (below_size (by repeat ((with_reducible first | exact HB.out | refine below_set ?_ GE512.out))))); (case aL => have := LMc42.out; omega); intro v522 w51 ho hb hg hat; rw [← Ny521.out] at ho; replace BK507 := am (blk_grown (g := gb507) (o := .cells #[.int .i64 a0_0, .int .i64 a0_1, .slice (some ad511) l0_2.length c0_2] 73 (0, 0)) (by refine blk_far ?_ NB507_512.out _; refine blk_far ?_ NB507_512.out _; exact BK507.out) hg (Kd.S_ne HO_5.out BK507.out (by decide))); replace BK512 := am (blk_grown (g := gb512) (o := .cells #[.int .i64 ((T140 l0_2 x14_1).f0), .string ((T140 l0_2 x14_1).f1)] 140 (0, 0)) (by refine blk_put (cs := #[.int .i64 ((T140 l0_2 x14_1).f0), .string (⟨#[]⟩ : ByteArray)]) ?_ 1 _ rfl; refine blk_put (cs := #[.int .i64 0, .string (⟨#[]⟩ : ByteArray)]) ?_ 0 _ rfl; exact BK512.out) hg (Kd.S_ne HO_5.out BK512.out (by decide))); replace HB := am (hb); have HO523 := am (ho); clear HO_5; clear ho hb hg hat; obtain ⟨Ao52, co52, eo52⟩ := Kd.S_slice HO523.out; subst eo52; have p524 : 0 ≤ ((ji43) : Int) := oa; have q524 : (ji43) < (y521.length : Int) := oa; obtain ⟨ad524, A524_2, c524_2, e524, hx524_0, hx524_1, hx524_2, hl524_2, hi524_2⟩ := at_T106 (Kd.S_reads' HO523.out).2.2 (ji43) p524 q524; cases e524; obtain ⟨ce524, hce524, hMe524, hcc524⟩ := Kd.S_get HO523.out z106 (ji43) p524 (by exact q524); obtain ⟨ve524_2, rfl, ge524_2⟩ := k106_openM hMe524; have hv524_2 := hcc524 2 _ rfl; rw [add_field _ _ 2 (by omega)] at hv524_2; replace hv524_2 := Option.some.inj (hv524_2.symm.trans hx524_2); rw [hv524_2] at ge524_2; have HL524_2 := am (show Kd.R Kd.string 9 _ _ _ _ ((T106 y521 (ji43)).f2) from ge524_2); clear hv524_2 ge524_2; have HX524_2 := am hx524_2; clear hcc524 hce524; have HR524_2 := am hi524_2; have HC524_2 := am hl524_2; clear hi524_2 hl524_2; replace p524 := eq_true p524; replace q524 := eq_true q524; obtain ⟨hcz53_0, hcz53_1⟩ := cz2 BK512.out; obtain ⟨hfz53_0, hfz53_1⟩ := fz2 BK512.out; have p525 : 0 ≤ ((ji43) : Int) := oa; have q525 : (ji43) < (y521.length : Int) := oa; obtain ⟨ad525, A525_2, c525_2, e525, hx525_0, hx525_1, hx525_2, hl525_2, hi525_2⟩ := at_T106 (Kd.S_reads' HO523.out).2.2 (ji43) p525 q525; obtain rfl : ad524 = ad525 := (by injection e525); obtain ⟨ce525, hce525, hMe525, hcc525⟩ := Kd.S_get HO523.out z106 (ji43) p525 (by exact q525); obtain ⟨ve525_2, rfl, ge525_2⟩ := k106_openM hMe525; have hv525_2 := hcc525 2 _ rfl; rw [add_field _ _ 2 (by omega)] at hv525_2; replace hv525_2 := Option.some.inj (hv525_2.symm.trans hx525_2); rw [hv525_2] at ge525_2; have HL525_2 := am (show Kd.R Kd.string 9 _ _ _ _ ((T106 y521 (ji43)).f2) from ge525_2); clear hv525_2 ge525_2; have HX525_2 := am hx525_2; clear hcc525 hce525; have HR525_2 := am hi525_2; have HC525_2 := am hl525_2; clear hi525_2 hl525_2; replace p525 := eq_true p525; replace q525 := eq_true q525; have ea_ := Option.some.inj (hx524_2.symm.trans hx525_2); injection ea_ with ea_ en_ ec_; subst ea_; subst ec_; clear en_; have p47 : 0 ≤ ((ji43) : Int) := oa; have q47 : ((ji43) : Int) < ((y521.length : Int) : Int) := oa; obtain ⟨go47, co47, eo47, gb47, gl47, cl47, HG47⟩ := Kd.S_form HO523.out (by omega); (cases eo47); have GB47 := am gb47; have GG47 := am HG47; clear gb47 gl47 HG47; (simp only [add_plain] at hx524_0); (simp only [add_plain] at hx524_1); (simp only [add_plain] at hx524_2); (simp only [add_plain] at hx525_0); (simp only [add_plain] at hx525_1); (simp only [add_plain] at hx525_2); obtain ⟨_, ce47, hcl47, hM47, hcc47, hfr47, _, _⟩ := Kd.S_elem HO523.out z106 ((ji43) : Int) p47 q47; obtain ⟨ve47_2, rfl, ge47_2⟩ := k106_openM hM47; have hx47_0 : w51.cell? ⟨go47, ((ji43) : Int).toNat * 3, none⟩ = some (.int .i64 ((T106 y521 (ji43)).f0)) := hcc47 0 _ rfl; have hx47_1 : w51.cell? ⟨go47, ((ji43) : Int).toNat * 3 + 1, none⟩ = some (.int .i64 ((T106 y521 (ji43)).f1)) := hcc47 1 _ rfl; have hx47_2 : w51.cell? ⟨go47, ((ji43) : Int).toNat * 3 + 2, none⟩ = some (ve47_2) := hcc47 2 _ rfl; have hf47_0 : w51.frozen? ⟨go47, ((ji43) : Int).toNat * 3, none⟩ = false := hfr47 0; have hf47_1 : w51.frozen? ⟨go47, ((ji43) : Int).toNat * 3 + 1, none⟩ = false := hfr47 1; have hf47_2 : w51.frozen? ⟨go47, ((ji43) : Int).toNat * 3 + 2, none⟩ = false := hfr47 2; clear hcl47 hcc47 hfr47; (try clear hM47); replace p47 := eq_true p47; replace q47 := eq_true q47; have HX54 := am (show Kd.S k106 106 w51 w.heap.size (fun k_ => ((fun _ => True)) k_ ∧ ¬ ((fun _ => False)) k_) (.slice (some ⟨go47, 0, none⟩) y521.length co52) y521 from (by exact Kd.S_mono HO523.out (fun k_ hk => ⟨trivial, fun e_ => e_⟩))); obtain ⟨oki54, ce54, hcl54, hM54, hcc54, hfr54, hoki54, hH54⟩ := Kd.S_elem HX54.out z106 ((ji43) : Int) oa (by have h_ : ((ji43) : Int) < ((y521.length : Int) : Int) := oa; exact h_); obtain ⟨ve54_2, rfl, ge54_2⟩ := k106_openM hM54; have HP54 := Kd.S_seg hH54 oa (by have h_ : ((ji43) : Int) < ((y521.length : Int) : Int) := oa; exact h_) (seg := [.int .i64 (wrap64 (((T106 y521 (ji43)).f1) + 1))]) (j := 1) (show 2 ≤ 3 from by decide) (x' := (⟨(T106 y521 (ji43)).f0, wrap64 (((T106 y521 (ji43)).f1) + 1), (T106 y521 (ji43)).f2⟩ : S106)) (k106_mkM _ _ _ (⟨(T106 y521 (ji43)).f0, wrap64 (((T106 y521 (ji43)).f1) + 1), (T106 y521 (ji43)).f2⟩ : S106) (Kd.R_mono ge54_2 (fun _ h_ => Or.inl h_))) (fun _ hk => hk) (fun k_ hk_ => hk_.elim); have hx54_1 := hcc54 1 _ rfl; (try simp only [show (k106).sz = 3 from rfl, Nat.mul_one, Nat.add_zero] at hx54_1); have hf54_1 := hfr54 1; (try simp only [show (k106).sz = 3 from rfl, Nat.mul_one, Nat.add_zero] at hf54_1); clear hcl54 hcc54 hfr54 hoki54 hH54; (try clear hM54)) | ((with_reducible refine gate_store (t := 3) (p := 44) rfl ?_); refine store_event (t := 3) (p := 44) (v := ?vo_w55) (w1 := (w51.setCell ⟨go47, ((ji43) : Int).toNat * 3 + 1, none⟩ (.int .i64 (wrap64 (((T106 y521 (ji43)).f1) + 1))))) ?hg ?ho ?hn ?hr ?_; (case ho => rfl); (case hg => rfl); (case hn => rfl); (case hr => (go_simp; done)); intro w55 hw; have hg : w51.grownBy w55 (some go47) := (by rw [hw]; exact HP54.2); have hp_ : Kd.S k106 106 w55 w.heap.size (fun _ => True) (.slice (some ⟨go47, 0, none⟩) y521.length co52) y526 := (by rw [hw, Ny526.out]; exact HP54.1); clear HP54; replace BK507 := am (blk_grown (g := gb507) (o := .cells #[.int .i64 a0_0, .int .i64 a0_1, .slice (some ad511) l0_2.length c0_2] 73 (0, 0)) (zk BK507.out) hg (Kd.S_ne HO523.out BK507.out (by decide))); replace BK512 := am (blk_grown (g := gb512) (o := .cells #[.int .i64 ((T140 l0_2 x14_1).f0), .string ((T140 l0_2 x14_1).f1)] 140 (0, 0)) (zk BK512.out) hg (Kd.S_ne HO523.out BK512.out (by decide))); replace HO523 := am (hp_); replace HL524_2 := am (Kd.R_after (v := (.slice (some ⟨go47, 0, none⟩) y521.length co52)) (v1 := (.slice (some ⟨go47, 0, none⟩) y521.length co52)) (ok := (fun _ => True)) (zr HL524_2.out) hg (.inl rfl)); replace HL525_2 := am (Kd.R_after (v := (.slice (some ⟨go47, 0, none⟩) y521.length co52)) (v1 := (.slice (some ⟨go47, 0, none⟩) y521.length co52)) (ok := (fun _ => True)) (zr HL525_2.out) hg (.inl rfl)); replace HB := am ((by rw [hw]; exact below_set (HB.out) GB47.out : Below w.heap.size w w55)); clear hg hw hp_))
       go_roundg k1
       case measure => have := HK1.out; omega
       case rel => exact ⟨(wrap64 (x1_1 + 1)), (y526), (true), (wrap64 (x14_1 + 1)), zf, zf, zf, H', ⟨by have := HK1.out; omega⟩, ⟨by exact HO523.out⟩, ⟨by exact BK507.out⟩, ⟨by repeat ((with_reducible exact HB.out))⟩⟩
      ·rw [if_neg c46] at H
       have c46b0 : (((T140 l0_2 x14_1).f0) == 2) = false := beq_eq_false_iff_ne.mpr c46
       have c46b1 : (((T140 l0_2 x14_1).f0) != 2) = true := bne_iff_ne.mpr c46
       obtain ⟨c56, H⟩ := itn H
       have LMc56 := am c56
       clear c56
       obtain ⟨y528, hy528⟩ : ∃ y_ : List ByteArray, y_ = (((T106 y521 (ji43)).f2) ++ [(T140 l0_2 x14_1).f1]) := ⟨_, rfl⟩
       rw [← hy528] at H
       have Ny528 := am hy528
       clear hy528
       obtain ⟨y531, hy531⟩ : ∃ y_ : List (S106), y_ = (y521.set ((ji43) : Int).toNat (⟨(T106 y521 (ji43)).f0, (T106 y521 (ji43)).f1, y528⟩ : S106)) := ⟨_, rfl⟩
       rw [← hy531] at H
       have Ny531 := am hy531
       clear hy531
       have H' := am H
       clear H
       have p511 : 0 ≤ (x14_1 : Int) := oa
       have q511 : x14_1 < (l0_2.length : Int) := oa
       obtain ⟨ad511, e511, hx511_0, hx511_1⟩ := at_T140 HR0_2.out x14_1 p511 q511
       cases e511
       replace hx511_0 := bc HB.out hx511_0
       replace hx511_1 := bc HB.out hx511_1
       replace p511 := eq_true p511
       replace q511 := eq_true q511
       try go_wp2_with (first | ((with_reducible refine gate_dst (N := 8) rfl ?_); refine box_event ?hg (N := 8) ?hd (cs := #[.int .i64 0, .string (⟨#[]⟩ : ByteArray)]) (t := 140) ?hr ?_; (case hd => rfl); (case hg => rfl); (case hr => (go_simp; done)); intro gb512 hg w58 hbox hb; replace HO_5 := am (Kd.S_below (zs HO_5.out) hb); have BK512 := am (hbox); have GW512 := am ((by rw [hg]; exact (below_size (by repeat ((with_reducible exact HB.out)))) : w.heap.size ≤ gb512)); have GE512 := am ((by rw [hg]; exact (below_size (by repeat ((with_reducible exact HB.out)))) : w.heap.size ≤ gb512)); replace HB := am (below_step (by repeat ((with_reducible exact HB.out))) hb); have NB507_512 := am ((by rw [hg]; exact Nat.ne_of_lt (blk_lt (g := gb507) (o := .cells #[.int .i64 a0_0, .int .i64 a0_1, .slice (some ad511) l0_2.length c0_2] 73 (0, 0)) (zk BK507.out)) : gb507 ≠ gb512)); have NB512_507 := am ((by rw [hg]; exact Nat.ne_of_gt (blk_lt (g := gb507) (o := .cells #[.int .i64 a0_0, .int .i64 a0_1, .slice (some ad511) l0_2.length c0_2] 73 (0, 0)) (zk BK507.out)) : gb512 ≠ gb507)); replace BK507 := am (blk_below (g := gb507) (o := .cells #[.int .i64 a0_0, .int .i64 a0_1, .slice (some ad511) l0_2.length c0_2] 73 (0, 0)) (zk BK507.out) hb); clear hb hbox hg; have hnb59 := NB512_507.out; have hnc59 := NB507_512.out; obtain ⟨hcz60_0, hcz60_1⟩ := cz2 BK512.out; obtain ⟨hfz60_0, hfz60_1⟩ := fz2 BK512.out) | ((with_reducible refine gateB (b := .append) (xs := #[.tmp 25, .tmp 28]) rfl ?_); at_builtin; refine Kd.S_append k106 (w0 := w) w.heap.size rfl (.tmp 25) (.tmp 28) 42 106 (.agg #[(.int .i64 0), (.int .i64 0), (.slice none 0 0)]) 40 rfl Try.underlying42 info106 rfl (by decide) (by omega) u5 x5_1 (⟨x1_1, 0, ([] : List ByteArray)⟩ : S106) [.int .i64 x1_1, .int .i64 0, .slice none 0 0] (fun _ => True) (fun _ => False) rfl (by (go_simp; done)) ?aP (fun k_ hk_ => hk_.elim) ?aF ?aO ?aB ?aS ?aL ?_; (case aP => exact k106_mkM _ _ _ (⟨x1_1, 0, ([] : List ByteArray)⟩ : S106) (Kd.R_nil _ _ _ _ _)); (case aB => exact (by repeat ((with_reducible first | exact HB.out | refine below_set ?_ GE512.out)))); (case aF => exact (fun _ _ => trivial)); (case aO => exact (by exact Kd.S_mono (Kd.S_far (p := ⟨gb512, 1, none⟩) (Kd.S_far (p := ⟨gb512, 0, none⟩) (Kd.S_types HO_5.out BK512.out (by decide)) (fun _ hk => hk.2) (.int .i64 ((T140 l0_2 x14_1).f0))) (fun _ hk => hk.2) (.string ((T140 l0_2 x14_1).f1))) (fun k_ hk => ⟨trivial, fun e_ => e_⟩))); (case aS => exact (below_size (by repeat ((with_reducible first | exact HB.out | refine below_set ?_ GE512.out))))); (case aL => have := LMc42.out; omega); intro v522 w61 ho hb hg hat; rw [← Ny521.out] at ho; replace BK507 := am (blk_grown (g := gb507) (o := .cells #[.int .i64 a0_0, .int .i64 a0_1, .slice (some ad511) l0_2.length c0_2] 73 (0, 0)) (by refine blk_far ?_ NB507_512.out _; refine blk_far ?_ NB507_512.out _; exact BK507.out) hg (Kd.S_ne HO_5.out BK507.out (by decide))); replace BK512 := am (blk_grown (g := gb512) (o := .cells #[.int .i64 ((T140 l0_2 x14_1).f0), .string ((T140 l0_2 x14_1).f1)] 140 (0, 0)) (by refine blk_put (cs := #[.int .i64 ((T140 l0_2 x14_1).f0), .string (⟨#[]⟩ : ByteArray)]) ?_ 1 _ rfl; refine blk_put (cs := #[.int .i64 0, .string (⟨#[]⟩ : ByteArray)]) ?_ 0 _ rfl; exact BK512.out) hg (Kd.S_ne HO_5.out BK512.out (by decide))); replace HB := am (hb); have HO523 := am (ho); clear HO_5; clear ho hb hg hat; obtain ⟨Ao62, co62, eo62⟩ := Kd.S_slice HO523.out; subst eo62; have p524 : 0 ≤ ((ji43) : Int) := oa; have q524 : (ji43) < (y521.length : Int) := oa; obtain ⟨ad524, A524_2, c524_2, e524, hx524_0, hx524_1, hx524_2, hl524_2, hi524_2⟩ := at_T106 (Kd.S_reads' HO523.out).2.2 (ji43) p524 q524; cases e524; obtain ⟨ce524, hce524, hMe524, hcc524⟩ := Kd.S_get HO523.out z106 (ji43) p524 (by exact q524); obtain ⟨ve524_2, rfl, ge524_2⟩ := k106_openM hMe524; have hv524_2 := hcc524 2 _ rfl; rw [add_field _ _ 2 (by omega)] at hv524_2; replace hv524_2 := Option.some.inj (hv524_2.symm.trans hx524_2); rw [hv524_2] at ge524_2; have HL524_2 := am (show Kd.R Kd.string 9 _ _ _ _ ((T106 y521 (ji43)).f2) from ge524_2); clear hv524_2 ge524_2; have HX524_2 := am hx524_2; clear hcc524 hce524; have HR524_2 := am hi524_2; have HC524_2 := am hl524_2; clear hi524_2 hl524_2; replace p524 := eq_true p524; replace q524 := eq_true q524; obtain ⟨hcz63_0, hcz63_1⟩ := cz2 BK512.out; obtain ⟨hfz63_0, hfz63_1⟩ := fz2 BK512.out))
       replace HO523 := am (Kd.S_drew HO523.out)
       replace HL524_2 := am (Kd.R_drew HL524_2.out)
       replace BK507 := am (blk_drew BK507.out)
       replace BK512 := am (blk_drew BK512.out)
       replace HR524_2 := am (Kd.C_drew HR524_2.out)
       replace HB := am (below_drew1 HB.out)
       have p527 : 0 ≤ ((ji43) : Int) := oa
       have q527 : (ji43) < (y521.length : Int) := oa
       obtain ⟨ad527, A527_2, c527_2, e527, hx527_0, hx527_1, hx527_2, hl527_2, hi527_2⟩ := at_T106 (Kd.S_reads' HO523.out).2.2 (ji43) p527 q527
       obtain rfl : ad524 = ad527 := (by injection e527)
       obtain ⟨ce527, hce527, hMe527, hcc527⟩ := Kd.S_get HO523.out z106 (ji43) p527 (by exact q527)
       obtain ⟨ve527_2, rfl, ge527_2⟩ := k106_openM hMe527
       have hv527_2 := hcc527 2 _ rfl
       rw [add_field _ _ 2 (by omega)] at hv527_2
       replace hv527_2 := Option.some.inj (hv527_2.symm.trans hx527_2)
       rw [hv527_2] at ge527_2
       have HL527_2 := am (show Kd.R Kd.string 9 _ _ _ _ ((T106 y521 (ji43)).f2) from ge527_2)
       clear hv527_2 ge527_2
       have HX527_2 := am hx527_2
       clear hcc527 hce527
       have HR527_2 := am hi527_2
       have HC527_2 := am hl527_2
       clear hi527_2 hl527_2
       replace p527 := eq_true p527
       replace q527 := eq_true q527
       obtain ⟨go65, co65, eo65, gb65, gl65, cl65, HG65⟩ := Kd.S_form HO523.out (by have h_ : ((ji43) : Int) < ((y521.length : Int) : Int) := oa; have h2_ : 0 ≤ ((ji43) : Int) := oa; omega)
       (cases eo65)
       have GB65 := am gb65
       have GG65 := am HG65
       clear gb65 gl65 HG65
       (simp only [add_plain] at hx524_0)
       (simp only [add_plain] at hx524_1)
       (simp only [add_plain] at hx524_2)
       (simp only [add_plain] at hx527_0)
       (simp only [add_plain] at hx527_1)
       (simp only [add_plain] at hx527_2)
       obtain ⟨oki65, ce65, hcl65, hM65, hcc65, _, _, hH65⟩ := Kd.S_elem HO523.out z106 ((ji43) : Int) oa (by have h_ : ((ji43) : Int) < ((y521.length : Int) : Int) := oa; exact h_)
       obtain ⟨ve65_2, rfl, ge65_2⟩ := k106_openM hM65
       have hv65 := hcc65 2 _ rfl
       have hX65 := HX527_2.out
       (try simp only [add_plain] at hX65)
       replace hv65 := Option.some.inj (hv65.symm.trans hX65)
       subst hv65
       clear hX65 hcc65 hcl65
       have UU65 := am (show Kd.R Kd.string 9 _ w.heap.size oki65 (.slice A527_2 ((T106 y521 (ji43)).f2).length c527_2) ((T106 y521 (ji43)).f2) from ge65_2)
       have HH65 := am hH65
       have HN65 := am (Kd.S_reads' HO523.out).1
       clear hH65 ge65_2
       refine start_ (n := 12) (S := fun w' => w'.cell? ⟨gb512, 0, none⟩ = some (.int .i64 ((T140 l0_2 x14_1).f0)) ∧ w'.cell? ⟨gb512, 1, none⟩ = some (.string ((T140 l0_2 x14_1).f1)) ∧ w'.cell? ⟨go65, (ji43).toNat * 3, none⟩ = some (.int .i64 ((T106 y521 (ji43)).f0)) ∧ w'.cell? ⟨go65, (ji43).toNat * 3 + 1, none⟩ = some (.int .i64 ((T106 y521 (ji43)).f1)) ∧ w'.cell? ⟨go65, (ji43).toNat * 3 + 2, none⟩ = some (.slice A527_2 ((T106 y521 (ji43)).f2).length c527_2)) (ds := [11]) #[O,O,O,O,O,O,O,O,O,O,O,O] (by kernel_rfl) rfl rfl ⟨(blk_cell BK512.out 0).trans rfl, (blk_cell BK512.out 1).trans rfl, hx527_0, hx527_1, hx527_2⟩ (fun hHeld => ?_); refine with_tabW impl_Group_hunks.tab14 impl_Group_hunks.bits14 (fun HT_ HW_ => ?_)
       generalize w61.drew = w64 at HO523 HL524_2 BK507 BK512 HR524_2 HB GG65 HH65 HL527_2 HR527_2 HX527_2 UU65 hx524_0 hx524_1 hx524_2 hx527_0 hx527_1 hx527_2 hHeld ⊢
       refine pu 0 (some 47) ?_
       refine pu 1 (some 48) ?_
       refine pu 2 (some 49) ?_
       refine pu 3 (some 50) ?_
       refine pu 5 (some 52) ?_
       refine ta 4 (some 51) ?_
       refine ta 6 (some 53) ?_
       refine one_ (i := 7) (N := some 54) #[Y,Y,Y,Y,Y,Y,Y,Y,O,O,O,O] rfl rfl (one_of HT_.out (by kernel_rfl)) (by decide) (fun K hK => ?_)
       refine value_ (w1 := ?_) (v := ?_) (by rfl) rfl ?_ ?_
       rotate_left 2
       ·go_simp
        constructor
        ·rfl
        ·rfl
       refine hK.out _ _ ⟨(blk_cell (blk_alloc BK512.out _) 0).trans rfl, (blk_cell (blk_alloc BK512.out _) 1).trans rfl, (World.cell?_alloc_lt _ _ _ (World.block_lt_of_cell? _ _ (hHeld.2.2.1))).trans (hHeld.2.2.1), (World.cell?_alloc_lt _ _ _ (World.block_lt_of_cell? _ _ (hHeld.2.2.2.1))).trans (hHeld.2.2.2.1), (World.cell?_alloc_lt _ _ _ (World.block_lt_of_cell? _ _ (hHeld.2.2.2.2))).trans (hHeld.2.2.2.2)⟩ (fun hHeld => ?_)
       clear hK K
       refine norm_ (a' := ?_) ?_ ?_
       rotate_left
       ·show Act.put _ (some 54) _ = _
        simp only [Act.put,qa,qb,qc,i64_w,i32_w]
        rfl
       refine one_ (i := 8) (N := some 55) #[Y,Y,Y,Y,Y,Y,Y,Y,Y,O,O,O] rfl rfl (one_of HT_.out (by kernel_rfl)) (by decide) (fun K hK => ?_)
       refine Kd.R_append_step Kd.string (w0 := w) w.heap.size (by rfl) (.tmp 51) (.tmp 54) 24 9 (.string ⟨#[]⟩) 16 rfl Try.underlying24 info9 rfl (by decide) (by omega) (.slice A527_2 ((T106 y521 (ji43)).f2).length c527_2) ((T106 y521 (ji43)).f2) ((T140 l0_2 x14_1).f1) [.string ((T140 l0_2 x14_1).f1)] (fun k_ => oki65 k_ ∨ ((fun _ => True)) k_ ∧ w64.heap.size ≤ k_) (fun _ => False) rfl rfl ?aP (fun _ hk => hk.elim) ?aF ?aO ?aB ?aS ?aL ?_
       (case aP => exact rfl)
       (case aB => exact (by repeat ((with_reducible exact HB.out))))
       (case aF => exact (fun k_ hk => .inr ⟨trivial, hk⟩))
       (case aO => exact (by exact Kd.R_mono UU65.out (fun _ hk => .inl hk)))
       (case aS => exact (below_size (by repeat ((with_reducible exact HB.out)))))
       (case aL => have := LMc56.out; omega)
       intro v529 w66 ho hb hg hat
       (have HS2_ := cell_grown hg (cell_unalloc (hHeld.2.2.1) (by exact Kd.S_lt HO523.out _ rfl)) (by exact (fun e_ => ((HL527_2.out.1 _ e_.symm).2) rfl)))
       (have HS3_ := cell_grown hg (cell_unalloc (hHeld.2.2.2.1) (by exact Kd.S_lt HO523.out _ rfl)) (by exact (fun e_ => ((HL527_2.out.1 _ e_.symm).2) rfl)))
       (have HS4_ := cell_grown hg (cell_unalloc (hHeld.2.2.2.2) (by exact Kd.S_lt HO523.out _ rfl)) (by exact (fun e_ => ((HL527_2.out.1 _ e_.symm).2) rfl)))
       rw [← Ny528.out] at ho
       replace BK507 := am (blk_grown (g := gb507) (o := .cells #[.int .i64 a0_0, .int .i64 a0_1, .slice (some ad511) l0_2.length c0_2] 73 (0, 0)) (zk BK507.out) hg (Kd.R_ne HL527_2.out BK507.out (by decide)))
       replace BK512 := am (blk_grown (g := gb512) (o := .cells #[.int .i64 ((T140 l0_2 x14_1).f0), .string ((T140 l0_2 x14_1).f1)] 140 (0, 0)) (zk BK512.out) hg (Kd.R_ne HL527_2.out BK512.out (by decide)))
       replace HB := am (hb)
       replace HH65 := am (Kd.H_grown (Kd.H_widen (by repeat (exact HH65.out))) hg (fun k_ e_ => .inl (UU65.out.1 k_ e_)))
       have HO530 := am (ho)
       clear HO523
       clear UU65
       clear HL524_2
       clear HL527_2
       clear ho hb hg hat
       have p57 : 0 ≤ ((ji43) : Int) := oa
       have q57 : ((ji43) : Int) < ((y521.length : Int) : Int) := oa
       replace p57 := eq_true p57
       replace q57 := eq_true q57
       obtain ⟨Ao69, co69, eo69⟩ := Kd.R_slice HO530.out
       (subst eo69)
       obtain ⟨_, _, hraw67, _, _, hcc67, _⟩ := Kd.H_raw HH65.out oa (by have h_ : ((ji43) : Int) < ((y521.length : Int) : Int) := oa; exact h_)
       obtain ⟨_, hfr67⟩ := Kd.H_at HH65.out oa (by have h_ : ((ji43) : Int) < ((y521.length : Int) : Int) := oa; exact h_)
       have hx67_0 := hcc67 2 _ rfl
       have hf67_0 := hfr67 2
       (try rw [show (k106).sz = 3 from rfl] at hx67_0)
       (try rw [show (k106).sz = 3 from rfl] at hf67_0)
       have HP67 := Kd.S_seg0 HH65.out oa (by have h_ : ((ji43) : Int) < ((y521.length : Int) : Int) := oa; exact h_) (seg := [.slice Ao69 y528.length co69]) (j := 2) (show 3 ≤ 3 from by decide) (x' := (⟨(T106 y521 (ji43)).f0, (T106 y521 (ji43)).f1, y528⟩ : S106)) (k106_mkM _ _ _ (⟨(T106 y521 (ji43)).f0, (T106 y521 (ji43)).f1, y528⟩ : S106) HO530.out) (fun _ hk => hk)
       clear hcc67 hfr67
       have HNB507_go65 := am (show gb507 ≠ go65 from by have h_ := Kd.R_ne hraw67 BK507.out (by decide); intro e_; exact h_ (by rw [e_]; rfl))
       have HNB512_go65 := am (show gb512 ≠ go65 from by have h_ := Kd.R_ne hraw67 BK512.out (by decide); intro e_; exact h_ (by rw [e_]; rfl))
       have HS67 := HP67.1
       rw [← Ny531.out] at HS67
       have HQ67 := am HS67
       obtain ⟨_, hgg67⟩ := Kd.R_typed hraw67 go65 rfl
       have GG67_ := am hgg67
       clear HP67 HS67 hgg67
       refine hK.out _ _ ⟨(blk_cell BK512.out 0).trans rfl, (blk_cell BK512.out 1).trans rfl, HS2_, HS3_, HS4_⟩ (fun hHeld => ?_)
       clear hK K
       refine norm_ (a' := ?_) ?_ ?_
       rotate_left
       ·show Act.put _ (some 55) _ = _
        simp only [Act.put,qa,qb,qc,i64_w,i32_w]
        rfl
       refine pu 9 (some 56) ?_
       refine pu 10 (some 57) ?_
       refine last_ (i := 11) (N := none) #[Y,Y,Y,Y,Y,Y,Y,Y,Y,Y,Y,Y] rfl rfl (one_of HT_.out (by kernel_rfl)) (by decide) (fun K hK => ?_)
       refine skip_ (w1 := ?_) (by rfl) rfl ?_ ?_
       rotate_left
       ·go_simp
        rfl
       refine hK.out _ _ ?_
       clear hK K
       refine done_ (done_of HT_.out (by kernel_rfl)) ?_
       try go_wp2
       go_roundg k1
       case measure => have := HK1.out; omega
       case rel => exact ⟨(x1_1), (y531), (true), (wrap64 (x14_1 + 1)), zf, zf, zf, H', ⟨by have := HK1.out; omega⟩, ⟨by exact HQ67.out⟩, ⟨by refine blk_far ?_ HNB507_go65.out _; exact BK507.out⟩, ⟨by repeat ((with_reducible first | exact HB.out | refine below_set ?_ GB65.out))⟩⟩
   ·rw [if_neg c7] at H
    have c7b0 : decide (x14_1 < (l0_2.length : Int)) = false := decide_eq_false c7
    clear c7
    obtain rfl := Option.some.inj H
    go_wp2
    go_ret
    exact ⟨_, by rfl, by exact HO_5.out, by repeat ((with_reducible exact HB.out))⟩
end Go.Proofs.Ytmcldkobejhaeaa.My
namespace Go.Proofs.Ytmcldkobejhaeaa.Pl
open Go.RowKit Go.Proofs.YtmcldkobejhaeaaW.PrintWords Go.Proofs.YtmcldkobejhaeaaW.PrintLast Go.Proofs.Ytmcldkobejhaeaa.My
set_option linter.unusedVariables false
set_option linter.unusedSimpArgs false
def lastH (out : List IH) : IH := T106 out ((out.length - 1 : Nat) : Int)
def goneH (out : List IH) : List IH := out.set (out.length - 1) ⟨(lastH out).f0, wrap64 ((lastH out).f1 + 1), (lastH out).f2⟩
def lineH (out : List IH) (s : ByteArray) : List IH := out.set (out.length - 1) ⟨(lastH out).f0, (lastH out).f1, (lastH out).f2 ++ [s]⟩
def hksF : Int → List IH → Bool → List IR → List IH
  | _, out, _, [] => out
  | p, out, op, r :: t =>
    if r.f0 = 1 then hksF (wrap64 (p + 1)) out false t
    else if op = true then (if r.f0 = 2 then hksF (wrap64 (p + 1)) (goneH out) true t else hksF p (lineH out r.f1) true t)
    else (if r.f0 = 2 then hksF (wrap64 (p + 1)) (goneH (out ++ [⟨p, 0, []⟩])) true t else hksF p (lineH (out ++ [⟨p, 0, []⟩]) r.f1) true t)
theorem lastH_mem {out : List IH} (h : 0 < out.length) : lastH out ∈ out := by
  unfold lastH
  rw [rdIH out (out.length - 1) (by omega)]
  exact List.getElem_mem _
theorem goneH_len (out : List IH) : (goneH out).length = out.length := List.length_set
theorem lineH_len (out : List IH) (s : ByteArray) : (lineH out s).length = out.length := List.length_set
theorem goneH_le {out : List IH} {n : Nat} (h : ∀ x ∈ out, x.f2.length ≤ n) : ∀ x ∈ goneH out, x.f2.length ≤ n + 1 := by
  intro x hx
  rcases List.mem_or_eq_of_mem_set hx with hx' | rfl
  · exact Nat.le_succ_of_le (h x hx')
  · have hl : 0 < out.length := by
      have := List.length_pos_of_mem hx
      rwa [goneH_len] at this
    have h5 := h (lastH out) (lastH_mem hl)
    exact Nat.le_succ_of_le h5
theorem lineH_le {out : List IH} {n : Nat} (s : ByteArray) (h : ∀ x ∈ out, x.f2.length ≤ n) : ∀ x ∈ lineH out s, x.f2.length ≤ n + 1 := by
  intro x hx
  rcases List.mem_or_eq_of_mem_set hx with hx' | rfl
  · exact Nat.le_succ_of_le (h x hx')
  · have hl : 0 < out.length := by
      have := List.length_pos_of_mem hx
      rwa [lineH_len] at this
    simp only [List.length_append, List.length_singleton]
    have h5 := h (lastH out) (lastH_mem hl)
    exact Nat.succ_le_succ h5
theorem snocH_le {out : List IH} {n : Nat} (p : Int) (h : ∀ x ∈ out, x.f2.length ≤ n) : ∀ x ∈ out ++ [(⟨p, 0, []⟩ : IH)], x.f2.length ≤ n := by
  intro x hx
  rcases List.mem_append.1 hx with hx | hx
  · exact h x hx
  · rw [List.mem_singleton.1 hx]
    exact Nat.zero_le _
theorem hksF_small : ∀ (rows : List IR) (p : Int) (out : List IH) (op : Bool) (n : Nat), (∀ x ∈ out, x.f2.length ≤ n) → (hksF p out op rows).length ≤ out.length + rows.length ∧ ∀ x ∈ hksF p out op rows, x.f2.length ≤ n + rows.length
  | [], p, out, op, n, h => ⟨Nat.le_refl _, h⟩
  | r :: t, p, out, op, n, h => by
    have h2 : ∀ x ∈ out ++ [(⟨p, 0, []⟩ : IH)], x.f2.length ≤ n := snocH_le p h
    simp only [hksF, List.length_cons]
    split
    · have := hksF_small t (wrap64 (p + 1)) out false n h
      exact ⟨by omega, fun x hx => by have := this.2 x hx; omega⟩
    · split
      · split
        · have := hksF_small t (wrap64 (p + 1)) (goneH out) true (n + 1) (goneH_le h)
          rw [goneH_len] at this
          exact ⟨by omega, fun x hx => by have := this.2 x hx; omega⟩
        · have := hksF_small t p (lineH out r.f1) true (n + 1) (lineH_le _ h)
          rw [lineH_len] at this
          exact ⟨by omega, fun x hx => by have := this.2 x hx; omega⟩
      · split
        · have := hksF_small t (wrap64 (p + 1)) (goneH (out ++ [⟨p, 0, []⟩])) true (n + 1) (goneH_le h2)
          rw [goneH_len, List.length_append, List.length_singleton] at this
          exact ⟨by omega, fun x hx => by have := this.2 x hx; omega⟩
        · have := hksF_small t p (lineH (out ++ [⟨p, 0, []⟩]) r.f1) true (n + 1) (lineH_le _ h2)
          rw [lineH_len, List.length_append, List.length_singleton] at this
          exact ⟨by omega, fun x hx => by have := this.2 x hx; omega⟩
theorem last_eq {out : List IH} (h0 : 0 < out.length) (h : out.length ≤ 1048576) : wrap64 ((out.length : Int) - 1) = ((out.length - 1 : Nat) : Int) := wrap_pred _ h0 (by omega)
theorem snoc_eq (out : List IH) (p : Int) (h : out.length ≤ 1048570) : wrap64 (((out ++ [(⟨p, 0, []⟩ : IH)]).length : Int) - 1) = (((out ++ [(⟨p, 0, []⟩ : IH)]).length - 1 : Nat) : Int) := last_eq (by simp) (by simp; omega)
theorem implH_l0 (rows : List IR) (hL : rows.length ≤ 1000) : ∀ d i (p : Int) (out : List IH) (op : Bool), i + d = rows.length → (op = true → 0 < out.length) → out.length ≤ i → (∀ x ∈ out, x.f2.length ≤ i) → Ev (fun k => impl_Group_hunks.l0 k p out op rows (rows.length : Int) (i : Int)) (hksF p out op (rows.drop i)) := by
  intro d
  induction d with
  | zero =>
    intro i p out op hi ho hl hn
    refine Ev.step (fun k => impl_Group_hunks.l0.eq_2 ..) (ev_neg (by omega) (ev_some ?_))
    rw [List.drop_of_length_le (by omega)]
    rfl
  | succ d ih =>
    intro i p out op hi ho hl hn
    have hlt : i < rows.length := by omega
    have hn2 := snocH_le p hn
    refine Ev.step (fun k => impl_Group_hunks.l0.eq_2 ..) (ev_pos (by omega) (ev_pos (by omega) (ev_pos (by omega) ?_)))
    simp only [rdIR rows i hlt, Option.bind_some]
    rw [drop_cons rows i hlt, wrap_succ i (by omega)]
    simp only [hksF]
    refine ev_ite (fun h => ?_) (fun h => ?_)
    · rw [if_pos h]
      exact ih (i + 1) _ _ _ (by omega) (fun h => by cases h) (by omega) (fun x hx => Nat.le_succ_of_le (hn x hx))
    · rw [if_neg h]
      refine ev_ite (fun h1 => ?_) (fun h1 => ?_)
      · rw [if_pos h1]
        have h0 := ho h1
        subst h1
        rw [last_eq h0 (by omega)]
        refine ev_pos (by omega) (ev_pos (by omega) (ev_ite (fun h2 => ?_) (fun h2 => ?_)))
        · rw [if_pos h2]
          exact ih (i + 1) _ (goneH out) true (by omega) (fun _ => by rw [goneH_len]; exact h0) (by rw [goneH_len]; omega) (goneH_le hn)
        · rw [if_neg h2]
          have := hn _ (lastH_mem h0)
          refine ev_pos (show (lastH out).f2.length < _ by omega) ?_
          exact ih (i + 1) p (lineH out rows[i].f1) true (by omega) (fun _ => by rw [lineH_len]; exact h0) (by rw [lineH_len]; omega) (lineH_le _ hn)
      · rw [if_neg h1]
        refine ev_pos (by omega) ?_
        rw [snoc_eq out p (by omega)]
        have hl2 : (out ++ [(⟨p, 0, []⟩ : IH)]).length = out.length + 1 := by simp
        refine ev_pos (by omega) (ev_pos (by omega) (ev_ite (fun h2 => ?_) (fun h2 => ?_)))
        · rw [if_pos h2]
          exact ih (i + 1) _ (goneH (out ++ [⟨p, 0, []⟩])) true (by omega) (fun _ => by rw [goneH_len]; omega) (by rw [goneH_len]; omega) (goneH_le hn2)
        · rw [if_neg h2]
          have := hn2 _ (lastH_mem (by omega))
          refine ev_pos (show (lastH (out ++ [(⟨p, 0, []⟩ : IH)])).f2.length < _ by omega) ?_
          exact ih (i + 1) p (lineH (out ++ [⟨p, 0, []⟩]) rows[i].f1) true (by omega) (fun _ => by rw [lineH_len]; omega) (by rw [lineH_len]; omega) (lineH_le _ hn2)
theorem specH_l0 (rows : List IR) (hL : rows.length ≤ 1000) : ∀ d i (p : Int) (out : List IH) (op : Bool), i + d = rows.length → (op = true → 0 < out.length) → out.length ≤ i → (∀ x ∈ out, x.f2.length ≤ i) → Ev (fun k => spec_l6Hunks.l0 k out p op rows (rows.length : Int) (i : Int)) (hksF p out op (rows.drop i)) := by
  intro d
  induction d with
  | zero =>
    intro i p out op hi ho hl hn
    refine Ev.step (fun k => spec_l6Hunks.l0.eq_2 ..) (ev_neg (by omega) (ev_some ?_))
    rw [List.drop_of_length_le (by omega)]
    rfl
  | succ d ih =>
    intro i p out op hi ho hl hn
    have hlt : i < rows.length := by omega
    have hn2 := snocH_le p hn
    refine Ev.step (fun k => spec_l6Hunks.l0.eq_2 ..) (ev_pos (by omega) (ev_pos (by omega) (ev_pos (by omega) ?_)))
    simp only [rdIR rows i hlt, Option.bind_some]
    rw [drop_cons rows i hlt, wrap_succ i (by omega)]
    simp only [hksF]
    refine ev_ite (fun h => ?_) (fun h => ?_)
    · rw [if_pos h]
      exact ih (i + 1) _ _ _ (by omega) (fun h => by cases h) (by omega) (fun x hx => Nat.le_succ_of_le (hn x hx))
    · rw [if_neg h]
      refine ev_ite (fun h1 => ?_) (fun h1 => ?_)
      · rw [if_pos h1]
        have h0 := ho h1
        subst h1
        rw [last_eq h0 (by omega)]
        refine ev_pos (by omega) (ev_pos (by omega) (ev_ite (fun h2 => ?_) (fun h2 => ?_)))
        · rw [if_pos h2]
          exact ih (i + 1) _ (goneH out) true (by omega) (fun _ => by rw [goneH_len]; exact h0) (by rw [goneH_len]; omega) (goneH_le hn)
        · rw [if_neg h2]
          have := hn _ (lastH_mem h0)
          refine ev_pos (show (lastH out).f2.length < _ by omega) ?_
          exact ih (i + 1) p (lineH out rows[i].f1) true (by omega) (fun _ => by rw [lineH_len]; exact h0) (by rw [lineH_len]; omega) (lineH_le _ hn)
      · rw [if_neg h1]
        refine ev_pos (by omega) ?_
        rw [snoc_eq out p (by omega)]
        have hl2 : (out ++ [(⟨p, 0, []⟩ : IH)]).length = out.length + 1 := by simp
        refine ev_pos (by omega) (ev_pos (by omega) (ev_ite (fun h2 => ?_) (fun h2 => ?_)))
        · rw [if_pos h2]
          exact ih (i + 1) _ (goneH (out ++ [⟨p, 0, []⟩])) true (by omega) (fun _ => by rw [goneH_len]; omega) (by rw [goneH_len]; omega) (goneH_le hn2)
        · rw [if_neg h2]
          have := hn2 _ (lastH_mem (by omega))
          refine ev_pos (show (lastH (out ++ [(⟨p, 0, []⟩ : IH)])).f2.length < _ by omega) ?_
          exact ih (i + 1) p (lineH (out ++ [⟨p, 0, []⟩]) rows[i].f1) true (by omega) (fun _ => by rw [lineH_len]; omega) (by rw [lineH_len]; omega) (lineH_le _ hn2)
theorem implHunks_ev (a b : Int) (rows : List IR) (p : Int) (hL : rows.length ≤ 1000) : Ev (fun k => impl_Group_hunks.f k a b rows p) (hksF p [] false rows) := by
  simp only [impl_Group_hunks.f]
  exact implH_l0 rows hL rows.length 0 p [] false (by omega) (fun h => by cases h) (Nat.zero_le _) (fun x hx => by cases hx)
theorem specHunks_ev (a b : Int) (rows : List IR) (hL : rows.length ≤ 1000) : Ev (fun k => spec_l6Hunks.f k a b rows) (hksF a [] false rows) := by
  simp only [spec_l6Hunks.f]
  exact specH_l0 rows hL rows.length 0 a [] false (by omega) (fun h => by cases h) (Nat.zero_le _) (fun x hx => by cases hx)
end Go.Proofs.Ytmcldkobejhaeaa.Pl
namespace Go.Proofs.Ytmcldkobejhaeaa.My
open Go.RowKit Go.Proofs.YtmcldkobejhaeaaW.PrintWords Go.Proofs.YtmcldkobejhaeaaW.PrintLast Go.Proofs.YtmcldkobejhaeaaW.PrintMore
attribute [local go_sem] max2_int min2_int max_two min_two max_three min_three max_four min_four
set_option linter.unusedVariables false
set_option linter.unusedSimpArgs false
def impl_in.f (a0 : Int) (a1 : Int) (a2 : Int) : Option (Bool) := if a0 ≥ a1 then (some (decide (a0 ≤ a2))) else (some false)
set_option maxHeartbeats 8000000 in
set_option maxRecDepth 100000 in
theorem impl_in.calls (a0 : Int) (a1 : Int) (a2 : Int) (r : Bool) (w : World) (h : impl_in.f a0 a1 a2 = some r) :
  Calls Try.prog 64 #[.int .i64 a0, .int .i64 a1, .int .i64 a2] w fun e w' => e = .returned (.bool r) ∧ Drawn0 w w' := by
 have H : (if a0 ≥ a1 then (some (decide (a0 ≤ a2))) else (some false)) = some r := h
 clear h
 by_cases c4 : a0 ≥ a1
 ·rw [if_pos c4] at H
  have c4b0 : decide (a1 ≤ a0) = true := decide_eq_true c4
  clear c4
  obtain rfl := Option.some.inj H
  go_enter Try.func64, Try.ntmps64
  go_wp2
  go_ret
  exact ⟨by first | rfl | (simp; done) | (simp [*]; done), by repeat (first | exact Drawn0.refl _ | apply Drawn0.step)⟩
 ·rw [if_neg c4] at H
  have c4b0 : decide (a1 ≤ a0) = false := decide_eq_false c4
  clear c4
  obtain rfl := Option.some.inj H
  go_enter Try.func64, Try.ntmps64
  go_wp2
  go_ret
  exact ⟨by first | rfl | (simp; done) | (simp [*]; done), by repeat (first | exact Drawn0.refl _ | apply Drawn0.step)⟩
end Go.Proofs.Ytmcldkobejhaeaa.My
namespace Go.Proofs.Ytmcldkobejhaeaa.Pl
open Go.RowKit Go.Proofs.YtmcldkobejhaeaaW.PrintWords Go.Proofs.YtmcldkobejhaeaaW.PrintLast Go.Proofs.Ytmcldkobejhaeaa.My
set_option linter.unusedVariables false
set_option linter.unusedSimpArgs false
def inB (n lo hi : Int) : Bool := decide (lo ≤ n) && decide (n ≤ hi)
theorem inB_iff (a b c : Int) : inB a b c = true ↔ b ≤ a ∧ a ≤ c := by
  unfold inB
  rw [Bool.and_eq_true, decide_eq_true_eq, decide_eq_true_eq]
theorem impl_in_eq (a b c : Int) : impl_in.f a b c = some (inB a b c) := by
  unfold impl_in.f inB
  by_cases h : b ≤ a
  · rw [if_pos h]; simp [h]
  · rw [if_neg (by omega)]; simp [h]
theorem spec_l1In_eq (a b c : Int) : spec_l1In.f a b c = some (inB a b c) := by
  unfold spec_l1In.f inB
  by_cases h : b ≤ a
  · rw [if_pos h]; simp [h]
  · rw [if_neg (by omega)]; simp [h]
end Go.Proofs.Ytmcldkobejhaeaa.Pl
namespace Go.Proofs.Ytmcldkobejhaeaa.My
open Go.RowKit Go.Proofs.YtmcldkobejhaeaaW.PrintWords Go.Proofs.YtmcldkobejhaeaaW.PrintLast Go.Proofs.YtmcldkobejhaeaaW.PrintMore
attribute [local go_sem] max2_int min2_int max_two min_two max_three min_three max_four min_four
set_option linter.unusedVariables false
set_option linter.unusedSimpArgs false
def stringslite_IndexByte.f (a0 : ByteArray) (a1 : Int) : Option (Int) := some (Lib.indexByte a0.data.toList a1.toNat.toUInt8)
set_option maxHeartbeats 1000000 in
set_option maxRecDepth 100000 in
theorem stringslite_IndexByte.calls (a0 : ByteArray) (a1 : Int) (r : Int) (w : World) (h : stringslite_IndexByte.f a0 a1 = some r) :
  Calls Try.prog 160 #[.string a0, .int .u8 a1] w fun e w' => e = .returned (.int .i64 r) ∧ Drawn0 w w' := by
 obtain rfl : Lib.indexByte a0.data.toList a1.toNat.toUInt8 = r := Option.some.inj h
 clear h
 go_enter Try.func160, Try.ntmps160
 go_wp2
 rw [run_callFunc_extern Try.func164 (by kernel_rfl) (by kernel_rfl) (by kernel_rfl) (e := Extern.BytealgIndexByte.indexByte) (by kernel_rfl), Lib.run_indexByteString]
 simp only [Result.andThen]
 rw [Oper.upon_value]
 go_wp2
 go_ret
 exact ⟨rfl, Drawn0.refl _⟩

def stringslite_Index.j0 : Nat → ByteArray → ByteArray → Int → Bool → Option (Int)
 | 0, _, _, _, _ => none
 | k + 1, x0, x1, x5, x16 => if x16 = true then (some 0) else (if x5 = 1 then (if 0 < (x1.size : Int) then ((stringslite_IndexByte.f x0 (bt x1 0)).bind fun t229 => (some t229)) else (none)) else (if x5 ≥ (x0.size : Int) then (some (-1)) else (none)))
def stringslite_Index.f (k : Nat) (a0 : ByteArray) (a1 : ByteArray) : Option (Int) := if (a1.size : Int) = 0 then (stringslite_Index.j0 k a0 a1 (a1.size : Int) true) else (stringslite_Index.j0 k a0 a1 (a1.size : Int) (a1.toList == a0.toList))
set_option maxHeartbeats 8000000 in
set_option maxRecDepth 100000 in
theorem stringslite_Index.calls (k : Nat) (a0 : ByteArray) (a1 : ByteArray) (r : Int) (w : World) (h : stringslite_Index.f k a0 a1 = some r) :
  Calls Try.prog 159 #[.string a0, .string a1] w fun e w' => e = .returned (.int .i64 r) ∧ Drawn0 w w' := by
 have H : (if (a1.size : Int) = 0 then (stringslite_Index.j0 k a0 a1 (a1.size : Int) true) else (stringslite_Index.j0 k a0 a1 (a1.size : Int) (a1.toList == a0.toList))) = some r := h
 clear h
 have HC3 := am H
 clear H
 go_enter Try.func159, Try.ntmps159
 go_upto_region 2 with (fail)
 go_cut [16] (fun v16 wc => ∃ (kq : Nat) (x16_2 : Bool), v16 = .bool x16_2 ∧ Aside0 (stringslite_Index.j0 kq a0 a1 (a1.size : Int) x16_2 = some r) ∧ Aside0 (kq ≤ k) ∧ Drawn0 w wc)
 case first =>
  have H := HC3.out
  clear HC3
  by_cases c4 : (a1.size : Int) = 0
  ·rw [if_pos c4] at H
   have c4b0 : ((a1.size : Int) == 0) = true := beq_iff_eq.mpr c4
   have c4b1 : ((a1.size : Int) != 0) = false := bne_eq_false_iff_eq.mpr c4
   clear c4
   (first | rw [c4b0] | (simp only [i64_w, i32_w]; rw [c4b0]) | skip)
   have H' := am H
   clear H
   go_wp2
   go_meet
   case rel => exact ⟨_, (true), zf, H', ⟨by first | omega | exact Nat.le_refl _⟩, by repeat (first | exact Drawn0.refl _ | apply Drawn0.step)⟩
  ·rw [if_neg c4] at H
   have c4b0 : ((a1.size : Int) == 0) = false := beq_eq_false_iff_ne.mpr c4
   have c4b1 : ((a1.size : Int) != 0) = true := bne_iff_ne.mpr c4
   (first | rw [c4b0] | (simp only [i64_w, i32_w]; rw [c4b0]) | skip)
   have H' := am H
   clear H
   go_wp2
   go_meet
   case rel => exact ⟨_, ((a1.toList == a0.toList)), zf, H', ⟨by first | omega | exact Nat.le_refl _⟩, by repeat (first | exact Drawn0.refl _ | apply Drawn0.step)⟩
 case rest =>
  clear HC3
  try clear c1
  try clear p2
  try clear c4
  try clear c4b0
  try clear c4b1
  obtain ⟨kq, x16_2, rfl, HA, HJ2, ⟨mc2, rfl⟩⟩ := hcut
  cases kq with
  | zero => exact absurd HA.out (by simp [stringslite_Index.j0])
  | succ kj2 =>
   have H := HA.out
   clear HA
   simp only [stringslite_Index.j0] at H
   by_cases c5 : x16_2 = true
   ·subst c5
    have H1 : (some 0) = some r := by rw [if_pos rfl] at H; exact H
    clear H
    have H := H1
    clear H1
    obtain rfl := Option.some.inj H
    go_wp2
    go_ret
    exact ⟨by first | rfl | (simp; done) | (simp [*]; done), by repeat (first | exact Drawn0.refl _ | apply Drawn0.step)⟩
   ·replace c5 := Bool.eq_false_iff.mpr c5
    subst c5
    have H1 : (if (a1.size : Int) = 1 then (if 0 < (a1.size : Int) then ((stringslite_IndexByte.f a0 (bt a1 0)).bind fun t229 => (some t229)) else (none)) else (if (a1.size : Int) ≥ (a0.size : Int) then (some (-1)) else (none))) = some r := by rw [if_neg (show ¬ (false = true) by decide)] at H; exact H
    clear H
    have H := H1
    clear H1
    by_cases c6 : (a1.size : Int) = 1
    ·rw [if_pos c6] at H
     have c6b0 : ((a1.size : Int) == 1) = true := beq_iff_eq.mpr c6
     have c6b1 : ((a1.size : Int) != 1) = false := bne_eq_false_iff_eq.mpr c6
     clear c6
     by_cases c7 : 0 < (a1.size : Int)
     ·rw [if_pos c7] at H
      have c7b0 : decide (0 < (a1.size : Int)) = true := decide_eq_true c7
      have c7b1 : decide (0 < a1.size) = true := decide_eq_true (by omega)
      clear c7
      replace H := Option.bind_eq_some_iff.mp H
      obtain ⟨t229, A90, H⟩ := H
      replace H : (some t229) = some r := H
      have A9 := am A90
      clear A90
      obtain rfl := Option.some.inj H
      have p8 : 0 ≤ (0 : Int) := (by omega)
      have q8 : 0 < a1.size := (by have : (0 : Int) < (a1.size : Int) := oa; omega)
      have hx8 : ∀ h : 0 < a1.size, ((a1[0]'h).toNat : Int) = bt a1 0 := bt_at a1 0
      clear p8
      have qi8 : (0 < (a1.size : Int)) = True := eq_true oa
      replace q8 := eq_true q8
      go_wp2_with (first | ((with_reducible refine gateC (f := 160) rfl ?_); refine goesL_ (some 30) rfl rfl Try.func160 (by kernel_rfl) rfl #[.string a0, .int .u8 (bt a1 0)] rfl zm ?_; (with_reducible refine (stringslite_IndexByte.calls a0 (bt a1 0) t229 _ A9.out).mono ?_); rintro e w' ⟨rfl, ⟨nd, rfl⟩⟩; refine ⟨_, rfl, ?_⟩))
      go_ret
      exact ⟨by first | rfl | (simp; done) | (simp [*]; done), by repeat (first | exact Drawn0.refl _ | apply Drawn0.step)⟩
     ·rw [if_neg c7] at H
      exact absurd H (by simp)
    ·rw [if_neg c6] at H
     have c6b0 : ((a1.size : Int) == 1) = false := beq_eq_false_iff_ne.mpr c6
     have c6b1 : ((a1.size : Int) != 1) = true := bne_iff_ne.mpr c6
     by_cases c10 : (a1.size : Int) ≥ (a0.size : Int)
     ·rw [if_pos c10] at H
      have c10b0 : decide ((a0.size : Int) ≤ (a1.size : Int)) = true := decide_eq_true c10
      have c10b1 : decide (a0.size ≤ a1.size) = true := decide_eq_true (Int.ofNat_le.mp c10)
      clear c10
      obtain rfl := Option.some.inj H
      go_wp2
      go_ret
      exact ⟨by first | rfl | (simp; done) | (simp [*]; done), by repeat (first | exact Drawn0.refl _ | apply Drawn0.step)⟩
     ·rw [if_neg c10] at H
      exact absurd H (by simp)

def strings_Index.f (k : Nat) (a0 : ByteArray) (a1 : ByteArray) : Option (Int) := (stringslite_Index.f k a0 a1).bind fun t230 => (some t230)
set_option maxHeartbeats 8000000 in
set_option maxRecDepth 100000 in
theorem strings_Index.calls (k : Nat) (a0 : ByteArray) (a1 : ByteArray) (r : Int) (w : World) (h : strings_Index.f k a0 a1 = some r) :
  Calls Try.prog 150 #[.string a0, .string a1] w fun e w' => e = .returned (.int .i64 r) ∧ Drawn0 w w' := by
 have H : ((stringslite_Index.f k a0 a1).bind fun t230 => (some t230)) = some r := h
 clear h
 replace H := Option.bind_eq_some_iff.mp H
 obtain ⟨t230, A30, H⟩ := H
 replace H : (some t230) = some r := H
 have A3 := am A30
 clear A30
 obtain rfl := Option.some.inj H
 go_enter Try.func150, Try.ntmps150
 go_wp2_with (first | ((with_reducible refine gateC (f := 159) rfl ?_); refine goesL_ (some 7) rfl rfl Try.func159 (by kernel_rfl) rfl #[.string a0, .string a1] rfl zm ?_; (with_reducible refine (stringslite_Index.calls k a0 a1 t230 _ A3.out).mono ?_); rintro e w' ⟨rfl, ⟨nd, rfl⟩⟩; refine ⟨_, rfl, ?_⟩))
 go_ret
 exact ⟨by first | rfl | (simp; done) | (simp [*]; done), by repeat (first | exact Drawn0.refl _ | apply Drawn0.step)⟩

def strings_Contains.f (k : Nat) (a0 : ByteArray) (a1 : ByteArray) : Option (Bool) := (strings_Index.f k a0 a1).bind fun t231 => (some (decide (t231 ≥ 0)))
set_option maxHeartbeats 8000000 in
set_option maxRecDepth 100000 in
theorem strings_Contains.calls (k : Nat) (a0 : ByteArray) (a1 : ByteArray) (r : Bool) (w : World) (h : strings_Contains.f k a0 a1 = some r) :
  Calls Try.prog 128 #[.string a0, .string a1] w fun e w' => e = .returned (.bool r) ∧ Drawn0 w w' := by
 have H : ((strings_Index.f k a0 a1).bind fun t231 => (some (decide (t231 ≥ 0)))) = some r := h
 clear h
 replace H := Option.bind_eq_some_iff.mp H
 obtain ⟨t231, A30, H⟩ := H
 replace H : (some (decide (t231 ≥ 0))) = some r := H
 have A3 := am A30
 clear A30
 obtain rfl := Option.some.inj H
 go_enter Try.func128, Try.ntmps128
 go_wp2_with (first | ((with_reducible refine gateC (f := 150) rfl ?_); refine goesL_ (some 7) rfl rfl Try.func150 (by kernel_rfl) rfl #[.string a0, .string a1] rfl zm ?_; (with_reducible refine (strings_Index.calls k a0 a1 t231 _ A3.out).mono ?_); rintro e w' ⟨rfl, ⟨nd, rfl⟩⟩; refine ⟨_, rfl, ?_⟩))
 go_ret
 exact ⟨by first | rfl | (simp; done) | (simp [*]; done), by repeat (first | exact Drawn0.refl _ | apply Drawn0.step)⟩

def impl_isLine.f (k : Nat) (a0 : ByteArray) : Option (Bool) := (impl_in.f (a0.size : Int) 1 30).bind fun t232 => (if t232 = true then (if 0 ≤ (wrap64 ((a0.size : Int) - 1)) then (if (wrap64 ((a0.size : Int) - 1)) ≤ (a0.size : Int) then ((strings_Contains.f k (a0.extract 0 ((wrap64 ((a0.size : Int) - 1)) : Int).toNat) (⟨#[10]⟩ : ByteArray)).bind fun t233 => (some (!t233))) else (none)) else (none)) else (some false))
set_option maxHeartbeats 8000000 in
set_option maxRecDepth 100000 in
theorem impl_isLine.calls (k : Nat) (a0 : ByteArray) (r : Bool) (w : World) (h : impl_isLine.f k a0 = some r) :
  Calls Try.prog 69 #[.string a0] w fun e w' => e = .returned (.bool r) ∧ Drawn0 w w' := by
 have H : ((impl_in.f (a0.size : Int) 1 30).bind fun t232 => (if t232 = true then (if 0 ≤ (wrap64 ((a0.size : Int) - 1)) then (if (wrap64 ((a0.size : Int) - 1)) ≤ (a0.size : Int) then ((strings_Contains.f k (a0.extract 0 ((wrap64 ((a0.size : Int) - 1)) : Int).toNat) (⟨#[10]⟩ : ByteArray)).bind fun t233 => (some (!t233))) else (none)) else (none)) else (some false))) = some r := h
 clear h
 replace H := Option.bind_eq_some_iff.mp H
 obtain ⟨t232, A20, H⟩ := H
 replace H : (if t232 = true then (if 0 ≤ (wrap64 ((a0.size : Int) - 1)) then (if (wrap64 ((a0.size : Int) - 1)) ≤ (a0.size : Int) then ((strings_Contains.f k (a0.extract 0 ((wrap64 ((a0.size : Int) - 1)) : Int).toNat) (⟨#[10]⟩ : ByteArray)).bind fun t233 => (some (!t233))) else (none)) else (none)) else (some false)) = some r := H
 have A2 := am A20
 clear A20
 by_cases c3 : t232 = true
 ·subst c3
  have H1 : (if 0 ≤ (wrap64 ((a0.size : Int) - 1)) then (if (wrap64 ((a0.size : Int) - 1)) ≤ (a0.size : Int) then ((strings_Contains.f k (a0.extract 0 ((wrap64 ((a0.size : Int) - 1)) : Int).toNat) (⟨#[10]⟩ : ByteArray)).bind fun t233 => (some (!t233))) else (none)) else (none)) = some r := by rw [if_pos rfl] at H; exact H
  clear H
  have H := H1
  clear H1
  obtain ⟨ji4, hji4⟩ : ∃ j_ : Int, (wrap64 ((a0.size : Int) - 1)) = j_ := ⟨_, rfl⟩
  replace H : (if 0 ≤ (ji4) then (if (ji4) ≤ (a0.size : Int) then ((strings_Contains.f k (a0.extract 0 ((ji4) : Int).toNat) (⟨#[10]⟩ : ByteArray)).bind fun t233 => (some (!t233))) else (none)) else (none)) = some r := by first | (rw [hji4] at H; exact H) | (simp only [hji4] at H ⊢; exact H)
  (try rw [hji4] at A2)
  have hji4w : (IntKind.i64.wrap ((a0.size : Int) - 1)) = ji4 := (i64_w _).trans hji4
  by_cases c5 : 0 ≤ (ji4)
  ·rw [if_pos c5] at H
   have c5b0 := eq_true c5
   have c5b1 : decide (0 ≤ (ji4)) = true := decide_eq_true c5
   clear c5
   by_cases c6 : (ji4) ≤ (a0.size : Int)
   ·rw [if_pos c6] at H
    have c6b0 := eq_true c6
    have c6b1 : decide ((ji4) ≤ (a0.size : Int)) = true := decide_eq_true c6
    clear c6
    replace H := Option.bind_eq_some_iff.mp H
    obtain ⟨t233, A70, H⟩ := H
    replace H : (some (!t233)) = some r := H
    have A7 := am A70
    clear A70
    obtain rfl := Option.some.inj H
    go_enter Try.func69, Try.ntmps69
    go_wp2_with (first | ((with_reducible refine gateC (f := 64) rfl ?_); refine goesL_ (some 5) rfl rfl Try.func64 (by kernel_rfl) rfl #[.int .i64 (a0.size : Int), .int .i64 1, .int .i64 30] rfl zm ?_; (with_reducible refine (impl_in.calls (a0.size : Int) 1 30 true _ A2.out).mono ?_); rintro e w' ⟨rfl, ⟨nd, rfl⟩⟩; refine ⟨_, rfl, ?_⟩) | (go_at_call 128; (with_reducible refine (strings_Contains.calls k (a0.extract 0 ((ji4) : Int).toNat) (⟨#[10]⟩ : ByteArray) t233 _ A7.out).mono ?_); rintro e w' ⟨rfl, ⟨nd, rfl⟩⟩))
    go_ret
    exact ⟨by first | rfl | (simp; done) | (simp only [← hji4] <;> (first | rfl | simp)) | (simp [*]; done), by repeat (first | exact Drawn0.refl _ | apply Drawn0.step)⟩
   ·rw [if_neg c6] at H
    exact absurd H (by simp)
  ·rw [if_neg c5] at H
   exact absurd H (by simp)
 ·replace c3 := Bool.eq_false_iff.mpr c3
  subst c3
  have H1 : (some false) = some r := by rw [if_neg (show ¬ (false = true) by decide)] at H; exact H
  clear H
  have H := H1
  clear H1
  obtain rfl := Option.some.inj H
  go_enter Try.func69, Try.ntmps69
  go_wp2_with (first | ((with_reducible refine gateC (f := 64) rfl ?_); refine goesL_ (some 5) rfl rfl Try.func64 (by kernel_rfl) rfl #[.int .i64 (a0.size : Int), .int .i64 1, .int .i64 30] rfl zm ?_; (with_reducible refine (impl_in.calls (a0.size : Int) 1 30 false _ A2.out).mono ?_); rintro e w' ⟨rfl, ⟨nd, rfl⟩⟩; refine ⟨_, rfl, ?_⟩))
  go_ret
  exact ⟨by first | rfl | (simp; done) | (simp [*]; done), by repeat (first | exact Drawn0.refl _ | apply Drawn0.step)⟩

def impl_areLines_1.f (k : Nat) (a0 : ByteArray) : Option (Bool) := (impl_isLine.f k a0).bind fun t234 => (some (!t234))
set_option maxHeartbeats 8000000 in
set_option maxRecDepth 100000 in
theorem impl_areLines_1.calls (k : Nat) (a0 : ByteArray) (r : Bool) (w : World) (h : impl_areLines_1.f k a0 = some r) :
  Calls Try.prog 148 #[.string a0] w fun e w' => e = .returned (.bool r) ∧ Drawn0 w w' := by
 have H : ((impl_isLine.f k a0).bind fun t234 => (some (!t234))) = some r := h
 clear h
 replace H := Option.bind_eq_some_iff.mp H
 obtain ⟨t234, A20, H⟩ := H
 replace H : (some (!t234)) = some r := H
 have A2 := am A20
 clear A20
 obtain rfl := Option.some.inj H
 go_enter Try.func148, Try.ntmps148
 go_wp2_with (first | ((with_reducible refine gateC (f := 69) rfl ?_); refine goesL_ (some 4) rfl rfl Try.func69 (by kernel_rfl) rfl #[.string a0] rfl zm ?_; (with_reducible refine (impl_isLine.calls k a0 t234 _ A2.out).mono ?_); rintro e w' ⟨rfl, ⟨nd, rfl⟩⟩; refine ⟨_, rfl, ?_⟩))
 go_ret
 exact ⟨by first | rfl | (simp; done) | (simp [*]; done), by repeat (first | exact Drawn0.refl _ | apply Drawn0.step)⟩

def slices_IndexFunc_string_string__impl_areLines_1.l0 : Nat → List ByteArray → Int → Int → Option (Int)
 | 0, _, _, _ => none
 | k + 1, x0, x7, x8 => if x8 < x7 then (if 0 ≤ x8 then (if x8 < (x0.length : Int) then ((impl_areLines_1.f k (rdOf ByteArray.empty x0 x8)).bind fun t236 => (if t236 = true then (some x8) else (slices_IndexFunc_string_string__impl_areLines_1.l0 k x0 x7 (wrap64 (x8 + 1))))) else (none)) else (none)) else (some (-1))
def slices_IndexFunc_string_string__impl_areLines_1.f (k : Nat) (l0 : List ByteArray)  : Option (Int) := slices_IndexFunc_string_string__impl_areLines_1.l0 k l0 (l0.length : Int) 0
set_option maxHeartbeats 8000000 in
set_option maxRecDepth 100000 in
theorem slices_IndexFunc_string_string__impl_areLines_1.calls (k : Nat) (A0 : Option Addr) (c0 : Nat) (l0 : List ByteArray)  (r : Int) (w : World) (hr0 : Kd.C Kd.string w A0 l0.length l0) (hc0 : l0.length ≤ c0) (h : slices_IndexFunc_string_string__impl_areLines_1.f k l0 = some r) :
  Calls Try.prog 157 #[.slice A0 l0.length c0, .func (.func 148) #[] #[]] w fun e w' => e = .returned (.int .i64 r) ∧ Drawn0 w w' := by
 have HR0 := am hr0
 have HC0 := am hc0
 clear hr0 hc0
 have H : (slices_IndexFunc_string_string__impl_areLines_1.l0 k l0 (l0.length : Int) 0) = some r := h
 clear h
 have H' := am H
 clear H
 go_enter Try.func157, Try.ntmps157
 go_wp2
 go_loopg [8] k (fun kq v8 w' => ∃ (x8_1 : Int), v8 = .int .i64 x8_1 ∧ Aside0 (slices_IndexFunc_string_string__impl_areLines_1.l0 kq l0 (l0.length : Int) x8_1 = some r) ∧ Aside0 (kq ≤ k) ∧ Drawn0 w w')
 case atStart => exact ⟨(0), zf, H', ⟨Nat.le_refl _⟩, by repeat (first | exact Drawn0.refl _ | apply Drawn0.step)⟩
 case round =>
  clear H'
  try clear p2
  obtain ⟨x8_1, rfl, HA, HK1, ⟨m1, rfl⟩⟩ := hrel
  cases gk with
  | zero => exact absurd HA.out (by simp [slices_IndexFunc_string_string__impl_areLines_1.l0])
  | succ k1 =>
   have H := HA.out
   clear HA
   simp only [slices_IndexFunc_string_string__impl_areLines_1.l0] at H
   by_cases c3 : x8_1 < (l0.length : Int)
   ·rw [if_pos c3] at H
    have c3b0 : decide (x8_1 < (l0.length : Int)) = true := decide_eq_true c3
    clear c3
    by_cases c4 : 0 ≤ x8_1
    ·rw [if_pos c4] at H
     have c4b0 : decide (0 ≤ x8_1) = true := decide_eq_true c4
     clear c4
     by_cases c5 : x8_1 < (l0.length : Int)
     ·rw [if_pos c5] at H
      have c5b0 : decide (x8_1 < (l0.length : Int)) = true := decide_eq_true c5
      clear c5
      replace H := Option.bind_eq_some_iff.mp H
      obtain ⟨t236, A60, H⟩ := H
      replace H : (if t236 = true then (some x8_1) else (slices_IndexFunc_string_string__impl_areLines_1.l0 k1 l0 (l0.length : Int) (wrap64 (x8_1 + 1)))) = some r := H
      have A6 := am A60
      clear A60
      by_cases c7 : t236 = true
      ·subst c7
       have H1 : (some x8_1) = some r := by rw [if_pos rfl] at H; exact H
       clear H
       have H := H1
       clear H1
       obtain rfl := Option.some.inj H
       have p235 : 0 ≤ (x8_1 : Int) := oa
       have q235 : x8_1 < (l0.length : Int) := oa
       obtain ⟨ad235, e235, hx235_0⟩ := Kd.at_string HR0.out x8_1 p235 q235
       cases e235
       replace p235 := eq_true p235
       replace q235 := eq_true q235
       go_wp2_with (first | (go_at_call 148; (with_reducible refine (impl_areLines_1.calls k1 (rdOf ByteArray.empty l0 x8_1) true _ A6.out).mono ?_); rintro e w' ⟨rfl, ⟨nd, rfl⟩⟩))
       go_ret
       exact ⟨by first | rfl | (simp; done) | (simp [*]; done), by repeat (first | exact Drawn0.refl _ | apply Drawn0.step)⟩
      ·replace c7 := Bool.eq_false_iff.mpr c7
       subst c7
       have H1 : (slices_IndexFunc_string_string__impl_areLines_1.l0 k1 l0 (l0.length : Int) (wrap64 (x8_1 + 1))) = some r := by rw [if_neg (show ¬ (false = true) by decide)] at H; exact H
       clear H
       have H := H1
       clear H1
       have H' := am H
       clear H
       have p235 : 0 ≤ (x8_1 : Int) := oa
       have q235 : x8_1 < (l0.length : Int) := oa
       obtain ⟨ad235, e235, hx235_0⟩ := Kd.at_string HR0.out x8_1 p235 q235
       cases e235
       replace p235 := eq_true p235
       replace q235 := eq_true q235
       go_wp2_with (first | (go_at_call 148; (with_reducible refine (impl_areLines_1.calls k1 (rdOf ByteArray.empty l0 x8_1) false _ A6.out).mono ?_); rintro e w' ⟨rfl, ⟨nd, rfl⟩⟩))
       go_roundg k1
       case measure => have := HK1.out; omega
       case rel => exact ⟨(wrap64 (x8_1 + 1)), zf, H', ⟨by have := HK1.out; omega⟩, by repeat (first | exact Drawn0.refl _ | apply Drawn0.step)⟩
     ·rw [if_neg c5] at H
      exact absurd H (by simp)
    ·rw [if_neg c4] at H
     exact absurd H (by simp)
   ·rw [if_neg c3] at H
    have c3b0 : decide (x8_1 < (l0.length : Int)) = false := decide_eq_false c3
    clear c3
    obtain rfl := Option.some.inj H
    go_wp2
    go_ret
    exact ⟨by first | rfl | (simp; done) | (simp [*]; done), by repeat (first | exact Drawn0.refl _ | apply Drawn0.step)⟩

def slices_ContainsFunc_string_string__impl_areLines_1.f (k : Nat) (l0 : List ByteArray)  : Option (Bool) := (slices_IndexFunc_string_string__impl_areLines_1.f k l0).bind fun t237 => (some (decide (t237 ≥ 0)))
set_option maxHeartbeats 8000000 in
set_option maxRecDepth 100000 in
theorem slices_ContainsFunc_string_string__impl_areLines_1.calls (k : Nat) (A0 : Option Addr) (c0 : Nat) (l0 : List ByteArray)  (r : Bool) (w : World) (hr0 : Kd.C Kd.string w A0 l0.length l0) (hc0 : l0.length ≤ c0) (h : slices_ContainsFunc_string_string__impl_areLines_1.f k l0 = some r) :
  Calls Try.prog 147 #[.slice A0 l0.length c0, .func (.func 148) #[] #[]] w fun e w' => e = .returned (.bool r) ∧ Drawn0 w w' := by
 have HR0 := am hr0
 have HC0 := am hc0
 clear hr0 hc0
 have H : ((slices_IndexFunc_string_string__impl_areLines_1.f k l0).bind fun t237 => (some (decide (t237 ≥ 0)))) = some r := h
 clear h
 replace H := Option.bind_eq_some_iff.mp H
 obtain ⟨t237, A30, H⟩ := H
 replace H : (some (decide (t237 ≥ 0))) = some r := H
 have A3 := am A30
 clear A30
 obtain rfl := Option.some.inj H
 go_enter Try.func147, Try.ntmps147
 go_wp2_with (first | ((with_reducible refine gateC (f := 157) rfl ?_); refine goesL_ (some 7) rfl rfl Try.func157 (by kernel_rfl) rfl #[.slice A0 l0.length c0, .func (.func 148) #[] #[]] rfl zm ?_; (with_reducible refine (slices_IndexFunc_string_string__impl_areLines_1.calls k _ _ l0  t237 _ ?side1 ?side2 A3.out).mono ?_); (case side1 => exact zq HR0.out); (case side2 => exact HC0.out); rintro e w' ⟨rfl, ⟨nd, rfl⟩⟩; refine ⟨_, rfl, ?_⟩))
 go_ret
 exact ⟨by first | rfl | (simp; done) | (simp [*]; done), by repeat (first | exact Drawn0.refl _ | apply Drawn0.step)⟩

def impl_areLines.f (k : Nat) (l0 : List ByteArray) : Option (Bool) := if (l0.length : Int) ≤ 40 then ((slices_ContainsFunc_string_string__impl_areLines_1.f k l0).bind fun t238 => (some (!t238))) else (some false)
set_option maxHeartbeats 8000000 in
set_option maxRecDepth 100000 in
theorem impl_areLines.calls (k : Nat) (A0 : Option Addr) (c0 : Nat) (l0 : List ByteArray) (r : Bool) (w : World) (hr0 : Kd.C Kd.string w A0 l0.length l0) (hc0 : l0.length ≤ c0) (h : impl_areLines.f k l0 = some r) :
  Calls Try.prog 125 #[.slice A0 l0.length c0] w fun e w' => e = .returned (.bool r) ∧ Drawn0 w w' := by
 have HR0 := am hr0
 have HC0 := am hc0
 clear hr0 hc0
 have H : (if (l0.length : Int) ≤ 40 then ((slices_ContainsFunc_string_string__impl_areLines_1.f k l0).bind fun t238 => (some (!t238))) else (some false)) = some r := h
 clear h
 by_cases c2 : (l0.length : Int) ≤ 40
 ·rw [if_pos c2] at H
  have c2b0 : decide ((l0.length : Int) ≤ 40) = true := decide_eq_true c2
  have c2b1 : decide (l0.length ≤ 40) = true := decide_eq_true (by omega)
  clear c2
  replace H := Option.bind_eq_some_iff.mp H
  obtain ⟨t238, A30, H⟩ := H
  replace H : (some (!t238)) = some r := H
  have A3 := am A30
  clear A30
  obtain rfl := Option.some.inj H
  go_enter Try.func125, Try.ntmps125
  go_wp2_with (first | (go_at_call 147; (with_reducible refine (slices_ContainsFunc_string_string__impl_areLines_1.calls k _ _ l0  t238 _ ?side1 ?side2 A3.out).mono ?_); (case side1 => exact zq HR0.out); (case side2 => exact HC0.out); rintro e w' ⟨rfl, ⟨nd, rfl⟩⟩))
  go_ret
  exact ⟨by first | rfl | (simp; done) | (simp [*]; done), by repeat (first | exact Drawn0.refl _ | apply Drawn0.step)⟩
 ·rw [if_neg c2] at H
  have c2b0 : decide ((l0.length : Int) ≤ 40) = false := decide_eq_false c2
  have c2b1 : decide (l0.length ≤ 40) = false := decide_eq_false (by omega)
  clear c2
  obtain rfl := Option.some.inj H
  go_enter Try.func125, Try.ntmps125
  go_wp2
  go_ret
  exact ⟨by first | rfl | (simp; done) | (simp [*]; done), by repeat (first | exact Drawn0.refl _ | apply Drawn0.step)⟩

def stringslite_HasSuffix.f (a0 : ByteArray) (a1 : ByteArray) : Option (Bool) := if (a0.size : Int) ≥ (a1.size : Int) then (if 0 ≤ (wrap64 ((a0.size : Int) - (a1.size : Int))) then (if (wrap64 ((a0.size : Int) - (a1.size : Int))) ≤ (a0.size : Int) then (some ((a0.extract ((wrap64 ((a0.size : Int) - (a1.size : Int))) : Int).toNat a0.size).toList == a1.toList)) else (none)) else (none)) else (some false)
set_option maxHeartbeats 8000000 in
set_option maxRecDepth 100000 in
theorem stringslite_HasSuffix.calls (a0 : ByteArray) (a1 : ByteArray) (r : Bool) (w : World) (h : stringslite_HasSuffix.f a0 a1 = some r) :
  Calls Try.prog 158 #[.string a0, .string a1] w fun e w' => e = .returned (.bool r) ∧ Drawn0 w w' := by
 have H : (if (a0.size : Int) ≥ (a1.size : Int) then (if 0 ≤ (wrap64 ((a0.size : Int) - (a1.size : Int))) then (if (wrap64 ((a0.size : Int) - (a1.size : Int))) ≤ (a0.size : Int) then (some ((a0.extract ((wrap64 ((a0.size : Int) - (a1.size : Int))) : Int).toNat a0.size).toList == a1.toList)) else (none)) else (none)) else (some false)) = some r := h
 clear h
 by_cases c3 : (a0.size : Int) ≥ (a1.size : Int)
 ·rw [if_pos c3] at H
  have c3b0 : decide ((a1.size : Int) ≤ (a0.size : Int)) = true := decide_eq_true c3
  have c3b1 : decide (a1.size ≤ a0.size) = true := decide_eq_true (Int.ofNat_le.mp c3)
  clear c3
  obtain ⟨ji4, hji4⟩ : ∃ j_ : Int, (wrap64 ((a0.size : Int) - (a1.size : Int))) = j_ := ⟨_, rfl⟩
  replace H : (if 0 ≤ (ji4) then (if (ji4) ≤ (a0.size : Int) then (some ((a0.extract ((ji4) : Int).toNat a0.size).toList == a1.toList)) else (none)) else (none)) = some r := by first | (rw [hji4] at H; exact H) | (simp only [hji4] at H ⊢; exact H)
  have hji4w : (IntKind.i64.wrap ((a0.size : Int) - (a1.size : Int))) = ji4 := (i64_w _).trans hji4
  by_cases c5 : 0 ≤ (ji4)
  ·rw [if_pos c5] at H
   have c5b0 := eq_true c5
   have c5b1 : decide (0 ≤ (ji4)) = true := decide_eq_true c5
   clear c5
   by_cases c6 : (ji4) ≤ (a0.size : Int)
   ·rw [if_pos c6] at H
    have c6b0 := eq_true c6
    have c6b1 : decide ((ji4) ≤ (a0.size : Int)) = true := decide_eq_true c6
    clear c6
    obtain rfl := Option.some.inj H
    go_enter Try.func158, Try.ntmps158
    go_wp2
    go_ret
    exact ⟨by first | rfl | (simp; done) | (simp only [← hji4] <;> (first | rfl | simp)) | (simp [*]; done), by repeat (first | exact Drawn0.refl _ | apply Drawn0.step)⟩
   ·rw [if_neg c6] at H
    exact absurd H (by simp)
  ·rw [if_neg c5] at H
   exact absurd H (by simp)
 ·rw [if_neg c3] at H
  have c3b0 : decide ((a1.size : Int) ≤ (a0.size : Int)) = false := decide_eq_false c3
  have c3b1 : decide (a1.size ≤ a0.size) = false := decide_eq_false (fun h => c3 (Int.ofNat_le.mpr h))
  clear c3
  obtain rfl := Option.some.inj H
  go_enter Try.func158, Try.ntmps158
  go_wp2
  go_ret
  exact ⟨by first | rfl | (simp; done) | (simp [*]; done), by repeat (first | exact Drawn0.refl _ | apply Drawn0.step)⟩

def strings_HasSuffix.f (a0 : ByteArray) (a1 : ByteArray) : Option (Bool) := (stringslite_HasSuffix.f a0 a1).bind fun t239 => (some t239)
set_option maxHeartbeats 8000000 in
set_option maxRecDepth 100000 in
theorem strings_HasSuffix.calls (a0 : ByteArray) (a1 : ByteArray) (r : Bool) (w : World) (h : strings_HasSuffix.f a0 a1 = some r) :
  Calls Try.prog 149 #[.string a0, .string a1] w fun e w' => e = .returned (.bool r) ∧ Drawn0 w w' := by
 have H : ((stringslite_HasSuffix.f a0 a1).bind fun t239 => (some t239)) = some r := h
 clear h
 replace H := Option.bind_eq_some_iff.mp H
 obtain ⟨t239, A30, H⟩ := H
 replace H : (some t239) = some r := H
 have A3 := am A30
 clear A30
 obtain rfl := Option.some.inj H
 go_enter Try.func149, Try.ntmps149
 go_wp2_with (first | ((with_reducible refine gateC (f := 158) rfl ?_); refine goesL_ (some 7) rfl rfl Try.func158 (by kernel_rfl) rfl #[.string a0, .string a1] rfl zm ?_; (with_reducible refine (stringslite_HasSuffix.calls a0 a1 t239 _ A3.out).mono ?_); rintro e w' ⟨rfl, ⟨nd, rfl⟩⟩; refine ⟨_, rfl, ?_⟩))
 go_ret
 exact ⟨by first | rfl | (simp; done) | (simp [*]; done), by repeat (first | exact Drawn0.refl _ | apply Drawn0.step)⟩

def impl_isEnded.f (a0 : ByteArray) : Option (Bool) := (strings_HasSuffix.f a0 (⟨#[10]⟩ : ByteArray)).bind fun t240 => (some t240)
set_option maxHeartbeats 8000000 in
set_option maxRecDepth 100000 in
theorem impl_isEnded.calls (a0 : ByteArray) (r : Bool) (w : World) (h : impl_isEnded.f a0 = some r) :
  Calls Try.prog 126 #[.string a0] w fun e w' => e = .returned (.bool r) ∧ Drawn0 w w' := by
 have H : ((strings_HasSuffix.f a0 (⟨#[10]⟩ : ByteArray)).bind fun t240 => (some t240)) = some r := h
 clear h
 replace H := Option.bind_eq_some_iff.mp H
 obtain ⟨t240, A20, H⟩ := H
 replace H : (some t240) = some r := H
 have A2 := am A20
 clear A20
 obtain rfl := Option.some.inj H
 go_enter Try.func126, Try.ntmps126
 go_wp2_with (first | ((with_reducible refine gateC (f := 149) rfl ?_); refine goesL_ (some 4) rfl rfl Try.func149 (by kernel_rfl) rfl #[.string a0, .string (⟨#[10]⟩ : ByteArray)] rfl zm ?_; (with_reducible refine (strings_HasSuffix.calls a0 (⟨#[10]⟩ : ByteArray) t240 _ A2.out).mono ?_); rintro e w' ⟨rfl, ⟨nd, rfl⟩⟩; refine ⟨_, rfl, ?_⟩))
 go_ret
 exact ⟨by first | rfl | (simp; done) | (simp [*]; done), by repeat (first | exact Drawn0.refl _ | apply Drawn0.step)⟩
end Go.Proofs.Ytmcldkobejhaeaa.My