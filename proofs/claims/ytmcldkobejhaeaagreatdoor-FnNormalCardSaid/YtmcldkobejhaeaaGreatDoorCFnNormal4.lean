/- Part 4 of 7 of a proof of this sentence: The Go function loop.example/g00825/laws.FnNormal returns true for every input, and each argument reads afterwards as it read before. No condition. -/
import Derived.Test.YtmcldkobejhaeaaGreatDoorCFnNormal3
namespace Go.Proofs.YtmcldkobejhaeaaGreatDoor.My
open Go.RowKit Go.Proofs.YtmcldkobejhaeaaGreatDoorW.PrintWords Go.Proofs.YtmcldkobejhaeaaGreatDoorW.PrintLast Go.Proofs.YtmcldkobejhaeaaGreatDoorW.PrintMore
attribute [local go_sem] max2_int min2_int max_two min_two max_three min_three max_four min_four
set_option linter.unusedVariables false
set_option linter.unusedSimpArgs false
mutual
def spec_l5Hunks.l0 : Nat → List ByteArray → List (S52) → List (S60) → List (S52) → Int → Int → Option ((List (S60)) × Int)
 | 0, _, _, _, _, _, _ => none
 | k + 1, x0, x1, x6, x13, x14, x15 => if x15 < x14 then (if 0 ≤ x15 then (if x15 < (x13.length : Int) then (if ((T52 x13 x15).f1) > (x0.length : Int) then (some (([] : List (S60)), 3)) else ((spec_l5Base.f ((T52 x13 x15).f0) ((T52 x13 x15).f2)).bind fun t962 => ((spec_l1OwnT.f ((T52 x13 x15).f5)).bind fun t963 => (if x6.length < 3518437208883 then (spec_l5Hunks.l0 k x0 x1 (x6 ++ [(⟨t962, (((T52 x13 x15).f2).length : Int), t963⟩ : S60)]) x13 x14 (wrap64 (x15 + 1))) else (none))))) else (none)) else (none)) else ((spec_l2Hunks.f k (x0.length : Int) x6).bind fun t969 => (if t969 = true then (spec_l5Hunks.l1 k x0 x6 0 x1 (x1.length : Int) 0) else (some (([] : List (S60)), 3))))
def spec_l5Hunks.l1 : Nat → List ByteArray → List (S60) → Int → List (S52) → Int → Int → Option ((List (S60)) × Int)
 | 0, _, _, _, _, _, _ => none
 | k + 1, x0, x6, x9, x45, x46, x47 => if x47 < x46 then (if 0 ≤ x47 then (if x47 < (x45.length : Int) then (if x47 < (x6.length : Int) then (if 0 ≤ ((T60 x6 x47).f0) then (if ((T60 x6 x47).f0) ≤ (wrap64 (((T60 x6 x47).f0) + ((T60 x6 x47).f1))) then (if (wrap64 (((T60 x6 x47).f0) + ((T60 x6 x47).f1))) ≤ (x0.length : Int) then ((spec_l1SameT.f k ((x0.take ((wrap64 (((T60 x6 x47).f0) + ((T60 x6 x47).f1))) : Int).toNat).drop (((T60 x6 x47).f0) : Int).toNat) ((T52 x45 x47).f2)).bind fun t975 => (if t975 = true then ((spec_l5Base.f ((T52 x45 x47).f3) ((T52 x45 x47).f5)).bind fun t976 => (if t976 = (wrap64 (((T60 x6 x47).f0) + x9)) then (spec_l5Hunks.l1 k x0 x6 (wrap64 (x9 + (wrap64 ((((T52 x45 x47).f5).length : Int) - ((T60 x6 x47).f1))))) x45 x46 (wrap64 (x47 + 1))) else (some (([] : List (S60)), 2)))) else (some (([] : List (S60)), 2)))) else (none)) else (none)) else (none)) else (none)) else (none)) else (none)) else (some (x6, 0))
end
def spec_l5Hunks.f (k : Nat) (l0 : List ByteArray) (l1 : List (S52)) : Option ((List (S60)) × Int) := spec_l5Hunks.l0 k l0 l1 ([] : List (S60)) l1 (l1.length : Int) 0
def spec_l5Hunks.T7 : Bool × List (List Nat × List Nat) := (true, [([], []), ([], []), ([1], [1]), ([], []), ([3], [3]), ([2, 4], [2, 4]), ([], []), ([6], [6]), ([7], [7]), ([], []), ([9], [9]), ([10, 5], [10]), ([5, 8, 11], [5, 8, 11]), ([12], [12]), ([0, 13, 11], [0, 13]), ([14, 14, 0, 1, 2, 3, 4, 5, 6, 7, 8, 9, 10, 11, 12, 13, 14], [0, 14])])
def spec_l5Hunks.B7 : List Nat := [0, 0, 2, 0, 8, 30, 0, 64, 192, 0, 512, 1598, 4094, 8190, 16383, 32767]
theorem spec_l5Hunks.tab7 : rtab .any (opsOf Tryz.f43 7) = spec_l5Hunks.T7 := by kernel_rfl
theorem spec_l5Hunks.bits7 : waitsOk spec_l5Hunks.T7.2 spec_l5Hunks.B7 = true := by kernel_rfl
def spec_l5Hunks.T16 : Bool × List (List Nat × List Nat) := (true, [([], []), ([], []), ([1], [1]), ([], []), ([3], [3]), ([], []), ([5], [5]), ([4, 6], [4, 6]), ([0, 2, 7], [0, 2, 7]), ([], []), ([9], [9]), ([8, 10], [8, 10]), ([11], [11]), ([12, 11], [12]), ([13], [13]), ([14, 13], [13, 14]), ([13], [13]), ([16, 13], [13, 16]), ([15, 17, 13, 13], [13, 15, 17]), ([13], [13]), ([19, 13], [13, 19]), ([13], [13]), ([20, 21, 13], [13, 20, 21]), ([18, 22, 13], [13, 18, 22]), ([13, 23], [13, 23])])
def spec_l5Hunks.B16 : List Nat := [0, 0, 2, 0, 8, 0, 32, 120, 255, 0, 512, 2047, 4095, 8191, 16383, 32767, 16383, 81919, 262143, 16383, 540671, 16383, 3686399, 8388607, 16777215]
theorem spec_l5Hunks.tab16 : rtab .any (opsOf Tryz.f43 16) = spec_l5Hunks.T16 := by kernel_rfl
theorem spec_l5Hunks.bits16 : waitsOk spec_l5Hunks.T16.2 spec_l5Hunks.B16 = true := by kernel_rfl
set_option maxHeartbeats 8000000 in
set_option maxRecDepth 100000 in
theorem spec_l5Hunks.calls (k : Nat) (A0 : Option Addr) (c0 : Nat) (l0 : List ByteArray) (A1 : Option Addr) (c1 : Nat) (l1 : List (S52)) (r1 : List (S60)) (r2 : Int) (w : World) (hr0 : Kd.C Kd.string w A0 l0.length l0) (hc0 : l0.length ≤ c0) (hr1 : Kd.C k52 w A1 l1.length l1) (hc1 : l1.length ≤ c1) (h : spec_l5Hunks.f k l0 l1 = some (r1, r2)) :
  Calls Tryz.prog 43 #[.slice A0 l0.length c0, .slice A1 l1.length c1] w fun e w' => ∃ v0_ : Value, e = .returned (.tuple #[v0_, .int .i64 r2]) ∧ Kd.S k60 60 w' w.heap.size (fun _ => True) v0_ r1 ∧ Below w.heap.size w w' := by
 have hu52 := Tryz.underlying52
 have hu60 := Tryz.underlying60
 have HR0 := am hr0
 have HC0 := am hc0
 clear hr0 hc0
 have HR1 := am hr1
 have HC1 := am hc1
 clear hr1 hc1
 have HB := am (Below.refl w.heap.size w)
 have H := h
 clear h
 unfold spec_l5Hunks.f at H
 have H' := am H
 clear H
 go_enter Tryz.func43, Tryz.ntmps43
 go_wp2
 go_loopg [6, 15] k (fun kq v6 v15 w' => ∃ (x6_1 : List (S60)) (x15_1 : Int), v15 = .int .i64 x15_1 ∧ Aside0 (spec_l5Hunks.l0 kq l0 l1 x6_1 l1 (l1.length : Int) x15_1 = some (r1, r2)) ∧ Aside0 (kq ≤ k) ∧ Aside0 (Kd.S k60 60 w' w.heap.size (fun _ => True) v6 x6_1) ∧ Aside0 (Below w.heap.size w w'))
 case atStart => exact ⟨(([] : List (S60))), (0), zf, H', ⟨Nat.le_refl _⟩, ⟨by exact Kd.S_nil _ _ _ _ _⟩, ⟨zb⟩⟩
 case round =>
  clear H'
  obtain ⟨x6_1, x15_1, rfl, HA, HK1, HO_6, HB⟩ := hrel
  cases gk with
  | zero => exact absurd HA.out (by simp [spec_l5Hunks.l0])
  | succ k1 =>
   have H := HA.out
   clear HA
   simp only [spec_l5Hunks.l0] at H
   by_cases c3 : x15_1 < (l1.length : Int)
   ·rw [if_pos c3] at H
    have c3b0 : decide (x15_1 < (l1.length : Int)) = true := decide_eq_true c3
    clear c3
    obtain ⟨c4, H⟩ := itn H
    have c4b0 := decide_eq_true c4
    clear c4
    obtain ⟨c5, H⟩ := itn H
    have c5b0 := decide_eq_true c5
    clear c5
    by_cases c6 : ((T52 l1 x15_1).f1) > (l0.length : Int)
    ·rw [if_pos c6] at H
     have c6b0 : decide ((l0.length : Int) < ((T52 l1 x15_1).f1)) = true := decide_eq_true c6
     clear c6
     simp only [Option.some.injEq, Prod.mk.injEq] at H
     obtain ⟨rfl, rfl⟩ := H
     have p960 : 0 ≤ (x15_1 : Int) := oa
     have q960 : x15_1 < (l1.length : Int) := oa
     obtain ⟨ad960, A960_2, c960_2, A960_5, c960_5, e960, hx960_0, hx960_1, hx960_2, hx960_3, hx960_4, hx960_5, hl960_2, hi960_2, hl960_5, hi960_5⟩ := at_T52 HR1.out x15_1 p960 q960
     cases e960
     replace hx960_0 := bc HB.out hx960_0
     replace hx960_1 := bc HB.out hx960_1
     replace hx960_2 := bc HB.out hx960_2
     replace hx960_3 := bc HB.out hx960_3
     replace hx960_4 := bc HB.out hx960_4
     replace hx960_5 := bc HB.out hx960_5
     have HR960_2 := am hi960_2
     have HC960_2 := am hl960_2
     clear hi960_2 hl960_2
     have HR960_5 := am hi960_5
     have HC960_5 := am hl960_5
     clear hi960_5 hl960_5
     replace p960 := eq_true p960
     replace q960 := eq_true q960
     go_wp2_with (((with_reducible refine gate_dst (N := 8) rfl ?_); refine box_event ?hg (N := 8) ?hd (cs := #[.int .i64 0, .int .i64 0, .slice none 0 0, .int .i64 0, .int .i64 0, .slice none 0 0]) (t := 52) ?hr ?_; (case hd => rfl); (case hg => rfl); (case hr => (go_simp; done)); intro gb961 hg w7 hbox hb; replace HO_6 := am (Kd.S_below (zs HO_6.out) hb); have BK961 := am (hbox); have GW961 := am ((by rw [hg]; exact (below_size zb) : w.heap.size ≤ gb961)); have GE961 := am ((by rw [hg]; exact (below_size zb) : w.heap.size ≤ gb961)); replace HB := am (below_step zb hb); clear hb hbox hg; obtain ⟨hcz8_0, hcz8_1, hcz8_2, hcz8_3, hcz8_4, hcz8_5⟩ := cz6 BK961.out; obtain ⟨hfz8_0, hfz8_1, hfz8_2, hfz8_3, hfz8_4, hfz8_5⟩ := fz6 BK961.out))
     go_ret2
     exact ⟨_, by rfl, by exact Kd.S_nil _ _ _ _ _, zw⟩
    ·rw [if_neg c6] at H
     have c6b0 : decide ((l0.length : Int) < ((T52 l1 x15_1).f1)) = false := decide_eq_false c6
     clear c6
     replace H := Option.bind_eq_some_iff.mp H
     obtain ⟨t962, A90, H⟩ := H
     replace H : ((spec_l1OwnT.f ((T52 l1 x15_1).f5)).bind fun t963 => (if x6_1.length < 3518437208883 then (spec_l5Hunks.l0 k1 l0 l1 (x6_1 ++ [(⟨t962, (((T52 l1 x15_1).f2).length : Int), t963⟩ : S60)]) l1 (l1.length : Int) (wrap64 (x15_1 + 1))) else (none))) = some (r1, r2) := H
     have A9 := am A90
     clear A90
     replace H := Option.bind_eq_some_iff.mp H
     obtain ⟨t963, A100, H⟩ := H
     replace H : (if x6_1.length < 3518437208883 then (spec_l5Hunks.l0 k1 l0 l1 (x6_1 ++ [(⟨t962, (((T52 l1 x15_1).f2).length : Int), t963⟩ : S60)]) l1 (l1.length : Int) (wrap64 (x15_1 + 1))) else (none)) = some (r1, r2) := H
     have A10 := am A100
     clear A100
     obtain ⟨c11, H⟩ := itn H
     have LMc11 := am c11
     clear c11
     obtain ⟨y966, hy966⟩ : ∃ y_ : List (S60), y_ = (x6_1 ++ [(⟨t962, (((T52 l1 x15_1).f2).length : Int), t963⟩ : S60)]) := ⟨_, rfl⟩
     rw [← hy966] at H
     have Ny966 := am hy966
     clear hy966
     have H' := am H
     clear H
     have p960 : 0 ≤ (x15_1 : Int) := oa
     have q960 : x15_1 < (l1.length : Int) := oa
     obtain ⟨ad960, A960_2, c960_2, A960_5, c960_5, e960, hx960_0, hx960_1, hx960_2, hx960_3, hx960_4, hx960_5, hl960_2, hi960_2, hl960_5, hi960_5⟩ := at_T52 HR1.out x15_1 p960 q960
     cases e960
     replace hx960_0 := bc HB.out hx960_0
     replace hx960_1 := bc HB.out hx960_1
     replace hx960_2 := bc HB.out hx960_2
     replace hx960_3 := bc HB.out hx960_3
     replace hx960_4 := bc HB.out hx960_4
     replace hx960_5 := bc HB.out hx960_5
     have HR960_2 := am hi960_2
     have HC960_2 := am hl960_2
     clear hi960_2 hl960_2
     have HR960_5 := am hi960_5
     have HC960_5 := am hl960_5
     clear hi960_5 hl960_5
     replace p960 := eq_true p960
     replace q960 := eq_true q960
     try go_wp2_with (((with_reducible refine gate_dst (N := 8) rfl ?_); refine box_event ?hg (N := 8) ?hd (cs := #[.int .i64 0, .int .i64 0, .slice none 0 0, .int .i64 0, .int .i64 0, .slice none 0 0]) (t := 52) ?hr ?_; (case hd => rfl); (case hg => rfl); (case hr => (go_simp; done)); intro gb961 hg w12 hbox hb; replace HO_6 := am (Kd.S_below (zs HO_6.out) hb); have BK961 := am (hbox); have GW961 := am ((by rw [hg]; exact (below_size zb) : w.heap.size ≤ gb961)); have GE961 := am ((by rw [hg]; exact (below_size zb) : w.heap.size ≤ gb961)); replace HB := am (below_step zb hb); clear hb hbox hg; obtain ⟨hcz13_0, hcz13_1, hcz13_2, hcz13_3, hcz13_4, hcz13_5⟩ := cz6 BK961.out; obtain ⟨hfz13_0, hfz13_1, hfz13_2, hfz13_3, hfz13_4, hfz13_5⟩ := fz6 BK961.out))
     have n0_ : Aside0 (Kd.S k60 60 ((((((w12.setCell ⟨gb961, 0, none⟩ (.int .i64 ((T52 l1 x15_1).f0))).setCell ⟨gb961, 1, none⟩ (.int .i64 ((T52 l1 x15_1).f1))).setCell ⟨gb961, 2, none⟩ (.slice A960_2 ((T52 l1 x15_1).f2).length c960_2)).setCell ⟨gb961, 3, none⟩ (.int .i64 ((T52 l1 x15_1).f3))).setCell ⟨gb961, 4, none⟩ (.int .i64 ((T52 l1 x15_1).f4))).setCell ⟨gb961, 5, none⟩ (.slice A960_5 ((T52 l1 x15_1).f5).length c960_5)) w.heap.size (fun _ => True) u6 x6_1) := ⟨by exact Kd.S_mono (Kd.S_far (p := ⟨gb961, 5, none⟩) (Kd.S_far (p := ⟨gb961, 4, none⟩) (Kd.S_far (p := ⟨gb961, 3, none⟩) (Kd.S_far (p := ⟨gb961, 2, none⟩) (Kd.S_far (p := ⟨gb961, 1, none⟩) (Kd.S_far (p := ⟨gb961, 0, none⟩) (Kd.S_types HO_6.out BK961.out (by decide)) (fun _ hk => hk.2) (.int .i64 ((T52 l1 x15_1).f0))) (fun _ hk => hk.2) (.int .i64 ((T52 l1 x15_1).f1))) (fun _ hk => hk.2) (.slice A960_2 ((T52 l1 x15_1).f2).length c960_2)) (fun _ hk => hk.2) (.int .i64 ((T52 l1 x15_1).f3))) (fun _ hk => hk.2) (.int .i64 ((T52 l1 x15_1).f4))) (fun _ hk => hk.2) (.slice A960_5 ((T52 l1 x15_1).f5).length c960_5)) (fun _ hk => trivial)⟩
     have n1_ : Aside0 (((((((w12.setCell ⟨gb961, 0, none⟩ (.int .i64 ((T52 l1 x15_1).f0))).setCell ⟨gb961, 1, none⟩ (.int .i64 ((T52 l1 x15_1).f1))).setCell ⟨gb961, 2, none⟩ (.slice A960_2 ((T52 l1 x15_1).f2).length c960_2)).setCell ⟨gb961, 3, none⟩ (.int .i64 ((T52 l1 x15_1).f3))).setCell ⟨gb961, 4, none⟩ (.int .i64 ((T52 l1 x15_1).f4))).setCell ⟨gb961, 5, none⟩ (.slice A960_5 ((T52 l1 x15_1).f5).length c960_5)).heap[gb961]? = some (.cells #[.int .i64 ((T52 l1 x15_1).f0), .int .i64 ((T52 l1 x15_1).f1), .slice A960_2 ((T52 l1 x15_1).f2).length c960_2, .int .i64 ((T52 l1 x15_1).f3), .int .i64 ((T52 l1 x15_1).f4), .slice A960_5 ((T52 l1 x15_1).f5).length c960_5] 52 (0, 0))) := ⟨by refine blk_put (cs := #[.int .i64 ((T52 l1 x15_1).f0), .int .i64 ((T52 l1 x15_1).f1), .slice A960_2 ((T52 l1 x15_1).f2).length c960_2, .int .i64 ((T52 l1 x15_1).f3), .int .i64 ((T52 l1 x15_1).f4), .slice none 0 0]) ?_ 5 _ rfl; refine blk_put (cs := #[.int .i64 ((T52 l1 x15_1).f0), .int .i64 ((T52 l1 x15_1).f1), .slice A960_2 ((T52 l1 x15_1).f2).length c960_2, .int .i64 ((T52 l1 x15_1).f3), .int .i64 0, .slice none 0 0]) ?_ 4 _ rfl; refine blk_put (cs := #[.int .i64 ((T52 l1 x15_1).f0), .int .i64 ((T52 l1 x15_1).f1), .slice A960_2 ((T52 l1 x15_1).f2).length c960_2, .int .i64 0, .int .i64 0, .slice none 0 0]) ?_ 3 _ rfl; refine blk_put (cs := #[.int .i64 ((T52 l1 x15_1).f0), .int .i64 ((T52 l1 x15_1).f1), .slice none 0 0, .int .i64 0, .int .i64 0, .slice none 0 0]) ?_ 2 _ rfl; refine blk_put (cs := #[.int .i64 ((T52 l1 x15_1).f0), .int .i64 0, .slice none 0 0, .int .i64 0, .int .i64 0, .slice none 0 0]) ?_ 1 _ rfl; refine blk_put (cs := #[.int .i64 0, .int .i64 0, .slice none 0 0, .int .i64 0, .int .i64 0, .slice none 0 0]) ?_ 0 _ rfl; exact BK961.out⟩
     have n2_ : Aside0 (Below w.heap.size w ((((((w12.setCell ⟨gb961, 0, none⟩ (.int .i64 ((T52 l1 x15_1).f0))).setCell ⟨gb961, 1, none⟩ (.int .i64 ((T52 l1 x15_1).f1))).setCell ⟨gb961, 2, none⟩ (.slice A960_2 ((T52 l1 x15_1).f2).length c960_2)).setCell ⟨gb961, 3, none⟩ (.int .i64 ((T52 l1 x15_1).f3))).setCell ⟨gb961, 4, none⟩ (.int .i64 ((T52 l1 x15_1).f4))).setCell ⟨gb961, 5, none⟩ (.slice A960_5 ((T52 l1 x15_1).f5).length c960_5))) := ⟨zw⟩
     (try clear HO_6)
     (try clear BK961)
     (try clear HB)
     generalize ((((((w12.setCell ⟨gb961, 0, none⟩ (.int .i64 ((T52 l1 x15_1).f0))).setCell ⟨gb961, 1, none⟩ (.int .i64 ((T52 l1 x15_1).f1))).setCell ⟨gb961, 2, none⟩ (.slice A960_2 ((T52 l1 x15_1).f2).length c960_2)).setCell ⟨gb961, 3, none⟩ (.int .i64 ((T52 l1 x15_1).f3))).setCell ⟨gb961, 4, none⟩ (.int .i64 ((T52 l1 x15_1).f4))).setCell ⟨gb961, 5, none⟩ (.slice A960_5 ((T52 l1 x15_1).f5).length c960_5)) = w14 at n0_ n1_ n2_ ⊢
     have HO_6 := n0_
     have BK961 := n1_
     have HB := n2_
     clear n0_ n1_ n2_
     replace HO_6 := am (Kd.S_drew HO_6.out)
     replace BK961 := am (blk_drew BK961.out)
     replace HB := am (below_drew1 HB.out)
     refine start_ (n := 16) (S := fun w' => w'.cell? ⟨gb961, 0, none⟩ = some (.int .i64 ((T52 l1 x15_1).f0)) ∧ w'.cell? ⟨gb961, 1, none⟩ = some (.int .i64 ((T52 l1 x15_1).f1)) ∧ w'.cell? ⟨gb961, 2, none⟩ = some (.slice A960_2 ((T52 l1 x15_1).f2).length c960_2) ∧ w'.cell? ⟨gb961, 3, none⟩ = some (.int .i64 ((T52 l1 x15_1).f3)) ∧ w'.cell? ⟨gb961, 4, none⟩ = some (.int .i64 ((T52 l1 x15_1).f4)) ∧ w'.cell? ⟨gb961, 5, none⟩ = some (.slice A960_5 ((T52 l1 x15_1).f5).length c960_5)) (ds := []) #[O,O,O,O,O,O,O,O,O,O,O,O,O,O,O,O] (by kernel_rfl) rfl rfl ⟨(blk_cell BK961.out 0).trans rfl, (blk_cell BK961.out 1).trans rfl, (blk_cell BK961.out 2).trans rfl, (blk_cell BK961.out 3).trans rfl, (blk_cell BK961.out 4).trans rfl, (blk_cell BK961.out 5).trans rfl⟩ (fun hHeld => ?_); refine with_tabW spec_l5Hunks.tab7 spec_l5Hunks.bits7 (fun HT_ HW_ => ?_)
     generalize w14.drew = w15 at HO_6 BK961 HB hHeld ⊢
     refine pu 0 (some 24) ?_
     refine pu 1 (some 25) ?_
     refine pu 3 (some 27) ?_
     refine pu 6 (some 30) ?_
     refine pu 9 (some 33) ?_
     refine ta 2 (some 26) ?_
     refine ta 4 (some 28) ?_
     refine ta 7 (some 31) ?_
     refine pu 8 (some 32) ?_
     refine ta 10 (some 34) ?_
     refine one_ (i := 5) (N := some 29) #[Y,Y,Y,Y,Y,Y,Y,Y,Y,Y,Y,O,O,O,O,O] rfl rfl (one_of HT_.out (by kernel_rfl)) (by decide) (fun K hK => ?_)
     refine goes_ Tryz.func74 (by kernel_rfl) rfl #[.int .i64 ((T52 l1 x15_1).f0), .slice A960_2 ((T52 l1 x15_1).f2).length c960_2] (by rfl) rfl rfl zm ?_
     with_reducible refine (spec_l5Base.calls ((T52 l1 x15_1).f0) _ _ ((T52 l1 x15_1).f2) t962 _ ?side1 ?side2 A9.out).mono ?_
     (case side1 => exact zq (Kd.C_below HR960_2.out HB.out))
     (case side2 => exact HC960_2.out)
     rintro e w' ⟨rfl, ⟨nd, rfl⟩⟩
     refine ⟨_, rfl, ?_⟩
     refine hK.out _ _ ⟨(blk_cell BK961.out 0).trans rfl, (blk_cell BK961.out 1).trans rfl, (blk_cell BK961.out 2).trans rfl, (blk_cell BK961.out 3).trans rfl, (blk_cell BK961.out 4).trans rfl, (blk_cell BK961.out 5).trans rfl⟩ (fun hHeld => ?_)
     clear hK K
     refine norm_ (a' := ?_) ?_ ?_
     rotate_left
     ·show Act.put _ (some 29) _ = _
      simp only [Act.put,qa,qb,qc,i64_w,i32_w]
      rfl
     refine one_ (i := 11) (N := some 35) #[Y,Y,Y,Y,Y,Y,Y,Y,Y,Y,Y,Y,O,O,O,O] rfl rfl (one_of HT_.out (by kernel_rfl)) (by decide) (fun K hK => ?_)
     refine goes_ Tryz.func48 (by kernel_rfl) rfl #[.slice A960_5 ((T52 l1 x15_1).f5).length c960_5] (by rfl) rfl rfl zm ?_
     with_reducible refine (spec_l1OwnT.calls _ _ ((T52 l1 x15_1).f5) t963 _ ?side1 ?side2 A10.out).mono ?_
     (case side1 => repeat (exact (Kd.C_below HR960_5.out zw)))
     (case side2 => exact HC960_5.out)
     rintro e w16 ⟨v964, rfl, ho0, hb⟩
     refine ⟨_, rfl, ?_⟩
     replace HO_6 := am (Kd.S_elder' (zs HO_6.out) (Kd.R_base ho0) hb)
     have HO965 := am (Kd.R_lower ho0 (below_size zw))
     replace BK961 := am (blk_below (g := gb961) (o := .cells #[.int .i64 ((T52 l1 x15_1).f0), .int .i64 ((T52 l1 x15_1).f1), .slice A960_2 ((T52 l1 x15_1).f2).length c960_2, .int .i64 ((T52 l1 x15_1).f3), .int .i64 ((T52 l1 x15_1).f4), .slice A960_5 ((T52 l1 x15_1).f5).length c960_5] 52 (0, 0)) (zk BK961.out) hb)
     replace HB := am (below_step zw hb)
     (try clear hb)
     (try clear ho0)
     obtain ⟨Ao17, co17, eo17⟩ := Kd.R_slice HO965.out
     (subst eo17)
     refine hK.out _ _ ⟨(blk_cell BK961.out 0).trans rfl, (blk_cell BK961.out 1).trans rfl, (blk_cell BK961.out 2).trans rfl, (blk_cell BK961.out 3).trans rfl, (blk_cell BK961.out 4).trans rfl, (blk_cell BK961.out 5).trans rfl⟩ (fun hHeld => ?_)
     clear hK K
     refine norm_ (a' := ?_) ?_ ?_
     rotate_left
     ·show Act.put _ (some 35) _ = _
      simp only [Act.put,qa,qb,qc,i64_w,i32_w]
      rfl
     refine pu 12 (some 36) ?_
     refine one_ (i := 13) (N := some 37) #[Y,Y,Y,Y,Y,Y,Y,Y,Y,Y,Y,Y,Y,Y,O,O] rfl rfl (one_of HT_.out (by kernel_rfl)) (by decide) (fun K hK => ?_)
     refine value_ (w1 := ?_) (v := ?_) (by rfl) rfl ?_ ?_
     rotate_left 2
     ·go_simp
      constructor
      ·rfl
      ·rfl
     refine hK.out _ _ ⟨(blk_cell (blk_alloc BK961.out _) 0).trans rfl, (blk_cell (blk_alloc BK961.out _) 1).trans rfl, (blk_cell (blk_alloc BK961.out _) 2).trans rfl, (blk_cell (blk_alloc BK961.out _) 3).trans rfl, (blk_cell (blk_alloc BK961.out _) 4).trans rfl, (blk_cell (blk_alloc BK961.out _) 5).trans rfl⟩ (fun hHeld => ?_)
     clear hK K
     refine norm_ (a' := ?_) ?_ ?_
     rotate_left
     ·show Act.put _ (some 37) _ = _
      simp only [Act.put,qa,qb,qc,i64_w,i32_w]
      rfl
     refine one_ (i := 14) (N := some 38) #[Y,Y,Y,Y,Y,Y,Y,Y,Y,Y,Y,Y,Y,Y,Y,O] rfl rfl (one_of HT_.out (by kernel_rfl)) (by decide) (fun K hK => ?_)
     refine Kd.S_append_step k60 (w0 := w) w.heap.size (by rfl) (.tmp 24) (.tmp 37) 25 60 (.agg #[(.int .i64 0), (.int .i64 0), (.slice none 0 0)]) 40 rfl Tryz.underlying25 info60 rfl (by decide) (by omega) u6 x6_1 (⟨t962, (((T52 l1 x15_1).f2).length : Int), t963⟩ : S60) [.int .i64 t962, .int .i64 (((T52 l1 x15_1).f2).length : Int), .slice Ao17 t963.length co17] (fun _ => True) (fun k_ => some k_ = (.slice Ao17 t963.length co17 : Value).ownBlock) rfl rfl ?aP (fun k_ hk_ => ((Kd.R_mono (ok' := fun k_ => ((fun _ => True)) k_ ∧ some k_ ≠ (u6 : Value).ownBlock) (Kd.R_apart' (HO965.out) (Kd.S_typed HO_6.out) (by decide)) (fun k_ hk => ⟨trivial, hk.2⟩))).1 k_ hk_.symm) ?aF ?aO ?aB ?aS ?aL ?_
     (case aP => exact k60_mkM _ _ _ (⟨t962, (((T52 l1 x15_1).f2).length : Int), t963⟩ : S60) (Kd.R_mono (Kd.R_tight rfl (Kd.R_mono (ok' := fun k_ => ((fun _ => True)) k_ ∧ some k_ ≠ (u6 : Value).ownBlock) (Kd.R_apart' (HO965.out) (Kd.S_typed HO_6.out) (by decide)) (fun k_ hk => ⟨trivial, hk.2⟩))) (fun _ h_ => h_)))
     (case aB => exact zw)
     (case aF => exact (fun _ _ => trivial))
     (case aO => exact (by exact Kd.S_mono HO_6.out (fun k_ hk => ⟨trivial, fun e_ => hk.2 e_⟩)))
     (case aS => exact (below_size zw))
     (case aL => have := LMc11.out; omega)
     intro v967 w18 ho hb hg hat
     rw [← Ny966.out] at ho
     replace BK961 := am (blk_grown (g := gb961) (o := .cells #[.int .i64 ((T52 l1 x15_1).f0), .int .i64 ((T52 l1 x15_1).f1), .slice A960_2 ((T52 l1 x15_1).f2).length c960_2, .int .i64 ((T52 l1 x15_1).f3), .int .i64 ((T52 l1 x15_1).f4), .slice A960_5 ((T52 l1 x15_1).f5).length c960_5] 52 (0, 0)) (zk BK961.out) hg (Kd.S_ne HO_6.out BK961.out (by decide)))
     replace HB := am (hb)
     have HO968 := am (ho)
     clear HO_6
     clear HO965
     clear ho hb hg hat
     refine hK.out _ _ ⟨(blk_cell BK961.out 0).trans rfl, (blk_cell BK961.out 1).trans rfl, (blk_cell BK961.out 2).trans rfl, (blk_cell BK961.out 3).trans rfl, (blk_cell BK961.out 4).trans rfl, (blk_cell BK961.out 5).trans rfl⟩ (fun hHeld => ?_)
     clear hK K
     refine norm_ (a' := ?_) ?_ ?_
     rotate_left
     ·show Act.put _ (some 38) _ = _
      simp only [Act.put,qa,qb,qc,i64_w,i32_w]
      rfl
     refine pu 15 (some 6) ?_
     refine done_ (done_of HT_.out (by kernel_rfl)) ?_
     try go_wp2
     go_roundg k1
     case measure => have := HK1.out; omega
     case rel => exact ⟨(y966), (wrap64 (x15_1 + 1)), zf, H', ⟨by have := HK1.out; omega⟩, ⟨zs HO968.out⟩, ⟨zw⟩⟩
   ·rw [if_neg c3] at H
    have c3b0 : decide (x15_1 < (l1.length : Int)) = false := decide_eq_false c3
    clear c3
    replace H := Option.bind_eq_some_iff.mp H
    obtain ⟨t969, A190, H⟩ := H
    replace H : (if t969 = true then (spec_l5Hunks.l1 k1 l0 x6_1 0 l1 (l1.length : Int) 0) else (some (([] : List (S60)), 3))) = some (r1, r2) := H
    have A19 := am A190
    clear A190
    by_cases c20 : t969 = true
    ·subst c20
     rw [if_pos rfl] at H
     have H' := am H
     clear H
     obtain ⟨Ao21, co21, eo21⟩ := Kd.S_slice HO_6.out
     subst eo21
     go_wp2_with (((with_reducible refine gateC (f := 75) rfl ?_); refine goesL_ (some 43) rfl rfl Tryz.func75 (by kernel_rfl) rfl #[.int .i64 (l0.length : Int), .slice Ao21 x6_1.length co21] rfl zm ?_; (with_reducible refine (spec_l2Hunks.calls k1 (l0.length : Int) _ _ x6_1 true _ ?side1 ?side2 A19.out).mono ?_); (case side1 => repeat (exact (Kd.S_reads' HO_6.out).2.2)); (case side2 => exact (Kd.S_reads' HO_6.out).2.1); rintro e w22 ⟨rfl, hb⟩; refine ⟨_, rfl, ?_⟩; replace HO_6 := am (Kd.S_below (zs HO_6.out) hb); replace HB := am (below_step zb hb); (try clear hb)))
     go_loopg [9, 47] k1 (fun kq v9 v47 w' => ∃ (x9_2 : Int) (x47_2 : Int), v9 = .int .i64 x9_2 ∧ v47 = .int .i64 x47_2 ∧ Aside0 (spec_l5Hunks.l1 kq l0 x6_1 x9_2 l1 (l1.length : Int) x47_2 = some (r1, r2)) ∧ Aside0 (kq ≤ k1) ∧ Aside0 (Kd.S k60 60 w' w.heap.size (fun _ => True) (.slice Ao21 x6_1.length co21) x6_1) ∧ Aside0 (Below w.heap.size w w'))
     case atStart => exact ⟨(0), (0), zf, zf, H', ⟨Nat.le_refl _⟩, ⟨zs HO_6.out⟩, ⟨zb⟩⟩
     case round =>
      clear H'
      try clear c3b0
      obtain ⟨x9_2, x47_2, rfl, rfl, HA, HK2, HO_6, HB⟩ := hrel
      cases gk with
      | zero => exact absurd HA.out (by simp [spec_l5Hunks.l1])
      | succ k2 =>
       have H := HA.out
       clear HA
       simp only [spec_l5Hunks.l1] at H
       by_cases c23 : x47_2 < (l1.length : Int)
       ·rw [if_pos c23] at H
        have c23b0 : decide (x47_2 < (l1.length : Int)) = true := decide_eq_true c23
        clear c23
        obtain ⟨c24, H⟩ := itn H
        have c24b0 := decide_eq_true c24
        clear c24
        obtain ⟨c25, H⟩ := itn H
        have c25b0 := decide_eq_true c25
        clear c25
        obtain ⟨c26, H⟩ := itn H
        have c26b0 := decide_eq_true c26
        clear c26
        obtain ⟨c27, H⟩ := itn H
        have c27b0 := eq_true c27
        have c27b1 := decide_eq_true c27
        clear c27
        obtain ⟨c28, H⟩ := itn H
        have c28b0 := eq_true c28
        have c28b1 := decide_eq_true c28
        obtain ⟨c29, H⟩ := itn H
        have c29b0 := eq_true c29
        have c29b1 := decide_eq_true c29
        replace H := Option.bind_eq_some_iff.mp H
        obtain ⟨t975, A300, H⟩ := H
        replace H : (if t975 = true then ((spec_l5Base.f ((T52 l1 x47_2).f3) ((T52 l1 x47_2).f5)).bind fun t976 => (if t976 = (wrap64 (((T60 x6_1 x47_2).f0) + x9_2)) then (spec_l5Hunks.l1 k2 l0 x6_1 (wrap64 (x9_2 + (wrap64 ((((T52 l1 x47_2).f5).length : Int) - ((T60 x6_1 x47_2).f1))))) l1 (l1.length : Int) (wrap64 (x47_2 + 1))) else (some (([] : List (S60)), 2)))) else (some (([] : List (S60)), 2))) = some (r1, r2) := H
        have A30 := am A300
        clear A300
        by_cases c31 : t975 = true
        ·subst c31
         rw [if_pos rfl] at H
         replace H := Option.bind_eq_some_iff.mp H
         obtain ⟨t976, A320, H⟩ := H
         replace H : (if t976 = (wrap64 (((T60 x6_1 x47_2).f0) + x9_2)) then (spec_l5Hunks.l1 k2 l0 x6_1 (wrap64 (x9_2 + (wrap64 ((((T52 l1 x47_2).f5).length : Int) - ((T60 x6_1 x47_2).f1))))) l1 (l1.length : Int) (wrap64 (x47_2 + 1))) else (some (([] : List (S60)), 2))) = some (r1, r2) := H
         have A32 := am A320
         clear A320
         by_cases c33 : t976 = (wrap64 (((T60 x6_1 x47_2).f0) + x9_2))
         ·rw [if_pos c33] at H
          have c33b0 : (t976 == (wrap64 (((T60 x6_1 x47_2).f0) + x9_2))) = true := beq_iff_eq.mpr c33
          have c33b1 : (t976 != (wrap64 (((T60 x6_1 x47_2).f0) + x9_2))) = false := bne_eq_false_iff_eq.mpr c33
          clear c33
          have H' := am H
          clear H
          have p970 : 0 ≤ (x47_2 : Int) := oa
          have q970 : x47_2 < (l1.length : Int) := oa
          obtain ⟨ad970, A970_2, c970_2, A970_5, c970_5, e970, hx970_0, hx970_1, hx970_2, hx970_3, hx970_4, hx970_5, hl970_2, hi970_2, hl970_5, hi970_5⟩ := at_T52 HR1.out x47_2 p970 q970
          cases e970
          replace hx970_0 := bc HB.out hx970_0
          replace hx970_1 := bc HB.out hx970_1
          replace hx970_2 := bc HB.out hx970_2
          replace hx970_3 := bc HB.out hx970_3
          replace hx970_4 := bc HB.out hx970_4
          replace hx970_5 := bc HB.out hx970_5
          have HR970_2 := am hi970_2
          have HC970_2 := am hl970_2
          clear hi970_2 hl970_2
          have HR970_5 := am hi970_5
          have HC970_5 := am hl970_5
          clear hi970_5 hl970_5
          replace p970 := eq_true p970
          replace q970 := eq_true q970
          try go_wp2_with (first | ((with_reducible refine gate_dst (N := 11) rfl ?_); refine box_event ?hg (N := 11) ?hd (cs := #[.int .i64 0, .int .i64 0, .slice none 0 0, .int .i64 0, .int .i64 0, .slice none 0 0]) (t := 52) ?hr ?_; (case hd => rfl); (case hg => rfl); (case hr => (go_simp; done)); intro gb971 hg w34 hbox hb; replace HO_6 := am (Kd.S_below (zs HO_6.out) hb); have BK971 := am (hbox); have GW971 := am ((by rw [hg]; exact (below_size zb) : w.heap.size ≤ gb971)); have GE971 := am ((by rw [hg]; exact (below_size zb) : w.heap.size ≤ gb971)); replace HB := am (below_step zb hb); clear hb hbox hg; obtain ⟨hcz35_0, hcz35_1, hcz35_2, hcz35_3, hcz35_4, hcz35_5⟩ := cz6 BK971.out; obtain ⟨hfz35_0, hfz35_1, hfz35_2, hfz35_3, hfz35_4, hfz35_5⟩ := fz6 BK971.out) | ((with_reducible refine gate_store (t := 52) (p := 11) rfl ?_); refine store_event (t := 52) (p := 11) (v := ?vo_w36) (w1 := ((((((w34.setCell ⟨gb971, 0, none⟩ (.int .i64 ((T52 l1 x47_2).f0))).setCell ⟨gb971, 1, none⟩ (.int .i64 ((T52 l1 x47_2).f1))).setCell ⟨gb971, 2, none⟩ (.slice A970_2 ((T52 l1 x47_2).f2).length c970_2)).setCell ⟨gb971, 3, none⟩ (.int .i64 ((T52 l1 x47_2).f3))).setCell ⟨gb971, 4, none⟩ (.int .i64 ((T52 l1 x47_2).f4))).setCell ⟨gb971, 5, none⟩ (.slice A970_5 ((T52 l1 x47_2).f5).length c970_5))) ?hg ?ho ?hn ?hr ?_; (case ho => rfl); (case hg => rfl); (case hn => rfl); (case hr => (go_simp; done)); intro w36 hw; have n0_ : Aside0 (Kd.S k60 60 w36 w.heap.size (fun _ => True) (.slice Ao21 x6_1.length co21) x6_1) := ⟨(by rw [hw]; exact (by exact Kd.S_mono (Kd.S_far (p := ⟨gb971, 5, none⟩) (Kd.S_far (p := ⟨gb971, 4, none⟩) (Kd.S_far (p := ⟨gb971, 3, none⟩) (Kd.S_far (p := ⟨gb971, 2, none⟩) (Kd.S_far (p := ⟨gb971, 1, none⟩) (Kd.S_far (p := ⟨gb971, 0, none⟩) (Kd.S_types HO_6.out BK971.out (by decide)) (fun _ hk => hk.2) (.int .i64 ((T52 l1 x47_2).f0))) (fun _ hk => hk.2) (.int .i64 ((T52 l1 x47_2).f1))) (fun _ hk => hk.2) (.slice A970_2 ((T52 l1 x47_2).f2).length c970_2)) (fun _ hk => hk.2) (.int .i64 ((T52 l1 x47_2).f3))) (fun _ hk => hk.2) (.int .i64 ((T52 l1 x47_2).f4))) (fun _ hk => hk.2) (.slice A970_5 ((T52 l1 x47_2).f5).length c970_5)) (fun _ hk => trivial)))⟩; have n1_ : Aside0 (w36.heap[gb971]? = some (.cells #[.int .i64 ((T52 l1 x47_2).f0), .int .i64 ((T52 l1 x47_2).f1), .slice A970_2 ((T52 l1 x47_2).f2).length c970_2, .int .i64 ((T52 l1 x47_2).f3), .int .i64 ((T52 l1 x47_2).f4), .slice A970_5 ((T52 l1 x47_2).f5).length c970_5] 52 (0, 0))) := ⟨(by rw [hw]; exact (by refine blk_put (cs := #[.int .i64 ((T52 l1 x47_2).f0), .int .i64 ((T52 l1 x47_2).f1), .slice A970_2 ((T52 l1 x47_2).f2).length c970_2, .int .i64 ((T52 l1 x47_2).f3), .int .i64 ((T52 l1 x47_2).f4), .slice none 0 0]) ?_ 5 _ rfl; refine blk_put (cs := #[.int .i64 ((T52 l1 x47_2).f0), .int .i64 ((T52 l1 x47_2).f1), .slice A970_2 ((T52 l1 x47_2).f2).length c970_2, .int .i64 ((T52 l1 x47_2).f3), .int .i64 0, .slice none 0 0]) ?_ 4 _ rfl; refine blk_put (cs := #[.int .i64 ((T52 l1 x47_2).f0), .int .i64 ((T52 l1 x47_2).f1), .slice A970_2 ((T52 l1 x47_2).f2).length c970_2, .int .i64 0, .int .i64 0, .slice none 0 0]) ?_ 3 _ rfl; refine blk_put (cs := #[.int .i64 ((T52 l1 x47_2).f0), .int .i64 ((T52 l1 x47_2).f1), .slice none 0 0, .int .i64 0, .int .i64 0, .slice none 0 0]) ?_ 2 _ rfl; refine blk_put (cs := #[.int .i64 ((T52 l1 x47_2).f0), .int .i64 0, .slice none 0 0, .int .i64 0, .int .i64 0, .slice none 0 0]) ?_ 1 _ rfl; refine blk_put (cs := #[.int .i64 0, .int .i64 0, .slice none 0 0, .int .i64 0, .int .i64 0, .slice none 0 0]) ?_ 0 _ rfl; exact BK971.out))⟩; have n2_ : Aside0 (Below w.heap.size w w36) := ⟨(by rw [hw]; exact zw)⟩; clear hw; clear HO_6; clear BK971; clear HB; have HO_6 := n0_; have BK971 := n1_; have HB := n2_; clear n0_ n1_ n2_; have p972 : 0 ≤ (x47_2 : Int) := oa; have q972 : x47_2 < (x6_1.length : Int) := oa; obtain ⟨ad972, A972_2, c972_2, e972, hx972_0, hx972_1, hx972_2, hl972_2, hi972_2⟩ := at_T60 (Kd.S_reads' HO_6.out).2.2 x47_2 p972 q972; cases e972; obtain ⟨ce972, hce972, hMe972, hcc972⟩ := Kd.S_get HO_6.out z60 x47_2 p972 (by exact q972); obtain ⟨ve972_2, rfl, ge972_2⟩ := k60_openM hMe972; have hv972_2 := hcc972 2 _ rfl; rw [add_field _ _ 2 (by omega)] at hv972_2; replace hv972_2 := Option.some.inj (hv972_2.symm.trans hx972_2); rw [hv972_2] at ge972_2; have HL972_2 := am (show Kd.R Kd.string 9 _ _ _ _ ((T60 x6_1 x47_2).f2) from ge972_2); clear hv972_2 ge972_2; clear hcc972 hce972; have HR972_2 := am hi972_2; have HC972_2 := am hl972_2; clear hi972_2 hl972_2; replace p972 := eq_true p972; replace q972 := eq_true q972) | ((with_reducible refine gate_dst (N := 12) rfl ?_); refine box_event ?hg (N := 12) ?hd (cs := #[.int .i64 0, .int .i64 0, .slice none 0 0]) (t := 60) ?hr ?_; (case hd => rfl); (case hg => rfl); (case hr => (go_simp; done)); intro gb973 hg w37 hbox hb; replace HO_6 := am (Kd.S_below (Kd.S_elderB (zs HO_6.out) gb973 (Nat.le_of_eq hg.symm)) hb); replace HL972_2 := am (Kd.R_below (zr HL972_2.out) hb); replace HR972_2 := am (Kd.C_below (by repeat ((with_reducible exact HR972_2.out))) hb); have BK973 := am (hbox); have GW973 := am ((by rw [hg]; exact (below_size zw) : w.heap.size ≤ gb973)); have GE973 := am ((by rw [hg]; exact (below_size zw) : w.heap.size ≤ gb973)); replace HB := am (below_step zw hb); have NB971_973 := am ((by rw [hg]; exact Nat.ne_of_lt (blk_lt (g := gb971) (o := .cells #[.int .i64 ((T52 l1 x47_2).f0), .int .i64 ((T52 l1 x47_2).f1), .slice A970_2 ((T52 l1 x47_2).f2).length c970_2, .int .i64 ((T52 l1 x47_2).f3), .int .i64 ((T52 l1 x47_2).f4), .slice A970_5 ((T52 l1 x47_2).f5).length c970_5] 52 (0, 0)) (zk BK971.out)) : gb971 ≠ gb973)); have NB973_971 := am ((by rw [hg]; exact Nat.ne_of_gt (blk_lt (g := gb971) (o := .cells #[.int .i64 ((T52 l1 x47_2).f0), .int .i64 ((T52 l1 x47_2).f1), .slice A970_2 ((T52 l1 x47_2).f2).length c970_2, .int .i64 ((T52 l1 x47_2).f3), .int .i64 ((T52 l1 x47_2).f4), .slice A970_5 ((T52 l1 x47_2).f5).length c970_5] 52 (0, 0)) (zk BK971.out)) : gb973 ≠ gb971)); replace BK971 := am (blk_below (g := gb971) (o := .cells #[.int .i64 ((T52 l1 x47_2).f0), .int .i64 ((T52 l1 x47_2).f1), .slice A970_2 ((T52 l1 x47_2).f2).length c970_2, .int .i64 ((T52 l1 x47_2).f3), .int .i64 ((T52 l1 x47_2).f4), .slice A970_5 ((T52 l1 x47_2).f5).length c970_5] 52 (0, 0)) (zk BK971.out) hb); clear hb hbox hg; have hnb38 := NB973_971.out; have hnc38 := NB971_973.out; obtain ⟨hcz39_0, hcz39_1, hcz39_2⟩ := cz3 BK973.out; obtain ⟨hfz39_0, hfz39_1, hfz39_2⟩ := fz3 BK973.out))
          have n0_ : Aside0 (Kd.S k60 60 (((w37.setCell ⟨gb973, 0, none⟩ (.int .i64 ((T60 x6_1 x47_2).f0))).setCell ⟨gb973, 1, none⟩ (.int .i64 ((T60 x6_1 x47_2).f1))).setCell ⟨gb973, 2, none⟩ (.slice A972_2 ((T60 x6_1 x47_2).f2).length c972_2)) w.heap.size (fun k_ => k_ ≠ gb973) (.slice (some ad972) x6_1.length co21) x6_1) := ⟨by exact Kd.S_mono (Kd.S_far (p := ⟨gb973, 2, none⟩) (Kd.S_far (p := ⟨gb973, 1, none⟩) (Kd.S_far (p := ⟨gb973, 0, none⟩) (Kd.S_mono HO_6.out (fun k_ hk => (⟨hk, hk.2⟩ : _ ∧ k_ ≠ gb973))) (fun _ hk => hk.2) (.int .i64 ((T60 x6_1 x47_2).f0))) (fun _ hk => hk.2) (.int .i64 ((T60 x6_1 x47_2).f1))) (fun _ hk => hk.2) (.slice A972_2 ((T60 x6_1 x47_2).f2).length c972_2)) (fun _ hk => hk.1.2)⟩
          have n1_ : Aside0 (Kd.R Kd.string 9 (((w37.setCell ⟨gb973, 0, none⟩ (.int .i64 ((T60 x6_1 x47_2).f0))).setCell ⟨gb973, 1, none⟩ (.int .i64 ((T60 x6_1 x47_2).f1))).setCell ⟨gb973, 2, none⟩ (.slice A972_2 ((T60 x6_1 x47_2).f2).length c972_2)) w.heap.size (fun k_ => some k_ ≠ (.slice (some ad972) x6_1.length co21 : Value).ownBlock) (.slice A972_2 ((T60 x6_1 x47_2).f2).length c972_2) ((T60 x6_1 x47_2).f2)) := ⟨by exact Kd.R_mono (Kd.R_far (p := ⟨gb973, 2, none⟩) (Kd.R_far (p := ⟨gb973, 1, none⟩) (Kd.R_far (p := ⟨gb973, 0, none⟩) (Kd.R_types HL972_2.out BK973.out (by decide)) (fun _ hk => hk.2) (.int .i64 ((T60 x6_1 x47_2).f0))) (fun _ hk => hk.2) (.int .i64 ((T60 x6_1 x47_2).f1))) (fun _ hk => hk.2) (.slice A972_2 ((T60 x6_1 x47_2).f2).length c972_2)) (fun _ hk => hk.1.2)⟩
          have n2_ : Aside0 ((((w37.setCell ⟨gb973, 0, none⟩ (.int .i64 ((T60 x6_1 x47_2).f0))).setCell ⟨gb973, 1, none⟩ (.int .i64 ((T60 x6_1 x47_2).f1))).setCell ⟨gb973, 2, none⟩ (.slice A972_2 ((T60 x6_1 x47_2).f2).length c972_2)).heap[gb971]? = some (.cells #[.int .i64 ((T52 l1 x47_2).f0), .int .i64 ((T52 l1 x47_2).f1), .slice A970_2 ((T52 l1 x47_2).f2).length c970_2, .int .i64 ((T52 l1 x47_2).f3), .int .i64 ((T52 l1 x47_2).f4), .slice A970_5 ((T52 l1 x47_2).f5).length c970_5] 52 (0, 0))) := ⟨by refine blk_far ?_ NB971_973.out _; refine blk_far ?_ NB971_973.out _; refine blk_far ?_ NB971_973.out _; exact BK971.out⟩
          have n3_ : Aside0 ((((w37.setCell ⟨gb973, 0, none⟩ (.int .i64 ((T60 x6_1 x47_2).f0))).setCell ⟨gb973, 1, none⟩ (.int .i64 ((T60 x6_1 x47_2).f1))).setCell ⟨gb973, 2, none⟩ (.slice A972_2 ((T60 x6_1 x47_2).f2).length c972_2)).heap[gb973]? = some (.cells #[.int .i64 ((T60 x6_1 x47_2).f0), .int .i64 ((T60 x6_1 x47_2).f1), .slice A972_2 ((T60 x6_1 x47_2).f2).length c972_2] 60 (0, 0))) := ⟨by refine blk_put (cs := #[.int .i64 ((T60 x6_1 x47_2).f0), .int .i64 ((T60 x6_1 x47_2).f1), .slice none 0 0]) ?_ 2 _ rfl; refine blk_put (cs := #[.int .i64 ((T60 x6_1 x47_2).f0), .int .i64 0, .slice none 0 0]) ?_ 1 _ rfl; refine blk_put (cs := #[.int .i64 0, .int .i64 0, .slice none 0 0]) ?_ 0 _ rfl; exact BK973.out⟩
          have n4_ : Aside0 (Below w.heap.size w (((w37.setCell ⟨gb973, 0, none⟩ (.int .i64 ((T60 x6_1 x47_2).f0))).setCell ⟨gb973, 1, none⟩ (.int .i64 ((T60 x6_1 x47_2).f1))).setCell ⟨gb973, 2, none⟩ (.slice A972_2 ((T60 x6_1 x47_2).f2).length c972_2))) := ⟨zw⟩
          (try clear HO_6)
          (try clear HL972_2)
          (try clear BK971)
          (try clear BK973)
          (try clear HB)
          generalize (((w37.setCell ⟨gb973, 0, none⟩ (.int .i64 ((T60 x6_1 x47_2).f0))).setCell ⟨gb973, 1, none⟩ (.int .i64 ((T60 x6_1 x47_2).f1))).setCell ⟨gb973, 2, none⟩ (.slice A972_2 ((T60 x6_1 x47_2).f2).length c972_2)) = w40 at n0_ n1_ n2_ n3_ n4_ ⊢
          have HO_6 := n0_
          have HL972_2 := n1_
          have BK971 := n2_
          have BK973 := n3_
          have HB := n4_
          clear n0_ n1_ n2_ n3_ n4_
          replace HO_6 := am (Kd.S_drew HO_6.out)
          replace HL972_2 := am (Kd.R_drew HL972_2.out)
          replace BK971 := am (blk_drew BK971.out)
          replace BK973 := am (blk_drew BK973.out)
          replace HB := am (below_drew1 HB.out)
          obtain ⟨i042, hi042, _, hsz42, _⟩ := info_parts info9
          obtain ⟨A42, hcut42, hA42, hC42⟩ := print_mid_of (P := Tryz.prog) Value.string (⟨#[]⟩ : ByteArray) 24 9 .i64 .i64 Tryz.underlying24 hi042 hsz42 A0 c0 l0 ((T60 x6_1 x47_2).f0) (wrap64 (((T60 x6_1 x47_2).f0) + ((T60 x6_1 x47_2).f1))) oa (by omega) oa HC0.out
          have HR974 := am (Kd.C_of_reads (h1 := fun _ => rfl) (hA42 _ (Kd.reads_of_C HR0.out)))
          have HC974 := am hC42
          clear hA42 hC42 hi042 hsz42
          refine start_ (n := 25) (S := fun w' => w'.cell? ⟨gb973, 0, none⟩ = some (.int .i64 ((T60 x6_1 x47_2).f0)) ∧ w'.cell? ⟨gb973, 1, none⟩ = some (.int .i64 ((T60 x6_1 x47_2).f1)) ∧ w'.cell? ⟨gb973, 2, none⟩ = some (.slice A972_2 ((T60 x6_1 x47_2).f2).length c972_2) ∧ w'.cell? ⟨gb971, 0, none⟩ = some (.int .i64 ((T52 l1 x47_2).f0)) ∧ w'.cell? ⟨gb971, 1, none⟩ = some (.int .i64 ((T52 l1 x47_2).f1)) ∧ w'.cell? ⟨gb971, 2, none⟩ = some (.slice A970_2 ((T52 l1 x47_2).f2).length c970_2) ∧ w'.cell? ⟨gb971, 3, none⟩ = some (.int .i64 ((T52 l1 x47_2).f3)) ∧ w'.cell? ⟨gb971, 4, none⟩ = some (.int .i64 ((T52 l1 x47_2).f4)) ∧ w'.cell? ⟨gb971, 5, none⟩ = some (.slice A970_5 ((T52 l1 x47_2).f5).length c970_5)) (ds := []) #[O,O,O,O,O,O,O,O,O,O,O,O,O,O,O,O,O,O,O,O,O,O,O,O,O] (by kernel_rfl) rfl rfl ⟨(blk_cell BK973.out 0).trans rfl, (blk_cell BK973.out 1).trans rfl, (blk_cell BK973.out 2).trans rfl, (blk_cell BK971.out 0).trans rfl, (blk_cell BK971.out 1).trans rfl, (blk_cell BK971.out 2).trans rfl, (blk_cell BK971.out 3).trans rfl, (blk_cell BK971.out 4).trans rfl, (blk_cell BK971.out 5).trans rfl⟩ (fun hHeld => ?_); refine with_tabW spec_l5Hunks.tab16 spec_l5Hunks.bits16 (fun HT_ HW_ => ?_)
          generalize w40.drew = w41 at HO_6 HL972_2 BK971 BK973 HB HR974 hHeld ⊢
          refine pu 0 (some 56) ?_
          refine pu 1 (some 57) ?_
          refine pu 3 (some 59) ?_
          refine pu 5 (some 61) ?_
          refine pu 9 (some 65) ?_
          refine ta 2 (some 58) ?_
          refine ta 4 (some 60) ?_
          refine ta 6 (some 62) ?_
          refine pu 7 (some 63) ?_
          refine pu 8 (some 64) ?_
          refine ta 10 (some 66) ?_
          refine one_ (i := 11) (N := some 67) #[Y,Y,Y,Y,Y,Y,Y,Y,Y,Y,Y,Y,O,O,O,O,O,O,O,O,O,O,O,O,O] rfl rfl (one_of HT_.out (by kernel_rfl)) (by decide) (fun K hK => ?_)
          refine goes_ Tryz.func76 (by kernel_rfl) rfl #[.slice A42 ((l0.take ((wrap64 (((T60 x6_1 x47_2).f0) + ((T60 x6_1 x47_2).f1))) : Int).toNat).drop (((T60 x6_1 x47_2).f0) : Int).toNat).length (c0 - ((T60 x6_1 x47_2).f0).toNat), .slice A970_2 ((T52 l1 x47_2).f2).length c970_2] (by rfl) rfl rfl (by (try simp only [List.map_toArray, List.map_cons, List.map_nil]); (rw [show ((l0.take ((wrap64 (((T60 x6_1 x47_2).f0) + ((T60 x6_1 x47_2).f1))) : Int).toNat).drop (((T60 x6_1 x47_2).f0) : Int).toNat).length = ((wrap64 (((T60 x6_1 x47_2).f0) + ((T60 x6_1 x47_2).f1))).toNat - ((T60 x6_1 x47_2).f0).toNat) from (by rw [List.length_drop, List.length_take]; have h_ : ((wrap64 (((T60 x6_1 x47_2).f0) + ((T60 x6_1 x47_2).f1))) : Int) ≤ (l0.length : Int) := oa; omega)] <;> rfl)) ?_
          with_reducible refine (spec_l1SameT.calls k2 _ _ ((l0.take ((wrap64 (((T60 x6_1 x47_2).f0) + ((T60 x6_1 x47_2).f1))) : Int).toNat).drop (((T60 x6_1 x47_2).f0) : Int).toNat) _ _ ((T52 l1 x47_2).f2) true _ ?side1 ?side2 ?side3 ?side4 A30.out).mono ?_
          (case side1 => exact zq (Kd.C_below HR974.out HB.out))
          (case side2 => exact HC974.out)
          (case side3 => exact zq (Kd.C_below HR970_2.out HB.out))
          (case side4 => exact HC970_2.out)
          rintro e w' ⟨rfl, ⟨nd, rfl⟩⟩
          refine ⟨_, rfl, ?_⟩
          refine hK.out _ _ ⟨(blk_cell BK973.out 0).trans rfl, (blk_cell BK973.out 1).trans rfl, (blk_cell BK973.out 2).trans rfl, (blk_cell BK971.out 0).trans rfl, (blk_cell BK971.out 1).trans rfl, (blk_cell BK971.out 2).trans rfl, (blk_cell BK971.out 3).trans rfl, (blk_cell BK971.out 4).trans rfl, (blk_cell BK971.out 5).trans rfl⟩ (fun hHeld => ?_)
          clear hK K
          refine norm_ (a' := ?_) ?_ ?_
          rotate_left
          ·show Act.put _ (some 67) _ = _
           simp only [Act.put,qa,qb,qc,i64_w,i32_w]
           rfl
          refine pu 12 (some 68) ?_
          refine pu 13 (some 69) ?_
          refine pu 14 (some 70) ?_
          refine pu 16 (some 72) ?_
          refine pu 19 (some 75) ?_
          refine pu 21 (some 77) ?_
          refine ta 15 (some 71) ?_
          refine ta 17 (some 73) ?_
          refine ta 20 (some 76) ?_
          refine pu 22 (some 78) ?_
          refine one_ (i := 18) (N := some 74) #[Y,Y,Y,Y,Y,Y,Y,Y,Y,Y,Y,Y,Y,Y,Y,Y,Y,Y,Y,Y,Y,Y,Y,O,O] rfl rfl (one_of HT_.out (by kernel_rfl)) (by decide) (fun K hK => ?_)
          refine goes_ Tryz.func74 (by kernel_rfl) rfl #[.int .i64 ((T52 l1 x47_2).f3), .slice A970_5 ((T52 l1 x47_2).f5).length c970_5] (by rfl) rfl rfl zm ?_
          with_reducible refine (spec_l5Base.calls ((T52 l1 x47_2).f3) _ _ ((T52 l1 x47_2).f5) t976 _ ?side1 ?side2 A32.out).mono ?_
          (case side1 => repeat (exact (Kd.C_below HR970_5.out zw)))
          (case side2 => exact HC970_5.out)
          rintro e w' ⟨rfl, ⟨nd, rfl⟩⟩
          refine ⟨_, rfl, ?_⟩
          refine hK.out _ _ ⟨(blk_cell BK973.out 0).trans rfl, (blk_cell BK973.out 1).trans rfl, (blk_cell BK973.out 2).trans rfl, (blk_cell BK971.out 0).trans rfl, (blk_cell BK971.out 1).trans rfl, (blk_cell BK971.out 2).trans rfl, (blk_cell BK971.out 3).trans rfl, (blk_cell BK971.out 4).trans rfl, (blk_cell BK971.out 5).trans rfl⟩ (fun hHeld => ?_)
          clear hK K
          refine norm_ (a' := ?_) ?_ ?_
          rotate_left
          ·show Act.put _ (some 74) _ = _
           simp only [Act.put,qa,qb,qc,i64_w,i32_w]
           rfl
          refine pu 23 (some 79) ?_
          refine pu 24 (some 80) ?_
          refine done_ (done_of HT_.out (by kernel_rfl)) ?_
          obtain ⟨hcz43_0, hcz43_1, hcz43_2, hcz43_3, hcz43_4, hcz43_5⟩ := cz6 BK971.out
          obtain ⟨hfz43_0, hfz43_1, hfz43_2, hfz43_3, hfz43_4, hfz43_5⟩ := fz6 BK971.out
          obtain ⟨hcz44_0, hcz44_1, hcz44_2⟩ := cz3 BK973.out
          obtain ⟨hfz44_0, hfz44_1, hfz44_2⟩ := fz3 BK973.out
          try go_wp2
          go_roundg k2
          case measure => have := HK1.out; have := HK2.out; omega
          case rel => exact ⟨(wrap64 (x9_2 + (wrap64 ((((T52 l1 x47_2).f5).length : Int) - ((T60 x6_1 x47_2).f1))))), (wrap64 (x47_2 + 1)), zf, zf, H', ⟨by have := HK1.out; have := HK2.out; omega⟩, ⟨by (with_reducible repeat (apply Kd.S_drewN)); exact Kd.S_mono HO_6.out (fun _ hk => trivial)⟩, ⟨zw⟩⟩
         ·rw [if_neg c33] at H
          have c33b0 : (t976 == (wrap64 (((T60 x6_1 x47_2).f0) + x9_2))) = false := beq_eq_false_iff_ne.mpr c33
          have c33b1 : (t976 != (wrap64 (((T60 x6_1 x47_2).f0) + x9_2))) = true := bne_iff_ne.mpr c33
          simp only [Option.some.injEq, Prod.mk.injEq] at H
          obtain ⟨rfl, rfl⟩ := H
          have p970 : 0 ≤ (x47_2 : Int) := oa
          have q970 : x47_2 < (l1.length : Int) := oa
          obtain ⟨ad970, A970_2, c970_2, A970_5, c970_5, e970, hx970_0, hx970_1, hx970_2, hx970_3, hx970_4, hx970_5, hl970_2, hi970_2, hl970_5, hi970_5⟩ := at_T52 HR1.out x47_2 p970 q970
          cases e970
          replace hx970_0 := bc HB.out hx970_0
          replace hx970_1 := bc HB.out hx970_1
          replace hx970_2 := bc HB.out hx970_2
          replace hx970_3 := bc HB.out hx970_3
          replace hx970_4 := bc HB.out hx970_4
          replace hx970_5 := bc HB.out hx970_5
          have HR970_2 := am hi970_2
          have HC970_2 := am hl970_2
          clear hi970_2 hl970_2
          have HR970_5 := am hi970_5
          have HC970_5 := am hl970_5
          clear hi970_5 hl970_5
          replace p970 := eq_true p970
          replace q970 := eq_true q970
          try go_wp2_with (first | ((with_reducible refine gate_dst (N := 11) rfl ?_); refine box_event ?hg (N := 11) ?hd (cs := #[.int .i64 0, .int .i64 0, .slice none 0 0, .int .i64 0, .int .i64 0, .slice none 0 0]) (t := 52) ?hr ?_; (case hd => rfl); (case hg => rfl); (case hr => (go_simp; done)); intro gb971 hg w45 hbox hb; replace HO_6 := am (Kd.S_below (zs HO_6.out) hb); have BK971 := am (hbox); have GW971 := am ((by rw [hg]; exact (below_size zb) : w.heap.size ≤ gb971)); have GE971 := am ((by rw [hg]; exact (below_size zb) : w.heap.size ≤ gb971)); replace HB := am (below_step zb hb); clear hb hbox hg; obtain ⟨hcz46_0, hcz46_1, hcz46_2, hcz46_3, hcz46_4, hcz46_5⟩ := cz6 BK971.out; obtain ⟨hfz46_0, hfz46_1, hfz46_2, hfz46_3, hfz46_4, hfz46_5⟩ := fz6 BK971.out) | ((with_reducible refine gate_store (t := 52) (p := 11) rfl ?_); refine store_event (t := 52) (p := 11) (v := ?vo_w47) (w1 := ((((((w45.setCell ⟨gb971, 0, none⟩ (.int .i64 ((T52 l1 x47_2).f0))).setCell ⟨gb971, 1, none⟩ (.int .i64 ((T52 l1 x47_2).f1))).setCell ⟨gb971, 2, none⟩ (.slice A970_2 ((T52 l1 x47_2).f2).length c970_2)).setCell ⟨gb971, 3, none⟩ (.int .i64 ((T52 l1 x47_2).f3))).setCell ⟨gb971, 4, none⟩ (.int .i64 ((T52 l1 x47_2).f4))).setCell ⟨gb971, 5, none⟩ (.slice A970_5 ((T52 l1 x47_2).f5).length c970_5))) ?hg ?ho ?hn ?hr ?_; (case ho => rfl); (case hg => rfl); (case hn => rfl); (case hr => (go_simp; done)); intro w47 hw; have n0_ : Aside0 (Kd.S k60 60 w47 w.heap.size (fun _ => True) (.slice Ao21 x6_1.length co21) x6_1) := ⟨(by rw [hw]; exact (by exact Kd.S_mono (Kd.S_far (p := ⟨gb971, 5, none⟩) (Kd.S_far (p := ⟨gb971, 4, none⟩) (Kd.S_far (p := ⟨gb971, 3, none⟩) (Kd.S_far (p := ⟨gb971, 2, none⟩) (Kd.S_far (p := ⟨gb971, 1, none⟩) (Kd.S_far (p := ⟨gb971, 0, none⟩) (Kd.S_types HO_6.out BK971.out (by decide)) (fun _ hk => hk.2) (.int .i64 ((T52 l1 x47_2).f0))) (fun _ hk => hk.2) (.int .i64 ((T52 l1 x47_2).f1))) (fun _ hk => hk.2) (.slice A970_2 ((T52 l1 x47_2).f2).length c970_2)) (fun _ hk => hk.2) (.int .i64 ((T52 l1 x47_2).f3))) (fun _ hk => hk.2) (.int .i64 ((T52 l1 x47_2).f4))) (fun _ hk => hk.2) (.slice A970_5 ((T52 l1 x47_2).f5).length c970_5)) (fun _ hk => trivial)))⟩; have n1_ : Aside0 (w47.heap[gb971]? = some (.cells #[.int .i64 ((T52 l1 x47_2).f0), .int .i64 ((T52 l1 x47_2).f1), .slice A970_2 ((T52 l1 x47_2).f2).length c970_2, .int .i64 ((T52 l1 x47_2).f3), .int .i64 ((T52 l1 x47_2).f4), .slice A970_5 ((T52 l1 x47_2).f5).length c970_5] 52 (0, 0))) := ⟨(by rw [hw]; exact (by refine blk_put (cs := #[.int .i64 ((T52 l1 x47_2).f0), .int .i64 ((T52 l1 x47_2).f1), .slice A970_2 ((T52 l1 x47_2).f2).length c970_2, .int .i64 ((T52 l1 x47_2).f3), .int .i64 ((T52 l1 x47_2).f4), .slice none 0 0]) ?_ 5 _ rfl; refine blk_put (cs := #[.int .i64 ((T52 l1 x47_2).f0), .int .i64 ((T52 l1 x47_2).f1), .slice A970_2 ((T52 l1 x47_2).f2).length c970_2, .int .i64 ((T52 l1 x47_2).f3), .int .i64 0, .slice none 0 0]) ?_ 4 _ rfl; refine blk_put (cs := #[.int .i64 ((T52 l1 x47_2).f0), .int .i64 ((T52 l1 x47_2).f1), .slice A970_2 ((T52 l1 x47_2).f2).length c970_2, .int .i64 0, .int .i64 0, .slice none 0 0]) ?_ 3 _ rfl; refine blk_put (cs := #[.int .i64 ((T52 l1 x47_2).f0), .int .i64 ((T52 l1 x47_2).f1), .slice none 0 0, .int .i64 0, .int .i64 0, .slice none 0 0]) ?_ 2 _ rfl; refine blk_put (cs := #[.int .i64 ((T52 l1 x47_2).f0), .int .i64 0, .slice none 0 0, .int .i64 0, .int .i64 0, .slice none 0 0]) ?_ 1 _ rfl; refine blk_put (cs := #[.int .i64 0, .int .i64 0, .slice none 0 0, .int .i64 0, .int .i64 0, .slice none 0 0]) ?_ 0 _ rfl; exact BK971.out))⟩; have n2_ : Aside0 (Below w.heap.size w w47) := ⟨(by rw [hw]; exact zw)⟩; clear hw; clear HO_6; clear BK971; clear HB; have HO_6 := n0_; have BK971 := n1_; have HB := n2_; clear n0_ n1_ n2_; have p972 : 0 ≤ (x47_2 : Int) := oa; have q972 : x47_2 < (x6_1.length : Int) := oa; obtain ⟨ad972, A972_2, c972_2, e972, hx972_0, hx972_1, hx972_2, hl972_2, hi972_2⟩ := at_T60 (Kd.S_reads' HO_6.out).2.2 x47_2 p972 q972; cases e972; obtain ⟨ce972, hce972, hMe972, hcc972⟩ := Kd.S_get HO_6.out z60 x47_2 p972 (by exact q972); obtain ⟨ve972_2, rfl, ge972_2⟩ := k60_openM hMe972; have hv972_2 := hcc972 2 _ rfl; rw [add_field _ _ 2 (by omega)] at hv972_2; replace hv972_2 := Option.some.inj (hv972_2.symm.trans hx972_2); rw [hv972_2] at ge972_2; have HL972_2 := am (show Kd.R Kd.string 9 _ _ _ _ ((T60 x6_1 x47_2).f2) from ge972_2); clear hv972_2 ge972_2; clear hcc972 hce972; have HR972_2 := am hi972_2; have HC972_2 := am hl972_2; clear hi972_2 hl972_2; replace p972 := eq_true p972; replace q972 := eq_true q972) | ((with_reducible refine gate_dst (N := 12) rfl ?_); refine box_event ?hg (N := 12) ?hd (cs := #[.int .i64 0, .int .i64 0, .slice none 0 0]) (t := 60) ?hr ?_; (case hd => rfl); (case hg => rfl); (case hr => (go_simp; done)); intro gb973 hg w48 hbox hb; replace HO_6 := am (Kd.S_below (Kd.S_elderB (zs HO_6.out) gb973 (Nat.le_of_eq hg.symm)) hb); replace HL972_2 := am (Kd.R_below (zr HL972_2.out) hb); replace HR972_2 := am (Kd.C_below (by repeat ((with_reducible exact HR972_2.out))) hb); have BK973 := am (hbox); have GW973 := am ((by rw [hg]; exact (below_size zw) : w.heap.size ≤ gb973)); have GE973 := am ((by rw [hg]; exact (below_size zw) : w.heap.size ≤ gb973)); replace HB := am (below_step zw hb); have NB971_973 := am ((by rw [hg]; exact Nat.ne_of_lt (blk_lt (g := gb971) (o := .cells #[.int .i64 ((T52 l1 x47_2).f0), .int .i64 ((T52 l1 x47_2).f1), .slice A970_2 ((T52 l1 x47_2).f2).length c970_2, .int .i64 ((T52 l1 x47_2).f3), .int .i64 ((T52 l1 x47_2).f4), .slice A970_5 ((T52 l1 x47_2).f5).length c970_5] 52 (0, 0)) (zk BK971.out)) : gb971 ≠ gb973)); have NB973_971 := am ((by rw [hg]; exact Nat.ne_of_gt (blk_lt (g := gb971) (o := .cells #[.int .i64 ((T52 l1 x47_2).f0), .int .i64 ((T52 l1 x47_2).f1), .slice A970_2 ((T52 l1 x47_2).f2).length c970_2, .int .i64 ((T52 l1 x47_2).f3), .int .i64 ((T52 l1 x47_2).f4), .slice A970_5 ((T52 l1 x47_2).f5).length c970_5] 52 (0, 0)) (zk BK971.out)) : gb973 ≠ gb971)); replace BK971 := am (blk_below (g := gb971) (o := .cells #[.int .i64 ((T52 l1 x47_2).f0), .int .i64 ((T52 l1 x47_2).f1), .slice A970_2 ((T52 l1 x47_2).f2).length c970_2, .int .i64 ((T52 l1 x47_2).f3), .int .i64 ((T52 l1 x47_2).f4), .slice A970_5 ((T52 l1 x47_2).f5).length c970_5] 52 (0, 0)) (zk BK971.out) hb); clear hb hbox hg; have hnb49 := NB973_971.out; have hnc49 := NB971_973.out; obtain ⟨hcz50_0, hcz50_1, hcz50_2⟩ := cz3 BK973.out; obtain ⟨hfz50_0, hfz50_1, hfz50_2⟩ := fz3 BK973.out))
          have n0_ : Aside0 (Kd.S k60 60 (((w48.setCell ⟨gb973, 0, none⟩ (.int .i64 ((T60 x6_1 x47_2).f0))).setCell ⟨gb973, 1, none⟩ (.int .i64 ((T60 x6_1 x47_2).f1))).setCell ⟨gb973, 2, none⟩ (.slice A972_2 ((T60 x6_1 x47_2).f2).length c972_2)) w.heap.size (fun k_ => k_ ≠ gb973) (.slice (some ad972) x6_1.length co21) x6_1) := ⟨by exact Kd.S_mono (Kd.S_far (p := ⟨gb973, 2, none⟩) (Kd.S_far (p := ⟨gb973, 1, none⟩) (Kd.S_far (p := ⟨gb973, 0, none⟩) (Kd.S_mono HO_6.out (fun k_ hk => (⟨hk, hk.2⟩ : _ ∧ k_ ≠ gb973))) (fun _ hk => hk.2) (.int .i64 ((T60 x6_1 x47_2).f0))) (fun _ hk => hk.2) (.int .i64 ((T60 x6_1 x47_2).f1))) (fun _ hk => hk.2) (.slice A972_2 ((T60 x6_1 x47_2).f2).length c972_2)) (fun _ hk => hk.1.2)⟩
          have n1_ : Aside0 (Kd.R Kd.string 9 (((w48.setCell ⟨gb973, 0, none⟩ (.int .i64 ((T60 x6_1 x47_2).f0))).setCell ⟨gb973, 1, none⟩ (.int .i64 ((T60 x6_1 x47_2).f1))).setCell ⟨gb973, 2, none⟩ (.slice A972_2 ((T60 x6_1 x47_2).f2).length c972_2)) w.heap.size (fun k_ => some k_ ≠ (.slice (some ad972) x6_1.length co21 : Value).ownBlock) (.slice A972_2 ((T60 x6_1 x47_2).f2).length c972_2) ((T60 x6_1 x47_2).f2)) := ⟨by exact Kd.R_mono (Kd.R_far (p := ⟨gb973, 2, none⟩) (Kd.R_far (p := ⟨gb973, 1, none⟩) (Kd.R_far (p := ⟨gb973, 0, none⟩) (Kd.R_types HL972_2.out BK973.out (by decide)) (fun _ hk => hk.2) (.int .i64 ((T60 x6_1 x47_2).f0))) (fun _ hk => hk.2) (.int .i64 ((T60 x6_1 x47_2).f1))) (fun _ hk => hk.2) (.slice A972_2 ((T60 x6_1 x47_2).f2).length c972_2)) (fun _ hk => hk.1.2)⟩
          have n2_ : Aside0 ((((w48.setCell ⟨gb973, 0, none⟩ (.int .i64 ((T60 x6_1 x47_2).f0))).setCell ⟨gb973, 1, none⟩ (.int .i64 ((T60 x6_1 x47_2).f1))).setCell ⟨gb973, 2, none⟩ (.slice A972_2 ((T60 x6_1 x47_2).f2).length c972_2)).heap[gb971]? = some (.cells #[.int .i64 ((T52 l1 x47_2).f0), .int .i64 ((T52 l1 x47_2).f1), .slice A970_2 ((T52 l1 x47_2).f2).length c970_2, .int .i64 ((T52 l1 x47_2).f3), .int .i64 ((T52 l1 x47_2).f4), .slice A970_5 ((T52 l1 x47_2).f5).length c970_5] 52 (0, 0))) := ⟨by refine blk_far ?_ NB971_973.out _; refine blk_far ?_ NB971_973.out _; refine blk_far ?_ NB971_973.out _; exact BK971.out⟩
          have n3_ : Aside0 ((((w48.setCell ⟨gb973, 0, none⟩ (.int .i64 ((T60 x6_1 x47_2).f0))).setCell ⟨gb973, 1, none⟩ (.int .i64 ((T60 x6_1 x47_2).f1))).setCell ⟨gb973, 2, none⟩ (.slice A972_2 ((T60 x6_1 x47_2).f2).length c972_2)).heap[gb973]? = some (.cells #[.int .i64 ((T60 x6_1 x47_2).f0), .int .i64 ((T60 x6_1 x47_2).f1), .slice A972_2 ((T60 x6_1 x47_2).f2).length c972_2] 60 (0, 0))) := ⟨by refine blk_put (cs := #[.int .i64 ((T60 x6_1 x47_2).f0), .int .i64 ((T60 x6_1 x47_2).f1), .slice none 0 0]) ?_ 2 _ rfl; refine blk_put (cs := #[.int .i64 ((T60 x6_1 x47_2).f0), .int .i64 0, .slice none 0 0]) ?_ 1 _ rfl; refine blk_put (cs := #[.int .i64 0, .int .i64 0, .slice none 0 0]) ?_ 0 _ rfl; exact BK973.out⟩
          have n4_ : Aside0 (Below w.heap.size w (((w48.setCell ⟨gb973, 0, none⟩ (.int .i64 ((T60 x6_1 x47_2).f0))).setCell ⟨gb973, 1, none⟩ (.int .i64 ((T60 x6_1 x47_2).f1))).setCell ⟨gb973, 2, none⟩ (.slice A972_2 ((T60 x6_1 x47_2).f2).length c972_2))) := ⟨zw⟩
          (try clear HO_6)
          (try clear HL972_2)
          (try clear BK971)
          (try clear BK973)
          (try clear HB)
          generalize (((w48.setCell ⟨gb973, 0, none⟩ (.int .i64 ((T60 x6_1 x47_2).f0))).setCell ⟨gb973, 1, none⟩ (.int .i64 ((T60 x6_1 x47_2).f1))).setCell ⟨gb973, 2, none⟩ (.slice A972_2 ((T60 x6_1 x47_2).f2).length c972_2)) = w51 at n0_ n1_ n2_ n3_ n4_ ⊢
          have HO_6 := n0_
          have HL972_2 := n1_
          have BK971 := n2_
          have BK973 := n3_
          have HB := n4_
          clear n0_ n1_ n2_ n3_ n4_
          replace HO_6 := am (Kd.S_drew HO_6.out)
          replace HL972_2 := am (Kd.R_drew HL972_2.out)
          replace BK971 := am (blk_drew BK971.out)
          replace BK973 := am (blk_drew BK973.out)
          replace HB := am (below_drew1 HB.out)
          obtain ⟨i053, hi053, _, hsz53, _⟩ := info_parts info9
          obtain ⟨A53, hcut53, hA53, hC53⟩ := print_mid_of (P := Tryz.prog) Value.string (⟨#[]⟩ : ByteArray) 24 9 .i64 .i64 Tryz.underlying24 hi053 hsz53 A0 c0 l0 ((T60 x6_1 x47_2).f0) (wrap64 (((T60 x6_1 x47_2).f0) + ((T60 x6_1 x47_2).f1))) oa (by omega) oa HC0.out
          have HR974 := am (Kd.C_of_reads (h1 := fun _ => rfl) (hA53 _ (Kd.reads_of_C HR0.out)))
          have HC974 := am hC53
          clear hA53 hC53 hi053 hsz53
          refine start_ (n := 25) (S := fun w' => w'.cell? ⟨gb973, 0, none⟩ = some (.int .i64 ((T60 x6_1 x47_2).f0)) ∧ w'.cell? ⟨gb973, 1, none⟩ = some (.int .i64 ((T60 x6_1 x47_2).f1)) ∧ w'.cell? ⟨gb973, 2, none⟩ = some (.slice A972_2 ((T60 x6_1 x47_2).f2).length c972_2) ∧ w'.cell? ⟨gb971, 0, none⟩ = some (.int .i64 ((T52 l1 x47_2).f0)) ∧ w'.cell? ⟨gb971, 1, none⟩ = some (.int .i64 ((T52 l1 x47_2).f1)) ∧ w'.cell? ⟨gb971, 2, none⟩ = some (.slice A970_2 ((T52 l1 x47_2).f2).length c970_2) ∧ w'.cell? ⟨gb971, 3, none⟩ = some (.int .i64 ((T52 l1 x47_2).f3)) ∧ w'.cell? ⟨gb971, 4, none⟩ = some (.int .i64 ((T52 l1 x47_2).f4)) ∧ w'.cell? ⟨gb971, 5, none⟩ = some (.slice A970_5 ((T52 l1 x47_2).f5).length c970_5)) (ds := []) #[O,O,O,O,O,O,O,O,O,O,O,O,O,O,O,O,O,O,O,O,O,O,O,O,O] (by kernel_rfl) rfl rfl ⟨(blk_cell BK973.out 0).trans rfl, (blk_cell BK973.out 1).trans rfl, (blk_cell BK973.out 2).trans rfl, (blk_cell BK971.out 0).trans rfl, (blk_cell BK971.out 1).trans rfl, (blk_cell BK971.out 2).trans rfl, (blk_cell BK971.out 3).trans rfl, (blk_cell BK971.out 4).trans rfl, (blk_cell BK971.out 5).trans rfl⟩ (fun hHeld => ?_); refine with_tabW spec_l5Hunks.tab16 spec_l5Hunks.bits16 (fun HT_ HW_ => ?_)
          generalize w51.drew = w52 at HO_6 HL972_2 BK971 BK973 HB HR974 hHeld ⊢
          refine pu 0 (some 56) ?_
          refine pu 1 (some 57) ?_
          refine pu 3 (some 59) ?_
          refine pu 5 (some 61) ?_
          refine pu 9 (some 65) ?_
          refine ta 2 (some 58) ?_
          refine ta 4 (some 60) ?_
          refine ta 6 (some 62) ?_
          refine pu 7 (some 63) ?_
          refine pu 8 (some 64) ?_
          refine ta 10 (some 66) ?_
          refine one_ (i := 11) (N := some 67) #[Y,Y,Y,Y,Y,Y,Y,Y,Y,Y,Y,Y,O,O,O,O,O,O,O,O,O,O,O,O,O] rfl rfl (one_of HT_.out (by kernel_rfl)) (by decide) (fun K hK => ?_)
          refine goes_ Tryz.func76 (by kernel_rfl) rfl #[.slice A53 ((l0.take ((wrap64 (((T60 x6_1 x47_2).f0) + ((T60 x6_1 x47_2).f1))) : Int).toNat).drop (((T60 x6_1 x47_2).f0) : Int).toNat).length (c0 - ((T60 x6_1 x47_2).f0).toNat), .slice A970_2 ((T52 l1 x47_2).f2).length c970_2] (by rfl) rfl rfl (by (try simp only [List.map_toArray, List.map_cons, List.map_nil]); (rw [show ((l0.take ((wrap64 (((T60 x6_1 x47_2).f0) + ((T60 x6_1 x47_2).f1))) : Int).toNat).drop (((T60 x6_1 x47_2).f0) : Int).toNat).length = ((wrap64 (((T60 x6_1 x47_2).f0) + ((T60 x6_1 x47_2).f1))).toNat - ((T60 x6_1 x47_2).f0).toNat) from (by rw [List.length_drop, List.length_take]; have h_ : ((wrap64 (((T60 x6_1 x47_2).f0) + ((T60 x6_1 x47_2).f1))) : Int) ≤ (l0.length : Int) := oa; omega)] <;> rfl)) ?_
          with_reducible refine (spec_l1SameT.calls k2 _ _ ((l0.take ((wrap64 (((T60 x6_1 x47_2).f0) + ((T60 x6_1 x47_2).f1))) : Int).toNat).drop (((T60 x6_1 x47_2).f0) : Int).toNat) _ _ ((T52 l1 x47_2).f2) true _ ?side1 ?side2 ?side3 ?side4 A30.out).mono ?_
          (case side1 => exact zq (Kd.C_below HR974.out HB.out))
          (case side2 => exact HC974.out)
          (case side3 => exact zq (Kd.C_below HR970_2.out HB.out))
          (case side4 => exact HC970_2.out)
          rintro e w' ⟨rfl, ⟨nd, rfl⟩⟩
          refine ⟨_, rfl, ?_⟩
          refine hK.out _ _ ⟨(blk_cell BK973.out 0).trans rfl, (blk_cell BK973.out 1).trans rfl, (blk_cell BK973.out 2).trans rfl, (blk_cell BK971.out 0).trans rfl, (blk_cell BK971.out 1).trans rfl, (blk_cell BK971.out 2).trans rfl, (blk_cell BK971.out 3).trans rfl, (blk_cell BK971.out 4).trans rfl, (blk_cell BK971.out 5).trans rfl⟩ (fun hHeld => ?_)
          clear hK K
          refine norm_ (a' := ?_) ?_ ?_
          rotate_left
          ·show Act.put _ (some 67) _ = _
           simp only [Act.put,qa,qb,qc,i64_w,i32_w]
           rfl
          refine pu 12 (some 68) ?_
          refine pu 13 (some 69) ?_
          refine pu 14 (some 70) ?_
          refine pu 16 (some 72) ?_
          refine pu 19 (some 75) ?_
          refine pu 21 (some 77) ?_
          refine ta 15 (some 71) ?_
          refine ta 17 (some 73) ?_
          refine ta 20 (some 76) ?_
          refine pu 22 (some 78) ?_
          refine one_ (i := 18) (N := some 74) #[Y,Y,Y,Y,Y,Y,Y,Y,Y,Y,Y,Y,Y,Y,Y,Y,Y,Y,Y,Y,Y,Y,Y,O,O] rfl rfl (one_of HT_.out (by kernel_rfl)) (by decide) (fun K hK => ?_)
          refine goes_ Tryz.func74 (by kernel_rfl) rfl #[.int .i64 ((T52 l1 x47_2).f3), .slice A970_5 ((T52 l1 x47_2).f5).length c970_5] (by rfl) rfl rfl zm ?_
          with_reducible refine (spec_l5Base.calls ((T52 l1 x47_2).f3) _ _ ((T52 l1 x47_2).f5) t976 _ ?side1 ?side2 A32.out).mono ?_
          (case side1 => repeat (exact (Kd.C_below HR970_5.out zw)))
          (case side2 => exact HC970_5.out)
          rintro e w' ⟨rfl, ⟨nd, rfl⟩⟩
          refine ⟨_, rfl, ?_⟩
          refine hK.out _ _ ⟨(blk_cell BK973.out 0).trans rfl, (blk_cell BK973.out 1).trans rfl, (blk_cell BK973.out 2).trans rfl, (blk_cell BK971.out 0).trans rfl, (blk_cell BK971.out 1).trans rfl, (blk_cell BK971.out 2).trans rfl, (blk_cell BK971.out 3).trans rfl, (blk_cell BK971.out 4).trans rfl, (blk_cell BK971.out 5).trans rfl⟩ (fun hHeld => ?_)
          clear hK K
          refine norm_ (a' := ?_) ?_ ?_
          rotate_left
          ·show Act.put _ (some 74) _ = _
           simp only [Act.put,qa,qb,qc,i64_w,i32_w]
           rfl
          refine pu 23 (some 79) ?_
          refine pu 24 (some 80) ?_
          refine done_ (done_of HT_.out (by kernel_rfl)) ?_
          try go_wp2
          go_ret2
          exact ⟨_, by rfl, by exact Kd.S_nil _ _ _ _ _, zw⟩
        ·replace c31 := Bool.eq_false_iff.mpr c31
         subst c31
         rw [if_neg nofun] at H
         simp only [Option.some.injEq, Prod.mk.injEq] at H
         obtain ⟨rfl, rfl⟩ := H
         have p970 : 0 ≤ (x47_2 : Int) := oa
         have q970 : x47_2 < (l1.length : Int) := oa
         obtain ⟨ad970, A970_2, c970_2, A970_5, c970_5, e970, hx970_0, hx970_1, hx970_2, hx970_3, hx970_4, hx970_5, hl970_2, hi970_2, hl970_5, hi970_5⟩ := at_T52 HR1.out x47_2 p970 q970
         cases e970
         replace hx970_0 := bc HB.out hx970_0
         replace hx970_1 := bc HB.out hx970_1
         replace hx970_2 := bc HB.out hx970_2
         replace hx970_3 := bc HB.out hx970_3
         replace hx970_4 := bc HB.out hx970_4
         replace hx970_5 := bc HB.out hx970_5
         have HR970_2 := am hi970_2
         have HC970_2 := am hl970_2
         clear hi970_2 hl970_2
         have HR970_5 := am hi970_5
         have HC970_5 := am hl970_5
         clear hi970_5 hl970_5
         replace p970 := eq_true p970
         replace q970 := eq_true q970
         try go_wp2_with (first | ((with_reducible refine gate_dst (N := 11) rfl ?_); refine box_event ?hg (N := 11) ?hd (cs := #[.int .i64 0, .int .i64 0, .slice none 0 0, .int .i64 0, .int .i64 0, .slice none 0 0]) (t := 52) ?hr ?_; (case hd => rfl); (case hg => rfl); (case hr => (go_simp; done)); intro gb971 hg w54 hbox hb; replace HO_6 := am (Kd.S_below (zs HO_6.out) hb); have BK971 := am (hbox); have GW971 := am ((by rw [hg]; exact (below_size zb) : w.heap.size ≤ gb971)); have GE971 := am ((by rw [hg]; exact (below_size zb) : w.heap.size ≤ gb971)); replace HB := am (below_step zb hb); clear hb hbox hg; obtain ⟨hcz55_0, hcz55_1, hcz55_2, hcz55_3, hcz55_4, hcz55_5⟩ := cz6 BK971.out; obtain ⟨hfz55_0, hfz55_1, hfz55_2, hfz55_3, hfz55_4, hfz55_5⟩ := fz6 BK971.out) | ((with_reducible refine gate_store (t := 52) (p := 11) rfl ?_); refine store_event (t := 52) (p := 11) (v := ?vo_w56) (w1 := ((((((w54.setCell ⟨gb971, 0, none⟩ (.int .i64 ((T52 l1 x47_2).f0))).setCell ⟨gb971, 1, none⟩ (.int .i64 ((T52 l1 x47_2).f1))).setCell ⟨gb971, 2, none⟩ (.slice A970_2 ((T52 l1 x47_2).f2).length c970_2)).setCell ⟨gb971, 3, none⟩ (.int .i64 ((T52 l1 x47_2).f3))).setCell ⟨gb971, 4, none⟩ (.int .i64 ((T52 l1 x47_2).f4))).setCell ⟨gb971, 5, none⟩ (.slice A970_5 ((T52 l1 x47_2).f5).length c970_5))) ?hg ?ho ?hn ?hr ?_; (case ho => rfl); (case hg => rfl); (case hn => rfl); (case hr => (go_simp; done)); intro w56 hw; have n0_ : Aside0 (Kd.S k60 60 w56 w.heap.size (fun _ => True) (.slice Ao21 x6_1.length co21) x6_1) := ⟨(by rw [hw]; exact (by exact Kd.S_mono (Kd.S_far (p := ⟨gb971, 5, none⟩) (Kd.S_far (p := ⟨gb971, 4, none⟩) (Kd.S_far (p := ⟨gb971, 3, none⟩) (Kd.S_far (p := ⟨gb971, 2, none⟩) (Kd.S_far (p := ⟨gb971, 1, none⟩) (Kd.S_far (p := ⟨gb971, 0, none⟩) (Kd.S_types HO_6.out BK971.out (by decide)) (fun _ hk => hk.2) (.int .i64 ((T52 l1 x47_2).f0))) (fun _ hk => hk.2) (.int .i64 ((T52 l1 x47_2).f1))) (fun _ hk => hk.2) (.slice A970_2 ((T52 l1 x47_2).f2).length c970_2)) (fun _ hk => hk.2) (.int .i64 ((T52 l1 x47_2).f3))) (fun _ hk => hk.2) (.int .i64 ((T52 l1 x47_2).f4))) (fun _ hk => hk.2) (.slice A970_5 ((T52 l1 x47_2).f5).length c970_5)) (fun _ hk => trivial)))⟩; have n1_ : Aside0 (w56.heap[gb971]? = some (.cells #[.int .i64 ((T52 l1 x47_2).f0), .int .i64 ((T52 l1 x47_2).f1), .slice A970_2 ((T52 l1 x47_2).f2).length c970_2, .int .i64 ((T52 l1 x47_2).f3), .int .i64 ((T52 l1 x47_2).f4), .slice A970_5 ((T52 l1 x47_2).f5).length c970_5] 52 (0, 0))) := ⟨(by rw [hw]; exact (by refine blk_put (cs := #[.int .i64 ((T52 l1 x47_2).f0), .int .i64 ((T52 l1 x47_2).f1), .slice A970_2 ((T52 l1 x47_2).f2).length c970_2, .int .i64 ((T52 l1 x47_2).f3), .int .i64 ((T52 l1 x47_2).f4), .slice none 0 0]) ?_ 5 _ rfl; refine blk_put (cs := #[.int .i64 ((T52 l1 x47_2).f0), .int .i64 ((T52 l1 x47_2).f1), .slice A970_2 ((T52 l1 x47_2).f2).length c970_2, .int .i64 ((T52 l1 x47_2).f3), .int .i64 0, .slice none 0 0]) ?_ 4 _ rfl; refine blk_put (cs := #[.int .i64 ((T52 l1 x47_2).f0), .int .i64 ((T52 l1 x47_2).f1), .slice A970_2 ((T52 l1 x47_2).f2).length c970_2, .int .i64 0, .int .i64 0, .slice none 0 0]) ?_ 3 _ rfl; refine blk_put (cs := #[.int .i64 ((T52 l1 x47_2).f0), .int .i64 ((T52 l1 x47_2).f1), .slice none 0 0, .int .i64 0, .int .i64 0, .slice none 0 0]) ?_ 2 _ rfl; refine blk_put (cs := #[.int .i64 ((T52 l1 x47_2).f0), .int .i64 0, .slice none 0 0, .int .i64 0, .int .i64 0, .slice none 0 0]) ?_ 1 _ rfl; refine blk_put (cs := #[.int .i64 0, .int .i64 0, .slice none 0 0, .int .i64 0, .int .i64 0, .slice none 0 0]) ?_ 0 _ rfl; exact BK971.out))⟩; have n2_ : Aside0 (Below w.heap.size w w56) := ⟨(by rw [hw]; exact zw)⟩; clear hw; clear HO_6; clear BK971; clear HB; have HO_6 := n0_; have BK971 := n1_; have HB := n2_; clear n0_ n1_ n2_; have p972 : 0 ≤ (x47_2 : Int) := oa; have q972 : x47_2 < (x6_1.length : Int) := oa; obtain ⟨ad972, A972_2, c972_2, e972, hx972_0, hx972_1, hx972_2, hl972_2, hi972_2⟩ := at_T60 (Kd.S_reads' HO_6.out).2.2 x47_2 p972 q972; cases e972; obtain ⟨ce972, hce972, hMe972, hcc972⟩ := Kd.S_get HO_6.out z60 x47_2 p972 (by exact q972); obtain ⟨ve972_2, rfl, ge972_2⟩ := k60_openM hMe972; have hv972_2 := hcc972 2 _ rfl; rw [add_field _ _ 2 (by omega)] at hv972_2; replace hv972_2 := Option.some.inj (hv972_2.symm.trans hx972_2); rw [hv972_2] at ge972_2; have HL972_2 := am (show Kd.R Kd.string 9 _ _ _ _ ((T60 x6_1 x47_2).f2) from ge972_2); clear hv972_2 ge972_2; clear hcc972 hce972; have HR972_2 := am hi972_2; have HC972_2 := am hl972_2; clear hi972_2 hl972_2; replace p972 := eq_true p972; replace q972 := eq_true q972) | ((with_reducible refine gate_dst (N := 12) rfl ?_); refine box_event ?hg (N := 12) ?hd (cs := #[.int .i64 0, .int .i64 0, .slice none 0 0]) (t := 60) ?hr ?_; (case hd => rfl); (case hg => rfl); (case hr => (go_simp; done)); intro gb973 hg w57 hbox hb; replace HO_6 := am (Kd.S_below (Kd.S_elderB (zs HO_6.out) gb973 (Nat.le_of_eq hg.symm)) hb); replace HL972_2 := am (Kd.R_below (zr HL972_2.out) hb); replace HR972_2 := am (Kd.C_below (by repeat ((with_reducible exact HR972_2.out))) hb); have BK973 := am (hbox); have GW973 := am ((by rw [hg]; exact (below_size zw) : w.heap.size ≤ gb973)); have GE973 := am ((by rw [hg]; exact (below_size zw) : w.heap.size ≤ gb973)); replace HB := am (below_step zw hb); have NB971_973 := am ((by rw [hg]; exact Nat.ne_of_lt (blk_lt (g := gb971) (o := .cells #[.int .i64 ((T52 l1 x47_2).f0), .int .i64 ((T52 l1 x47_2).f1), .slice A970_2 ((T52 l1 x47_2).f2).length c970_2, .int .i64 ((T52 l1 x47_2).f3), .int .i64 ((T52 l1 x47_2).f4), .slice A970_5 ((T52 l1 x47_2).f5).length c970_5] 52 (0, 0)) (zk BK971.out)) : gb971 ≠ gb973)); have NB973_971 := am ((by rw [hg]; exact Nat.ne_of_gt (blk_lt (g := gb971) (o := .cells #[.int .i64 ((T52 l1 x47_2).f0), .int .i64 ((T52 l1 x47_2).f1), .slice A970_2 ((T52 l1 x47_2).f2).length c970_2, .int .i64 ((T52 l1 x47_2).f3), .int .i64 ((T52 l1 x47_2).f4), .slice A970_5 ((T52 l1 x47_2).f5).length c970_5] 52 (0, 0)) (zk BK971.out)) : gb973 ≠ gb971)); replace BK971 := am (blk_below (g := gb971) (o := .cells #[.int .i64 ((T52 l1 x47_2).f0), .int .i64 ((T52 l1 x47_2).f1), .slice A970_2 ((T52 l1 x47_2).f2).length c970_2, .int .i64 ((T52 l1 x47_2).f3), .int .i64 ((T52 l1 x47_2).f4), .slice A970_5 ((T52 l1 x47_2).f5).length c970_5] 52 (0, 0)) (zk BK971.out) hb); clear hb hbox hg; have hnb58 := NB973_971.out; have hnc58 := NB971_973.out; obtain ⟨hcz59_0, hcz59_1, hcz59_2⟩ := cz3 BK973.out; obtain ⟨hfz59_0, hfz59_1, hfz59_2⟩ := fz3 BK973.out))
         have n0_ : Aside0 (Kd.S k60 60 (((w57.setCell ⟨gb973, 0, none⟩ (.int .i64 ((T60 x6_1 x47_2).f0))).setCell ⟨gb973, 1, none⟩ (.int .i64 ((T60 x6_1 x47_2).f1))).setCell ⟨gb973, 2, none⟩ (.slice A972_2 ((T60 x6_1 x47_2).f2).length c972_2)) w.heap.size (fun k_ => k_ ≠ gb973) (.slice (some ad972) x6_1.length co21) x6_1) := ⟨by exact Kd.S_mono (Kd.S_far (p := ⟨gb973, 2, none⟩) (Kd.S_far (p := ⟨gb973, 1, none⟩) (Kd.S_far (p := ⟨gb973, 0, none⟩) (Kd.S_mono HO_6.out (fun k_ hk => (⟨hk, hk.2⟩ : _ ∧ k_ ≠ gb973))) (fun _ hk => hk.2) (.int .i64 ((T60 x6_1 x47_2).f0))) (fun _ hk => hk.2) (.int .i64 ((T60 x6_1 x47_2).f1))) (fun _ hk => hk.2) (.slice A972_2 ((T60 x6_1 x47_2).f2).length c972_2)) (fun _ hk => hk.1.2)⟩
         have n1_ : Aside0 (Kd.R Kd.string 9 (((w57.setCell ⟨gb973, 0, none⟩ (.int .i64 ((T60 x6_1 x47_2).f0))).setCell ⟨gb973, 1, none⟩ (.int .i64 ((T60 x6_1 x47_2).f1))).setCell ⟨gb973, 2, none⟩ (.slice A972_2 ((T60 x6_1 x47_2).f2).length c972_2)) w.heap.size (fun k_ => some k_ ≠ (.slice (some ad972) x6_1.length co21 : Value).ownBlock) (.slice A972_2 ((T60 x6_1 x47_2).f2).length c972_2) ((T60 x6_1 x47_2).f2)) := ⟨by exact Kd.R_mono (Kd.R_far (p := ⟨gb973, 2, none⟩) (Kd.R_far (p := ⟨gb973, 1, none⟩) (Kd.R_far (p := ⟨gb973, 0, none⟩) (Kd.R_types HL972_2.out BK973.out (by decide)) (fun _ hk => hk.2) (.int .i64 ((T60 x6_1 x47_2).f0))) (fun _ hk => hk.2) (.int .i64 ((T60 x6_1 x47_2).f1))) (fun _ hk => hk.2) (.slice A972_2 ((T60 x6_1 x47_2).f2).length c972_2)) (fun _ hk => hk.1.2)⟩
         have n2_ : Aside0 ((((w57.setCell ⟨gb973, 0, none⟩ (.int .i64 ((T60 x6_1 x47_2).f0))).setCell ⟨gb973, 1, none⟩ (.int .i64 ((T60 x6_1 x47_2).f1))).setCell ⟨gb973, 2, none⟩ (.slice A972_2 ((T60 x6_1 x47_2).f2).length c972_2)).heap[gb971]? = some (.cells #[.int .i64 ((T52 l1 x47_2).f0), .int .i64 ((T52 l1 x47_2).f1), .slice A970_2 ((T52 l1 x47_2).f2).length c970_2, .int .i64 ((T52 l1 x47_2).f3), .int .i64 ((T52 l1 x47_2).f4), .slice A970_5 ((T52 l1 x47_2).f5).length c970_5] 52 (0, 0))) := ⟨by refine blk_far ?_ NB971_973.out _; refine blk_far ?_ NB971_973.out _; refine blk_far ?_ NB971_973.out _; exact BK971.out⟩
         have n3_ : Aside0 ((((w57.setCell ⟨gb973, 0, none⟩ (.int .i64 ((T60 x6_1 x47_2).f0))).setCell ⟨gb973, 1, none⟩ (.int .i64 ((T60 x6_1 x47_2).f1))).setCell ⟨gb973, 2, none⟩ (.slice A972_2 ((T60 x6_1 x47_2).f2).length c972_2)).heap[gb973]? = some (.cells #[.int .i64 ((T60 x6_1 x47_2).f0), .int .i64 ((T60 x6_1 x47_2).f1), .slice A972_2 ((T60 x6_1 x47_2).f2).length c972_2] 60 (0, 0))) := ⟨by refine blk_put (cs := #[.int .i64 ((T60 x6_1 x47_2).f0), .int .i64 ((T60 x6_1 x47_2).f1), .slice none 0 0]) ?_ 2 _ rfl; refine blk_put (cs := #[.int .i64 ((T60 x6_1 x47_2).f0), .int .i64 0, .slice none 0 0]) ?_ 1 _ rfl; refine blk_put (cs := #[.int .i64 0, .int .i64 0, .slice none 0 0]) ?_ 0 _ rfl; exact BK973.out⟩
         have n4_ : Aside0 (Below w.heap.size w (((w57.setCell ⟨gb973, 0, none⟩ (.int .i64 ((T60 x6_1 x47_2).f0))).setCell ⟨gb973, 1, none⟩ (.int .i64 ((T60 x6_1 x47_2).f1))).setCell ⟨gb973, 2, none⟩ (.slice A972_2 ((T60 x6_1 x47_2).f2).length c972_2))) := ⟨zw⟩
         (try clear HO_6)
         (try clear HL972_2)
         (try clear BK971)
         (try clear BK973)
         (try clear HB)
         generalize (((w57.setCell ⟨gb973, 0, none⟩ (.int .i64 ((T60 x6_1 x47_2).f0))).setCell ⟨gb973, 1, none⟩ (.int .i64 ((T60 x6_1 x47_2).f1))).setCell ⟨gb973, 2, none⟩ (.slice A972_2 ((T60 x6_1 x47_2).f2).length c972_2)) = w60 at n0_ n1_ n2_ n3_ n4_ ⊢
         have HO_6 := n0_
         have HL972_2 := n1_
         have BK971 := n2_
         have BK973 := n3_
         have HB := n4_
         clear n0_ n1_ n2_ n3_ n4_
         replace HO_6 := am (Kd.S_drew HO_6.out)
         replace HL972_2 := am (Kd.R_drew HL972_2.out)
         replace BK971 := am (blk_drew BK971.out)
         replace BK973 := am (blk_drew BK973.out)
         replace HB := am (below_drew1 HB.out)
         obtain ⟨i062, hi062, _, hsz62, _⟩ := info_parts info9
         obtain ⟨A62, hcut62, hA62, hC62⟩ := print_mid_of (P := Tryz.prog) Value.string (⟨#[]⟩ : ByteArray) 24 9 .i64 .i64 Tryz.underlying24 hi062 hsz62 A0 c0 l0 ((T60 x6_1 x47_2).f0) (wrap64 (((T60 x6_1 x47_2).f0) + ((T60 x6_1 x47_2).f1))) oa (by omega) oa HC0.out
         have HR974 := am (Kd.C_of_reads (h1 := fun _ => rfl) (hA62 _ (Kd.reads_of_C HR0.out)))
         have HC974 := am hC62
         clear hA62 hC62 hi062 hsz62
         refine start_ (n := 25) (S := fun w' => w'.cell? ⟨gb973, 0, none⟩ = some (.int .i64 ((T60 x6_1 x47_2).f0)) ∧ w'.cell? ⟨gb973, 1, none⟩ = some (.int .i64 ((T60 x6_1 x47_2).f1)) ∧ w'.cell? ⟨gb973, 2, none⟩ = some (.slice A972_2 ((T60 x6_1 x47_2).f2).length c972_2) ∧ w'.cell? ⟨gb971, 0, none⟩ = some (.int .i64 ((T52 l1 x47_2).f0)) ∧ w'.cell? ⟨gb971, 1, none⟩ = some (.int .i64 ((T52 l1 x47_2).f1)) ∧ w'.cell? ⟨gb971, 2, none⟩ = some (.slice A970_2 ((T52 l1 x47_2).f2).length c970_2) ∧ w'.cell? ⟨gb971, 3, none⟩ = some (.int .i64 ((T52 l1 x47_2).f3)) ∧ w'.cell? ⟨gb971, 4, none⟩ = some (.int .i64 ((T52 l1 x47_2).f4)) ∧ w'.cell? ⟨gb971, 5, none⟩ = some (.slice A970_5 ((T52 l1 x47_2).f5).length c970_5)) (ds := []) #[O,O,O,O,O,O,O,O,O,O,O,O,O,O,O,O,O,O,O,O,O,O,O,O,O] (by kernel_rfl) rfl rfl ⟨(blk_cell BK973.out 0).trans rfl, (blk_cell BK973.out 1).trans rfl, (blk_cell BK973.out 2).trans rfl, (blk_cell BK971.out 0).trans rfl, (blk_cell BK971.out 1).trans rfl, (blk_cell BK971.out 2).trans rfl, (blk_cell BK971.out 3).trans rfl, (blk_cell BK971.out 4).trans rfl, (blk_cell BK971.out 5).trans rfl⟩ (fun hHeld => ?_); refine with_tabW spec_l5Hunks.tab16 spec_l5Hunks.bits16 (fun HT_ HW_ => ?_)
         generalize w60.drew = w61 at HO_6 HL972_2 BK971 BK973 HB HR974 hHeld ⊢
         refine pu 0 (some 56) ?_
         refine pu 1 (some 57) ?_
         refine pu 3 (some 59) ?_
         refine pu 5 (some 61) ?_
         refine pu 9 (some 65) ?_
         refine ta 2 (some 58) ?_
         refine ta 4 (some 60) ?_
         refine ta 6 (some 62) ?_
         refine pu 7 (some 63) ?_
         refine pu 8 (some 64) ?_
         refine ta 10 (some 66) ?_
         refine one_ (i := 11) (N := some 67) #[Y,Y,Y,Y,Y,Y,Y,Y,Y,Y,Y,Y,O,O,O,O,O,O,O,O,O,O,O,O,O] rfl rfl (one_of HT_.out (by kernel_rfl)) (by decide) (fun K hK => ?_)
         refine goes_ Tryz.func76 (by kernel_rfl) rfl #[.slice A62 ((l0.take ((wrap64 (((T60 x6_1 x47_2).f0) + ((T60 x6_1 x47_2).f1))) : Int).toNat).drop (((T60 x6_1 x47_2).f0) : Int).toNat).length (c0 - ((T60 x6_1 x47_2).f0).toNat), .slice A970_2 ((T52 l1 x47_2).f2).length c970_2] (by rfl) rfl rfl (by (try simp only [List.map_toArray, List.map_cons, List.map_nil]); (rw [show ((l0.take ((wrap64 (((T60 x6_1 x47_2).f0) + ((T60 x6_1 x47_2).f1))) : Int).toNat).drop (((T60 x6_1 x47_2).f0) : Int).toNat).length = ((wrap64 (((T60 x6_1 x47_2).f0) + ((T60 x6_1 x47_2).f1))).toNat - ((T60 x6_1 x47_2).f0).toNat) from (by rw [List.length_drop, List.length_take]; have h_ : ((wrap64 (((T60 x6_1 x47_2).f0) + ((T60 x6_1 x47_2).f1))) : Int) ≤ (l0.length : Int) := oa; omega)] <;> rfl)) ?_
         with_reducible refine (spec_l1SameT.calls k2 _ _ ((l0.take ((wrap64 (((T60 x6_1 x47_2).f0) + ((T60 x6_1 x47_2).f1))) : Int).toNat).drop (((T60 x6_1 x47_2).f0) : Int).toNat) _ _ ((T52 l1 x47_2).f2) false _ ?side1 ?side2 ?side3 ?side4 A30.out).mono ?_
         (case side1 => exact zq (Kd.C_below HR974.out HB.out))
         (case side2 => exact HC974.out)
         (case side3 => exact zq (Kd.C_below HR970_2.out HB.out))
         (case side4 => exact HC970_2.out)
         rintro e w' ⟨rfl, ⟨nd, rfl⟩⟩
         refine ⟨_, rfl, ?_⟩
         refine hK.out _ _ ⟨(blk_cell BK973.out 0).trans rfl, (blk_cell BK973.out 1).trans rfl, (blk_cell BK973.out 2).trans rfl, (blk_cell BK971.out 0).trans rfl, (blk_cell BK971.out 1).trans rfl, (blk_cell BK971.out 2).trans rfl, (blk_cell BK971.out 3).trans rfl, (blk_cell BK971.out 4).trans rfl, (blk_cell BK971.out 5).trans rfl⟩ (fun hHeld => ?_)
         clear hK K
         refine norm_ (a' := ?_) ?_ ?_
         rotate_left
         ·show Act.put _ (some 67) _ = _
          simp only [Act.put,qa,qb,qc,i64_w,i32_w]
          rfl
         refine pu 12 (some 68) ?_
         refine pu 13 (some 69) ?_
         refine pure_ (i := 14) (N := some 70) (v := undef) (a' := ?_) #[Y,Y,Y,Y,Y,Y,Y,Y,Y,Y,Y,Y,Y,Y,Y,O,O,O,O,O,O,O,O,O,O] rfl rfl zx (fun _ _ _ h => h) (Or.inr ⟨by rfl, rfl⟩) ?_ ?_
         rotate_left
         ·simp only [Act.put,qa,qb,qc,i64_w,i32_w]
          rfl
         refine pure_ (i := 15) (N := some 71) (v := undef) (a' := ?_) #[Y,Y,Y,Y,Y,Y,Y,Y,Y,Y,Y,Y,Y,Y,Y,Y,O,O,O,O,O,O,O,O,O] rfl rfl zx (fun _ _ _ h => h) (Or.inr ⟨by rfl, rfl⟩) ?_ ?_
         rotate_left
         ·simp only [Act.put,qa,qb,qc,i64_w,i32_w]
          rfl
         refine pure_ (i := 16) (N := some 72) (v := undef) (a' := ?_) #[Y,Y,Y,Y,Y,Y,Y,Y,Y,Y,Y,Y,Y,Y,Y,Y,Y,O,O,O,O,O,O,O,O] rfl rfl zx (fun _ _ _ h => h) (Or.inr ⟨by rfl, rfl⟩) ?_ ?_
         rotate_left
         ·simp only [Act.put,qa,qb,qc,i64_w,i32_w]
          rfl
         refine pure_ (i := 17) (N := some 73) (v := undef) (a' := ?_) #[Y,Y,Y,Y,Y,Y,Y,Y,Y,Y,Y,Y,Y,Y,Y,Y,Y,Y,O,O,O,O,O,O,O] rfl rfl zx (fun _ _ _ h => h) (Or.inr ⟨by rfl, rfl⟩) ?_ ?_
         rotate_left
         ·simp only [Act.put,qa,qb,qc,i64_w,i32_w]
          rfl
         refine pure_ (i := 18) (N := some 74) (v := undef) (a' := ?_) #[Y,Y,Y,Y,Y,Y,Y,Y,Y,Y,Y,Y,Y,Y,Y,Y,Y,Y,Y,O,O,O,O,O,O] rfl rfl zx (fun _ _ _ h => h) (Or.inr ⟨by rfl, rfl⟩) ?_ ?_
         rotate_left
         ·simp only [Act.put,qa,qb,qc,i64_w,i32_w]
          rfl
         refine pure_ (i := 19) (N := some 75) (v := undef) (a' := ?_) #[Y,Y,Y,Y,Y,Y,Y,Y,Y,Y,Y,Y,Y,Y,Y,Y,Y,Y,Y,Y,O,O,O,O,O] rfl rfl zx (fun _ _ _ h => h) (Or.inr ⟨by rfl, rfl⟩) ?_ ?_
         rotate_left
         ·simp only [Act.put,qa,qb,qc,i64_w,i32_w]
          rfl
         refine pure_ (i := 20) (N := some 76) (v := undef) (a' := ?_) #[Y,Y,Y,Y,Y,Y,Y,Y,Y,Y,Y,Y,Y,Y,Y,Y,Y,Y,Y,Y,Y,O,O,O,O] rfl rfl zx (fun _ _ _ h => h) (Or.inr ⟨by rfl, rfl⟩) ?_ ?_
         rotate_left
         ·simp only [Act.put,qa,qb,qc,i64_w,i32_w]
          rfl
         refine pure_ (i := 21) (N := some 77) (v := undef) (a' := ?_) #[Y,Y,Y,Y,Y,Y,Y,Y,Y,Y,Y,Y,Y,Y,Y,Y,Y,Y,Y,Y,Y,Y,O,O,O] rfl rfl zx (fun _ _ _ h => h) (Or.inr ⟨by rfl, rfl⟩) ?_ ?_
         rotate_left
         ·simp only [Act.put,qa,qb,qc,i64_w,i32_w]
          rfl
         refine pure_ (i := 22) (N := some 78) (v := undef) (a' := ?_) #[Y,Y,Y,Y,Y,Y,Y,Y,Y,Y,Y,Y,Y,Y,Y,Y,Y,Y,Y,Y,Y,Y,Y,O,O] rfl rfl zx (fun _ _ _ h => h) (Or.inr ⟨by rfl, rfl⟩) ?_ ?_
         rotate_left
         ·simp only [Act.put,qa,qb,qc,i64_w,i32_w]
          rfl
         refine pure_ (i := 23) (N := some 79) (v := undef) (a' := ?_) #[Y,Y,Y,Y,Y,Y,Y,Y,Y,Y,Y,Y,Y,Y,Y,Y,Y,Y,Y,Y,Y,Y,Y,Y,O] rfl rfl zx (fun _ _ _ h => h) (Or.inr ⟨by rfl, rfl⟩) ?_ ?_
         rotate_left
         ·simp only [Act.put,qa,qb,qc,i64_w,i32_w]
          rfl
         refine pu 24 (some 80) ?_
         refine done_ (done_of HT_.out (by kernel_rfl)) ?_
         try go_wp2
         go_ret2
         exact ⟨_, by rfl, by exact Kd.S_nil _ _ _ _ _, zw⟩
       ·rw [if_neg c23] at H
        have c23b0 : decide (x47_2 < (l1.length : Int)) = false := decide_eq_false c23
        clear c23
        simp only [Option.some.injEq, Prod.mk.injEq] at H
        obtain ⟨rfl, rfl⟩ := H
        go_wp2
        go_ret2
        exact ⟨_, by rfl, zs HO_6.out, zb⟩
    ·replace c20 := Bool.eq_false_iff.mpr c20
     subst c20
     rw [if_neg nofun] at H
     simp only [Option.some.injEq, Prod.mk.injEq] at H
     obtain ⟨rfl, rfl⟩ := H
     obtain ⟨Ao63, co63, eo63⟩ := Kd.S_slice HO_6.out
     subst eo63
     go_wp2_with (((with_reducible refine gateC (f := 75) rfl ?_); refine goesL_ (some 43) rfl rfl Tryz.func75 (by kernel_rfl) rfl #[.int .i64 (l0.length : Int), .slice Ao63 x6_1.length co63] rfl zm ?_; (with_reducible refine (spec_l2Hunks.calls k1 (l0.length : Int) _ _ x6_1 false _ ?side1 ?side2 A19.out).mono ?_); (case side1 => repeat (exact (Kd.S_reads' HO_6.out).2.2)); (case side2 => exact (Kd.S_reads' HO_6.out).2.1); rintro e w64 ⟨rfl, hb⟩; refine ⟨_, rfl, ?_⟩; replace HO_6 := am (Kd.S_below (zs HO_6.out) hb); replace HB := am (below_step zb hb); (try clear hb)))
     go_ret2
     exact ⟨_, by rfl, by exact Kd.S_nil _ _ _ _ _, zb⟩

def spec_StepsHunks.f (k : Nat) (l0 : List ByteArray) (l1 : List (S52)) : Option ((List (S60)) × Int × Bool) := (spec_l1Good.f k l0).bind fun t977 => (if t977 = true then ((spec_GoodSteps.f k l1).bind fun t978 => (if t978 = true then ((spec_l5Hunks.f k l0 l1).bind fun bt979 => (some (bt979.1, bt979.2, true))) else (some (([] : List (S60)), 0, false)))) else (some (([] : List (S60)), 0, false)))
set_option maxHeartbeats 8000000 in
set_option maxRecDepth 100000 in
theorem spec_StepsHunks.calls (k : Nat) (A0 : Option Addr) (c0 : Nat) (l0 : List ByteArray) (A1 : Option Addr) (c1 : Nat) (l1 : List (S52)) (r1 : List (S60)) (r2 : Int) (r3 : Bool) (w : World) (hr0 : Kd.C Kd.string w A0 l0.length l0) (hc0 : l0.length ≤ c0) (hr1 : Kd.C k52 w A1 l1.length l1) (hc1 : l1.length ≤ c1) (h : spec_StepsHunks.f k l0 l1 = some (r1, r2, r3)) :
  Calls Tryz.prog 20 #[.slice A0 l0.length c0, .slice A1 l1.length c1] w fun e w' => ∃ v0_ : Value, e = .returned (.tuple #[v0_, .int .i64 r2, .bool r3]) ∧ Kd.S k60 60 w' w.heap.size (fun _ => True) v0_ r1 ∧ Below w.heap.size w w' := by
 have HR0 := am hr0
 have HC0 := am hc0
 clear hr0 hc0
 have HR1 := am hr1
 have HC1 := am hc1
 clear hr1 hc1
 have HB := am (Below.refl w.heap.size w)
 have H := h
 clear h
 unfold spec_StepsHunks.f at H
 replace H := Option.bind_eq_some_iff.mp H
 obtain ⟨t977, A30, H⟩ := H
 replace H : (if t977 = true then ((spec_GoodSteps.f k l1).bind fun t978 => (if t978 = true then ((spec_l5Hunks.f k l0 l1).bind fun bt979 => (some (bt979.1, bt979.2, true))) else (some (([] : List (S60)), 0, false)))) else (some (([] : List (S60)), 0, false))) = some (r1, r2, r3) := H
 have A3 := am A30
 clear A30
 by_cases c4 : t977 = true
 ·subst c4
  rw [if_pos rfl] at H
  replace H := Option.bind_eq_some_iff.mp H
  obtain ⟨t978, A50, H⟩ := H
  replace H : (if t978 = true then ((spec_l5Hunks.f k l0 l1).bind fun bt979 => (some (bt979.1, bt979.2, true))) else (some (([] : List (S60)), 0, false))) = some (r1, r2, r3) := H
  have A5 := am A50
  clear A50
  by_cases c6 : t978 = true
  ·subst c6
   rw [if_pos rfl] at H
   replace H := Option.bind_eq_some_iff.mp H
   obtain ⟨⟨t979, t980⟩, A70, H⟩ := H
   dsimp only at H
   have A7 := am A70
   clear A70
   simp only [Option.some.injEq, Prod.mk.injEq] at H
   obtain ⟨rfl, rfl, rfl⟩ := H
   go_enter Tryz.func20, Tryz.ntmps20
   go_wp2_with (first | ((with_reducible refine gateC (f := 41) rfl ?_); refine goesL_ (some 10) rfl rfl Tryz.func41 (by kernel_rfl) rfl #[.slice A0 l0.length c0] rfl zm ?_; (with_reducible refine (spec_l1Good.calls k _ _ l0 true _ ?side1 ?side2 A3.out).mono ?_); (case side1 => exact zq HR0.out); (case side2 => exact HC0.out); rintro e w' ⟨rfl, ⟨nd, rfl⟩⟩; refine ⟨_, rfl, ?_⟩) | (go_at_call 42; (with_reducible refine (spec_GoodSteps.calls k _ _ l1 true _ ?side1 ?side2 A5.out).mono ?_); (case side1 => exact zq HR1.out); (case side2 => exact HC1.out); rintro e w8 ⟨rfl, hb⟩; replace HB := am (below_step zb hb); (try clear hb)) | ((with_reducible refine gateC (f := 43) rfl ?_); refine goesL_ (some 20) rfl rfl Tryz.func43 (by kernel_rfl) rfl #[.slice A0 l0.length c0, .slice A1 l1.length c1] rfl zm ?_; (with_reducible refine (spec_l5Hunks.calls k _ _ l0 _ _ l1 t979 t980 _ ?side1 ?side2 ?side3 ?side4 A7.out).mono ?_); (case side1 => exact zq (Kd.C_below HR0.out HB.out)); (case side2 => exact HC0.out); (case side3 => exact zq (Kd.C_below HR1.out HB.out)); (case side4 => exact HC1.out); rintro e w9 ⟨v981, rfl, ho0, hb⟩; refine ⟨_, rfl, ?_⟩; have HO982 := am (Kd.S_lower ho0 (below_size zb)); replace HB := am (below_step zb hb); (try clear hb); (try clear ho0)))
   go_ret3
   exact ⟨_, by rfl, zs HO982.out, zb⟩
  ·replace c6 := Bool.eq_false_iff.mpr c6
   subst c6
   rw [if_neg nofun] at H
   simp only [Option.some.injEq, Prod.mk.injEq] at H
   obtain ⟨rfl, rfl, rfl⟩ := H
   go_enter Tryz.func20, Tryz.ntmps20
   go_wp2_with (first | ((with_reducible refine gateC (f := 41) rfl ?_); refine goesL_ (some 10) rfl rfl Tryz.func41 (by kernel_rfl) rfl #[.slice A0 l0.length c0] rfl zm ?_; (with_reducible refine (spec_l1Good.calls k _ _ l0 true _ ?side1 ?side2 A3.out).mono ?_); (case side1 => exact zq HR0.out); (case side2 => exact HC0.out); rintro e w' ⟨rfl, ⟨nd, rfl⟩⟩; refine ⟨_, rfl, ?_⟩) | (go_at_call 42; (with_reducible refine (spec_GoodSteps.calls k _ _ l1 false _ ?side1 ?side2 A5.out).mono ?_); (case side1 => exact zq HR1.out); (case side2 => exact HC1.out); rintro e w10 ⟨rfl, hb⟩; replace HB := am (below_step zb hb); (try clear hb)))
   go_ret3
   exact ⟨_, by rfl, by exact Kd.S_nil _ _ _ _ _, zb⟩
 ·replace c4 := Bool.eq_false_iff.mpr c4
  subst c4
  rw [if_neg nofun] at H
  simp only [Option.some.injEq, Prod.mk.injEq] at H
  obtain ⟨rfl, rfl, rfl⟩ := H
  go_enter Tryz.func20, Tryz.ntmps20
  go_wp2_with (((with_reducible refine gateC (f := 41) rfl ?_); refine goesL_ (some 10) rfl rfl Tryz.func41 (by kernel_rfl) rfl #[.slice A0 l0.length c0] rfl zm ?_; (with_reducible refine (spec_l1Good.calls k _ _ l0 false _ ?side1 ?side2 A3.out).mono ?_); (case side1 => exact zq HR0.out); (case side2 => exact HC0.out); rintro e w' ⟨rfl, ⟨nd, rfl⟩⟩; refine ⟨_, rfl, ?_⟩))
  go_ret3
  exact ⟨_, by rfl, by exact Kd.S_nil _ _ _ _ _, zb⟩

def spec_ApplySteps.j0 : Nat → List ByteArray → List (S60) → Int → Bool → Bool → Option (List ByteArray × Int × Bool)
 | 0, _, _, _, _, _ => none
 | k + 1, x0, x7, x8, x9, x24 => if x24 = true then (some (([] : List ByteArray), x8, x9)) else ((spec_Patch.f k x0 x7).bind fun bt988 => (if bt988.2 = true then (some (bt988.1, 0, true)) else (some (([] : List ByteArray), 2, true))))
def spec_ApplySteps.f (k : Nat) (l0 : List ByteArray) (l1 : List (S52)) : Option (List ByteArray × Int × Bool) := (spec_StepsHunks.f k l0 l1).bind fun bt983 => (if bt983.2.2 = true then (spec_ApplySteps.j0 k l0 bt983.1 bt983.2.1 bt983.2.2 (decide (bt983.2.1 > 0))) else (spec_ApplySteps.j0 k l0 bt983.1 bt983.2.1 bt983.2.2 true))
set_option maxHeartbeats 8000000 in
set_option maxRecDepth 100000 in
theorem spec_ApplySteps.calls (k : Nat) (A0 : Option Addr) (c0 : Nat) (l0 : List ByteArray) (A1 : Option Addr) (c1 : Nat) (l1 : List (S52)) (r1 : List ByteArray) (r2 : Int) (r3 : Bool) (w : World) (hr0 : Kd.C Kd.string w A0 l0.length l0) (hc0 : l0.length ≤ c0) (hr1 : Kd.C k52 w A1 l1.length l1) (hc1 : l1.length ≤ c1) (h : spec_ApplySteps.f k l0 l1 = some (r1, r2, r3)) :
  Calls Tryz.prog 19 #[.slice A0 l0.length c0, .slice A1 l1.length c1] w fun e w' => ∃ v0_ : Value, e = .returned (.tuple #[v0_, .int .i64 r2, .bool r3]) ∧ Kd.R Kd.string 9 w' w.heap.size (fun _ => True) v0_ r1 ∧ Below w.heap.size w w' := by
 have HR0 := am hr0
 have HC0 := am hc0
 clear hr0 hc0
 have HR1 := am hr1
 have HC1 := am hc1
 clear hr1 hc1
 have HB := am (Below.refl w.heap.size w)
 have H := h
 clear h
 unfold spec_ApplySteps.f at H
 replace H := Option.bind_eq_some_iff.mp H
 obtain ⟨⟨t983, t984, t985⟩, A30, H⟩ := H
 dsimp only at H
 have A3 := am A30
 clear A30
 have HC4 := am H
 clear H
 go_enter Tryz.func19, Tryz.ntmps19
 go_upto_region 2 with (((with_reducible refine gateC (f := 20) rfl ?_); refine goesL_ (some 15) rfl rfl Tryz.func20 (by kernel_rfl) rfl #[.slice A0 l0.length c0, .slice A1 l1.length c1] rfl zm ?_; (with_reducible refine (spec_StepsHunks.calls k _ _ l0 _ _ l1 t983 t984 t985 _ ?side1 ?side2 ?side3 ?side4 A3.out).mono ?_); (case side1 => exact zq HR0.out); (case side2 => exact HC0.out); (case side3 => exact zq HR1.out); (case side4 => exact HC1.out); rintro e w5 ⟨v986, rfl, ho0, hb⟩; refine ⟨_, rfl, ?_⟩; have HO987 := am (Kd.S_lower ho0 (below_size zb)); replace HB := am (below_step zb hb); (try clear hb); (try clear ho0)))
 go_cut [24] (fun v24 wc => ∃ (kq : Nat) (x24_3 : Bool), v24 = .bool x24_3 ∧ Aside0 (spec_ApplySteps.j0 kq l0 t983 t984 t985 x24_3 = some (r1, r2, r3)) ∧ Aside0 (kq ≤ k) ∧ Aside0 (Kd.S k60 60 wc w.heap.size (fun _ => True) v986 t983) ∧ Aside0 (Below w.heap.size w wc))
 case first =>
  have H := HC4.out
  clear HC4
  by_cases c6 : t985 = true
  ·subst c6
   rw [if_pos rfl] at H
   have H' := am H
   clear H
   go_wp2
   go_meet
   case rel => exact ⟨_, (decide (t984 > 0)), zf, H', ⟨by omega⟩, ⟨zs HO987.out⟩, ⟨zb⟩⟩
  ·replace c6 := Bool.eq_false_iff.mpr c6
   subst c6
   rw [if_neg nofun] at H
   have H' := am H
   clear H
   go_wp2
   go_meet
   case rel => exact ⟨_, (true), zf, H', ⟨by omega⟩, ⟨zs HO987.out⟩, ⟨zb⟩⟩
 case rest =>
  clear HC4
  obtain ⟨kq, x24_3, rfl, HA, HJ3, HO_7, HB⟩ := hcut
  cases kq with
  | zero => exact absurd HA.out (by simp [spec_ApplySteps.j0])
  | succ kj3 =>
   have H := HA.out
   clear HA
   simp only [spec_ApplySteps.j0] at H
   by_cases c7 : x24_3 = true
   ·subst c7
    rw [if_pos rfl] at H
    simp only [Option.some.injEq, Prod.mk.injEq] at H
    obtain ⟨rfl, rfl, rfl⟩ := H
    go_wp2
    go_ret3
    exact ⟨_, by rfl, by exact Kd.R_nil _ _ _ _ _, zb⟩
   ·replace c7 := Bool.eq_false_iff.mpr c7
    subst c7
    rw [if_neg nofun] at H
    replace H := Option.bind_eq_some_iff.mp H
    obtain ⟨⟨t988, t989⟩, A80, H⟩ := H
    dsimp only at H
    have A8 := am A80
    clear A80
    by_cases c9 : t989 = true
    ·subst c9
     rw [if_pos rfl] at H
     simp only [Option.some.injEq, Prod.mk.injEq] at H
     obtain ⟨rfl, rfl, rfl⟩ := H
     obtain ⟨Ao10, co10, eo10⟩ := Kd.S_slice HO_7.out
     subst eo10
     go_wp2_with (((with_reducible refine gateC (f := 28) rfl ?_); refine goesL_ (some 30) rfl rfl Tryz.func28 (by kernel_rfl) rfl #[.slice A0 l0.length c0, .slice Ao10 t983.length co10] rfl zm ?_; (with_reducible refine (spec_Patch.calls kj3 _ _ l0 _ _ t983 t988 true _ ?side1 ?side2 ?side3 ?side4 A8.out).mono ?_); (case side1 => exact zq (Kd.C_below HR0.out HB.out)); (case side2 => exact HC0.out); (case side3 => repeat (exact (Kd.S_reads' HO_7.out).2.2)); (case side4 => exact (Kd.S_reads' HO_7.out).2.1); rintro e w11 ⟨v990, rfl, ho0, hb⟩; refine ⟨_, rfl, ?_⟩; replace HO_7 := am (Kd.S_elder' (zs HO_7.out) (Kd.R_base ho0) hb); have HO991 := am (Kd.R_lower ho0 (below_size zb)); replace HB := am (below_step zb hb); (try clear hb); (try clear ho0)))
     go_ret3
     exact ⟨_, by rfl, zr HO991.out, zb⟩
    ·replace c9 := Bool.eq_false_iff.mpr c9
     subst c9
     rw [if_neg nofun] at H
     simp only [Option.some.injEq, Prod.mk.injEq] at H
     obtain ⟨rfl, rfl, rfl⟩ := H
     obtain ⟨Ao12, co12, eo12⟩ := Kd.S_slice HO_7.out
     subst eo12
     go_wp2_with (((with_reducible refine gateC (f := 28) rfl ?_); refine goesL_ (some 30) rfl rfl Tryz.func28 (by kernel_rfl) rfl #[.slice A0 l0.length c0, .slice Ao12 t983.length co12] rfl zm ?_; (with_reducible refine (spec_Patch.calls kj3 _ _ l0 _ _ t983 t988 false _ ?side1 ?side2 ?side3 ?side4 A8.out).mono ?_); (case side1 => exact zq (Kd.C_below HR0.out HB.out)); (case side2 => exact HC0.out); (case side3 => repeat (exact (Kd.S_reads' HO_7.out).2.2)); (case side4 => exact (Kd.S_reads' HO_7.out).2.1); rintro e w13 ⟨v990, rfl, ho0, hb⟩; refine ⟨_, rfl, ?_⟩; replace HO_7 := am (Kd.S_elder' (zs HO_7.out) (Kd.R_base ho0) hb); have HO991 := am (Kd.R_lower ho0 (below_size zb)); replace HB := am (below_step zb hb); (try clear hb); (try clear ho0)))
     go_ret3
     exact ⟨_, by rfl, by exact Kd.R_nil _ _ _ _ _, zb⟩

def IsS77 (w0 W : World) (g : Nat) (f0 : List Int) (f1 : Int) (f2 : Int) : Prop := ∃ A0 c0, W.heap[g]? = some (.cells #[.slice A0 f0.length c0, .int .i64 f1, .int .u64 f2] 77 (0, 0)) ∧ w0.heap.size ≤ g ∧ Kd.C (Kd.int .u8) w0 A0 f0.length f0
theorem IsS77.grown {w0 W : World} {g : Nat} {f0 : List Int} {f1 : Int} {f2 : Int} {W1 : World} {row : Option Nat} (h : IsS77 w0 W g f0 f1 f2) (hw : W.grownBy W1 row) (hne : some g ≠ row) : IsS77 w0 W1 g f0 f1 f2 := by
 obtain ⟨A0, c0, hb, hg, hr0⟩ := h
 exact ⟨A0, c0, blk_grown hb hw hne, hg, hr0⟩
theorem IsS77.below {w0 W : World} {g : Nat} {f0 : List Int} {f1 : Int} {f2 : Int} {W1 : World} (h : IsS77 w0 W g f0 f1 f2) (hw : Below W.heap.size W W1) : IsS77 w0 W1 g f0 f1 f2 := h.grown (grown_of_below hw none) (by simp)
theorem IsS77.alloc {w0 W : World} {g : Nat} {f0 : List Int} {f1 : Int} {f2 : Int} (h : IsS77 w0 W g f0 f1 f2) (o : Obj) : IsS77 w0 (W.alloc o) g f0 f1 f2 := h.below (below_alloc (Below.refl _ _) o)
theorem IsS77.drewN {w0 W : World} {g : Nat} {f0 : List Int} {f1 : Int} {f2 : Int} (h : IsS77 w0 W g f0 f1 f2) (m : Nat) : IsS77 w0 (W.drewN m) g f0 f1 f2 := h
theorem IsS77.drew {w0 W : World} {g : Nat} {f0 : List Int} {f1 : Int} {f2 : Int} (h : IsS77 w0 W g f0 f1 f2) : IsS77 w0 W.drew g f0 f1 f2 := h
theorem IsS77.at_ {w0 W : World} {g : Nat} {f0 : List Int} {f1 : Int} {f2 : Int} {w' : World} {m : Nat} (hq : W.drewN m = w') (h : IsS77 w0 W g f0 f1 f2) : IsS77 w0 w' g f0 f1 f2 := by subst hq; exact IsS77.drewN h m
theorem IsS77.apart {w0 W : World} {g : Nat} {f0 : List Int} {f1 : Int} {f2 : Int} {α : Type} {d : Kd α} {e : Nat} {base : Nat} {ok : Nat → Prop} {v : Value} {xs : List α} (h : IsS77 w0 W g f0 f1 f2) (ho : d.R e W base ok v xs) (ht : ∀ q, q ∈ e :: d.E → q ≠ 77) : d.R e W base (fun k => ok k ∧ k ≠ g) v xs := by
 obtain ⟨A0, c0, hb, hg, hr0⟩ := h
 exact Kd.R_types ho hb ht
theorem IsS77.own_ne {w0 W : World} {g : Nat} {f0 : List Int} {f1 : Int} {f2 : Int} {α : Type} {d : Kd α} {e : Nat} {base : Nat} {ok : Nat → Prop} {v : Value} {xs : List α} (h : IsS77 w0 W g f0 f1 f2) (ho : d.R e W base ok v xs) (ht : e ≠ 77) : some g ≠ v.ownBlock := by
 obtain ⟨A0, c0, hb, hg, hr0⟩ := h
 exact Kd.R_ne ho hb ht
theorem IsS77.apartS {w0 W : World} {g : Nat} {f0 : List Int} {f1 : Int} {f2 : Int} {α : Type} {d : Kd α} {e : Nat} {base : Nat} {ok : Nat → Prop} {v : Value} {xs : List α} (h : IsS77 w0 W g f0 f1 f2) (ho : d.S e W base ok v xs) (ht : ∀ q, q ∈ e :: d.E → q ≠ 77) : d.S e W base (fun k => ok k ∧ k ≠ g) v xs := by
 obtain ⟨A0, c0, hb, hg, hr0⟩ := h
 exact Kd.S_types ho hb ht
theorem IsS77.own_neS {w0 W : World} {g : Nat} {f0 : List Int} {f1 : Int} {f2 : Int} {α : Type} {d : Kd α} {e : Nat} {base : Nat} {ok : Nat → Prop} {v : Value} {xs : List α} (h : IsS77 w0 W g f0 f1 f2) (ho : d.S e W base ok v xs) (ht : e ≠ 77) : some g ≠ v.ownBlock := by
 obtain ⟨A0, c0, hb, hg, hr0⟩ := h
 exact Kd.S_ne ho hb ht
theorem IsS77.lt {w0 W : World} {g : Nat} {f0 : List Int} {f1 : Int} {f2 : Int} (h : IsS77 w0 W g f0 f1 f2) : g < W.heap.size := by
 obtain ⟨A0, c0, hb, hg, hr0⟩ := h
 exact blk_lt hb
theorem IsS77.ge {w0 W : World} {g : Nat} {f0 : List Int} {f1 : Int} {f2 : Int} (h : IsS77 w0 W g f0 f1 f2) : w0.heap.size ≤ g := by
 obtain ⟨A0, c0, hb, hg, hr0⟩ := h
 exact hg
theorem IsS77.far {w0 W : World} {g : Nat} {f0 : List Int} {f1 : Int} {f2 : Int} {p : Addr} (h : IsS77 w0 W g f0 f1 f2) (hne : g ≠ p.block) (u : Value) : IsS77 w0 (W.setCell p u) g f0 f1 f2 := by
 obtain ⟨A0, c0, hb, hg, hr0⟩ := h
 exact ⟨A0, c0, blk_far hb hne u, hg, hr0⟩
theorem cellS77_0 {W : World} {g : Nat} {A0 : Option Addr} {c0 : Nat} {f0 : List Int} {f1 : Int} {f2 : Int} (h : W.heap[g]? = some (.cells #[.slice A0 f0.length c0, .int .i64 f1, .int .u64 f2] 77 (0, 0))) : W.cell? ⟨g, 0, none⟩ = some (.slice A0 f0.length c0) := (blk_cell h 0).trans rfl
theorem cellS77_1 {W : World} {g : Nat} {A0 : Option Addr} {c0 : Nat} {f0 : List Int} {f1 : Int} {f2 : Int} (h : W.heap[g]? = some (.cells #[.slice A0 f0.length c0, .int .i64 f1, .int .u64 f2] 77 (0, 0))) : W.cell? ⟨g, 1, none⟩ = some (.int .i64 f1) := (blk_cell h 1).trans rfl
theorem IsS77.set_1 {w0 W : World} {g : Nat} {f0 : List Int} {f1 : Int} {f2 : Int} (h : IsS77 w0 W g f0 f1 f2) (x : Int) : IsS77 w0 (W.setCell ⟨g, 1, none⟩ (.int .i64 x)) g f0 x f2 := by
 obtain ⟨A0, c0, hb, hg, hr0⟩ := h
 exact ⟨A0, c0, by simpa using blk_set hb 1 (.int .i64 x), hg, hr0⟩
theorem cellS77_2 {W : World} {g : Nat} {A0 : Option Addr} {c0 : Nat} {f0 : List Int} {f1 : Int} {f2 : Int} (h : W.heap[g]? = some (.cells #[.slice A0 f0.length c0, .int .i64 f1, .int .u64 f2] 77 (0, 0))) : W.cell? ⟨g, 2, none⟩ = some (.int .u64 f2) := (blk_cell h 2).trans rfl
theorem IsS77.set_2 {w0 W : World} {g : Nat} {f0 : List Int} {f1 : Int} {f2 : Int} (h : IsS77 w0 W g f0 f1 f2) (x : Int) : IsS77 w0 (W.setCell ⟨g, 2, none⟩ (.int .u64 x)) g f0 f1 x := by
 obtain ⟨A0, c0, hb, hg, hr0⟩ := h
 exact ⟨A0, c0, by simpa using blk_set hb 2 (.int .u64 x), hg, hr0⟩
def spec_l1Cur_next.f (s0_0 : List Int) (s0_1 : Int) (s0_2 : Int) : Option (Int × Int × Int) := if s0_1 < (s0_0.length : Int) then (if 0 ≤ s0_1 then (if (wrap64 (s0_1 + 1)) ≤ (s0_0.length : Int) then (some (wrap64 (rd s0_0 s0_1), wrap64 (s0_1 + 1), IntKind.u64.wrap ((IntKind.u64.wrap ((IntKind.u64.wrap (s0_2 * 6364136223846793005)) + (IntKind.u64.wrap (wrap64 (rd s0_0 s0_1))))) + 1442695040888963407))) else (some (wrap64 (Go.bits .and .u64 ((IntKind.u64.wrap ((IntKind.u64.wrap ((IntKind.u64.wrap (s0_2 * 6364136223846793005)) + (IntKind.u64.wrap (wrap64 (rd s0_0 s0_1))))) + 1442695040888963407)) / 1099511627776) 255), wrap64 (s0_1 + 1), IntKind.u64.wrap ((IntKind.u64.wrap ((IntKind.u64.wrap (s0_2 * 6364136223846793005)) + (IntKind.u64.wrap (wrap64 (rd s0_0 s0_1))))) + 1442695040888963407)))) else (none)) else (if (wrap64 (s0_1 + 1)) ≤ (s0_0.length : Int) then (some (0, wrap64 (s0_1 + 1), IntKind.u64.wrap ((IntKind.u64.wrap ((IntKind.u64.wrap (s0_2 * 6364136223846793005)) + 0)) + 1442695040888963407))) else (some (wrap64 (Go.bits .and .u64 ((IntKind.u64.wrap ((IntKind.u64.wrap ((IntKind.u64.wrap (s0_2 * 6364136223846793005)) + 0)) + 1442695040888963407)) / 1099511627776) 255), wrap64 (s0_1 + 1), IntKind.u64.wrap ((IntKind.u64.wrap ((IntKind.u64.wrap (s0_2 * 6364136223846793005)) + 0)) + 1442695040888963407))))
set_option maxHeartbeats 8000000 in
set_option maxRecDepth 100000 in
theorem spec_l1Cur_next.calls (g : Nat) (s0_0 : List Int) (s0_1 : Int) (s0_2 : Int) (r1 : Int) (r2 : Int) (r3 : Int) (w0 w : World) (hI : IsS77 w0 w g s0_0 s0_1 s0_2) (hB : Below w0.heap.size w0 w) (h : spec_l1Cur_next.f s0_0 s0_1 s0_2 = some (r1, r2, r3)) :
  Calls Tryz.prog 124 #[.pointer (some ⟨g, 0, none⟩)] w fun e w' => e = .returned (.int .i64 r1) ∧ IsS77 w0 w' g s0_0 r2 r3 ∧ Below w0.heap.size w0 w' ∧ KeepBut w w' g none := by
 have HI0 := am hI
 have HK := am (KeepBut.refl w g none)
 have HL := am hB.size
 clear hI
 have HW0 := am hB.size
 have HB := am hB
 clear hB
 have H := h
 clear h
 unfold spec_l1Cur_next.f at H
 by_cases c2 : s0_1 < (s0_0.length : Int)
 ·rw [if_pos c2] at H
  have c2b0 : decide (s0_1 < (s0_0.length : Int)) = true := decide_eq_true c2
  clear c2
  obtain ⟨c3, H⟩ := itn H
  have c3b0 := decide_eq_true c3
  clear c3
  by_cases c4 : (wrap64 (s0_1 + 1)) ≤ (s0_0.length : Int)
  ·rw [if_pos c4] at H
   have c4b0 : decide ((wrap64 (s0_1 + 1)) ≤ (s0_0.length : Int)) = true := decide_eq_true c4
   clear c4
   simp only [Option.some.injEq, Prod.mk.injEq] at H
   obtain ⟨rfl, rfl, rfl⟩ := H
   obtain ⟨ASz5_0, cSz5_0, HGz5, hgz5, HSz5_0⟩ := HI0.out
   have hcz5_0 := cellS77_0 HGz5
   have hcz5_1 := cellS77_1 HGz5
   have hcz5_2 := cellS77_2 HGz5
   have hfz5_1 := blk_frozen HGz5 1
   have hfz5_2 := blk_frozen HGz5 2
   clear HGz5 hgz5
   have p527 : 0 ≤ (s0_1 : Int) := oa
   have q527 : s0_1 < (s0_0.length : Int) := oa
   obtain ⟨ad527, e527, hx527_0⟩ := Kd.at_int HSz5_0 s0_1 p527 q527
   cases e527
   replace hx527_0 := pw_cell_below HB.out hx527_0
   replace p527 := eq_true p527
   replace q527 := eq_true q527
   go_enter Tryz.func124, Tryz.ntmps124
   go_wp2
   repeat (go_quiet (fail); try go_wp2)
   go_ret
   (try simp only [Int.add_zero])
   exact ⟨by rfl, zi, zj, zh⟩
  ·rw [if_neg c4] at H
   have c4b0 : decide ((wrap64 (s0_1 + 1)) ≤ (s0_0.length : Int)) = false := decide_eq_false c4
   clear c4
   simp only [Option.some.injEq, Prod.mk.injEq] at H
   obtain ⟨rfl, rfl, rfl⟩ := H
   obtain ⟨ASz6_0, cSz6_0, HGz6, hgz6, HSz6_0⟩ := HI0.out
   have hcz6_0 := cellS77_0 HGz6
   have hcz6_1 := cellS77_1 HGz6
   have hcz6_2 := cellS77_2 HGz6
   have hfz6_1 := blk_frozen HGz6 1
   have hfz6_2 := blk_frozen HGz6 2
   clear HGz6 hgz6
   have p527 : 0 ≤ (s0_1 : Int) := oa
   have q527 : s0_1 < (s0_0.length : Int) := oa
   obtain ⟨ad527, e527, hx527_0⟩ := Kd.at_int HSz6_0 s0_1 p527 q527
   cases e527
   replace hx527_0 := pw_cell_below HB.out hx527_0
   replace p527 := eq_true p527
   replace q527 := eq_true q527
   go_enter Tryz.func124, Tryz.ntmps124
   go_wp2
   repeat (go_quiet (fail); try go_wp2)
   go_ret
   (try simp only [Int.add_zero])
   exact ⟨by rfl, zi, zj, zh⟩
 ·rw [if_neg c2] at H
  have c2b0 : decide (s0_1 < (s0_0.length : Int)) = false := decide_eq_false c2
  clear c2
  by_cases c7 : (wrap64 (s0_1 + 1)) ≤ (s0_0.length : Int)
  ·rw [if_pos c7] at H
   have c7b0 : decide ((wrap64 (s0_1 + 1)) ≤ (s0_0.length : Int)) = true := decide_eq_true c7
   clear c7
   simp only [Option.some.injEq, Prod.mk.injEq] at H
   obtain ⟨rfl, rfl, rfl⟩ := H
   obtain ⟨ASz8_0, cSz8_0, HGz8, hgz8, HSz8_0⟩ := HI0.out
   have hcz8_0 := cellS77_0 HGz8
   have hcz8_1 := cellS77_1 HGz8
   have hcz8_2 := cellS77_2 HGz8
   have hfz8_1 := blk_frozen HGz8 1
   have hfz8_2 := blk_frozen HGz8 2
   clear HGz8 hgz8
   go_enter Tryz.func124, Tryz.ntmps124
   go_wp2
   repeat (go_quiet (fail); try go_wp2)
   go_ret
   (try simp only [Int.add_zero])
   exact ⟨by rfl, zi, zj, zh⟩
  ·rw [if_neg c7] at H
   have c7b0 : decide ((wrap64 (s0_1 + 1)) ≤ (s0_0.length : Int)) = false := decide_eq_false c7
   clear c7
   simp only [Option.some.injEq, Prod.mk.injEq] at H
   obtain ⟨rfl, rfl, rfl⟩ := H
   obtain ⟨ASz9_0, cSz9_0, HGz9, hgz9, HSz9_0⟩ := HI0.out
   have hcz9_0 := cellS77_0 HGz9
   have hcz9_1 := cellS77_1 HGz9
   have hcz9_2 := cellS77_2 HGz9
   have hfz9_1 := blk_frozen HGz9 1
   have hfz9_2 := blk_frozen HGz9 2
   clear HGz9 hgz9
   go_enter Tryz.func124, Tryz.ntmps124
   go_wp2
   repeat (go_quiet (fail); try go_wp2)
   go_ret
   (try simp only [Int.add_zero])
   exact ⟨by rfl, zi, zj, zh⟩

def spec_l4Number.f (a0 : Int) (a1 : Int) : Option (Int) := if a1 > 0 then (some (wrap64 (a0 + 1))) else (some a0)
set_option maxHeartbeats 8000000 in
set_option maxRecDepth 100000 in
theorem spec_l4Number.calls (a0 : Int) (a1 : Int) (r : Int) (w : World) (h : spec_l4Number.f a0 a1 = some r) :
  Calls Tryz.prog 61 #[.int .i64 a0, .int .i64 a1] w fun e w' => e = .returned (.int .i64 r) ∧ Drawn0 w w' := by
 have H : (if a1 > 0 then (some (wrap64 (a0 + 1))) else (some a0)) = some r := h
 clear h
 by_cases c3 : a1 > 0
 ·rw [if_pos c3] at H
  have c3b0 : decide (0 < a1) = true := decide_eq_true c3
  clear c3
  obtain rfl := Option.some.inj H
  go_enter Tryz.func61, Tryz.ntmps61
  go_wp2
  go_ret
  exact ⟨by first | rfl | (simp; done) | (simp [*]; done), by repeat (first | exact Drawn0.refl _ | apply Drawn0.step)⟩
 ·rw [if_neg c3] at H
  have c3b0 : decide (0 < a1) = false := decide_eq_false c3
  clear c3
  obtain rfl := Option.some.inj H
  go_enter Tryz.func61, Tryz.ntmps61
  go_wp2
  go_ret
  exact ⟨by first | rfl | (simp; done) | (simp [*]; done), by repeat (first | exact Drawn0.refl _ | apply Drawn0.step)⟩

def spec_l5Steps.l0 : Nat → List ByteArray → List (S52) → Int → List (S60) → Int → Int → Option ((List (S52)))
 | 0, _, _, _, _, _, _ => none
 | k + 1, x0, x5, x6, x12, x13, x14 => if x14 < x13 then (if 0 ≤ x14 then (if x14 < (x12.length : Int) then ((spec_l4Number.f ((T60 x12 x14).f0) ((T60 x12 x14).f1)).bind fun t766 => (if 0 ≤ ((T60 x12 x14).f0) then (if ((T60 x12 x14).f0) ≤ (wrap64 (((T60 x12 x14).f0) + ((T60 x12 x14).f1))) then (if (wrap64 (((T60 x12 x14).f0) + ((T60 x12 x14).f1))) ≤ (x0.length : Int) then ((spec_l1OwnT.f ((x0.take ((wrap64 (((T60 x12 x14).f0) + ((T60 x12 x14).f1))) : Int).toNat).drop (((T60 x12 x14).f0) : Int).toNat)).bind fun t768 => ((spec_l4Number.f (wrap64 (((T60 x12 x14).f0) + x6)) (((T60 x12 x14).f2).length : Int)).bind fun t771 => ((spec_l1OwnT.f ((T60 x12 x14).f2)).bind fun t772 => (if x5.length < 1759218604441 then (spec_l5Steps.l0 k x0 (x5 ++ [(⟨t766, wrap64 (((T60 x12 x14).f0) + ((T60 x12 x14).f1)), t768, t771, wrap64 ((wrap64 (((T60 x12 x14).f0) + x6)) + (((T60 x12 x14).f2).length : Int)), t772⟩ : S52)]) (wrap64 (x6 + (wrap64 ((((T60 x12 x14).f2).length : Int) - ((T60 x12 x14).f1))))) x12 x13 (wrap64 (x14 + 1))) else (none))))) else (none)) else (none)) else (none))) else (none)) else (none)) else (some x5)
def spec_l5Steps.f (k : Nat) (l0 : List ByteArray) (l1 : List (S60)) : Option ((List (S52))) := spec_l5Steps.l0 k l0 ([] : List (S52)) 0 l1 (l1.length : Int) 0
def spec_l5Steps.T8 : Bool × List (List Nat × List Nat) := (true, [([], []), ([0], [0]), ([], []), ([2], [2]), ([1, 3], [1, 3]), ([], []), ([5], [5]), ([], []), ([7], [7]), ([6, 8], [6, 8]), ([], []), ([], []), ([11], [11]), ([], []), ([13], [13]), ([], []), ([15], [15]), ([14, 16], [14, 16]), ([10, 12, 17], [10, 12, 17]), ([18, 4], [18]), ([], []), ([], []), ([20, 21, 19], [20, 21]), ([], []), ([], []), ([23, 24], [23, 24]), ([], []), ([26], [26]), ([27, 22], [27]), ([4, 9, 19, 22, 25, 28], [4, 9, 19, 22, 25, 28]), ([], []), ([30, 29, 28, 0, 1, 2, 3, 4, 5, 6, 7, 8, 9, 10, 11, 12, 13, 14, 15, 16, 17, 18, 19, 20, 21, 22, 23, 24, 25, 26, 27, 28, 29, 30], [29, 30])])
def spec_l5Steps.B8 : List Nat := [0, 1, 0, 4, 15, 0, 32, 0, 128, 480, 0, 0, 2048, 0, 8192, 0, 32768, 122880, 261120, 523295, 0, 0, 4193311, 0, 0, 25165824, 0, 67108864, 209714207, 536870911, 0, 2147483647]
theorem spec_l5Steps.tab8 : rtab .any (opsOf Tryz.f29 8) = spec_l5Steps.T8 := by kernel_rfl
theorem spec_l5Steps.bits8 : waitsOk spec_l5Steps.T8.2 spec_l5Steps.B8 = true := by kernel_rfl
set_option maxHeartbeats 8000000 in
set_option maxRecDepth 100000 in
theorem spec_l5Steps.calls (k : Nat) (A0 : Option Addr) (c0 : Nat) (l0 : List ByteArray) (A1 : Option Addr) (c1 : Nat) (l1 : List (S60)) (r : List (S52)) (w : World) (hr0 : Kd.C Kd.string w A0 l0.length l0) (hc0 : l0.length ≤ c0) (hr1 : Kd.C k60 w A1 l1.length l1) (hc1 : l1.length ≤ c1) (h : spec_l5Steps.f k l0 l1 = some r) :
  Calls Tryz.prog 29 #[.slice A0 l0.length c0, .slice A1 l1.length c1] w fun e w' => ∃ v0_ : Value, e = .returned (v0_) ∧ Kd.S k52 52 w' w.heap.size (fun _ => True) v0_ r ∧ Below w.heap.size w w' := by
 have hu60 := Tryz.underlying60
 have hu52 := Tryz.underlying52
 have HR0 := am hr0
 have HC0 := am hc0
 clear hr0 hc0
 have HR1 := am hr1
 have HC1 := am hc1
 clear hr1 hc1
 have HB := am (Below.refl w.heap.size w)
 have H := h
 clear h
 unfold spec_l5Steps.f at H
 have H' := am H
 clear H
 go_enter Tryz.func29, Tryz.ntmps29
 go_wp2
 go_loopg [5, 6, 14] k (fun kq v5 v6 v14 w' => ∃ (x5_1 : List (S52)) (x6_1 : Int) (x14_1 : Int), v6 = .int .i64 x6_1 ∧ v14 = .int .i64 x14_1 ∧ Aside0 (spec_l5Steps.l0 kq l0 x5_1 x6_1 l1 (l1.length : Int) x14_1 = some r) ∧ Aside0 (kq ≤ k) ∧ Aside0 (Kd.S k52 52 w' w.heap.size (fun _ => True) v5 x5_1) ∧ Aside0 (Below w.heap.size w w'))
 case atStart => exact ⟨(([] : List (S52))), (0), (0), zf, zf, H', ⟨Nat.le_refl _⟩, ⟨by exact Kd.S_nil _ _ _ _ _⟩, ⟨zb⟩⟩
 case round =>
  clear H'
  obtain ⟨x5_1, x6_1, x14_1, rfl, rfl, HA, HK1, HO_5, HB⟩ := hrel
  cases gk with
  | zero => exact absurd HA.out (by simp [spec_l5Steps.l0])
  | succ k1 =>
   have H := HA.out
   clear HA
   simp only [spec_l5Steps.l0] at H
   by_cases c3 : x14_1 < (l1.length : Int)
   ·rw [if_pos c3] at H
    have c3b0 : decide (x14_1 < (l1.length : Int)) = true := decide_eq_true c3
    clear c3
    obtain ⟨c4, H⟩ := itn H
    have c4b0 := decide_eq_true c4
    clear c4
    obtain ⟨c5, H⟩ := itn H
    have c5b0 := decide_eq_true c5
    clear c5
    replace H := Option.bind_eq_some_iff.mp H
    obtain ⟨t766, A60, H⟩ := H
    replace H : (if 0 ≤ ((T60 l1 x14_1).f0) then (if ((T60 l1 x14_1).f0) ≤ (wrap64 (((T60 l1 x14_1).f0) + ((T60 l1 x14_1).f1))) then (if (wrap64 (((T60 l1 x14_1).f0) + ((T60 l1 x14_1).f1))) ≤ (l0.length : Int) then ((spec_l1OwnT.f ((l0.take ((wrap64 (((T60 l1 x14_1).f0) + ((T60 l1 x14_1).f1))) : Int).toNat).drop (((T60 l1 x14_1).f0) : Int).toNat)).bind fun t768 => ((spec_l4Number.f (wrap64 (((T60 l1 x14_1).f0) + x6_1)) (((T60 l1 x14_1).f2).length : Int)).bind fun t771 => ((spec_l1OwnT.f ((T60 l1 x14_1).f2)).bind fun t772 => (if x5_1.length < 1759218604441 then (spec_l5Steps.l0 k1 l0 (x5_1 ++ [(⟨t766, wrap64 (((T60 l1 x14_1).f0) + ((T60 l1 x14_1).f1)), t768, t771, wrap64 ((wrap64 (((T60 l1 x14_1).f0) + x6_1)) + (((T60 l1 x14_1).f2).length : Int)), t772⟩ : S52)]) (wrap64 (x6_1 + (wrap64 ((((T60 l1 x14_1).f2).length : Int) - ((T60 l1 x14_1).f1))))) l1 (l1.length : Int) (wrap64 (x14_1 + 1))) else (none))))) else (none)) else (none)) else (none)) = some r := H
    have A6 := am A60
    clear A60
    obtain ⟨c7, H⟩ := itn H
    have c7b0 := eq_true c7
    have c7b1 := decide_eq_true c7
    clear c7
    obtain ⟨c8, H⟩ := itn H
    have c8b0 := eq_true c8
    have c8b1 := decide_eq_true c8
    obtain ⟨c9, H⟩ := itn H
    have c9b0 := eq_true c9
    have c9b1 := decide_eq_true c9
    replace H := Option.bind_eq_some_iff.mp H
    obtain ⟨t768, A100, H⟩ := H
    replace H : ((spec_l4Number.f (wrap64 (((T60 l1 x14_1).f0) + x6_1)) (((T60 l1 x14_1).f2).length : Int)).bind fun t771 => ((spec_l1OwnT.f ((T60 l1 x14_1).f2)).bind fun t772 => (if x5_1.length < 1759218604441 then (spec_l5Steps.l0 k1 l0 (x5_1 ++ [(⟨t766, wrap64 (((T60 l1 x14_1).f0) + ((T60 l1 x14_1).f1)), t768, t771, wrap64 ((wrap64 (((T60 l1 x14_1).f0) + x6_1)) + (((T60 l1 x14_1).f2).length : Int)), t772⟩ : S52)]) (wrap64 (x6_1 + (wrap64 ((((T60 l1 x14_1).f2).length : Int) - ((T60 l1 x14_1).f1))))) l1 (l1.length : Int) (wrap64 (x14_1 + 1))) else (none)))) = some r := H
    have A10 := am A100
    clear A100
    replace H := Option.bind_eq_some_iff.mp H
    obtain ⟨t771, A110, H⟩ := H
    replace H : ((spec_l1OwnT.f ((T60 l1 x14_1).f2)).bind fun t772 => (if x5_1.length < 1759218604441 then (spec_l5Steps.l0 k1 l0 (x5_1 ++ [(⟨t766, wrap64 (((T60 l1 x14_1).f0) + ((T60 l1 x14_1).f1)), t768, t771, wrap64 ((wrap64 (((T60 l1 x14_1).f0) + x6_1)) + (((T60 l1 x14_1).f2).length : Int)), t772⟩ : S52)]) (wrap64 (x6_1 + (wrap64 ((((T60 l1 x14_1).f2).length : Int) - ((T60 l1 x14_1).f1))))) l1 (l1.length : Int) (wrap64 (x14_1 + 1))) else (none))) = some r := H
    have A11 := am A110
    clear A110
    replace H := Option.bind_eq_some_iff.mp H
    obtain ⟨t772, A120, H⟩ := H
    replace H : (if x5_1.length < 1759218604441 then (spec_l5Steps.l0 k1 l0 (x5_1 ++ [(⟨t766, wrap64 (((T60 l1 x14_1).f0) + ((T60 l1 x14_1).f1)), t768, t771, wrap64 ((wrap64 (((T60 l1 x14_1).f0) + x6_1)) + (((T60 l1 x14_1).f2).length : Int)), t772⟩ : S52)]) (wrap64 (x6_1 + (wrap64 ((((T60 l1 x14_1).f2).length : Int) - ((T60 l1 x14_1).f1))))) l1 (l1.length : Int) (wrap64 (x14_1 + 1))) else (none)) = some r := H
    have A12 := am A120
    clear A120
    obtain ⟨c13, H⟩ := itn H
    have LMc13 := am c13
    clear c13
    obtain ⟨y776, hy776⟩ : ∃ y_ : List (S52), y_ = (x5_1 ++ [(⟨t766, wrap64 (((T60 l1 x14_1).f0) + ((T60 l1 x14_1).f1)), t768, t771, wrap64 ((wrap64 (((T60 l1 x14_1).f0) + x6_1)) + (((T60 l1 x14_1).f2).length : Int)), t772⟩ : S52)]) := ⟨_, rfl⟩
    rw [← hy776] at H
    have Ny776 := am hy776
    clear hy776
    have H' := am H
    clear H
    have p764 : 0 ≤ (x14_1 : Int) := oa
    have q764 : x14_1 < (l1.length : Int) := oa
    obtain ⟨ad764, A764_2, c764_2, e764, hx764_0, hx764_1, hx764_2, hl764_2, hi764_2⟩ := at_T60 HR1.out x14_1 p764 q764
    cases e764
    replace hx764_0 := bc HB.out hx764_0
    replace hx764_1 := bc HB.out hx764_1
    replace hx764_2 := bc HB.out hx764_2
    have HR764_2 := am hi764_2
    have HC764_2 := am hl764_2
    clear hi764_2 hl764_2
    replace p764 := eq_true p764
    replace q764 := eq_true q764
    try go_wp2_with (((with_reducible refine gate_dst (N := 8) rfl ?_); refine box_event ?hg (N := 8) ?hd (cs := #[.int .i64 0, .int .i64 0, .slice none 0 0]) (t := 60) ?hr ?_; (case hd => rfl); (case hg => rfl); (case hr => (go_simp; done)); intro gb765 hg w14 hbox hb; replace HO_5 := am (Kd.S_below (zs HO_5.out) hb); have BK765 := am (hbox); have GW765 := am ((by rw [hg]; exact (below_size zb) : w.heap.size ≤ gb765)); have GE765 := am ((by rw [hg]; exact (below_size zb) : w.heap.size ≤ gb765)); replace HB := am (below_step zb hb); clear hb hbox hg; obtain ⟨hcz15_0, hcz15_1, hcz15_2⟩ := cz3 BK765.out; obtain ⟨hfz15_0, hfz15_1, hfz15_2⟩ := fz3 BK765.out))
    have n0_ : Aside0 (Kd.S k52 52 (((w14.setCell ⟨gb765, 0, none⟩ (.int .i64 ((T60 l1 x14_1).f0))).setCell ⟨gb765, 1, none⟩ (.int .i64 ((T60 l1 x14_1).f1))).setCell ⟨gb765, 2, none⟩ (.slice A764_2 ((T60 l1 x14_1).f2).length c764_2)) w.heap.size (fun _ => True) u5 x5_1) := ⟨by exact Kd.S_mono (Kd.S_far (p := ⟨gb765, 2, none⟩) (Kd.S_far (p := ⟨gb765, 1, none⟩) (Kd.S_far (p := ⟨gb765, 0, none⟩) (Kd.S_types HO_5.out BK765.out (by decide)) (fun _ hk => hk.2) (.int .i64 ((T60 l1 x14_1).f0))) (fun _ hk => hk.2) (.int .i64 ((T60 l1 x14_1).f1))) (fun _ hk => hk.2) (.slice A764_2 ((T60 l1 x14_1).f2).length c764_2)) (fun _ hk => trivial)⟩
    have n1_ : Aside0 ((((w14.setCell ⟨gb765, 0, none⟩ (.int .i64 ((T60 l1 x14_1).f0))).setCell ⟨gb765, 1, none⟩ (.int .i64 ((T60 l1 x14_1).f1))).setCell ⟨gb765, 2, none⟩ (.slice A764_2 ((T60 l1 x14_1).f2).length c764_2)).heap[gb765]? = some (.cells #[.int .i64 ((T60 l1 x14_1).f0), .int .i64 ((T60 l1 x14_1).f1), .slice A764_2 ((T60 l1 x14_1).f2).length c764_2] 60 (0, 0))) := ⟨by refine blk_put (cs := #[.int .i64 ((T60 l1 x14_1).f0), .int .i64 ((T60 l1 x14_1).f1), .slice none 0 0]) ?_ 2 _ rfl; refine blk_put (cs := #[.int .i64 ((T60 l1 x14_1).f0), .int .i64 0, .slice none 0 0]) ?_ 1 _ rfl; refine blk_put (cs := #[.int .i64 0, .int .i64 0, .slice none 0 0]) ?_ 0 _ rfl; exact BK765.out⟩
    have n2_ : Aside0 (Below w.heap.size w (((w14.setCell ⟨gb765, 0, none⟩ (.int .i64 ((T60 l1 x14_1).f0))).setCell ⟨gb765, 1, none⟩ (.int .i64 ((T60 l1 x14_1).f1))).setCell ⟨gb765, 2, none⟩ (.slice A764_2 ((T60 l1 x14_1).f2).length c764_2))) := ⟨zw⟩
    (try clear HO_5)
    (try clear BK765)
    (try clear HB)
    generalize (((w14.setCell ⟨gb765, 0, none⟩ (.int .i64 ((T60 l1 x14_1).f0))).setCell ⟨gb765, 1, none⟩ (.int .i64 ((T60 l1 x14_1).f1))).setCell ⟨gb765, 2, none⟩ (.slice A764_2 ((T60 l1 x14_1).f2).length c764_2)) = w16 at n0_ n1_ n2_ ⊢
    have HO_5 := n0_
    have BK765 := n1_
    have HB := n2_
    clear n0_ n1_ n2_
    replace HO_5 := am (Kd.S_drew HO_5.out)
    replace BK765 := am (blk_drew BK765.out)
    replace HB := am (below_drew1 HB.out)
    obtain ⟨i018, hi018, _, hsz18, _⟩ := info_parts info9
    obtain ⟨A18, hcut18, hA18, hC18⟩ := print_mid_of (P := Tryz.prog) Value.string (⟨#[]⟩ : ByteArray) 24 9 .i64 .i64 Tryz.underlying24 hi018 hsz18 A0 c0 l0 ((T60 l1 x14_1).f0) (wrap64 (((T60 l1 x14_1).f0) + ((T60 l1 x14_1).f1))) oa (by omega) oa HC0.out
    have HR767 := am (Kd.C_of_reads (h1 := fun _ => rfl) (hA18 _ (Kd.reads_of_C HR0.out)))
    have HC767 := am hC18
    clear hA18 hC18 hi018 hsz18
    refine start_ (n := 32) (S := fun w' => w'.cell? ⟨gb765, 0, none⟩ = some (.int .i64 ((T60 l1 x14_1).f0)) ∧ w'.cell? ⟨gb765, 1, none⟩ = some (.int .i64 ((T60 l1 x14_1).f1)) ∧ w'.cell? ⟨gb765, 2, none⟩ = some (.slice A764_2 ((T60 l1 x14_1).f2).length c764_2)) (ds := []) #[O,O,O,O,O,O,O,O,O,O,O,O,O,O,O,O,O,O,O,O,O,O,O,O,O,O,O,O,O,O,O,O] (by kernel_rfl) rfl rfl ⟨(blk_cell BK765.out 0).trans rfl, (blk_cell BK765.out 1).trans rfl, (blk_cell BK765.out 2).trans rfl⟩ (fun hHeld => ?_); refine with_tabW spec_l5Steps.tab8 spec_l5Steps.bits8 (fun HT_ HW_ => ?_)
    generalize w16.drew = w17 at HO_5 BK765 HB HR767 hHeld ⊢
    refine pu 0 (some 25) ?_
    refine pu 2 (some 27) ?_
    refine pu 5 (some 30) ?_
    refine pu 7 (some 32) ?_
    refine pu 10 (some 35) ?_
    refine pu 11 (some 36) ?_
    refine pu 13 (some 38) ?_
    refine pu 15 (some 40) ?_
    refine pu 20 (some 45) ?_
    refine pu 21 (some 46) ?_
    refine pu 23 (some 48) ?_
    refine pu 24 (some 49) ?_
    refine pu 25 (some 50) ?_
    refine pu 26 (some 51) ?_
    refine ta 1 (some 26) ?_
    refine ta 3 (some 28) ?_
    refine ta 6 (some 31) ?_
    refine ta 8 (some 33) ?_
    refine pu 9 (some 34) ?_
    refine ta 12 (some 37) ?_
    refine ta 14 (some 39) ?_
    refine ta 16 (some 41) ?_
    refine pu 17 (some 42) ?_
    refine pu 18 (some 43) ?_
    refine ta 27 (some 52) ?_
    refine join_ (σ := Value × Value × Nat) 1 #[Y,Y,Y,Y,Y,Y,Y,Y,Y,Y,Y,Y,Y,Y,Y,Y,Y,Y,Y,Y,Y,Y,Y,Y,Y,Y,Y,Y,Y,Y,Y,O] (fun s_ => [(29, .int .i64 t766), (44, s_.1), (47, .int .i64 t771), (53, s_.2.1), (11, .pointer (some ⟨s_.2.2, 0, none⟩)), (54, .agg #[.int .i64 t766, .int .i64 (wrap64 (((T60 l1 x14_1).f0) + ((T60 l1 x14_1).f1))), s_.1, .int .i64 t771, .int .i64 (wrap64 ((wrap64 (((T60 l1 x14_1).f0) + x6_1)) + (((T60 l1 x14_1).f2).length : Int))), s_.2.1])]) (fun s_ w' => (w'.cell? ⟨gb765, 0, none⟩ = some (.int .i64 ((T60 l1 x14_1).f0)) ∧ w'.cell? ⟨gb765, 1, none⟩ = some (.int .i64 ((T60 l1 x14_1).f1)) ∧ w'.cell? ⟨gb765, 2, none⟩ = some (.slice A764_2 ((T60 l1 x14_1).f2).length c764_2)) ∧ (Kd.R Kd.string 9 w' w.heap.size (fun k_ => some k_ ≠ (s_.2.1 : Value).ownBlock) s_.1 t768) ∧ (Kd.R Kd.string 9 w' w.heap.size (fun k_ => some k_ ≠ (s_.1 : Value).ownBlock) s_.2.1 t772) ∧ (Kd.S k52 52 w' w.heap.size (fun k_ => some k_ ≠ (s_.1 : Value).ownBlock ∧ some k_ ≠ (s_.2.1 : Value).ownBlock ∧ k_ ≠ s_.2.2) u5 x5_1) ∧ (w'.heap[gb765]? = some (.cells #[.int .i64 ((T60 l1 x14_1).f0), .int .i64 ((T60 l1 x14_1).f1), .slice A764_2 ((T60 l1 x14_1).f2).length c764_2] 60 (0, 0))) ∧ (w'.heap[s_.2.2]? = some (.cells #[.int .i64 0, .int .i64 0, .slice none 0 0, .int .i64 0, .int .i64 0, .slice none 0 0] 52 (0, 0))) ∧ (w.heap.size ≤ s_.2.2) ∧ (w.heap.size ≤ s_.2.2) ∧ (gb765 ≠ s_.2.2) ∧ (s_.2.2 ≠ gb765) ∧ (Below w.heap.size w w')) ?_ ?_
    rotate_left
    ·intro hJ4_19_22_28_30
     refine join_ (σ := Value × Value) 2 #[Y,Y,Y,Y,Y,Y,Y,Y,Y,Y,Y,Y,Y,Y,Y,Y,Y,Y,Y,Y,Y,Y,Y,Y,Y,Y,Y,Y,Y,Y,O,O] (fun s_ => [(29, .int .i64 t766), (44, s_.1), (47, .int .i64 t771), (53, s_.2), (54, .agg #[.int .i64 t766, .int .i64 (wrap64 (((T60 l1 x14_1).f0) + ((T60 l1 x14_1).f1))), s_.1, .int .i64 t771, .int .i64 (wrap64 ((wrap64 (((T60 l1 x14_1).f0) + x6_1)) + (((T60 l1 x14_1).f2).length : Int))), s_.2])]) (fun s_ w' => (w'.cell? ⟨gb765, 0, none⟩ = some (.int .i64 ((T60 l1 x14_1).f0)) ∧ w'.cell? ⟨gb765, 1, none⟩ = some (.int .i64 ((T60 l1 x14_1).f1)) ∧ w'.cell? ⟨gb765, 2, none⟩ = some (.slice A764_2 ((T60 l1 x14_1).f2).length c764_2)) ∧ (Kd.R Kd.string 9 w' w.heap.size (fun k_ => some k_ ≠ (s_.2 : Value).ownBlock) s_.1 t768) ∧ (Kd.R Kd.string 9 w' w.heap.size (fun k_ => some k_ ≠ (s_.1 : Value).ownBlock) s_.2 t772) ∧ (Kd.S k52 52 w' w.heap.size (fun k_ => some k_ ≠ (s_.1 : Value).ownBlock ∧ some k_ ≠ (s_.2 : Value).ownBlock) u5 x5_1) ∧ (w'.heap[gb765]? = some (.cells #[.int .i64 ((T60 l1 x14_1).f0), .int .i64 ((T60 l1 x14_1).f1), .slice A764_2 ((T60 l1 x14_1).f2).length c764_2] 60 (0, 0))) ∧ (Below w.heap.size w w')) ?_ ?_
     rotate_left
     ·intro hJ4_19_22_28
      refine join_ (σ := Value × Nat) 3 #[Y,Y,Y,Y,Y,Y,Y,Y,Y,Y,Y,Y,Y,Y,Y,Y,Y,Y,Y,Y,Y,Y,Y,Y,Y,Y,Y,Y,O,O,Y,O] (fun s_ => [(29, .int .i64 t766), (44, s_.1), (47, .int .i64 t771), (11, .pointer (some ⟨s_.2, 0, none⟩))]) (fun s_ w' => (w'.cell? ⟨gb765, 0, none⟩ = some (.int .i64 ((T60 l1 x14_1).f0)) ∧ w'.cell? ⟨gb765, 1, none⟩ = some (.int .i64 ((T60 l1 x14_1).f1)) ∧ w'.cell? ⟨gb765, 2, none⟩ = some (.slice A764_2 ((T60 l1 x14_1).f2).length c764_2)) ∧ (Kd.R Kd.string 9 w' w.heap.size (fun _ => True) s_.1 t768) ∧ (Kd.S k52 52 w' w.heap.size (fun k_ => some k_ ≠ (s_.1 : Value).ownBlock ∧ k_ ≠ s_.2) u5 x5_1) ∧ (w'.heap[gb765]? = some (.cells #[.int .i64 ((T60 l1 x14_1).f0), .int .i64 ((T60 l1 x14_1).f1), .slice A764_2 ((T60 l1 x14_1).f2).length c764_2] 60 (0, 0))) ∧ (w'.heap[s_.2]? = some (.cells #[.int .i64 0, .int .i64 0, .slice none 0 0, .int .i64 0, .int .i64 0, .slice none 0 0] 52 (0, 0))) ∧ (w.heap.size ≤ s_.2) ∧ (w.heap.size ≤ s_.2) ∧ (gb765 ≠ s_.2) ∧ (s_.2 ≠ gb765) ∧ (Below w.heap.size w w')) ?_ ?_
      rotate_left
      ·intro hJ4_19_22_30
       refine join_ (σ := Value) 4 #[Y,Y,Y,Y,Y,Y,Y,Y,Y,Y,Y,Y,Y,Y,Y,Y,Y,Y,Y,Y,Y,Y,Y,Y,Y,Y,Y,Y,O,O,O,O] (fun s_ => [(29, .int .i64 t766), (44, s_), (47, .int .i64 t771)]) (fun s_ w' => (w'.cell? ⟨gb765, 0, none⟩ = some (.int .i64 ((T60 l1 x14_1).f0)) ∧ w'.cell? ⟨gb765, 1, none⟩ = some (.int .i64 ((T60 l1 x14_1).f1)) ∧ w'.cell? ⟨gb765, 2, none⟩ = some (.slice A764_2 ((T60 l1 x14_1).f2).length c764_2)) ∧ (Kd.R Kd.string 9 w' w.heap.size (fun _ => True) s_ t768) ∧ (Kd.S k52 52 w' w.heap.size (fun k_ => some k_ ≠ (s_ : Value).ownBlock) u5 x5_1) ∧ (w'.heap[gb765]? = some (.cells #[.int .i64 ((T60 l1 x14_1).f0), .int .i64 ((T60 l1 x14_1).f1), .slice A764_2 ((T60 l1 x14_1).f2).length c764_2] 60 (0, 0))) ∧ (Below w.heap.size w w')) ?_ ?_
       rotate_left
       ·intro hJ4_19_22
        refine join_ (σ := Value × Nat) 4 #[Y,Y,Y,Y,Y,Y,Y,Y,Y,Y,Y,Y,Y,Y,Y,Y,Y,Y,Y,Y,Y,Y,O,Y,Y,Y,Y,Y,O,O,Y,O] (fun s_ => [(29, .int .i64 t766), (44, s_.1), (11, .pointer (some ⟨s_.2, 0, none⟩))]) (fun s_ w' => (w'.cell? ⟨gb765, 0, none⟩ = some (.int .i64 ((T60 l1 x14_1).f0)) ∧ w'.cell? ⟨gb765, 1, none⟩ = some (.int .i64 ((T60 l1 x14_1).f1)) ∧ w'.cell? ⟨gb765, 2, none⟩ = some (.slice A764_2 ((T60 l1 x14_1).f2).length c764_2)) ∧ (Kd.R Kd.string 9 w' w.heap.size (fun _ => True) s_.1 t768) ∧ (Kd.S k52 52 w' w.heap.size (fun k_ => some k_ ≠ (s_.1 : Value).ownBlock ∧ k_ ≠ s_.2) u5 x5_1) ∧ (w'.heap[gb765]? = some (.cells #[.int .i64 ((T60 l1 x14_1).f0), .int .i64 ((T60 l1 x14_1).f1), .slice A764_2 ((T60 l1 x14_1).f2).length c764_2] 60 (0, 0))) ∧ (w'.heap[s_.2]? = some (.cells #[.int .i64 0, .int .i64 0, .slice none 0 0, .int .i64 0, .int .i64 0, .slice none 0 0] 52 (0, 0))) ∧ (w.heap.size ≤ s_.2) ∧ (w.heap.size ≤ s_.2) ∧ (gb765 ≠ s_.2) ∧ (s_.2 ≠ gb765) ∧ (Below w.heap.size w w')) ?_ ?_
        rotate_left
        ·intro hJ4_19_30
         refine join_ (σ := Value) 5 #[Y,Y,Y,Y,Y,Y,Y,Y,Y,Y,Y,Y,Y,Y,Y,Y,Y,Y,Y,Y,Y,Y,O,Y,Y,Y,Y,Y,O,O,O,O] (fun s_ => [(29, .int .i64 t766), (44, s_)]) (fun s_ w' => (w'.cell? ⟨gb765, 0, none⟩ = some (.int .i64 ((T60 l1 x14_1).f0)) ∧ w'.cell? ⟨gb765, 1, none⟩ = some (.int .i64 ((T60 l1 x14_1).f1)) ∧ w'.cell? ⟨gb765, 2, none⟩ = some (.slice A764_2 ((T60 l1 x14_1).f2).length c764_2)) ∧ (Kd.R Kd.string 9 w' w.heap.size (fun _ => True) s_ t768) ∧ (Kd.S k52 52 w' w.heap.size (fun k_ => some k_ ≠ (s_ : Value).ownBlock) u5 x5_1) ∧ (w'.heap[gb765]? = some (.cells #[.int .i64 ((T60 l1 x14_1).f0), .int .i64 ((T60 l1 x14_1).f1), .slice A764_2 ((T60 l1 x14_1).f2).length c764_2] 60 (0, 0))) ∧ (Below w.heap.size w w')) ?_ ?_
         rotate_left
         ·intro hJ4_19
          refine join_ (σ := Nat) 5 #[Y,Y,Y,Y,Y,Y,Y,Y,Y,Y,Y,Y,Y,Y,Y,Y,Y,Y,Y,O,Y,Y,O,Y,Y,Y,Y,Y,O,O,Y,O] (fun s_ => [(29, .int .i64 t766), (11, .pointer (some ⟨s_, 0, none⟩))]) (fun s_ w' => (w'.cell? ⟨gb765, 0, none⟩ = some (.int .i64 ((T60 l1 x14_1).f0)) ∧ w'.cell? ⟨gb765, 1, none⟩ = some (.int .i64 ((T60 l1 x14_1).f1)) ∧ w'.cell? ⟨gb765, 2, none⟩ = some (.slice A764_2 ((T60 l1 x14_1).f2).length c764_2)) ∧ (Kd.S k52 52 w' w.heap.size (fun k_ => k_ ≠ s_) u5 x5_1) ∧ (w'.heap[gb765]? = some (.cells #[.int .i64 ((T60 l1 x14_1).f0), .int .i64 ((T60 l1 x14_1).f1), .slice A764_2 ((T60 l1 x14_1).f2).length c764_2] 60 (0, 0))) ∧ (w'.heap[s_]? = some (.cells #[.int .i64 0, .int .i64 0, .slice none 0 0, .int .i64 0, .int .i64 0, .slice none 0 0] 52 (0, 0))) ∧ (w.heap.size ≤ s_) ∧ (w.heap.size ≤ s_) ∧ (gb765 ≠ s_) ∧ (s_ ≠ gb765) ∧ (Below w.heap.size w w')) ?_ ?_
          rotate_left
          ·intro hJ4_30
           refine join_ (σ := Unit) 6 #[Y,Y,Y,Y,Y,Y,Y,Y,Y,Y,Y,Y,Y,Y,Y,Y,Y,Y,Y,O,Y,Y,O,Y,Y,Y,Y,Y,O,O,O,O] (fun s_ => [(29, .int .i64 t766)]) (fun s_ w' => (w'.cell? ⟨gb765, 0, none⟩ = some (.int .i64 ((T60 l1 x14_1).f0)) ∧ w'.cell? ⟨gb765, 1, none⟩ = some (.int .i64 ((T60 l1 x14_1).f1)) ∧ w'.cell? ⟨gb765, 2, none⟩ = some (.slice A764_2 ((T60 l1 x14_1).f2).length c764_2)) ∧ (Kd.S k52 52 w' w.heap.size (fun _ => True) u5 x5_1) ∧ (w'.heap[gb765]? = some (.cells #[.int .i64 ((T60 l1 x14_1).f0), .int .i64 ((T60 l1 x14_1).f1), .slice A764_2 ((T60 l1 x14_1).f2).length c764_2] 60 (0, 0))) ∧ (Below w.heap.size w w')) ?_ ?_
           rotate_left
           ·intro hJ4
            refine join_ (σ := Nat) 6 #[Y,Y,Y,Y,O,Y,Y,Y,Y,Y,Y,Y,Y,Y,Y,Y,Y,Y,Y,O,Y,Y,O,Y,Y,Y,Y,Y,O,O,Y,O] (fun s_ => [(11, .pointer (some ⟨s_, 0, none⟩))]) (fun s_ w' => (w'.cell? ⟨gb765, 0, none⟩ = some (.int .i64 ((T60 l1 x14_1).f0)) ∧ w'.cell? ⟨gb765, 1, none⟩ = some (.int .i64 ((T60 l1 x14_1).f1)) ∧ w'.cell? ⟨gb765, 2, none⟩ = some (.slice A764_2 ((T60 l1 x14_1).f2).length c764_2)) ∧ (Kd.S k52 52 w' w.heap.size (fun k_ => k_ ≠ s_) u5 x5_1) ∧ (w'.heap[gb765]? = some (.cells #[.int .i64 ((T60 l1 x14_1).f0), .int .i64 ((T60 l1 x14_1).f1), .slice A764_2 ((T60 l1 x14_1).f2).length c764_2] 60 (0, 0))) ∧ (w'.heap[s_]? = some (.cells #[.int .i64 0, .int .i64 0, .slice none 0 0, .int .i64 0, .int .i64 0, .slice none 0 0] 52 (0, 0))) ∧ (w.heap.size ≤ s_) ∧ (w.heap.size ≤ s_) ∧ (gb765 ≠ s_) ∧ (s_ ≠ gb765) ∧ (Below w.heap.size w w')) ?_ ?_
            rotate_left
            ·intro hJ30
             refine two_ (i := 4) (j := 30) (Ni := some 29) (Nj := some 11) #[Y,Y,Y,Y,Y,Y,Y,Y,Y,Y,Y,Y,Y,Y,Y,Y,Y,Y,Y,O,Y,Y,O,Y,Y,Y,Y,Y,O,O,O,O] #[Y,Y,Y,Y,O,Y,Y,Y,Y,Y,Y,Y,Y,Y,Y,Y,Y,Y,Y,O,Y,Y,O,Y,Y,Y,Y,Y,O,O,Y,O] rfl rfl rfl rfl (two_of HT_.out (by kernel_rfl)) (by decide) (by decide) (fun K hK => ?_) (fun K hK => ?_)
             ·skip
              refine goes_ Tryz.func61 (by kernel_rfl) rfl #[.int .i64 ((T60 l1 x14_1).f0), .int .i64 ((T60 l1 x14_1).f1)] (by rfl) rfl rfl zm ?_
              with_reducible refine (spec_l4Number.calls ((T60 l1 x14_1).f0) ((T60 l1 x14_1).f1) t766 _ A6.out).mono ?_
              rintro e w' ⟨rfl, ⟨nd, rfl⟩⟩
              refine ⟨_, rfl, ?_⟩
              refine hK.out _ _ ⟨(blk_cell BK765.out 0).trans rfl, (blk_cell BK765.out 1).trans rfl, (blk_cell BK765.out 2).trans rfl⟩ (fun hHeld => ?_)
              clear hK K
              refine norm_ (a' := ?_) ?_ ?_
              rotate_left
              ·show Act.put _ (some 29) _ = _
               simp only [Act.put,qa,qb,qc,i64_w,i32_w]
               rfl
              exact norm_ (by (simp only [putAll, Act.put, List.setIfInBounds_toArray, List.set_cons_zero, List.set_cons_succ]; done)) (hJ4 () _ ⟨hHeld, (zs HO_5.out), (zk BK765.out), zw⟩)
             ·skip
              refine box_step ?hg (N := 11) ?hd (cs := #[.int .i64 0, .int .i64 0, .slice none 0 0, .int .i64 0, .int .i64 0, .slice none 0 0]) (t := 52) ?hr ?_; (case hd => rfl); (case hg => rfl); (case hr => (go_simp; done))
              intro gb775 hg w19 hbox hb
              replace HO_5 := am (Kd.S_below (Kd.S_elderB (zs HO_5.out) gb775 (Nat.le_of_eq hg.symm)) hb)
              have BK775 := am (hbox)
              have GW775 := am ((by rw [hg]; exact (below_size zw) : w.heap.size ≤ gb775))
              have GE775 := am ((by rw [hg]; exact (below_size zw) : w.heap.size ≤ gb775))
              replace HB := am (below_step zw hb)
              have NB765_775 := am ((by rw [hg]; exact Nat.ne_of_lt (blk_lt (g := gb765) (o := .cells #[.int .i64 ((T60 l1 x14_1).f0), .int .i64 ((T60 l1 x14_1).f1), .slice A764_2 ((T60 l1 x14_1).f2).length c764_2] 60 (0, 0)) (zk BK765.out)) : gb765 ≠ gb775))
              have NB775_765 := am ((by rw [hg]; exact Nat.ne_of_gt (blk_lt (g := gb765) (o := .cells #[.int .i64 ((T60 l1 x14_1).f0), .int .i64 ((T60 l1 x14_1).f1), .slice A764_2 ((T60 l1 x14_1).f2).length c764_2] 60 (0, 0)) (zk BK765.out)) : gb775 ≠ gb765))
              replace BK765 := am (blk_below (g := gb765) (o := .cells #[.int .i64 ((T60 l1 x14_1).f0), .int .i64 ((T60 l1 x14_1).f1), .slice A764_2 ((T60 l1 x14_1).f2).length c764_2] 60 (0, 0)) (zk BK765.out) hb)
              clear hb hbox hg
              refine hK.out _ _ ⟨(blk_cell BK765.out 0).trans rfl, (blk_cell BK765.out 1).trans rfl, (blk_cell BK765.out 2).trans rfl⟩ (fun hHeld => ?_)
              clear hK K
              refine norm_ (a' := ?_) ?_ ?_
              rotate_left
              ·show Act.put _ (some 11) _ = _
               simp only [Act.put,qa,qb,qc,i64_w,i32_w]
               rfl
              exact norm_ (by (simp only [putAll, Act.put, List.setIfInBounds_toArray, List.set_cons_zero, List.set_cons_succ]; done)) (hJ30 (gb775) _ ⟨hHeld, (by exact Kd.S_mono HO_5.out (fun _ hk => hk.2)), (zk BK765.out), (zk BK775.out), GW775.out, GE775.out, NB765_775.out, NB775_765.out, zw⟩)
            ·skip
             rintro gb775 w20 ⟨hS_, h0_, h1_, h2_, h3_, h4_, h5_, h6_, h7_⟩
             have n0_ : Aside0 (Kd.S k52 52 w20 w.heap.size (fun k_ => k_ ≠ gb775) u5 x5_1) := ⟨h0_⟩
             have n1_ : Aside0 (w20.heap[gb765]? = some (.cells #[.int .i64 ((T60 l1 x14_1).f0), .int .i64 ((T60 l1 x14_1).f1), .slice A764_2 ((T60 l1 x14_1).f2).length c764_2] 60 (0, 0))) := ⟨h1_⟩
             have n2_ : Aside0 (w20.heap[gb775]? = some (.cells #[.int .i64 0, .int .i64 0, .slice none 0 0, .int .i64 0, .int .i64 0, .slice none 0 0] 52 (0, 0))) := ⟨h2_⟩
             have n3_ : Aside0 (w.heap.size ≤ gb775) := ⟨h3_⟩
             have n4_ : Aside0 (w.heap.size ≤ gb775) := ⟨h4_⟩
             have n5_ : Aside0 (gb765 ≠ gb775) := ⟨h5_⟩
             have n6_ : Aside0 (gb775 ≠ gb765) := ⟨h6_⟩
             have n7_ : Aside0 (Below w.heap.size w w20) := ⟨h7_⟩
             clear HO_5
             clear BK765
             clear HB
             clear h0_ h1_ h2_ h3_ h4_ h5_ h6_ h7_
             have HO_5 := n0_
             have BK765 := n1_
             have BK775 := n2_
             have GW775 := n3_
             have GE775 := n4_
             have NB765_775 := n5_
             have NB775_765 := n6_
             have HB := n7_
             clear n0_ n1_ n2_ n3_ n4_ n5_ n6_ n7_
             have hHeld : w20.cell? ⟨gb765, 0, none⟩ = some (.int .i64 ((T60 l1 x14_1).f0)) ∧ w20.cell? ⟨gb765, 1, none⟩ = some (.int .i64 ((T60 l1 x14_1).f1)) ∧ w20.cell? ⟨gb765, 2, none⟩ = some (.slice A764_2 ((T60 l1 x14_1).f2).length c764_2) := hS_
             refine norm_ (a' := ?_) ?_ ?_
             rotate_left
             ·simp only [putAll, Act.put, List.setIfInBounds_toArray, List.set_cons_zero, List.set_cons_succ]
              rfl
             refine one_ (i := 4) (N := some 29) #[Y,Y,Y,Y,Y,Y,Y,Y,Y,Y,Y,Y,Y,Y,Y,Y,Y,Y,Y,O,Y,Y,O,Y,Y,Y,Y,Y,O,O,Y,O] rfl rfl (one_of HT_.out (by kernel_rfl)) (by decide) (fun K hK => ?_)
             refine goes_ Tryz.func61 (by kernel_rfl) rfl #[.int .i64 ((T60 l1 x14_1).f0), .int .i64 ((T60 l1 x14_1).f1)] (by rfl) rfl rfl zm ?_
             with_reducible refine (spec_l4Number.calls ((T60 l1 x14_1).f0) ((T60 l1 x14_1).f1) t766 _ A6.out).mono ?_
             rintro e w' ⟨rfl, ⟨nd, rfl⟩⟩
             refine ⟨_, rfl, ?_⟩
             refine hK.out _ _ ⟨(blk_cell BK765.out 0).trans rfl, (blk_cell BK765.out 1).trans rfl, (blk_cell BK765.out 2).trans rfl⟩ (fun hHeld => ?_)
             clear hK K
             refine norm_ (a' := ?_) ?_ ?_
             rotate_left
             ·show Act.put _ (some 29) _ = _
              simp only [Act.put,qa,qb,qc,i64_w,i32_w]
              rfl
             exact norm_ (by (simp only [putAll, Act.put, List.setIfInBounds_toArray, List.set_cons_zero, List.set_cons_succ]; done)) (hJ4_30 (gb775) _ ⟨hHeld, (zs HO_5.out), (zk BK765.out), (zk BK775.out), GW775.out, GE775.out, NB765_775.out, NB775_765.out, zw⟩)
           ·skip
            rintro _ w19 ⟨hS_, h0_, h1_, h2_⟩
            have n0_ : Aside0 (Kd.S k52 52 w19 w.heap.size (fun _ => True) u5 x5_1) := ⟨h0_⟩
            have n1_ : Aside0 (w19.heap[gb765]? = some (.cells #[.int .i64 ((T60 l1 x14_1).f0), .int .i64 ((T60 l1 x14_1).f1), .slice A764_2 ((T60 l1 x14_1).f2).length c764_2] 60 (0, 0))) := ⟨h1_⟩
            have n2_ : Aside0 (Below w.heap.size w w19) := ⟨h2_⟩
            clear HO_5
            clear BK765
            clear HB
            clear h0_ h1_ h2_
            have HO_5 := n0_
            have BK765 := n1_
            have HB := n2_
            clear n0_ n1_ n2_
            have hHeld : w19.cell? ⟨gb765, 0, none⟩ = some (.int .i64 ((T60 l1 x14_1).f0)) ∧ w19.cell? ⟨gb765, 1, none⟩ = some (.int .i64 ((T60 l1 x14_1).f1)) ∧ w19.cell? ⟨gb765, 2, none⟩ = some (.slice A764_2 ((T60 l1 x14_1).f2).length c764_2) := hS_
            refine norm_ (a' := ?_) ?_ ?_
            rotate_left
            ·simp only [putAll, Act.put, List.setIfInBounds_toArray, List.set_cons_zero, List.set_cons_succ]
             rfl
            refine two_ (i := 19) (j := 30) (Ni := some 44) (Nj := some 11) #[Y,Y,Y,Y,Y,Y,Y,Y,Y,Y,Y,Y,Y,Y,Y,Y,Y,Y,Y,Y,Y,Y,O,Y,Y,Y,Y,Y,O,O,O,O] #[Y,Y,Y,Y,Y,Y,Y,Y,Y,Y,Y,Y,Y,Y,Y,Y,Y,Y,Y,O,Y,Y,O,Y,Y,Y,Y,Y,O,O,Y,O] rfl rfl rfl rfl (two_of HT_.out (by kernel_rfl)) (by decide) (by decide) (fun K hK => ?_) (fun K hK => ?_)
            ·skip
             refine goes_ Tryz.func48 (by kernel_rfl) rfl #[.slice A18 ((l0.take ((wrap64 (((T60 l1 x14_1).f0) + ((T60 l1 x14_1).f1))) : Int).toNat).drop (((T60 l1 x14_1).f0) : Int).toNat).length (c0 - ((T60 l1 x14_1).f0).toNat)] (by rfl) rfl rfl (by (try simp only [List.map_toArray, List.map_cons, List.map_nil]); (rw [show ((l0.take ((wrap64 (((T60 l1 x14_1).f0) + ((T60 l1 x14_1).f1))) : Int).toNat).drop (((T60 l1 x14_1).f0) : Int).toNat).length = ((wrap64 (((T60 l1 x14_1).f0) + ((T60 l1 x14_1).f1))).toNat - ((T60 l1 x14_1).f0).toNat) from (by rw [List.length_drop, List.length_take]; have h_ : ((wrap64 (((T60 l1 x14_1).f0) + ((T60 l1 x14_1).f1))) : Int) ≤ (l0.length : Int) := oa; omega)] <;> rfl)) ?_
             with_reducible refine (spec_l1OwnT.calls _ _ ((l0.take ((wrap64 (((T60 l1 x14_1).f0) + ((T60 l1 x14_1).f1))) : Int).toNat).drop (((T60 l1 x14_1).f0) : Int).toNat) t768 _ ?side1 ?side2 A10.out).mono ?_
             (case side1 => exact zq (Kd.C_below HR767.out HB.out))
             (case side2 => exact HC767.out)
             rintro e w20 ⟨v769, rfl, ho0, hb⟩
             refine ⟨_, rfl, ?_⟩
             replace HO_5 := am (Kd.S_elder' (zs HO_5.out) (Kd.R_base ho0) hb)
             have HO770 := am (Kd.R_lower ho0 (below_size zw))
             replace BK765 := am (blk_below (g := gb765) (o := .cells #[.int .i64 ((T60 l1 x14_1).f0), .int .i64 ((T60 l1 x14_1).f1), .slice A764_2 ((T60 l1 x14_1).f2).length c764_2] 60 (0, 0)) (zk BK765.out) hb)
             replace HB := am (below_step zw hb)
             (try clear hb)
             (try clear ho0)
             refine hK.out _ _ ⟨(blk_cell BK765.out 0).trans rfl, (blk_cell BK765.out 1).trans rfl, (blk_cell BK765.out 2).trans rfl⟩ (fun hHeld => ?_)
             clear hK K
             refine norm_ (a' := ?_) ?_ ?_
             rotate_left
             ·show Act.put _ (some 44) _ = _
              simp only [Act.put,qa,qb,qc,i64_w,i32_w]
              rfl
             exact norm_ (by (simp only [putAll, Act.put, List.setIfInBounds_toArray, List.set_cons_zero, List.set_cons_succ]; done)) (hJ4_19 (v769) _ ⟨hHeld, (zr HO770.out), (by exact Kd.S_mono HO_5.out (fun _ hk => hk.2)), (zk BK765.out), zw⟩)
            ·skip
             refine box_step ?hg (N := 11) ?hd (cs := #[.int .i64 0, .int .i64 0, .slice none 0 0, .int .i64 0, .int .i64 0, .slice none 0 0]) (t := 52) ?hr ?_; (case hd => rfl); (case hg => rfl); (case hr => (go_simp; done))
             intro gb775 hg w20 hbox hb
             replace HO_5 := am (Kd.S_below (Kd.S_elderB (zs HO_5.out) gb775 (Nat.le_of_eq hg.symm)) hb)
             have BK775 := am (hbox)
             have GW775 := am ((by rw [hg]; exact (below_size zw) : w.heap.size ≤ gb775))
             have GE775 := am ((by rw [hg]; exact (below_size zw) : w.heap.size ≤ gb775))
             replace HB := am (below_step zw hb)
             have NB765_775 := am ((by rw [hg]; exact Nat.ne_of_lt (blk_lt (g := gb765) (o := .cells #[.int .i64 ((T60 l1 x14_1).f0), .int .i64 ((T60 l1 x14_1).f1), .slice A764_2 ((T60 l1 x14_1).f2).length c764_2] 60 (0, 0)) (zk BK765.out)) : gb765 ≠ gb775))
             have NB775_765 := am ((by rw [hg]; exact Nat.ne_of_gt (blk_lt (g := gb765) (o := .cells #[.int .i64 ((T60 l1 x14_1).f0), .int .i64 ((T60 l1 x14_1).f1), .slice A764_2 ((T60 l1 x14_1).f2).length c764_2] 60 (0, 0)) (zk BK765.out)) : gb775 ≠ gb765))
             replace BK765 := am (blk_below (g := gb765) (o := .cells #[.int .i64 ((T60 l1 x14_1).f0), .int .i64 ((T60 l1 x14_1).f1), .slice A764_2 ((T60 l1 x14_1).f2).length c764_2] 60 (0, 0)) (zk BK765.out) hb)
             clear hb hbox hg
             refine hK.out _ _ ⟨(blk_cell BK765.out 0).trans rfl, (blk_cell BK765.out 1).trans rfl, (blk_cell BK765.out 2).trans rfl⟩ (fun hHeld => ?_)
             clear hK K
             refine norm_ (a' := ?_) ?_ ?_
             rotate_left
             ·show Act.put _ (some 11) _ = _
              simp only [Act.put,qa,qb,qc,i64_w,i32_w]
              rfl
             exact norm_ (by (simp only [putAll, Act.put, List.setIfInBounds_toArray, List.set_cons_zero, List.set_cons_succ]; done)) (hJ4_30 (gb775) _ ⟨hHeld, (by exact Kd.S_mono HO_5.out (fun _ hk => hk.2)), (zk BK765.out), (zk BK775.out), GW775.out, GE775.out, NB765_775.out, NB775_765.out, zw⟩)
          ·skip
           rintro gb775 w20 ⟨hS_, h0_, h1_, h2_, h3_, h4_, h5_, h6_, h7_⟩
           have n0_ : Aside0 (Kd.S k52 52 w20 w.heap.size (fun k_ => k_ ≠ gb775) u5 x5_1) := ⟨h0_⟩
           have n1_ : Aside0 (w20.heap[gb765]? = some (.cells #[.int .i64 ((T60 l1 x14_1).f0), .int .i64 ((T60 l1 x14_1).f1), .slice A764_2 ((T60 l1 x14_1).f2).length c764_2] 60 (0, 0))) := ⟨h1_⟩
           have n2_ : Aside0 (w20.heap[gb775]? = some (.cells #[.int .i64 0, .int .i64 0, .slice none 0 0, .int .i64 0, .int .i64 0, .slice none 0 0] 52 (0, 0))) := ⟨h2_⟩
           have n3_ : Aside0 (w.heap.size ≤ gb775) := ⟨h3_⟩
           have n4_ : Aside0 (w.heap.size ≤ gb775) := ⟨h4_⟩
           have n5_ : Aside0 (gb765 ≠ gb775) := ⟨h5_⟩
           have n6_ : Aside0 (gb775 ≠ gb765) := ⟨h6_⟩
           have n7_ : Aside0 (Below w.heap.size w w20) := ⟨h7_⟩
           clear HO_5
           clear BK765
           clear HB
           clear h0_ h1_ h2_ h3_ h4_ h5_ h6_ h7_
           have HO_5 := n0_
           have BK765 := n1_
           have BK775 := n2_
           have GW775 := n3_
           have GE775 := n4_
           have NB765_775 := n5_
           have NB775_765 := n6_
           have HB := n7_
           clear n0_ n1_ n2_ n3_ n4_ n5_ n6_ n7_
           have hHeld : w20.cell? ⟨gb765, 0, none⟩ = some (.int .i64 ((T60 l1 x14_1).f0)) ∧ w20.cell? ⟨gb765, 1, none⟩ = some (.int .i64 ((T60 l1 x14_1).f1)) ∧ w20.cell? ⟨gb765, 2, none⟩ = some (.slice A764_2 ((T60 l1 x14_1).f2).length c764_2) := hS_
           refine norm_ (a' := ?_) ?_ ?_
           rotate_left
           ·simp only [putAll, Act.put, List.setIfInBounds_toArray, List.set_cons_zero, List.set_cons_succ]
            rfl
           refine one_ (i := 19) (N := some 44) #[Y,Y,Y,Y,Y,Y,Y,Y,Y,Y,Y,Y,Y,Y,Y,Y,Y,Y,Y,Y,Y,Y,O,Y,Y,Y,Y,Y,O,O,Y,O] rfl rfl (one_of HT_.out (by kernel_rfl)) (by decide) (fun K hK => ?_)
           refine goes_ Tryz.func48 (by kernel_rfl) rfl #[.slice A18 ((l0.take ((wrap64 (((T60 l1 x14_1).f0) + ((T60 l1 x14_1).f1))) : Int).toNat).drop (((T60 l1 x14_1).f0) : Int).toNat).length (c0 - ((T60 l1 x14_1).f0).toNat)] (by rfl) rfl rfl (by (try simp only [List.map_toArray, List.map_cons, List.map_nil]); (rw [show ((l0.take ((wrap64 (((T60 l1 x14_1).f0) + ((T60 l1 x14_1).f1))) : Int).toNat).drop (((T60 l1 x14_1).f0) : Int).toNat).length = ((wrap64 (((T60 l1 x14_1).f0) + ((T60 l1 x14_1).f1))).toNat - ((T60 l1 x14_1).f0).toNat) from (by rw [List.length_drop, List.length_take]; have h_ : ((wrap64 (((T60 l1 x14_1).f0) + ((T60 l1 x14_1).f1))) : Int) ≤ (l0.length : Int) := oa; omega)] <;> rfl)) ?_
           with_reducible refine (spec_l1OwnT.calls _ _ ((l0.take ((wrap64 (((T60 l1 x14_1).f0) + ((T60 l1 x14_1).f1))) : Int).toNat).drop (((T60 l1 x14_1).f0) : Int).toNat) t768 _ ?side1 ?side2 A10.out).mono ?_
           (case side1 => exact zq (Kd.C_below HR767.out HB.out))
           (case side2 => exact HC767.out)
           rintro e w21 ⟨v769, rfl, ho0, hb⟩
           refine ⟨_, rfl, ?_⟩
           replace HO_5 := am (Kd.S_elder' (zs HO_5.out) (Kd.R_base ho0) hb)
           have HO770 := am (Kd.R_lower ho0 (below_size zw))
           replace BK765 := am (blk_below (g := gb765) (o := .cells #[.int .i64 ((T60 l1 x14_1).f0), .int .i64 ((T60 l1 x14_1).f1), .slice A764_2 ((T60 l1 x14_1).f2).length c764_2] 60 (0, 0)) (zk BK765.out) hb)
           replace BK775 := am (blk_below (g := gb775) (o := .cells #[.int .i64 0, .int .i64 0, .slice none 0 0, .int .i64 0, .int .i64 0, .slice none 0 0] 52 (0, 0)) (zk BK775.out) hb)
           replace HB := am (below_step zw hb)
           (try clear hb)
           (try clear ho0)
           refine hK.out _ _ ⟨(blk_cell BK765.out 0).trans rfl, (blk_cell BK765.out 1).trans rfl, (blk_cell BK765.out 2).trans rfl⟩ (fun hHeld => ?_)
           clear hK K
           refine norm_ (a' := ?_) ?_ ?_
           rotate_left
           ·show Act.put _ (some 44) _ = _
            simp only [Act.put,qa,qb,qc,i64_w,i32_w]
            rfl
           exact norm_ (by (simp only [putAll, Act.put, List.setIfInBounds_toArray, List.set_cons_zero, List.set_cons_succ]; done)) (hJ4_19_30 (v769, gb775) _ ⟨hHeld, (zr HO770.out), (by exact Kd.S_mono HO_5.out (fun _ hk => ⟨hk.2, hk.1⟩)), (zk BK765.out), (zk BK775.out), GW775.out, GE775.out, NB765_775.out, NB775_765.out, zw⟩)
         ·skip
          rintro v769 w20 ⟨hS_, h0_, h1_, h2_, h3_⟩
          have n0_ : Aside0 (Kd.R Kd.string 9 w20 w.heap.size (fun _ => True) v769 t768) := ⟨h0_⟩
          have n1_ : Aside0 (Kd.S k52 52 w20 w.heap.size (fun k_ => some k_ ≠ (v769 : Value).ownBlock) u5 x5_1) := ⟨h1_⟩
          have n2_ : Aside0 (w20.heap[gb765]? = some (.cells #[.int .i64 ((T60 l1 x14_1).f0), .int .i64 ((T60 l1 x14_1).f1), .slice A764_2 ((T60 l1 x14_1).f2).length c764_2] 60 (0, 0))) := ⟨h2_⟩
          have n3_ : Aside0 (Below w.heap.size w w20) := ⟨h3_⟩
          clear HO_5
          clear BK765
          clear HB
          clear h0_ h1_ h2_ h3_
          have HO770 := n0_
          have HO_5 := n1_
          have BK765 := n2_
          have HB := n3_
          clear n0_ n1_ n2_ n3_
          have hHeld : w20.cell? ⟨gb765, 0, none⟩ = some (.int .i64 ((T60 l1 x14_1).f0)) ∧ w20.cell? ⟨gb765, 1, none⟩ = some (.int .i64 ((T60 l1 x14_1).f1)) ∧ w20.cell? ⟨gb765, 2, none⟩ = some (.slice A764_2 ((T60 l1 x14_1).f2).length c764_2) := hS_
          refine norm_ (a' := ?_) ?_ ?_
          rotate_left
          ·simp only [putAll, Act.put, List.setIfInBounds_toArray, List.set_cons_zero, List.set_cons_succ]
           rfl
          refine two_ (i := 22) (j := 30) (Ni := some 47) (Nj := some 11) #[Y,Y,Y,Y,Y,Y,Y,Y,Y,Y,Y,Y,Y,Y,Y,Y,Y,Y,Y,Y,Y,Y,Y,Y,Y,Y,Y,Y,O,O,O,O] #[Y,Y,Y,Y,Y,Y,Y,Y,Y,Y,Y,Y,Y,Y,Y,Y,Y,Y,Y,Y,Y,Y,O,Y,Y,Y,Y,Y,O,O,Y,O] rfl rfl rfl rfl (two_of HT_.out (by kernel_rfl)) (by decide) (by decide) (fun K hK => ?_) (fun K hK => ?_)
          ·skip
           refine goes_ Tryz.func61 (by kernel_rfl) rfl #[.int .i64 (wrap64 (((T60 l1 x14_1).f0) + x6_1)), .int .i64 (((T60 l1 x14_1).f2).length : Int)] (by rfl) rfl rfl zm ?_
           with_reducible refine (spec_l4Number.calls (wrap64 (((T60 l1 x14_1).f0) + x6_1)) (((T60 l1 x14_1).f2).length : Int) t771 _ A11.out).mono ?_
           rintro e w' ⟨rfl, ⟨nd, rfl⟩⟩
           refine ⟨_, rfl, ?_⟩
           refine hK.out _ _ ⟨(blk_cell BK765.out 0).trans rfl, (blk_cell BK765.out 1).trans rfl, (blk_cell BK765.out 2).trans rfl⟩ (fun hHeld => ?_)
           clear hK K
           refine norm_ (a' := ?_) ?_ ?_
           rotate_left
           ·show Act.put _ (some 47) _ = _
            simp only [Act.put,qa,qb,qc,i64_w,i32_w]
            rfl
           exact norm_ (by (simp only [putAll, Act.put, List.setIfInBounds_toArray, List.set_cons_zero, List.set_cons_succ]; done)) (hJ4_19_22 (v769) _ ⟨hHeld, (zr HO770.out), (zs HO_5.out), (zk BK765.out), zw⟩)
          ·skip
           refine box_step ?hg (N := 11) ?hd (cs := #[.int .i64 0, .int .i64 0, .slice none 0 0, .int .i64 0, .int .i64 0, .slice none 0 0]) (t := 52) ?hr ?_; (case hd => rfl); (case hg => rfl); (case hr => (go_simp; done))
           intro gb775 hg w21 hbox hb
           replace HO_5 := am (Kd.S_below (Kd.S_elderB (zs HO_5.out) gb775 (Nat.le_of_eq hg.symm)) hb)
           replace HO770 := am (Kd.R_below (zr HO770.out) hb)
           have BK775 := am (hbox)
           have GW775 := am ((by rw [hg]; exact (below_size zw) : w.heap.size ≤ gb775))
           have GE775 := am ((by rw [hg]; exact (below_size zw) : w.heap.size ≤ gb775))
           replace HB := am (below_step zw hb)
           have NB765_775 := am ((by rw [hg]; exact Nat.ne_of_lt (blk_lt (g := gb765) (o := .cells #[.int .i64 ((T60 l1 x14_1).f0), .int .i64 ((T60 l1 x14_1).f1), .slice A764_2 ((T60 l1 x14_1).f2).length c764_2] 60 (0, 0)) (zk BK765.out)) : gb765 ≠ gb775))
           have NB775_765 := am ((by rw [hg]; exact Nat.ne_of_gt (blk_lt (g := gb765) (o := .cells #[.int .i64 ((T60 l1 x14_1).f0), .int .i64 ((T60 l1 x14_1).f1), .slice A764_2 ((T60 l1 x14_1).f2).length c764_2] 60 (0, 0)) (zk BK765.out)) : gb775 ≠ gb765))
           replace BK765 := am (blk_below (g := gb765) (o := .cells #[.int .i64 ((T60 l1 x14_1).f0), .int .i64 ((T60 l1 x14_1).f1), .slice A764_2 ((T60 l1 x14_1).f2).length c764_2] 60 (0, 0)) (zk BK765.out) hb)
           clear hb hbox hg
           refine hK.out _ _ ⟨(blk_cell BK765.out 0).trans rfl, (blk_cell BK765.out 1).trans rfl, (blk_cell BK765.out 2).trans rfl⟩ (fun hHeld => ?_)
           clear hK K
           refine norm_ (a' := ?_) ?_ ?_
           rotate_left
           ·show Act.put _ (some 11) _ = _
            simp only [Act.put,qa,qb,qc,i64_w,i32_w]
            rfl
           exact norm_ (by (simp only [putAll, Act.put, List.setIfInBounds_toArray, List.set_cons_zero, List.set_cons_succ]; done)) (hJ4_19_30 (v769, gb775) _ ⟨hHeld, (zr HO770.out), (zs HO_5.out), (zk BK765.out), (zk BK775.out), GW775.out, GE775.out, NB765_775.out, NB775_765.out, zw⟩)
        ·skip
         rintro ⟨v769, gb775⟩ w21 ⟨hS_, h0_, h1_, h2_, h3_, h4_, h5_, h6_, h7_, h8_⟩
         have n0_ : Aside0 (Kd.R Kd.string 9 w21 w.heap.size (fun _ => True) v769 t768) := ⟨h0_⟩
         have n1_ : Aside0 (Kd.S k52 52 w21 w.heap.size (fun k_ => some k_ ≠ (v769 : Value).ownBlock ∧ k_ ≠ gb775) u5 x5_1) := ⟨h1_⟩
         have n2_ : Aside0 (w21.heap[gb765]? = some (.cells #[.int .i64 ((T60 l1 x14_1).f0), .int .i64 ((T60 l1 x14_1).f1), .slice A764_2 ((T60 l1 x14_1).f2).length c764_2] 60 (0, 0))) := ⟨h2_⟩
         have n3_ : Aside0 (w21.heap[gb775]? = some (.cells #[.int .i64 0, .int .i64 0, .slice none 0 0, .int .i64 0, .int .i64 0, .slice none 0 0] 52 (0, 0))) := ⟨h3_⟩
         have n4_ : Aside0 (w.heap.size ≤ gb775) := ⟨h4_⟩
         have n5_ : Aside0 (w.heap.size ≤ gb775) := ⟨h5_⟩
         have n6_ : Aside0 (gb765 ≠ gb775) := ⟨h6_⟩
         have n7_ : Aside0 (gb775 ≠ gb765) := ⟨h7_⟩
         have n8_ : Aside0 (Below w.heap.size w w21) := ⟨h8_⟩
         clear HO_5
         clear BK765
         clear HB
         clear h0_ h1_ h2_ h3_ h4_ h5_ h6_ h7_ h8_
         have HO770 := n0_
         have HO_5 := n1_
         have BK765 := n2_
         have BK775 := n3_
         have GW775 := n4_
         have GE775 := n5_
         have NB765_775 := n6_
         have NB775_765 := n7_
         have HB := n8_
         clear n0_ n1_ n2_ n3_ n4_ n5_ n6_ n7_ n8_
         have hHeld : w21.cell? ⟨gb765, 0, none⟩ = some (.int .i64 ((T60 l1 x14_1).f0)) ∧ w21.cell? ⟨gb765, 1, none⟩ = some (.int .i64 ((T60 l1 x14_1).f1)) ∧ w21.cell? ⟨gb765, 2, none⟩ = some (.slice A764_2 ((T60 l1 x14_1).f2).length c764_2) := hS_
         refine norm_ (a' := ?_) ?_ ?_
         rotate_left
         ·simp only [putAll, Act.put, List.setIfInBounds_toArray, List.set_cons_zero, List.set_cons_succ]
          rfl
         refine one_ (i := 22) (N := some 47) #[Y,Y,Y,Y,Y,Y,Y,Y,Y,Y,Y,Y,Y,Y,Y,Y,Y,Y,Y,Y,Y,Y,Y,Y,Y,Y,Y,Y,O,O,Y,O] rfl rfl (one_of HT_.out (by kernel_rfl)) (by decide) (fun K hK => ?_)
         refine goes_ Tryz.func61 (by kernel_rfl) rfl #[.int .i64 (wrap64 (((T60 l1 x14_1).f0) + x6_1)), .int .i64 (((T60 l1 x14_1).f2).length : Int)] (by rfl) rfl rfl zm ?_
         with_reducible refine (spec_l4Number.calls (wrap64 (((T60 l1 x14_1).f0) + x6_1)) (((T60 l1 x14_1).f2).length : Int) t771 _ A11.out).mono ?_
         rintro e w' ⟨rfl, ⟨nd, rfl⟩⟩
         refine ⟨_, rfl, ?_⟩
         refine hK.out _ _ ⟨(blk_cell BK765.out 0).trans rfl, (blk_cell BK765.out 1).trans rfl, (blk_cell BK765.out 2).trans rfl⟩ (fun hHeld => ?_)
         clear hK K
         refine norm_ (a' := ?_) ?_ ?_
         rotate_left
         ·show Act.put _ (some 47) _ = _
          simp only [Act.put,qa,qb,qc,i64_w,i32_w]
          rfl
         exact norm_ (by (simp only [putAll, Act.put, List.setIfInBounds_toArray, List.set_cons_zero, List.set_cons_succ]; done)) (hJ4_19_22_30 (v769, gb775) _ ⟨hHeld, (zr HO770.out), (zs HO_5.out), (zk BK765.out), (zk BK775.out), GW775.out, GE775.out, NB765_775.out, NB775_765.out, zw⟩)
       ·skip
        rintro v769 w20 ⟨hS_, h0_, h1_, h2_, h3_⟩
        have n0_ : Aside0 (Kd.R Kd.string 9 w20 w.heap.size (fun _ => True) v769 t768) := ⟨h0_⟩
        have n1_ : Aside0 (Kd.S k52 52 w20 w.heap.size (fun k_ => some k_ ≠ (v769 : Value).ownBlock) u5 x5_1) := ⟨h1_⟩
        have n2_ : Aside0 (w20.heap[gb765]? = some (.cells #[.int .i64 ((T60 l1 x14_1).f0), .int .i64 ((T60 l1 x14_1).f1), .slice A764_2 ((T60 l1 x14_1).f2).length c764_2] 60 (0, 0))) := ⟨h2_⟩
        have n3_ : Aside0 (Below w.heap.size w w20) := ⟨h3_⟩
        clear HO_5
        clear BK765
        clear HB
        clear h0_ h1_ h2_ h3_
        have HO770 := n0_
        have HO_5 := n1_
        have BK765 := n2_
        have HB := n3_
        clear n0_ n1_ n2_ n3_
        have hHeld : w20.cell? ⟨gb765, 0, none⟩ = some (.int .i64 ((T60 l1 x14_1).f0)) ∧ w20.cell? ⟨gb765, 1, none⟩ = some (.int .i64 ((T60 l1 x14_1).f1)) ∧ w20.cell? ⟨gb765, 2, none⟩ = some (.slice A764_2 ((T60 l1 x14_1).f2).length c764_2) := hS_
        refine norm_ (a' := ?_) ?_ ?_
        rotate_left
        ·simp only [putAll, Act.put, List.setIfInBounds_toArray, List.set_cons_zero, List.set_cons_succ]
         rfl
        refine two_ (i := 28) (j := 30) (Ni := some 53) (Nj := some 11) #[Y,Y,Y,Y,Y,Y,Y,Y,Y,Y,Y,Y,Y,Y,Y,Y,Y,Y,Y,Y,Y,Y,Y,Y,Y,Y,Y,Y,Y,O,O,O] #[Y,Y,Y,Y,Y,Y,Y,Y,Y,Y,Y,Y,Y,Y,Y,Y,Y,Y,Y,Y,Y,Y,Y,Y,Y,Y,Y,Y,O,O,Y,O] rfl rfl rfl rfl (two_of HT_.out (by kernel_rfl)) (by decide) (by decide) (fun K hK => ?_) (fun K hK => ?_)
        ·skip
         refine goes_ Tryz.func48 (by kernel_rfl) rfl #[.slice A764_2 ((T60 l1 x14_1).f2).length c764_2] (by rfl) rfl rfl zm ?_
         with_reducible refine (spec_l1OwnT.calls _ _ ((T60 l1 x14_1).f2) t772 _ ?side1 ?side2 A12.out).mono ?_
         (case side1 => exact zq (Kd.C_below HR764_2.out HB.out))
         (case side2 => exact HC764_2.out)
         rintro e w21 ⟨v773, rfl, ho0, hb⟩
         refine ⟨_, rfl, ?_⟩
         replace HO_5 := am (Kd.S_elder' (zs HO_5.out) (Kd.R_base ho0) hb)
         have HO774 := am (Kd.R_lower (Kd.R_new' ho0 (Kd.R_lt (zr HO770.out))) (below_size zw))
         replace HO770 := am (Kd.R_elder' (zr HO770.out) (Kd.R_base ho0) hb)
         replace BK765 := am (blk_below (g := gb765) (o := .cells #[.int .i64 ((T60 l1 x14_1).f0), .int .i64 ((T60 l1 x14_1).f1), .slice A764_2 ((T60 l1 x14_1).f2).length c764_2] 60 (0, 0)) (zk BK765.out) hb)
         replace HB := am (below_step zw hb)
         (try clear hb)
         (try clear ho0)
         obtain ⟨Ao22, co22, eo22⟩ := Kd.R_slice HO774.out
         (subst eo22)
         obtain ⟨Ao23, co23, eo23⟩ := Kd.R_slice HO770.out
         (subst eo23)
         refine hK.out _ _ ⟨(blk_cell BK765.out 0).trans rfl, (blk_cell BK765.out 1).trans rfl, (blk_cell BK765.out 2).trans rfl⟩ (fun hHeld => ?_)
         clear hK K
         refine norm_ (a' := ?_) ?_ ?_
         rotate_left
         ·show Act.put _ (some 53) _ = _
          simp only [Act.put,qa,qb,qc,i64_w,i32_w]
          rfl
         refine pu 29 (some 54) ?_
         exact norm_ (by (simp only [putAll, Act.put, List.setIfInBounds_toArray, List.set_cons_zero, List.set_cons_succ]; done)) (hJ4_19_22_28 (.slice Ao23 t768.length co23, .slice Ao22 t772.length co22) _ ⟨hHeld, (by exact Kd.R_mono HO770.out (fun _ hk => hk.2)), (by exact Kd.R_mono HO774.out (fun _ hk => hk.2)), (zs HO_5.out), (zk BK765.out), zw⟩)
        ·skip
         refine box_step ?hg (N := 11) ?hd (cs := #[.int .i64 0, .int .i64 0, .slice none 0 0, .int .i64 0, .int .i64 0, .slice none 0 0]) (t := 52) ?hr ?_; (case hd => rfl); (case hg => rfl); (case hr => (go_simp; done))
         intro gb775 hg w21 hbox hb
         replace HO_5 := am (Kd.S_below (Kd.S_elderB (zs HO_5.out) gb775 (Nat.le_of_eq hg.symm)) hb)
         replace HO770 := am (Kd.R_below (zr HO770.out) hb)
         have BK775 := am (hbox)
         have GW775 := am ((by rw [hg]; exact (below_size zw) : w.heap.size ≤ gb775))
         have GE775 := am ((by rw [hg]; exact (below_size zw) : w.heap.size ≤ gb775))
         replace HB := am (below_step zw hb)
         have NB765_775 := am ((by rw [hg]; exact Nat.ne_of_lt (blk_lt (g := gb765) (o := .cells #[.int .i64 ((T60 l1 x14_1).f0), .int .i64 ((T60 l1 x14_1).f1), .slice A764_2 ((T60 l1 x14_1).f2).length c764_2] 60 (0, 0)) (zk BK765.out)) : gb765 ≠ gb775))
         have NB775_765 := am ((by rw [hg]; exact Nat.ne_of_gt (blk_lt (g := gb765) (o := .cells #[.int .i64 ((T60 l1 x14_1).f0), .int .i64 ((T60 l1 x14_1).f1), .slice A764_2 ((T60 l1 x14_1).f2).length c764_2] 60 (0, 0)) (zk BK765.out)) : gb775 ≠ gb765))
         replace BK765 := am (blk_below (g := gb765) (o := .cells #[.int .i64 ((T60 l1 x14_1).f0), .int .i64 ((T60 l1 x14_1).f1), .slice A764_2 ((T60 l1 x14_1).f2).length c764_2] 60 (0, 0)) (zk BK765.out) hb)
         clear hb hbox hg
         refine hK.out _ _ ⟨(blk_cell BK765.out 0).trans rfl, (blk_cell BK765.out 1).trans rfl, (blk_cell BK765.out 2).trans rfl⟩ (fun hHeld => ?_)
         clear hK K
         refine norm_ (a' := ?_) ?_ ?_
         rotate_left
         ·show Act.put _ (some 11) _ = _
          simp only [Act.put,qa,qb,qc,i64_w,i32_w]
          rfl
         exact norm_ (by (simp only [putAll, Act.put, List.setIfInBounds_toArray, List.set_cons_zero, List.set_cons_succ]; done)) (hJ4_19_22_30 (v769, gb775) _ ⟨hHeld, (zr HO770.out), (zs HO_5.out), (zk BK765.out), (zk BK775.out), GW775.out, GE775.out, NB765_775.out, NB775_765.out, zw⟩)
      ·skip
       rintro ⟨v769, gb775⟩ w21 ⟨hS_, h0_, h1_, h2_, h3_, h4_, h5_, h6_, h7_, h8_⟩
       have n0_ : Aside0 (Kd.R Kd.string 9 w21 w.heap.size (fun _ => True) v769 t768) := ⟨h0_⟩
       have n1_ : Aside0 (Kd.S k52 52 w21 w.heap.size (fun k_ => some k_ ≠ (v769 : Value).ownBlock ∧ k_ ≠ gb775) u5 x5_1) := ⟨h1_⟩
       have n2_ : Aside0 (w21.heap[gb765]? = some (.cells #[.int .i64 ((T60 l1 x14_1).f0), .int .i64 ((T60 l1 x14_1).f1), .slice A764_2 ((T60 l1 x14_1).f2).length c764_2] 60 (0, 0))) := ⟨h2_⟩
       have n3_ : Aside0 (w21.heap[gb775]? = some (.cells #[.int .i64 0, .int .i64 0, .slice none 0 0, .int .i64 0, .int .i64 0, .slice none 0 0] 52 (0, 0))) := ⟨h3_⟩
       have n4_ : Aside0 (w.heap.size ≤ gb775) := ⟨h4_⟩
       have n5_ : Aside0 (w.heap.size ≤ gb775) := ⟨h5_⟩
       have n6_ : Aside0 (gb765 ≠ gb775) := ⟨h6_⟩
       have n7_ : Aside0 (gb775 ≠ gb765) := ⟨h7_⟩
       have n8_ : Aside0 (Below w.heap.size w w21) := ⟨h8_⟩
       clear HO_5
       clear BK765
       clear HB
       clear h0_ h1_ h2_ h3_ h4_ h5_ h6_ h7_ h8_
       have HO770 := n0_
       have HO_5 := n1_
       have BK765 := n2_
       have BK775 := n3_
       have GW775 := n4_
       have GE775 := n5_
       have NB765_775 := n6_
       have NB775_765 := n7_
       have HB := n8_
       clear n0_ n1_ n2_ n3_ n4_ n5_ n6_ n7_ n8_
       have hHeld : w21.cell? ⟨gb765, 0, none⟩ = some (.int .i64 ((T60 l1 x14_1).f0)) ∧ w21.cell? ⟨gb765, 1, none⟩ = some (.int .i64 ((T60 l1 x14_1).f1)) ∧ w21.cell? ⟨gb765, 2, none⟩ = some (.slice A764_2 ((T60 l1 x14_1).f2).length c764_2) := hS_
       refine norm_ (a' := ?_) ?_ ?_
       rotate_left
       ·simp only [putAll, Act.put, List.setIfInBounds_toArray, List.set_cons_zero, List.set_cons_succ]
        rfl
       refine one_ (i := 28) (N := some 53) #[Y,Y,Y,Y,Y,Y,Y,Y,Y,Y,Y,Y,Y,Y,Y,Y,Y,Y,Y,Y,Y,Y,Y,Y,Y,Y,Y,Y,Y,O,Y,O] rfl rfl (one_of HT_.out (by kernel_rfl)) (by decide) (fun K hK => ?_)
       refine goes_ Tryz.func48 (by kernel_rfl) rfl #[.slice A764_2 ((T60 l1 x14_1).f2).length c764_2] (by rfl) rfl rfl zm ?_
       with_reducible refine (spec_l1OwnT.calls _ _ ((T60 l1 x14_1).f2) t772 _ ?side1 ?side2 A12.out).mono ?_
       (case side1 => exact zq (Kd.C_below HR764_2.out HB.out))
       (case side2 => exact HC764_2.out)
       rintro e w22 ⟨v773, rfl, ho0, hb⟩
       refine ⟨_, rfl, ?_⟩
       replace HO_5 := am (Kd.S_elder' (zs HO_5.out) (Kd.R_base ho0) hb)
       have HO774 := am (Kd.R_lower (Kd.R_new' ho0 (Kd.R_lt (zr HO770.out))) (below_size zw))
       replace HO770 := am (Kd.R_elder' (zr HO770.out) (Kd.R_base ho0) hb)
       replace BK765 := am (blk_below (g := gb765) (o := .cells #[.int .i64 ((T60 l1 x14_1).f0), .int .i64 ((T60 l1 x14_1).f1), .slice A764_2 ((T60 l1 x14_1).f2).length c764_2] 60 (0, 0)) (zk BK765.out) hb)
       replace BK775 := am (blk_below (g := gb775) (o := .cells #[.int .i64 0, .int .i64 0, .slice none 0 0, .int .i64 0, .int .i64 0, .slice none 0 0] 52 (0, 0)) (zk BK775.out) hb)
       replace HB := am (below_step zw hb)
       (try clear hb)
       (try clear ho0)
       obtain ⟨Ao23, co23, eo23⟩ := Kd.R_slice HO774.out
       (subst eo23)
       obtain ⟨Ao24, co24, eo24⟩ := Kd.R_slice HO770.out
       (subst eo24)
       refine hK.out _ _ ⟨(blk_cell BK765.out 0).trans rfl, (blk_cell BK765.out 1).trans rfl, (blk_cell BK765.out 2).trans rfl⟩ (fun hHeld => ?_)
       clear hK K
       refine norm_ (a' := ?_) ?_ ?_
       rotate_left
       ·show Act.put _ (some 53) _ = _
        simp only [Act.put,qa,qb,qc,i64_w,i32_w]
        rfl
       refine pu 29 (some 54) ?_
       exact norm_ (by (simp only [putAll, Act.put, List.setIfInBounds_toArray, List.set_cons_zero, List.set_cons_succ]; done)) (hJ4_19_22_28_30 (.slice Ao24 t768.length co24, .slice Ao23 t772.length co23, gb775) _ ⟨hHeld, (by exact Kd.R_mono HO770.out (fun _ hk => hk.2)), (by exact Kd.R_mono HO774.out (fun _ hk => hk.2)), (by exact Kd.S_mono HO_5.out (fun _ hk => ⟨hk.1.1, ⟨hk.2, hk.1.2⟩⟩)), (zk BK765.out), (zk BK775.out), GW775.out, GE775.out, NB765_775.out, NB775_765.out, zw⟩)
     ·skip
      rintro ⟨v769, v773⟩ w23 ⟨hS_, h0_, h1_, h2_, h3_, h4_⟩
      have n0_ : Aside0 (Kd.R Kd.string 9 w23 w.heap.size (fun k_ => some k_ ≠ (v773 : Value).ownBlock) v769 t768) := ⟨h0_⟩
      have n1_ : Aside0 (Kd.R Kd.string 9 w23 w.heap.size (fun k_ => some k_ ≠ (v769 : Value).ownBlock) v773 t772) := ⟨h1_⟩
      have n2_ : Aside0 (Kd.S k52 52 w23 w.heap.size (fun k_ => some k_ ≠ (v769 : Value).ownBlock ∧ some k_ ≠ (v773 : Value).ownBlock) u5 x5_1) := ⟨h2_⟩
      have n3_ : Aside0 (w23.heap[gb765]? = some (.cells #[.int .i64 ((T60 l1 x14_1).f0), .int .i64 ((T60 l1 x14_1).f1), .slice A764_2 ((T60 l1 x14_1).f2).length c764_2] 60 (0, 0))) := ⟨h3_⟩
      have n4_ : Aside0 (Below w.heap.size w w23) := ⟨h4_⟩
      clear HO_5
      clear BK765
      clear HB
      clear h0_ h1_ h2_ h3_ h4_
      have HO770 := n0_
      have HO774 := n1_
      have HO_5 := n2_
      have BK765 := n3_
      have HB := n4_
      clear n0_ n1_ n2_ n3_ n4_
      have hHeld : w23.cell? ⟨gb765, 0, none⟩ = some (.int .i64 ((T60 l1 x14_1).f0)) ∧ w23.cell? ⟨gb765, 1, none⟩ = some (.int .i64 ((T60 l1 x14_1).f1)) ∧ w23.cell? ⟨gb765, 2, none⟩ = some (.slice A764_2 ((T60 l1 x14_1).f2).length c764_2) := hS_
      obtain ⟨Ao24, co24, eo24⟩ := Kd.R_slice HO774.out
      (subst eo24)
      obtain ⟨Ao25, co25, eo25⟩ := Kd.R_slice HO770.out
      (subst eo25)
      refine norm_ (a' := ?_) ?_ ?_
      rotate_left
      ·simp only [putAll, Act.put, List.setIfInBounds_toArray, List.set_cons_zero, List.set_cons_succ]
       rfl
      refine one_ (i := 30) (N := some 11) #[Y,Y,Y,Y,Y,Y,Y,Y,Y,Y,Y,Y,Y,Y,Y,Y,Y,Y,Y,Y,Y,Y,Y,Y,Y,Y,Y,Y,Y,Y,Y,O] rfl rfl (one_of HT_.out (by kernel_rfl)) (by decide) (fun K hK => ?_)
      refine box_step ?hg (N := 11) ?hd (cs := #[.int .i64 0, .int .i64 0, .slice none 0 0, .int .i64 0, .int .i64 0, .slice none 0 0]) (t := 52) ?hr ?_; (case hd => rfl); (case hg => rfl); (case hr => (go_simp; done))
      intro gb775 hg w26 hbox hb
      replace HO_5 := am (Kd.S_below (Kd.S_elderB (zs HO_5.out) gb775 (Nat.le_of_eq hg.symm)) hb)
      replace HO770 := am (Kd.R_below (zr HO770.out) hb)
      replace HO774 := am (Kd.R_below (zr HO774.out) hb)
      have BK775 := am (hbox)
      have GW775 := am ((by rw [hg]; exact (below_size zw) : w.heap.size ≤ gb775))
      have GE775 := am ((by rw [hg]; exact (below_size zw) : w.heap.size ≤ gb775))
      replace HB := am (below_step zw hb)
      have NB765_775 := am ((by rw [hg]; exact Nat.ne_of_lt (blk_lt (g := gb765) (o := .cells #[.int .i64 ((T60 l1 x14_1).f0), .int .i64 ((T60 l1 x14_1).f1), .slice A764_2 ((T60 l1 x14_1).f2).length c764_2] 60 (0, 0)) (zk BK765.out)) : gb765 ≠ gb775))
      have NB775_765 := am ((by rw [hg]; exact Nat.ne_of_gt (blk_lt (g := gb765) (o := .cells #[.int .i64 ((T60 l1 x14_1).f0), .int .i64 ((T60 l1 x14_1).f1), .slice A764_2 ((T60 l1 x14_1).f2).length c764_2] 60 (0, 0)) (zk BK765.out)) : gb775 ≠ gb765))
      replace BK765 := am (blk_below (g := gb765) (o := .cells #[.int .i64 ((T60 l1 x14_1).f0), .int .i64 ((T60 l1 x14_1).f1), .slice A764_2 ((T60 l1 x14_1).f2).length c764_2] 60 (0, 0)) (zk BK765.out) hb)
      clear hb hbox hg
      refine hK.out _ _ ⟨(blk_cell BK765.out 0).trans rfl, (blk_cell BK765.out 1).trans rfl, (blk_cell BK765.out 2).trans rfl⟩ (fun hHeld => ?_)
      clear hK K
      refine norm_ (a' := ?_) ?_ ?_
      rotate_left
      ·show Act.put _ (some 11) _ = _
       simp only [Act.put,qa,qb,qc,i64_w,i32_w]
       rfl
      exact norm_ (by (simp only [putAll, Act.put, List.setIfInBounds_toArray, List.set_cons_zero, List.set_cons_succ]; done)) (hJ4_19_22_28_30 (.slice Ao25 t768.length co25, .slice Ao24 t772.length co24, gb775) _ ⟨hHeld, (zr HO770.out), (zr HO774.out), (by exact Kd.S_mono HO_5.out (fun _ hk => ⟨hk.1.1, ⟨hk.1.2, hk.2⟩⟩)), (zk BK765.out), (zk BK775.out), GW775.out, GE775.out, NB765_775.out, NB775_765.out, zw⟩)
    rintro ⟨v769, v773, gb775⟩ w24 ⟨hS_, h0_, h1_, h2_, h3_, h4_, h5_, h6_, h7_, h8_, h9_⟩
    have n0_ : Aside0 (Kd.R Kd.string 9 w24 w.heap.size (fun k_ => some k_ ≠ (v773 : Value).ownBlock) v769 t768) := ⟨h0_⟩
    have n1_ : Aside0 (Kd.R Kd.string 9 w24 w.heap.size (fun k_ => some k_ ≠ (v769 : Value).ownBlock) v773 t772) := ⟨h1_⟩
    have n2_ : Aside0 (Kd.S k52 52 w24 w.heap.size (fun k_ => some k_ ≠ (v769 : Value).ownBlock ∧ some k_ ≠ (v773 : Value).ownBlock ∧ k_ ≠ gb775) u5 x5_1) := ⟨h2_⟩
    have n3_ : Aside0 (w24.heap[gb765]? = some (.cells #[.int .i64 ((T60 l1 x14_1).f0), .int .i64 ((T60 l1 x14_1).f1), .slice A764_2 ((T60 l1 x14_1).f2).length c764_2] 60 (0, 0))) := ⟨h3_⟩
    have n4_ : Aside0 (w24.heap[gb775]? = some (.cells #[.int .i64 0, .int .i64 0, .slice none 0 0, .int .i64 0, .int .i64 0, .slice none 0 0] 52 (0, 0))) := ⟨h4_⟩
    have n5_ : Aside0 (w.heap.size ≤ gb775) := ⟨h5_⟩
    have n6_ : Aside0 (w.heap.size ≤ gb775) := ⟨h6_⟩
    have n7_ : Aside0 (gb765 ≠ gb775) := ⟨h7_⟩
    have n8_ : Aside0 (gb775 ≠ gb765) := ⟨h8_⟩
    have n9_ : Aside0 (Below w.heap.size w w24) := ⟨h9_⟩
    clear HO_5
    clear BK765
    clear HB
    clear h0_ h1_ h2_ h3_ h4_ h5_ h6_ h7_ h8_ h9_
    have HO770 := n0_
    have HO774 := n1_
    have HO_5 := n2_
    have BK765 := n3_
    have BK775 := n4_
    have GW775 := n5_
    have GE775 := n6_
    have NB765_775 := n7_
    have NB775_765 := n8_
    have HB := n9_
    clear n0_ n1_ n2_ n3_ n4_ n5_ n6_ n7_ n8_ n9_
    have hHeld : w24.cell? ⟨gb765, 0, none⟩ = some (.int .i64 ((T60 l1 x14_1).f0)) ∧ w24.cell? ⟨gb765, 1, none⟩ = some (.int .i64 ((T60 l1 x14_1).f1)) ∧ w24.cell? ⟨gb765, 2, none⟩ = some (.slice A764_2 ((T60 l1 x14_1).f2).length c764_2) := hS_
    obtain ⟨Ao25, co25, eo25⟩ := Kd.R_slice HO774.out
    (subst eo25)
    obtain ⟨Ao26, co26, eo26⟩ := Kd.R_slice HO770.out
    (subst eo26)
    refine norm_ (a' := ?_) ?_ ?_
    rotate_left
    ·simp only [putAll, Act.put, List.setIfInBounds_toArray, List.set_cons_zero, List.set_cons_succ]
     rfl
    refine one_ (i := 31) (N := none) #[Y,Y,Y,Y,Y,Y,Y,Y,Y,Y,Y,Y,Y,Y,Y,Y,Y,Y,Y,Y,Y,Y,Y,Y,Y,Y,Y,Y,Y,Y,Y,Y] rfl rfl (one_of HT_.out (by kernel_rfl)) (by decide) (fun K hK => ?_)
    have hs27 : w24.cell? ⟨gb775, 0, none⟩ = some (.int .i64 0) := (blk_cell BK775.out 0).trans rfl
    have hfs27 := blk_frozen BK775.out 0
    have hns27_0 := NB765_775.out
    have hms27_0 := NB775_765.out
    have hs28 : w24.cell? ⟨gb775, 1, none⟩ = some (.int .i64 0) := (blk_cell BK775.out 1).trans rfl
    have hfs28 := blk_frozen BK775.out 1
    have hns28_0 := NB765_775.out
    have hms28_0 := NB775_765.out
    have hs29 : w24.cell? ⟨gb775, 2, none⟩ = some (.slice none 0 0) := (blk_cell BK775.out 2).trans rfl
    have hfs29 := blk_frozen BK775.out 2
    have hns29_0 := NB765_775.out
    have hms29_0 := NB775_765.out
    have hs30 : w24.cell? ⟨gb775, 3, none⟩ = some (.int .i64 0) := (blk_cell BK775.out 3).trans rfl
    have hfs30 := blk_frozen BK775.out 3
    have hns30_0 := NB765_775.out
    have hms30_0 := NB775_765.out
    have hs31 : w24.cell? ⟨gb775, 4, none⟩ = some (.int .i64 0) := (blk_cell BK775.out 4).trans rfl
    have hfs31 := blk_frozen BK775.out 4
    have hns31_0 := NB765_775.out
    have hms31_0 := NB775_765.out
    have hs32 : w24.cell? ⟨gb775, 5, none⟩ = some (.slice none 0 0) := (blk_cell BK775.out 5).trans rfl
    have hfs32 := blk_frozen BK775.out 5
    have hns32_0 := NB765_775.out
    have hms32_0 := NB775_765.out
    refine skip_ (w1 := ?_) (by rfl) rfl ?_ ?_
    rotate_left
    ·go_simp
     rfl
    refine hK.out _ _ ⟨((cell_far (p := ⟨gb775, _, none⟩) NB765_775.out _).trans (((cell_far (p := ⟨gb775, _, none⟩) NB765_775.out _).trans (((cell_far (p := ⟨gb775, _, none⟩) NB765_775.out _).trans (((cell_far (p := ⟨gb775, _, none⟩) NB765_775.out _).trans (((cell_far (p := ⟨gb775, _, none⟩) NB765_775.out _).trans (((cell_far (p := ⟨gb775, _, none⟩) NB765_775.out _).trans (hHeld.1)))))))))))), ((cell_far (p := ⟨gb775, _, none⟩) NB765_775.out _).trans (((cell_far (p := ⟨gb775, _, none⟩) NB765_775.out _).trans (((cell_far (p := ⟨gb775, _, none⟩) NB765_775.out _).trans (((cell_far (p := ⟨gb775, _, none⟩) NB765_775.out _).trans (((cell_far (p := ⟨gb775, _, none⟩) NB765_775.out _).trans (((cell_far (p := ⟨gb775, _, none⟩) NB765_775.out _).trans (hHeld.2.1)))))))))))), ((cell_far (p := ⟨gb775, _, none⟩) NB765_775.out _).trans (((cell_far (p := ⟨gb775, _, none⟩) NB765_775.out _).trans (((cell_far (p := ⟨gb775, _, none⟩) NB765_775.out _).trans (((cell_far (p := ⟨gb775, _, none⟩) NB765_775.out _).trans (((cell_far (p := ⟨gb775, _, none⟩) NB765_775.out _).trans (((cell_far (p := ⟨gb775, _, none⟩) NB765_775.out _).trans (hHeld.2.2))))))))))))⟩ (fun hHeld => ?_)
    clear hK K
    refine done_ (done_of HT_.out (by kernel_rfl)) ?_
    have n0_ : Aside0 (Kd.S k52 52 ((((((w24.setCell ⟨gb775, 0, none⟩ (.int .i64 t766)).setCell ⟨gb775, 1, none⟩ (.int .i64 (wrap64 (((T60 l1 x14_1).f0) + ((T60 l1 x14_1).f1))))).setCell ⟨gb775, 2, none⟩ (.slice Ao26 t768.length co26)).setCell ⟨gb775, 3, none⟩ (.int .i64 t771)).setCell ⟨gb775, 4, none⟩ (.int .i64 (wrap64 ((wrap64 (((T60 l1 x14_1).f0) + x6_1)) + (((T60 l1 x14_1).f2).length : Int))))).setCell ⟨gb775, 5, none⟩ (.slice Ao25 t772.length co25)) w.heap.size (fun k_ => some k_ ≠ (.slice Ao26 t768.length co26 : Value).ownBlock ∧ some k_ ≠ (.slice Ao25 t772.length co25 : Value).ownBlock ∧ k_ ≠ gb775) u5 x5_1) := ⟨by exact Kd.S_mono (Kd.S_far (p := ⟨gb775, 5, none⟩) (Kd.S_far (p := ⟨gb775, 4, none⟩) (Kd.S_far (p := ⟨gb775, 3, none⟩) (Kd.S_far (p := ⟨gb775, 2, none⟩) (Kd.S_far (p := ⟨gb775, 1, none⟩) (Kd.S_far (p := ⟨gb775, 0, none⟩) (Kd.S_mono HO_5.out (fun k_ hk => (⟨hk, hk.2.2⟩ : _ ∧ k_ ≠ gb775))) (fun _ hk => hk.2) (.int .i64 t766)) (fun _ hk => hk.2) (.int .i64 (wrap64 (((T60 l1 x14_1).f0) + ((T60 l1 x14_1).f1))))) (fun _ hk => hk.2) (.slice Ao26 t768.length co26)) (fun _ hk => hk.2) (.int .i64 t771)) (fun _ hk => hk.2) (.int .i64 (wrap64 ((wrap64 (((T60 l1 x14_1).f0) + x6_1)) + (((T60 l1 x14_1).f2).length : Int))))) (fun _ hk => hk.2) (.slice Ao25 t772.length co25)) (fun _ hk => ⟨hk.1.1, ⟨hk.1.2.1, hk.1.2.2⟩⟩)⟩
    have n1_ : Aside0 (Kd.R Kd.string 9 ((((((w24.setCell ⟨gb775, 0, none⟩ (.int .i64 t766)).setCell ⟨gb775, 1, none⟩ (.int .i64 (wrap64 (((T60 l1 x14_1).f0) + ((T60 l1 x14_1).f1))))).setCell ⟨gb775, 2, none⟩ (.slice Ao26 t768.length co26)).setCell ⟨gb775, 3, none⟩ (.int .i64 t771)).setCell ⟨gb775, 4, none⟩ (.int .i64 (wrap64 ((wrap64 (((T60 l1 x14_1).f0) + x6_1)) + (((T60 l1 x14_1).f2).length : Int))))).setCell ⟨gb775, 5, none⟩ (.slice Ao25 t772.length co25)) w.heap.size (fun k_ => some k_ ≠ (.slice Ao25 t772.length co25 : Value).ownBlock) (.slice Ao26 t768.length co26) t768) := ⟨by exact Kd.R_mono (Kd.R_far (p := ⟨gb775, 5, none⟩) (Kd.R_far (p := ⟨gb775, 4, none⟩) (Kd.R_far (p := ⟨gb775, 3, none⟩) (Kd.R_far (p := ⟨gb775, 2, none⟩) (Kd.R_far (p := ⟨gb775, 1, none⟩) (Kd.R_far (p := ⟨gb775, 0, none⟩) (Kd.R_types HO770.out BK775.out (by decide)) (fun _ hk => hk.2) (.int .i64 t766)) (fun _ hk => hk.2) (.int .i64 (wrap64 (((T60 l1 x14_1).f0) + ((T60 l1 x14_1).f1))))) (fun _ hk => hk.2) (.slice Ao26 t768.length co26)) (fun _ hk => hk.2) (.int .i64 t771)) (fun _ hk => hk.2) (.int .i64 (wrap64 ((wrap64 (((T60 l1 x14_1).f0) + x6_1)) + (((T60 l1 x14_1).f2).length : Int))))) (fun _ hk => hk.2) (.slice Ao25 t772.length co25)) (fun _ hk => hk.1)⟩
    have n2_ : Aside0 (Kd.R Kd.string 9 ((((((w24.setCell ⟨gb775, 0, none⟩ (.int .i64 t766)).setCell ⟨gb775, 1, none⟩ (.int .i64 (wrap64 (((T60 l1 x14_1).f0) + ((T60 l1 x14_1).f1))))).setCell ⟨gb775, 2, none⟩ (.slice Ao26 t768.length co26)).setCell ⟨gb775, 3, none⟩ (.int .i64 t771)).setCell ⟨gb775, 4, none⟩ (.int .i64 (wrap64 ((wrap64 (((T60 l1 x14_1).f0) + x6_1)) + (((T60 l1 x14_1).f2).length : Int))))).setCell ⟨gb775, 5, none⟩ (.slice Ao25 t772.length co25)) w.heap.size (fun k_ => some k_ ≠ (.slice Ao26 t768.length co26 : Value).ownBlock) (.slice Ao25 t772.length co25) t772) := ⟨by exact Kd.R_mono (Kd.R_far (p := ⟨gb775, 5, none⟩) (Kd.R_far (p := ⟨gb775, 4, none⟩) (Kd.R_far (p := ⟨gb775, 3, none⟩) (Kd.R_far (p := ⟨gb775, 2, none⟩) (Kd.R_far (p := ⟨gb775, 1, none⟩) (Kd.R_far (p := ⟨gb775, 0, none⟩) (Kd.R_types HO774.out BK775.out (by decide)) (fun _ hk => hk.2) (.int .i64 t766)) (fun _ hk => hk.2) (.int .i64 (wrap64 (((T60 l1 x14_1).f0) + ((T60 l1 x14_1).f1))))) (fun _ hk => hk.2) (.slice Ao26 t768.length co26)) (fun _ hk => hk.2) (.int .i64 t771)) (fun _ hk => hk.2) (.int .i64 (wrap64 ((wrap64 (((T60 l1 x14_1).f0) + x6_1)) + (((T60 l1 x14_1).f2).length : Int))))) (fun _ hk => hk.2) (.slice Ao25 t772.length co25)) (fun _ hk => hk.1)⟩
    have n3_ : Aside0 (((((((w24.setCell ⟨gb775, 0, none⟩ (.int .i64 t766)).setCell ⟨gb775, 1, none⟩ (.int .i64 (wrap64 (((T60 l1 x14_1).f0) + ((T60 l1 x14_1).f1))))).setCell ⟨gb775, 2, none⟩ (.slice Ao26 t768.length co26)).setCell ⟨gb775, 3, none⟩ (.int .i64 t771)).setCell ⟨gb775, 4, none⟩ (.int .i64 (wrap64 ((wrap64 (((T60 l1 x14_1).f0) + x6_1)) + (((T60 l1 x14_1).f2).length : Int))))).setCell ⟨gb775, 5, none⟩ (.slice Ao25 t772.length co25)).heap[gb765]? = some (.cells #[.int .i64 ((T60 l1 x14_1).f0), .int .i64 ((T60 l1 x14_1).f1), .slice A764_2 ((T60 l1 x14_1).f2).length c764_2] 60 (0, 0))) := ⟨by refine blk_far ?_ NB765_775.out _; refine blk_far ?_ NB765_775.out _; refine blk_far ?_ NB765_775.out _; refine blk_far ?_ NB765_775.out _; refine blk_far ?_ NB765_775.out _; refine blk_far ?_ NB765_775.out _; exact BK765.out⟩
    have n4_ : Aside0 (((((((w24.setCell ⟨gb775, 0, none⟩ (.int .i64 t766)).setCell ⟨gb775, 1, none⟩ (.int .i64 (wrap64 (((T60 l1 x14_1).f0) + ((T60 l1 x14_1).f1))))).setCell ⟨gb775, 2, none⟩ (.slice Ao26 t768.length co26)).setCell ⟨gb775, 3, none⟩ (.int .i64 t771)).setCell ⟨gb775, 4, none⟩ (.int .i64 (wrap64 ((wrap64 (((T60 l1 x14_1).f0) + x6_1)) + (((T60 l1 x14_1).f2).length : Int))))).setCell ⟨gb775, 5, none⟩ (.slice Ao25 t772.length co25)).heap[gb775]? = some (.cells #[.int .i64 t766, .int .i64 (wrap64 (((T60 l1 x14_1).f0) + ((T60 l1 x14_1).f1))), .slice Ao26 t768.length co26, .int .i64 t771, .int .i64 (wrap64 ((wrap64 (((T60 l1 x14_1).f0) + x6_1)) + (((T60 l1 x14_1).f2).length : Int))), .slice Ao25 t772.length co25] 52 (0, 0))) := ⟨by refine blk_put (cs := #[.int .i64 t766, .int .i64 (wrap64 (((T60 l1 x14_1).f0) + ((T60 l1 x14_1).f1))), .slice Ao26 t768.length co26, .int .i64 t771, .int .i64 (wrap64 ((wrap64 (((T60 l1 x14_1).f0) + x6_1)) + (((T60 l1 x14_1).f2).length : Int))), .slice none 0 0]) ?_ 5 _ rfl; refine blk_put (cs := #[.int .i64 t766, .int .i64 (wrap64 (((T60 l1 x14_1).f0) + ((T60 l1 x14_1).f1))), .slice Ao26 t768.length co26, .int .i64 t771, .int .i64 0, .slice none 0 0]) ?_ 4 _ rfl; refine blk_put (cs := #[.int .i64 t766, .int .i64 (wrap64 (((T60 l1 x14_1).f0) + ((T60 l1 x14_1).f1))), .slice Ao26 t768.length co26, .int .i64 0, .int .i64 0, .slice none 0 0]) ?_ 3 _ rfl; refine blk_put (cs := #[.int .i64 t766, .int .i64 (wrap64 (((T60 l1 x14_1).f0) + ((T60 l1 x14_1).f1))), .slice none 0 0, .int .i64 0, .int .i64 0, .slice none 0 0]) ?_ 2 _ rfl; refine blk_put (cs := #[.int .i64 t766, .int .i64 0, .slice none 0 0, .int .i64 0, .int .i64 0, .slice none 0 0]) ?_ 1 _ rfl; refine blk_put (cs := #[.int .i64 0, .int .i64 0, .slice none 0 0, .int .i64 0, .int .i64 0, .slice none 0 0]) ?_ 0 _ rfl; exact BK775.out⟩
    have n5_ : Aside0 (Below w.heap.size w ((((((w24.setCell ⟨gb775, 0, none⟩ (.int .i64 t766)).setCell ⟨gb775, 1, none⟩ (.int .i64 (wrap64 (((T60 l1 x14_1).f0) + ((T60 l1 x14_1).f1))))).setCell ⟨gb775, 2, none⟩ (.slice Ao26 t768.length co26)).setCell ⟨gb775, 3, none⟩ (.int .i64 t771)).setCell ⟨gb775, 4, none⟩ (.int .i64 (wrap64 ((wrap64 (((T60 l1 x14_1).f0) + x6_1)) + (((T60 l1 x14_1).f2).length : Int))))).setCell ⟨gb775, 5, none⟩ (.slice Ao25 t772.length co25))) := ⟨zw⟩
    (try clear HO_5)
    (try clear HO770)
    (try clear HO774)
    (try clear BK765)
    (try clear BK775)
    (try clear HB)
    generalize ((((((w24.setCell ⟨gb775, 0, none⟩ (.int .i64 t766)).setCell ⟨gb775, 1, none⟩ (.int .i64 (wrap64 (((T60 l1 x14_1).f0) + ((T60 l1 x14_1).f1))))).setCell ⟨gb775, 2, none⟩ (.slice Ao26 t768.length co26)).setCell ⟨gb775, 3, none⟩ (.int .i64 t771)).setCell ⟨gb775, 4, none⟩ (.int .i64 (wrap64 ((wrap64 (((T60 l1 x14_1).f0) + x6_1)) + (((T60 l1 x14_1).f2).length : Int))))).setCell ⟨gb775, 5, none⟩ (.slice Ao25 t772.length co25)) = w33 at n0_ n1_ n2_ n3_ n4_ n5_ ⊢
    have HO_5 := n0_
    have HO770 := n1_
    have HO774 := n2_
    have BK765 := n3_
    have BK775 := n4_
    have HB := n5_
    clear n0_ n1_ n2_ n3_ n4_ n5_
    have hnb34 := NB775_765.out
    have hnc34 := NB765_775.out
    obtain ⟨hcz35_0, hcz35_1, hcz35_2, hcz35_3, hcz35_4, hcz35_5⟩ := cz6 BK775.out
    obtain ⟨hfz35_0, hfz35_1, hfz35_2, hfz35_3, hfz35_4, hfz35_5⟩ := fz6 BK775.out
    try go_wp2_with (((with_reducible refine gateB (b := .append) (xs := #[.tmp 55, .tmp 57]) rfl ?_); at_builtin; refine Kd.S_append k52 (w0 := w) w.heap.size rfl (.tmp 55) (.tmp 57) 28 52 (.agg #[(.int .i64 0), (.int .i64 0), (.slice none 0 0), (.int .i64 0), (.int .i64 0), (.slice none 0 0)]) 80 rfl Tryz.underlying28 info52 rfl (by decide) (by omega) u5 x5_1 (⟨t766, wrap64 (((T60 l1 x14_1).f0) + ((T60 l1 x14_1).f1)), t768, t771, wrap64 ((wrap64 (((T60 l1 x14_1).f0) + x6_1)) + (((T60 l1 x14_1).f2).length : Int)), t772⟩ : S52) [.int .i64 t766, .int .i64 (wrap64 (((T60 l1 x14_1).f0) + ((T60 l1 x14_1).f1))), .slice Ao26 t768.length co26, .int .i64 t771, .int .i64 (wrap64 ((wrap64 (((T60 l1 x14_1).f0) + x6_1)) + (((T60 l1 x14_1).f2).length : Int))), .slice Ao25 t772.length co25] (fun k_ => k_ ≠ gb775) (fun k_ => some k_ = (.slice Ao26 t768.length co26 : Value).ownBlock ∨ some k_ = (.slice Ao25 t772.length co25 : Value).ownBlock) rfl rfl ?aP (fun k_ hk_ => hk_.elim (fun h_ => ((Kd.R_mono (ok' := fun k_ => ((fun k_ => k_ ≠ gb775)) k_ ∧ some k_ ≠ (u5 : Value).ownBlock) (Kd.R_types (Kd.R_apart' (HO770.out) (Kd.S_typed HO_5.out) (by decide)) BK775.out (by decide)) (fun k_ hk => ⟨hk.2, hk.1.2⟩))).1 k_ h_.symm) (fun h_ => ((Kd.R_mono (ok' := fun k_ => ((fun k_ => k_ ≠ gb775)) k_ ∧ some k_ ≠ (u5 : Value).ownBlock) (Kd.R_types (Kd.R_apart' (HO774.out) (Kd.S_typed HO_5.out) (by decide)) BK775.out (by decide)) (fun k_ hk => ⟨hk.2, hk.1.2⟩))).1 k_ h_.symm)) ?aF ?aO ?aB ?aS ?aL ?_; (case aP => exact k52_mkM zy _ _ _ (⟨t766, wrap64 (((T60 l1 x14_1).f0) + ((T60 l1 x14_1).f1)), t768, t771, wrap64 ((wrap64 (((T60 l1 x14_1).f0) + x6_1)) + (((T60 l1 x14_1).f2).length : Int)), t772⟩ : S52) (Kd.R_mono (Kd.R_tight rfl (Kd.R_mono (ok' := fun k_ => ((fun k_ => k_ ≠ gb775)) k_ ∧ some k_ ≠ (u5 : Value).ownBlock) (Kd.R_types (Kd.R_apart' (HO770.out) (Kd.S_typed HO_5.out) (by decide)) BK775.out (by decide)) (fun k_ hk => ⟨hk.2, hk.1.2⟩))) (fun _ h_ => Or.inl h_)) (Kd.R_mono (Kd.R_tight rfl (Kd.R_mono (ok' := fun k_ => ((fun k_ => k_ ≠ gb775)) k_ ∧ some k_ ≠ (u5 : Value).ownBlock) (Kd.R_types (Kd.R_apart' (HO774.out) (Kd.S_typed HO_5.out) (by decide)) BK775.out (by decide)) (fun k_ hk => ⟨hk.2, hk.1.2⟩))) (fun _ h_ => Or.inr (h_)))); (case aB => exact zw); (case aF => exact (fun k_ hk => Kd.freshB (g := gb775) (o := .cells #[.int .i64 t766, .int .i64 (wrap64 (((T60 l1 x14_1).f0) + ((T60 l1 x14_1).f1))), .slice Ao26 t768.length co26, .int .i64 t771, .int .i64 (wrap64 ((wrap64 (((T60 l1 x14_1).f0) + x6_1)) + (((T60 l1 x14_1).f2).length : Int))), .slice Ao25 t772.length co25] 52 (0, 0)) (zk BK775.out) k_ hk)); (case aO => exact (by exact Kd.S_mono HO_5.out (fun k_ hk => ⟨hk.2.2, fun e_ => e_.elim (fun h_ => hk.1 h_) (fun h_ => hk.2.1 h_)⟩))); (case aS => exact (below_size zw)); (case aL => have := LMc13.out; omega); intro v777 w36 ho hb hg hat; rw [← Ny776.out] at ho; replace BK765 := am (blk_grown (g := gb765) (o := .cells #[.int .i64 ((T60 l1 x14_1).f0), .int .i64 ((T60 l1 x14_1).f1), .slice A764_2 ((T60 l1 x14_1).f2).length c764_2] 60 (0, 0)) (zk BK765.out) hg (Kd.S_ne HO_5.out BK765.out (by decide))); replace BK775 := am (blk_grown (g := gb775) (o := .cells #[.int .i64 t766, .int .i64 (wrap64 (((T60 l1 x14_1).f0) + ((T60 l1 x14_1).f1))), .slice Ao26 t768.length co26, .int .i64 t771, .int .i64 (wrap64 ((wrap64 (((T60 l1 x14_1).f0) + x6_1)) + (((T60 l1 x14_1).f2).length : Int))), .slice Ao25 t772.length co25] 52 (0, 0)) (zk BK775.out) hg (Kd.S_away HO_5.out (fun _ hk => hk.2.2))); replace HB := am (hb); have HO778 := am (ho); clear HO_5; clear HO770; clear HO774; clear ho hb hg hat; obtain ⟨hcz37_0, hcz37_1, hcz37_2⟩ := cz3 BK765.out; obtain ⟨hfz37_0, hfz37_1, hfz37_2⟩ := fz3 BK765.out))
    go_roundg k1
    case measure => have := HK1.out; omega
    case rel => exact ⟨(y776), (wrap64 (x6_1 + (wrap64 ((((T60 l1 x14_1).f2).length : Int) - ((T60 l1 x14_1).f1))))), (wrap64 (x14_1 + 1)), zf, zf, H', ⟨by have := HK1.out; omega⟩, ⟨by exact Kd.S_mono HO778.out (fun _ hk => trivial)⟩, ⟨zw⟩⟩
   ·rw [if_neg c3] at H
    have c3b0 : decide (x14_1 < (l1.length : Int)) = false := decide_eq_false c3
    clear c3
    obtain rfl := Option.some.inj H
    go_wp2
    go_ret
    exact ⟨_, by rfl, zs HO_5.out, zb⟩

def spec_NormalSteps.f (k : Nat) (l0 : List ByteArray) (l1 : List (S60)) : Option ((List (S52)) × Bool) := (spec_Patch.f k l0 l1).bind fun bt779 => (if bt779.2 = true then ((spec_l5Steps.f k l0 l1).bind fun t783 => (some (t783, true))) else (some (([] : List (S52)), false)))
set_option maxHeartbeats 8000000 in
set_option maxRecDepth 100000 in
theorem spec_NormalSteps.calls (k : Nat) (A0 : Option Addr) (c0 : Nat) (l0 : List ByteArray) (A1 : Option Addr) (c1 : Nat) (l1 : List (S60)) (r1 : List (S52)) (r2 : Bool) (w : World) (hr0 : Kd.C Kd.string w A0 l0.length l0) (hc0 : l0.length ≤ c0) (hr1 : Kd.C k60 w A1 l1.length l1) (hc1 : l1.length ≤ c1) (h : spec_NormalSteps.f k l0 l1 = some (r1, r2)) :
  Calls Tryz.prog 8 #[.slice A0 l0.length c0, .slice A1 l1.length c1] w fun e w' => ∃ v0_ : Value, e = .returned (.tuple #[v0_, .bool r2]) ∧ Kd.S k52 52 w' w.heap.size (fun _ => True) v0_ r1 ∧ Below w.heap.size w w' := by
 have HR0 := am hr0
 have HC0 := am hc0
 clear hr0 hc0
 have HR1 := am hr1
 have HC1 := am hc1
 clear hr1 hc1
 have HB := am (Below.refl w.heap.size w)
 have H := h
 clear h
 unfold spec_NormalSteps.f at H
 replace H := Option.bind_eq_some_iff.mp H
 obtain ⟨⟨t779, t780⟩, A30, H⟩ := H
 dsimp only at H
 have A3 := am A30
 clear A30
 by_cases c4 : t780 = true
 ·subst c4
  rw [if_pos rfl] at H
  replace H := Option.bind_eq_some_iff.mp H
  obtain ⟨t783, A50, H⟩ := H
  replace H : (some (t783, true)) = some (r1, r2) := H
  have A5 := am A50
  clear A50
  simp only [Option.some.injEq, Prod.mk.injEq] at H
  obtain ⟨rfl, rfl⟩ := H
  go_enter Tryz.func8, Tryz.ntmps8
  go_wp2_with (first | ((with_reducible refine gateC (f := 28) rfl ?_); refine goesL_ (some 11) rfl rfl Tryz.func28 (by kernel_rfl) rfl #[.slice A0 l0.length c0, .slice A1 l1.length c1] rfl zm ?_; (with_reducible refine (spec_Patch.calls k _ _ l0 _ _ l1 t779 true _ ?side1 ?side2 ?side3 ?side4 A3.out).mono ?_); (case side1 => exact zq HR0.out); (case side2 => exact HC0.out); (case side3 => exact zq HR1.out); (case side4 => exact HC1.out); rintro e w6 ⟨v781, rfl, ho0, hb⟩; refine ⟨_, rfl, ?_⟩; have HO782 := am (Kd.R_lower ho0 (below_size zb)); replace HB := am (below_step zb hb); (try clear hb); (try clear ho0)) | ((with_reducible refine gateC (f := 29) rfl ?_); refine goesL_ (some 18) rfl rfl Tryz.func29 (by kernel_rfl) rfl #[.slice A0 l0.length c0, .slice A1 l1.length c1] rfl zm ?_; (with_reducible refine (spec_l5Steps.calls k _ _ l0 _ _ l1 t783 _ ?side1 ?side2 ?side3 ?side4 A5.out).mono ?_); (case side1 => exact zq (Kd.C_below HR0.out HB.out)); (case side2 => exact HC0.out); (case side3 => exact zq (Kd.C_below HR1.out HB.out)); (case side4 => exact HC1.out); rintro e w7 ⟨v784, rfl, ho0, hb⟩; refine ⟨_, rfl, ?_⟩; have HO785 := am (Kd.S_lower (Kd.S_new' ho0 (Kd.R_lt (zr HO782.out))) (below_size zb)); replace HO782 := am (Kd.R_below (zr HO782.out) hb); replace HB := am (below_step zb hb); (try clear hb); (try clear ho0)))
  go_ret2
  exact ⟨_, by rfl, by exact Kd.S_mono HO785.out (fun _ hk => trivial), zb⟩
 ·replace c4 := Bool.eq_false_iff.mpr c4
  subst c4
  rw [if_neg nofun] at H
  simp only [Option.some.injEq, Prod.mk.injEq] at H
  obtain ⟨rfl, rfl⟩ := H
  go_enter Tryz.func8, Tryz.ntmps8
  go_wp2_with (((with_reducible refine gateC (f := 28) rfl ?_); refine goesL_ (some 11) rfl rfl Tryz.func28 (by kernel_rfl) rfl #[.slice A0 l0.length c0, .slice A1 l1.length c1] rfl zm ?_; (with_reducible refine (spec_Patch.calls k _ _ l0 _ _ l1 t779 false _ ?side1 ?side2 ?side3 ?side4 A3.out).mono ?_); (case side1 => exact zq HR0.out); (case side2 => exact HC0.out); (case side3 => exact zq HR1.out); (case side4 => exact HC1.out); rintro e w8 ⟨v781, rfl, ho0, hb⟩; refine ⟨_, rfl, ?_⟩; have HO782 := am (Kd.R_lower ho0 (below_size zb)); replace HB := am (below_step zb hb); (try clear hb); (try clear ho0)))
  go_ret2
  exact ⟨_, by rfl, by exact Kd.S_nil _ _ _ _ _, zb⟩

def spec_l1Cur_pick.f (s0_0 : List Int) (s0_1 : Int) (s0_2 : Int) (a1 : Int) : Option (Int × Int × Int) := if a1 ≤ 1 then (some (0, s0_1, s0_2)) else ((spec_l1Cur_next.f s0_0 s0_1 s0_2).bind fun bt528 => (if a1 > 200 then ((spec_l1Cur_next.f s0_0 bt528.2.1 bt528.2.2).bind fun bt531 => (if a1 = 0 then (none) else (some (Int.tmod (wrap64 ((wrap64 (bt528.1 * 256)) + bt531.1)) a1, bt531.2.1, bt531.2.2)))) else (if a1 = 0 then (none) else (some (Int.tmod bt528.1 a1, bt528.2.1, bt528.2.2)))))
set_option maxHeartbeats 8000000 in
set_option maxRecDepth 100000 in
theorem spec_l1Cur_pick.calls (g : Nat) (s0_0 : List Int) (s0_1 : Int) (s0_2 : Int) (a1 : Int) (r1 : Int) (r2 : Int) (r3 : Int) (w0 w : World) (hI : IsS77 w0 w g s0_0 s0_1 s0_2) (hB : Below w0.heap.size w0 w) (h : spec_l1Cur_pick.f s0_0 s0_1 s0_2 a1 = some (r1, r2, r3)) :
  Calls Tryz.prog 97 #[.pointer (some ⟨g, 0, none⟩), .int .i64 a1] w fun e w' => e = .returned (.int .i64 r1) ∧ IsS77 w0 w' g s0_0 r2 r3 ∧ Below w0.heap.size w0 w' ∧ KeepBut w w' g none := by
 have HI0 := am hI
 have HK := am (KeepBut.refl w g none)
 have HL := am hB.size
 clear hI
 have HW0 := am hB.size
 have HB := am hB
 clear hB
 have H := h
 clear h
 unfold spec_l1Cur_pick.f at H
 by_cases c3 : a1 ≤ 1
 ·rw [if_pos c3] at H
  have c3b0 : decide (a1 ≤ 1) = true := decide_eq_true c3
  clear c3
  simp only [Option.some.injEq, Prod.mk.injEq] at H
  obtain ⟨rfl, rfl, rfl⟩ := H
  go_enter Tryz.func97, Tryz.ntmps97
  go_wp2
  go_ret
  exact ⟨by rfl, zi, zj, zh⟩
 ·rw [if_neg c3] at H
  have c3b0 : decide (a1 ≤ 1) = false := decide_eq_false c3
  clear c3
  replace H := Option.bind_eq_some_iff.mp H
  obtain ⟨⟨t528, t529, t530⟩, A40, H⟩ := H
  dsimp only at H
  have A4 := am A40
  clear A40
  by_cases c5 : a1 > 200
  ·rw [if_pos c5] at H
   have c5b0 : decide (200 < a1) = true := decide_eq_true c5
   clear c5
   replace H := Option.bind_eq_some_iff.mp H
   obtain ⟨⟨t531, t532, t533⟩, A60, H⟩ := H
   dsimp only at H
   have A6 := am A60
   clear A60
   by_cases c7 : a1 = 0
   ·rw [if_pos c7] at H
    exact absurd H (by simp)
   ·rw [if_neg c7] at H
    have c7b0 : (a1 == 0) = false := beq_eq_false_iff_ne.mpr c7
    have c7b1 : (a1 != 0) = true := bne_iff_ne.mpr c7
    simp only [Option.some.injEq, Prod.mk.injEq] at H
    obtain ⟨rfl, rfl, rfl⟩ := H
    go_enter Tryz.func97, Tryz.ntmps97
    go_wp2_with (first | ((with_reducible refine gateC (f := 124) rfl ?_); refine goesL_ (some 9) rfl rfl Tryz.func124 (by kernel_rfl) rfl #[.pointer (some ⟨g, 0, none⟩)] rfl zm ?_; (with_reducible refine (spec_l1Cur_next.calls g s0_0 s0_1 s0_2 t528 t529 t530 w0 _ ?side1 ?side2 A4.out).mono ?_); (case side1 => exact zi); (case side2 => exact zj); rintro e w8 ⟨rfl, hi, hb, hk⟩; refine ⟨_, rfl, ?_⟩; replace HK := am (KeepBut.trans zh hk (.inl rfl)); replace HB := am (hb); replace HI0 := am (hi); (try clear hb); (try clear hk); (try clear hi)) | ((with_reducible refine gateC (f := 124) rfl ?_); refine goesL_ (some 15) rfl rfl Tryz.func124 (by kernel_rfl) rfl #[.pointer (some ⟨g, 0, none⟩)] rfl zm ?_; (with_reducible refine (spec_l1Cur_next.calls g s0_0 t529 t530 t531 t532 t533 w0 _ ?side1 ?side2 A6.out).mono ?_); (case side1 => exact zi); (case side2 => exact zj); rintro e w9 ⟨rfl, hi, hb, hk⟩; refine ⟨_, rfl, ?_⟩; replace HK := am (KeepBut.trans zh hk (.inl rfl)); replace HB := am (hb); replace HI0 := am (hi); (try clear hb); (try clear hk); (try clear hi)))
    go_ret
    exact ⟨by rfl, zi, zj, zh⟩
  ·rw [if_neg c5] at H
   have c5b0 : decide (200 < a1) = false := decide_eq_false c5
   clear c5
   by_cases c10 : a1 = 0
   ·rw [if_pos c10] at H
    exact absurd H (by simp)
   ·rw [if_neg c10] at H
    have c10b0 : (a1 == 0) = false := beq_eq_false_iff_ne.mpr c10
    have c10b1 : (a1 != 0) = true := bne_iff_ne.mpr c10
    simp only [Option.some.injEq, Prod.mk.injEq] at H
    obtain ⟨rfl, rfl, rfl⟩ := H
    go_enter Tryz.func97, Tryz.ntmps97
    go_wp2_with (((with_reducible refine gateC (f := 124) rfl ?_); refine goesL_ (some 9) rfl rfl Tryz.func124 (by kernel_rfl) rfl #[.pointer (some ⟨g, 0, none⟩)] rfl zm ?_; (with_reducible refine (spec_l1Cur_next.calls g s0_0 s0_1 s0_2 t528 t529 t530 w0 _ ?side1 ?side2 A4.out).mono ?_); (case side1 => exact zi); (case side2 => exact zj); rintro e w11 ⟨rfl, hi, hb, hk⟩; refine ⟨_, rfl, ?_⟩; replace HK := am (KeepBut.trans zh hk (.inl rfl)); replace HB := am (hb); replace HI0 := am (hi); (try clear hb); (try clear hk); (try clear hi)))
    go_ret
    exact ⟨by rfl, zi, zj, zh⟩

def spec_l1Cur_of.f (s0_0 : List Int) (s0_1 : Int) (s0_2 : Int) (l1 : List ByteArray) : Option (ByteArray × Int × Int) := (spec_l1Cur_pick.f s0_0 s0_1 s0_2 (l1.length : Int)).bind fun bt537 => (if 0 ≤ bt537.1 then (if bt537.1 < (l1.length : Int) then (some (rdOf ByteArray.empty l1 bt537.1, bt537.2.1, bt537.2.2)) else (none)) else (none))
set_option maxHeartbeats 8000000 in
set_option maxRecDepth 100000 in
theorem spec_l1Cur_of.calls (g : Nat) (s0_0 : List Int) (s0_1 : Int) (s0_2 : Int) (A1 : Option Addr) (c1 : Nat) (l1 : List ByteArray) (r1 : ByteArray) (r2 : Int) (r3 : Int) (w0 w : World) (hI : IsS77 w0 w g s0_0 s0_1 s0_2) (hB : Below w0.heap.size w0 w) (hr1 : Kd.C Kd.string w A1 l1.length l1) (hc1 : l1.length ≤ c1) (hf1 : ∀ ad, A1 = some ad → 0 < l1.length → ad.block ≠ g) (h : spec_l1Cur_of.f s0_0 s0_1 s0_2 l1 = some (r1, r2, r3)) :
  Calls Tryz.prog 121 #[.pointer (some ⟨g, 0, none⟩), .slice A1 l1.length c1] w fun e w' => e = .returned (.string r1) ∧ IsS77 w0 w' g s0_0 r2 r3 ∧ Below w0.heap.size w0 w' ∧ KeepBut w w' g none := by
 have HR1 := am hr1
 have HC1 := am hc1
 clear hr1 hc1
 have HI0 := am hI
 have HK := am (KeepBut.refl w g none)
 have HL := am hB.size
 clear hI
 have HW0 := am hB.size
 have HB := am hB
 clear hB
 have H : ((spec_l1Cur_pick.f s0_0 s0_1 s0_2 (l1.length : Int)).bind fun bt537 => (if 0 ≤ bt537.1 then (if bt537.1 < (l1.length : Int) then (some (rdOf ByteArray.empty l1 bt537.1, bt537.2.1, bt537.2.2)) else (none)) else (none))) = some (r1, r2, r3) := h
 clear h
 replace H := Option.bind_eq_some_iff.mp H
 obtain ⟨⟨t537, t538, t539⟩, A30, H⟩ := H
 replace H : (if 0 ≤ t537 then (if t537 < (l1.length : Int) then (some (rdOf ByteArray.empty l1 t537, t538, t539)) else (none)) else (none)) = some (r1, r2, r3) := H
 have A3 := am A30
 clear A30
 by_cases c4 : 0 ≤ t537
 ·rw [if_pos c4] at H
  have c4b0 : decide (0 ≤ t537) = true := decide_eq_true c4
  clear c4
  by_cases c5 : t537 < (l1.length : Int)
  ·rw [if_pos c5] at H
   have c5b0 : decide (t537 < (l1.length : Int)) = true := decide_eq_true c5
   clear c5
   simp only [Option.some.injEq, Prod.mk.injEq] at H
   obtain ⟨rfl, rfl, rfl⟩ := H
   go_enter Tryz.func121, Tryz.ntmps121
   go_wp2_with (first | ((with_reducible refine gateC (f := 97) rfl ?_); refine goesL_ (some 9) rfl rfl Tryz.func97 (by kernel_rfl) rfl #[.pointer (some ⟨g, 0, none⟩), .int .i64 (l1.length : Int)] rfl zm ?_; (with_reducible refine (spec_l1Cur_pick.calls g s0_0 s0_1 s0_2 (l1.length : Int) t537 t538 t539 w0 _ ?side1 ?side2 A3.out).mono ?_); (case side1 => exact zi); (case side2 => exact zj); rintro e w6 ⟨rfl, hi, hb, hk⟩; refine ⟨_, rfl, ?_⟩; have n0_ := am (KeepBut.trans zh hk (.inl rfl)); have n1_ := am (hb); have n2_ := am (hi); clear HK; clear HB; clear HI0; have HK := n0_; have HB := n1_; have HI0 := n2_; clear n0_ n1_ n2_; (try clear hb); (try clear hk); (try clear hi); have p540 : 0 ≤ (t537 : Int) := oa; have q540 : t537 < (l1.length : Int) := oa; obtain ⟨ad540, e540, hx540_0⟩ := Kd.at_string HR1.out t537 p540 q540; cases e540; replace hx540_0 := keep_cell HK.out hx540_0 (by first | (rw [add_block]; exact hf1 _ rfl (by omega)) | exact hf1 _ rfl (by omega) | exact hf1 ad540 rfl (by omega)); replace p540 := eq_true p540; replace q540 := eq_true q540))
   go_ret
   exact ⟨by first | rfl | (simp [errW_none, errW_some] <;> rfl) | (simp [*, errW_none, errW_some] <;> rfl), zi, zj, zh⟩
  ·rw [if_neg c5] at H
   exact absurd H (by simp)
 ·rw [if_neg c4] at H
  exact absurd H (by simp)

def spec_l1Cur_line.f (s0_0 : List Int) (s0_1 : Int) (s0_2 : Int) : Option (ByteArray × Int × Int) := (spec_l1Cur_of.f s0_0 s0_1 s0_2 (([(⟨#[97]⟩ : ByteArray), (⟨#[98]⟩ : ByteArray), (⟨#[99]⟩ : ByteArray), (⟨#[100]⟩ : ByteArray), (⟨#[]⟩ : ByteArray), (⟨#[46]⟩ : ByteArray), (⟨#[46, 46]⟩ : ByteArray), (⟨#[111, 110, 101, 32, 116, 119, 111]⟩ : ByteArray), (⟨#[43, 120]⟩ : ByteArray), (⟨#[45, 121]⟩ : ByteArray), (⟨#[92, 32, 122]⟩ : ByteArray), (⟨#[64, 64]⟩ : ByteArray)] : List ByteArray))).bind fun bt544 => (some (bt544.1, bt544.2.1, bt544.2.2))
set_option maxHeartbeats 8000000 in
set_option maxRecDepth 100000 in
theorem spec_l1Cur_line.calls (g : Nat) (s0_0 : List Int) (s0_1 : Int) (s0_2 : Int) (r1 : ByteArray) (r2 : Int) (r3 : Int) (w0 w : World) (hI : IsS77 w0 w g s0_0 s0_1 s0_2) (hB : Below w0.heap.size w0 w) (h : spec_l1Cur_line.f s0_0 s0_1 s0_2 = some (r1, r2, r3)) :
  Calls Tryz.prog 120 #[.pointer (some ⟨g, 0, none⟩)] w fun e w' => e = .returned (.string r1) ∧ IsS77 w0 w' g s0_0 r2 r3 ∧ Below w0.heap.size w0 w' ∧ KeepBut w w' g none := by
 have HI0 := am hI
 have HK := am (KeepBut.refl w g none)
 have HL := am hB.size
 clear hI
 have HW0 := am hB.size
 have HB := am hB
 clear hB
 have H := h
 clear h
 unfold spec_l1Cur_line.f at H
 obtain ⟨y541, hy541⟩ : ∃ y_ : List ByteArray, y_ = (([(⟨#[97]⟩ : ByteArray), (⟨#[98]⟩ : ByteArray), (⟨#[99]⟩ : ByteArray), (⟨#[100]⟩ : ByteArray), (⟨#[]⟩ : ByteArray), (⟨#[46]⟩ : ByteArray), (⟨#[46, 46]⟩ : ByteArray), (⟨#[111, 110, 101, 32, 116, 119, 111]⟩ : ByteArray), (⟨#[43, 120]⟩ : ByteArray), (⟨#[45, 121]⟩ : ByteArray), (⟨#[92, 32, 122]⟩ : ByteArray), (⟨#[64, 64]⟩ : ByteArray)] : List ByteArray)) := ⟨_, rfl⟩
 rw [← hy541] at H
 have Ny541 := am hy541
 clear hy541
 replace H := Option.bind_eq_some_iff.mp H
 obtain ⟨⟨t544, t545, t546⟩, A20, H⟩ := H
 dsimp only at H
 have A2 := am A20
 clear A20
 simp only [Option.some.injEq, Prod.mk.injEq] at H
 obtain ⟨rfl, rfl, rfl⟩ := H
 go_enter Tryz.func120, Tryz.ntmps120
 go_wp2_with (first | ((with_reducible refine gate_dst (N := 4) rfl ?_); refine Kd.R_lit Kd.string _ 9 ?hg (N := 4) ?hd (xs := ([(⟨#[97]⟩ : ByteArray), (⟨#[98]⟩ : ByteArray), (⟨#[99]⟩ : ByteArray), (⟨#[100]⟩ : ByteArray), (⟨#[]⟩ : ByteArray), (⟨#[46]⟩ : ByteArray), (⟨#[46, 46]⟩ : ByteArray), (⟨#[111, 110, 101, 32, 116, 119, 111]⟩ : ByteArray), (⟨#[43, 120]⟩ : ByteArray), (⟨#[45, 121]⟩ : ByteArray), (⟨#[92, 32, 122]⟩ : ByteArray), (⟨#[64, 64]⟩ : ByteArray)] : List ByteArray)) (inner := [.string (⟨#[97]⟩ : ByteArray), .string (⟨#[98]⟩ : ByteArray), .string (⟨#[99]⟩ : ByteArray), .string (⟨#[100]⟩ : ByteArray), .string (⟨#[]⟩ : ByteArray), .string (⟨#[46]⟩ : ByteArray), .string (⟨#[46, 46]⟩ : ByteArray), .string (⟨#[111, 110, 101, 32, 116, 119, 111]⟩ : ByteArray), .string (⟨#[43, 120]⟩ : ByteArray), .string (⟨#[45, 121]⟩ : ByteArray), .string (⟨#[92, 32, 122]⟩ : ByteArray), .string (⟨#[64, 64]⟩ : ByteArray)]) (ok := fun _ => True) (okp := fun _ => True) ?hr ?hp (fun _ hk => hk) trivial (Below.refl _ _) (Nat.le_refl _) (by simp) ?_; (case hd => rfl); (case hg => rfl); (case hr => (go_simp; done)); (case hp => exact (Reps.one (show Kd.M Kd.string _ _ _ (⟨#[97]⟩ : ByteArray) [.string (⟨#[97]⟩ : ByteArray)] from rfl) (Reps.one (show Kd.M Kd.string _ _ _ (⟨#[98]⟩ : ByteArray) [.string (⟨#[98]⟩ : ByteArray)] from rfl) (Reps.one (show Kd.M Kd.string _ _ _ (⟨#[99]⟩ : ByteArray) [.string (⟨#[99]⟩ : ByteArray)] from rfl) (Reps.one (show Kd.M Kd.string _ _ _ (⟨#[100]⟩ : ByteArray) [.string (⟨#[100]⟩ : ByteArray)] from rfl) (Reps.one (show Kd.M Kd.string _ _ _ (⟨#[]⟩ : ByteArray) [.string (⟨#[]⟩ : ByteArray)] from rfl) (Reps.one (show Kd.M Kd.string _ _ _ (⟨#[46]⟩ : ByteArray) [.string (⟨#[46]⟩ : ByteArray)] from rfl) (Reps.one (show Kd.M Kd.string _ _ _ (⟨#[46, 46]⟩ : ByteArray) [.string (⟨#[46, 46]⟩ : ByteArray)] from rfl) (Reps.one (show Kd.M Kd.string _ _ _ (⟨#[111, 110, 101, 32, 116, 119, 111]⟩ : ByteArray) [.string (⟨#[111, 110, 101, 32, 116, 119, 111]⟩ : ByteArray)] from rfl) (Reps.one (show Kd.M Kd.string _ _ _ (⟨#[43, 120]⟩ : ByteArray) [.string (⟨#[43, 120]⟩ : ByteArray)] from rfl) (Reps.one (show Kd.M Kd.string _ _ _ (⟨#[45, 121]⟩ : ByteArray) [.string (⟨#[45, 121]⟩ : ByteArray)] from rfl) (Reps.one (show Kd.M Kd.string _ _ _ (⟨#[92, 32, 122]⟩ : ByteArray) [.string (⟨#[92, 32, 122]⟩ : ByteArray)] from rfl) (Reps.one (show Kd.M Kd.string _ _ _ (⟨#[64, 64]⟩ : ByteArray) [.string (⟨#[64, 64]⟩ : ByteArray)] from rfl) (Reps.none _ _)))))))))))))); intro v542 w3 ho4 hb hg_ hnew_; clear hg_ hnew_; (rw [← Ny541.out] at ho4); have HO543 := am (Kd.R_lower ho4 (keep_size (w := w) (g := g) (row := none) zh)); replace HK := am (KeepBut.trans zh (KeepBut.of_below hb g none) (.inl rfl)); replace HB := am (below_step zj hb); replace HI0 := am (IsS77.below zi hb); clear hb ho4; obtain ⟨Ao5, co5, eo5⟩ := Kd.R_slice HO543.out; subst eo5) | ((with_reducible refine gateC (f := 121) rfl ?_); refine goesL_ (some 5) rfl rfl Tryz.func121 (by kernel_rfl) rfl #[.pointer (some ⟨g, 0, none⟩), .slice Ao5 y541.length co5] rfl zm ?_; (with_reducible refine (spec_l1Cur_of.calls g s0_0 s0_1 s0_2 _ _ y541 t544 t545 t546 w0 _ ?side1 ?side2 ?side3 ?side4 ?side5 A2.out).mono ?_); (case side1 => exact zi); (case side2 => exact zj); (case side3 => repeat (exact (Kd.R_reads' HO543.out).2.2)); (case side4 => exact (Kd.R_reads' HO543.out).2.1); (case side5 => exact far_slice (IsS77.own_ne HI0.out HO543.out (by decide))); rintro e w6 ⟨rfl, hi, hb, hk⟩; refine ⟨_, rfl, ?_⟩; replace HO543 := am (Kd.R_mono (Kd.R_keep (IsS77.apart (show IsS77 w0 _ g s0_0 s0_1 s0_2 from zi) (zr HO543.out) (by decide)) hk (fun _ h => h.2)) (fun _ h => h.1)); replace HK := am (KeepBut.trans zh hk (.inl rfl)); replace HB := am (hb); replace HI0 := am (hi); (try clear hb); (try clear hk); (try clear hi)))
 go_ret
 exact ⟨by rfl, zi, zj, zh⟩

def spec_l1Least.f (a0 : Int) (a1 : Int) : Option (Int) := if a0 < a1 then (some a0) else (some a1)
set_option maxHeartbeats 8000000 in
set_option maxRecDepth 100000 in
theorem spec_l1Least.calls (a0 : Int) (a1 : Int) (r : Int) (w : World) (h : spec_l1Least.f a0 a1 = some r) :
  Calls Tryz.prog 122 #[.int .i64 a0, .int .i64 a1] w fun e w' => e = .returned (.int .i64 r) ∧ Drawn0 w w' := by
 have H : (if a0 < a1 then (some a0) else (some a1)) = some r := h
 clear h
 by_cases c3 : a0 < a1
 ·rw [if_pos c3] at H
  have c3b0 : decide (a0 < a1) = true := decide_eq_true c3
  clear c3
  obtain rfl := Option.some.inj H
  go_enter Tryz.func122, Tryz.ntmps122
  go_wp2
  go_ret
  exact ⟨by first | rfl | (simp; done) | (simp [*]; done), by repeat (first | exact Drawn0.refl _ | apply Drawn0.step)⟩
 ·rw [if_neg c3] at H
  have c3b0 : decide (a0 < a1) = false := decide_eq_false c3
  clear c3
  obtain rfl := Option.some.inj H
  go_enter Tryz.func122, Tryz.ntmps122
  go_wp2
  go_ret
  exact ⟨by first | rfl | (simp; done) | (simp [*]; done), by repeat (first | exact Drawn0.refl _ | apply Drawn0.step)⟩

def spec_l1Whole.f (l0 : List ByteArray) : Option (Bool) := if (l0.length : Int) = 0 then (some true) else (if 0 ≤ (wrap64 ((l0.length : Int) - 1)) then (if (wrap64 ((l0.length : Int) - 1)) < (l0.length : Int) then ((spec_l1Ends.f (rdOf ByteArray.empty l0 (wrap64 ((l0.length : Int) - 1)))).bind fun t580 => (some t580)) else (none)) else (none))
set_option maxHeartbeats 8000000 in
set_option maxRecDepth 100000 in
theorem spec_l1Whole.calls (A0 : Option Addr) (c0 : Nat) (l0 : List ByteArray) (r : Bool) (w : World) (hr0 : Kd.C Kd.string w A0 l0.length l0) (hc0 : l0.length ≤ c0) (h : spec_l1Whole.f l0 = some r) :
  Calls Tryz.prog 123 #[.slice A0 l0.length c0] w fun e w' => e = .returned (.bool r) ∧ Drawn0 w w' := by
 have HR0 := am hr0
 have HC0 := am hc0
 clear hr0 hc0
 have H : (if (l0.length : Int) = 0 then (some true) else (if 0 ≤ (wrap64 ((l0.length : Int) - 1)) then (if (wrap64 ((l0.length : Int) - 1)) < (l0.length : Int) then ((spec_l1Ends.f (rdOf ByteArray.empty l0 (wrap64 ((l0.length : Int) - 1)))).bind fun t580 => (some t580)) else (none)) else (none))) = some r := h
 clear h
 by_cases c2 : (l0.length : Int) = 0
 ·rw [if_pos c2] at H
  have c2b0 : ((l0.length : Int) == 0) = true := beq_iff_eq.mpr c2
  have c2b1 : ((l0.length : Int) != 0) = false := bne_eq_false_iff_eq.mpr c2
  clear c2
  obtain rfl := Option.some.inj H
  go_enter Tryz.func123, Tryz.ntmps123
  go_wp2
  go_ret
  exact ⟨by first | rfl | (simp; done) | (simp [*]; done), by repeat (first | exact Drawn0.refl _ | apply Drawn0.step)⟩
 ·rw [if_neg c2] at H
  have c2b0 : ((l0.length : Int) == 0) = false := beq_eq_false_iff_ne.mpr c2
  have c2b1 : ((l0.length : Int) != 0) = true := bne_iff_ne.mpr c2
  have c2b2 : ¬ (l0 = []) := fun h_ => c2 (by rw [h_]; rfl)
  obtain ⟨ji3, hji3⟩ : ∃ j_ : Int, (wrap64 ((l0.length : Int) - 1)) = j_ := ⟨_, rfl⟩
  replace H : (if 0 ≤ (ji3) then (if (ji3) < (l0.length : Int) then ((spec_l1Ends.f (rdOf ByteArray.empty l0 (ji3))).bind fun t580 => (some t580)) else (none)) else (none)) = some r := by first | (rw [hji3] at H; exact H) | (simp only [hji3] at H ⊢; exact H)
  have hji3w : (IntKind.i64.wrap ((l0.length : Int) - 1)) = ji3 := (i64_w _).trans hji3
  by_cases c4 : 0 ≤ (ji3)
  ·rw [if_pos c4] at H
   have c4b0 : decide (0 ≤ (ji3)) = true := decide_eq_true c4
   clear c4
   by_cases c5 : (ji3) < (l0.length : Int)
   ·rw [if_pos c5] at H
    have c5b0 : decide ((ji3) < (l0.length : Int)) = true := decide_eq_true c5
    clear c5
    replace H := Option.bind_eq_some_iff.mp H
    obtain ⟨t580, A60, H⟩ := H
    replace H : (some t580) = some r := H
    have A6 := am A60
    clear A60
    obtain rfl := Option.some.inj H
    have p579 : 0 ≤ ((ji3) : Int) := oa
    have q579 : (ji3) < (l0.length : Int) := oa
    obtain ⟨ad579, e579, hx579_0⟩ := Kd.at_string HR0.out (ji3) p579 q579
    cases e579
    replace p579 := eq_true p579
    replace q579 := eq_true q579
    go_enter Tryz.func123, Tryz.ntmps123
    go_wp2_with (first | (go_at_call 72; (with_reducible refine (spec_l1Ends.calls (rdOf ByteArray.empty l0 (ji3)) t580 _ A6.out).mono ?_); rintro e w' ⟨rfl, ⟨nd, rfl⟩⟩))
    go_ret
    exact ⟨by first | rfl | (simp; done) | (simp only [← hji3] <;> (first | rfl | simp)) | (simp [*]; done), by repeat (first | exact Drawn0.refl _ | apply Drawn0.step)⟩
   ·rw [if_neg c5] at H
    exact absurd H (by simp)
  ·rw [if_neg c4] at H
   exact absurd H (by simp)

mutual
def spec_l1Cur_hunks.l0 : Nat → List ByteArray → List (S60) → Int → List Int → Int → Int → Option ((List (S60)) × Int × Int)
 | 0, _, _, _, _, _, _ => none
 | k + 1, x1, x5, x6, x1000, x1001, x1002 => if x6 ≤ (x1.length : Int) then (spec_l1Cur_hunks.j1 k x1 x5 x6 (decide ((x5.length : Int) < 6)) x1000 x1001 x1002) else (spec_l1Cur_hunks.j1 k x1 x5 x6 false x1000 x1001 x1002)
def spec_l1Cur_hunks.j1 : Nat → List ByteArray → List (S60) → Int → Bool → List Int → Int → Int → Option ((List (S60)) × Int × Int)
 | 0, _, _, _, _, _, _, _ => none
 | k + 1, x1, x5, x6, x19, x1000, x1001, x1002 => if x19 = true then ((spec_l1Least.f 3 (wrap64 ((x1.length : Int) - x6))).bind fun t584 => ((spec_l1Cur_pick.f x1000 x1001 x1002 (wrap64 (t584 + 1))).bind fun bt585 => ((spec_l1Cur_pick.f x1000 bt585.2.1 bt585.2.2 3).bind fun bt589 => (spec_l1Cur_hunks.l1 k x1 x5 x6 bt589.1 x1000 bt589.2.1 bt589.2.2 x6 bt585.1 ([] : List ByteArray))))) else (some (x5, x1001, x1002))
def spec_l1Cur_hunks.l1 : Nat → List ByteArray → List (S60) → Int → Int → List Int → Int → Int → Int → Int → List ByteArray → Option ((List (S60)) × Int × Int)
 | 0, _, _, _, _, _, _, _, _, _, _ => none
 | k + 1, x1, x5, x6, x8, x1000, x1001, x1002, x589000, x589001, x589002 => if x8 > 0 then ((spec_l1Cur_line.f x1000 x1001 x1002).bind fun bt592 => (if bt592.1.size + 1 ≤ 9223372036854775807 then (if x589002.length < 8796093022208 then (spec_l1Cur_hunks.l1 k x1 x5 x6 (wrap64 (x8 - 1)) x1000 bt592.2.1 bt592.2.2 x589000 x589001 (x589002 ++ [bt592.1 ++ (⟨#[10]⟩ : ByteArray)])) else (none)) else (none))) else (if (wrap64 (x589001 + (x589002.length : Int))) > 0 then (if (wrap64 (x6 + x589001)) < (x1.length : Int) then (if x5.length < 3518437208883 then ((spec_l1Cur_pick.f x1000 x1001 x1002 3).bind fun bt601 => (spec_l1Cur_hunks.l0 k x1 (x5 ++ [(⟨x589000, x589001, x589002⟩ : S60)]) (wrap64 (x6 + (wrap64 ((wrap64 (x589001 + 1)) + bt601.1)))) x1000 bt601.2.1 bt601.2.2)) else (none)) else ((spec_l1Whole.f x1).bind fun t604 => (if t604 = true then (if x5.length < 3518437208883 then ((spec_l1Cur_pick.f x1000 x1001 x1002 3).bind fun bt608 => (spec_l1Cur_hunks.l0 k x1 (x5 ++ [(⟨x589000, x589001, x589002⟩ : S60)]) (wrap64 (x6 + (wrap64 ((wrap64 (x589001 + 1)) + bt608.1)))) x1000 bt608.2.1 bt608.2.2)) else (none)) else (if x589001 > 0 then (if x5.length < 3518437208883 then ((spec_l1Cur_pick.f x1000 x1001 x1002 3).bind fun bt614 => (spec_l1Cur_hunks.l0 k x1 (x5 ++ [(⟨x589000, x589001, x589002⟩ : S60)]) (wrap64 (x6 + (wrap64 ((wrap64 (x589001 + 1)) + bt614.1)))) x1000 bt614.2.1 bt614.2.2)) else (none)) else ((spec_l1Cur_pick.f x1000 x1001 x1002 3).bind fun bt617 => (spec_l1Cur_hunks.l0 k x1 x5 (wrap64 (x6 + (wrap64 ((wrap64 (x589001 + 1)) + bt617.1)))) x1000 bt617.2.1 bt617.2.2)))))) else ((spec_l1Cur_pick.f x1000 x1001 x1002 3).bind fun bt620 => (spec_l1Cur_hunks.l0 k x1 x5 (wrap64 (x6 + (wrap64 ((wrap64 (x589001 + 1)) + bt620.1)))) x1000 bt620.2.1 bt620.2.2)))
end
def spec_l1Cur_hunks.f (k : Nat) (s0_0 : List Int) (s0_1 : Int) (s0_2 : Int) (l1 : List ByteArray) : Option ((List (S60)) × Int × Int) := (spec_l1Cur_pick.f s0_0 s0_1 s0_2 3).bind fun bt581 => (spec_l1Cur_hunks.l0 k l1 ([] : List (S60)) bt581.1 s0_0 bt581.2.1 bt581.2.2)
def spec_l1Cur_hunks.T8 : Bool × List (List Nat × List Nat) := (true, [([], []), ([0], [0]), ([], []), ([2], [2]), ([3], [3]), ([4], [4]), ([1, 5, 3], [1, 5]), ([0, 1, 2, 3, 4, 5, 6], []), ([7, 6, 6, 0, 1, 2, 3, 4, 5, 6], [6, 7])])
def spec_l1Cur_hunks.B8 : List Nat := [0, 1, 0, 4, 12, 28, 63, 127, 255]
theorem spec_l1Cur_hunks.tab8 : rtab .any (opsOf Tryz.f96 8) = spec_l1Cur_hunks.T8 := by kernel_rfl
theorem spec_l1Cur_hunks.bits8 : waitsOk spec_l1Cur_hunks.T8.2 spec_l1Cur_hunks.B8 = true := by kernel_rfl
def spec_l1Cur_hunks.T11 : Bool × List (List Nat × List Nat) := (true, [([], []), ([], []), ([1], [1]), ([2], [2]), ([], []), ([4], [4]), ([3, 5], [3, 5]), ([0, 6], [0, 6]), ([7, 5, 0, 1, 2, 3, 4, 5, 6, 7], [0, 7])])
def spec_l1Cur_hunks.B11 : List Nat := [0, 0, 2, 6, 0, 16, 62, 127, 255]
theorem spec_l1Cur_hunks.tab11 : rtab .any (opsOf Tryz.f96 11) = spec_l1Cur_hunks.T11 := by kernel_rfl
theorem spec_l1Cur_hunks.bits11 : waitsOk spec_l1Cur_hunks.T11.2 spec_l1Cur_hunks.B11 = true := by kernel_rfl
set_option maxHeartbeats 8000000 in
set_option maxRecDepth 100000 in
theorem spec_l1Cur_hunks.calls (k : Nat) (g : Nat) (s0_0 : List Int) (s0_1 : Int) (s0_2 : Int) (A1 : Option Addr) (c1 : Nat) (l1 : List ByteArray) (r1 : List (S60)) (r2 : Int) (r3 : Int) (w0 w : World) (hI : IsS77 w0 w g s0_0 s0_1 s0_2) (hB : Below w0.heap.size w0 w) (hr1 : Kd.C Kd.string w A1 l1.length l1) (hc1 : l1.length ≤ c1) (hf1 : ∀ ad, A1 = some ad → 0 < l1.length → ad.block ≠ g) (h : spec_l1Cur_hunks.f k s0_0 s0_1 s0_2 l1 = some (r1, r2, r3)) :
  Calls Tryz.prog 96 #[.pointer (some ⟨g, 0, none⟩), .slice A1 l1.length c1] w fun e w' => ∃ v0_ : Value, e = .returned (v0_) ∧ Kd.S k60 60 w' w.heap.size (fun _ => True) v0_ r1 ∧ IsS77 w0 w' g s0_0 r2 r3 ∧ Below w0.heap.size w0 w' ∧ KeepBut w w' g none := by
 have hu60 := Tryz.underlying60
 have HR1 := am hr1
 have HC1 := am hc1
 clear hr1 hc1
 have HI0 := am hI
 have HK := am (KeepBut.refl w g none)
 have HL := am hB.size
 clear hI
 have HW0 := am hB.size
 have HB := am hB
 clear hB
 have H := h
 clear h
 unfold spec_l1Cur_hunks.f at H
 replace H := Option.bind_eq_some_iff.mp H
 obtain ⟨⟨t581, t582, t583⟩, A30, H⟩ := H
 dsimp only at H
 have A3 := am A30
 clear A30
 have H' := am H
 clear H
 go_enter Tryz.func96, Tryz.ntmps96
 go_wp2_with (((with_reducible refine gateC (f := 97) rfl ?_); refine goesL_ (some 10) rfl rfl Tryz.func97 (by kernel_rfl) rfl #[.pointer (some ⟨g, 0, none⟩), .int .i64 3] rfl zm ?_; (with_reducible refine (spec_l1Cur_pick.calls g s0_0 s0_1 s0_2 3 t581 t582 t583 w0 _ ?side1 ?side2 A3.out).mono ?_); (case side1 => exact zi); (case side2 => exact zj); rintro e w4 ⟨rfl, hi, hb, hk⟩; refine ⟨_, rfl, ?_⟩; replace HK := am (KeepBut.trans zh hk (.inl rfl)); replace HB := am (hb); replace HI0 := am (hi); (try clear hb); (try clear hk); (try clear hi)))
 go_loopg [5, 6] k (fun kq v5 v6 w' => ∃ (x5_1 : List (S60)) (x6_1 : Int) (x1001_1 : Int) (x1002_1 : Int), v6 = .int .i64 x6_1 ∧ Aside0 (spec_l1Cur_hunks.l0 kq l1 x5_1 x6_1 s0_0 x1001_1 x1002_1 = some (r1, r2, r3)) ∧ Aside0 (kq ≤ k) ∧ Aside0 (Kd.S k60 60 w' w.heap.size (fun _ => True) v5 x5_1) ∧ Aside0 (IsS77 w0 w' g s0_0 x1001_1 x1002_1) ∧ Aside0 (KeepBut w w' g none) ∧ Aside0 (Below w0.heap.size w0 w'))
 case atStart => exact ⟨(([] : List (S60))), (t581), (t582), (t583), zf, H', ⟨Nat.le_refl _⟩, ⟨by exact Kd.S_nil _ _ _ _ _⟩, ⟨by repeat ((with_reducible exact HI0.out))⟩, ⟨by repeat ((with_reducible exact HK.out))⟩, ⟨by repeat ((with_reducible exact HB.out))⟩⟩
 case round =>
  clear H'
  obtain ⟨x5_1, x6_1, x1001_1, x1002_1, rfl, HA, HK1, HO_5, HI0, HK, HB⟩ := hrel
  cases gk with
  | zero => exact absurd HA.out (by simp [spec_l1Cur_hunks.l0])
  | succ k1 =>
   have H := HA.out
   clear HA
   simp only [spec_l1Cur_hunks.l0] at H
   have HC5 := am H
   clear H
   go_upto_region 3 with (fail)
   go_cut [19] (fun v19 wc => ∃ (kq : Nat) (x19_4 : Bool), v19 = .bool x19_4 ∧ Aside0 (spec_l1Cur_hunks.j1 kq l1 x5_1 x6_1 x19_4 s0_0 x1001_1 x1002_1 = some (r1, r2, r3)) ∧ Aside0 (kq ≤ k1) ∧ Aside0 (Kd.S k60 60 wc w.heap.size (fun _ => True) u5 x5_1) ∧ Aside0 (IsS77 w0 wc g s0_0 x1001_1 x1002_1) ∧ Aside0 (KeepBut w wc g none) ∧ Aside0 (Below w0.heap.size w0 wc))
   case first =>
    have H := HC5.out
    clear HC5
    by_cases c6 : x6_1 ≤ (l1.length : Int)
    ·rw [if_pos c6] at H
     have c6b0 : decide (x6_1 ≤ (l1.length : Int)) = true := decide_eq_true c6
     clear c6
     (skip)
     have H' := am H
     clear H
     obtain ⟨Ao7, co7, eo7⟩ := Kd.S_slice HO_5.out
     subst eo7
     go_wp2
     go_meet
     case rel => exact ⟨_, (decide ((x5_1.length : Int) < 6)), zf, H', ⟨by have := HK1.out; omega⟩, ⟨zs HO_5.out⟩, ⟨by repeat ((with_reducible exact HI0.out))⟩, ⟨by repeat ((with_reducible exact HK.out))⟩, ⟨by repeat ((with_reducible exact HB.out))⟩⟩
    ·rw [if_neg c6] at H
     have c6b0 : decide (x6_1 ≤ (l1.length : Int)) = false := decide_eq_false c6
     clear c6
     (skip)
     have H' := am H
     clear H
     go_wp2
     go_meet
     case rel => exact ⟨_, (false), zf, H', ⟨by have := HK1.out; omega⟩, ⟨zs HO_5.out⟩, ⟨by repeat ((with_reducible exact HI0.out))⟩, ⟨by repeat ((with_reducible exact HK.out))⟩, ⟨by repeat ((with_reducible exact HB.out))⟩⟩
   case rest =>
    clear HC5
    obtain ⟨kq, x19_4, rfl, HA, HJ4, HO_5, HI0, HK, HB⟩ := hcut
    cases kq with
    | zero => exact absurd HA.out (by simp [spec_l1Cur_hunks.j1])
    | succ kj4 =>
     have H := HA.out
     clear HA
     simp only [spec_l1Cur_hunks.j1] at H
     by_cases c8 : x19_4 = true
     ·subst c8
      rw [if_pos rfl] at H
      replace H := Option.bind_eq_some_iff.mp H
      obtain ⟨t584, A90, H⟩ := H
      replace H : ((spec_l1Cur_pick.f s0_0 x1001_1 x1002_1 (wrap64 (t584 + 1))).bind fun bt585 => ((spec_l1Cur_pick.f s0_0 bt585.2.1 bt585.2.2 3).bind fun bt589 => (spec_l1Cur_hunks.l1 kj4 l1 x5_1 x6_1 bt589.1 s0_0 bt589.2.1 bt589.2.2 x6_1 bt585.1 ([] : List ByteArray)))) = some (r1, r2, r3) := H
      have A9 := am A90
      clear A90
      replace H := Option.bind_eq_some_iff.mp H
      obtain ⟨⟨t585, t586, t587⟩, A100, H⟩ := H
      dsimp only at H
      have A10 := am A100
      clear A100
      replace H := Option.bind_eq_some_iff.mp H
      obtain ⟨⟨t589, t590, t591⟩, A110, H⟩ := H
      dsimp only at H
      have A11 := am A110
      clear A110
      have H' := am H
      clear H
      go_wp2_with (first | ((with_reducible refine gateC (f := 122) rfl ?_); refine goesL_ (some 26) rfl rfl Tryz.func122 (by kernel_rfl) rfl #[.int .i64 3, .int .i64 (wrap64 ((l1.length : Int) - x6_1))] rfl zm ?_; (with_reducible refine (spec_l1Least.calls 3 (wrap64 ((l1.length : Int) - x6_1)) t584 _ A9.out).mono ?_); rintro e w' ⟨rfl, ⟨nd, rfl⟩⟩; refine ⟨_, rfl, ?_⟩; (try (rw [drewN_self wc]; generalize hq_ : World.drewN wc _ = wc; have n0_ : Aside0 (Kd.S k60 60 wc w.heap.size (fun _ => True) u5 x5_1) := ⟨by rw [← hq_]; exact (zs HO_5.out)⟩; have n1_ : Aside0 (IsS77 w0 wc g s0_0 x1001_1 x1002_1) := ⟨by rw [← hq_]; exact zi⟩; have n2_ : Aside0 (KeepBut w wc g none) := ⟨by rw [← hq_]; exact zh⟩; have n3_ : Aside0 (Below w0.heap.size w0 wc) := ⟨by rw [← hq_]; exact zj⟩; clear HO_5 HI0 HK HB hq_; have HO_5 := n0_; have HI0 := n1_; have HK := n2_; have HB := n3_; clear n0_ n1_ n2_ n3_))) | ((with_reducible refine gateC (f := 97) rfl ?_); refine goesL_ (some 28) rfl rfl Tryz.func97 (by kernel_rfl) rfl #[.pointer (some ⟨g, 0, none⟩), .int .i64 (wrap64 (t584 + 1))] rfl zm ?_; (with_reducible refine (spec_l1Cur_pick.calls g s0_0 x1001_1 x1002_1 (wrap64 (t584 + 1)) t585 t586 t587 w0 _ ?side1 ?side2 A10.out).mono ?_); (case side1 => exact zi); (case side2 => exact zj); rintro e w12 ⟨rfl, hi, hb, hk⟩; refine ⟨_, rfl, ?_⟩; replace HO_5 := am (Kd.S_mono (Kd.S_keep (IsS77.apartS (show IsS77 w0 _ g s0_0 x1001_1 x1002_1 from zi) (zs HO_5.out) (by decide)) hk (fun _ h => h.2)) (fun _ h => h.1)); replace HK := am (KeepBut.trans zh hk (.inl rfl)); replace HB := am (hb); replace HI0 := am (hi); (try clear hb); (try clear hk); (try clear hi)) | ((with_reducible refine gate_dst (N := 7) rfl ?_); (try (refine gate_guard (by rfl) ?_; dsimp only)); refine box_event ?hg (N := 7) ?hd (cs := #[.int .i64 0, .int .i64 0, .slice none 0 0]) (t := 60) ?hr ?_; (case hd => rfl); (case hg => rfl); (case hr => (go_simp; done)); intro gb588 hg w13 hbox hb; replace HO_5 := am (Kd.S_below (Kd.S_elderB (zs HO_5.out) gb588 (Nat.le_of_eq hg.symm)) hb); replace HB := am (below_step zj hb); have BK588 := am (hbox); have GW588 := am ((by rw [hg]; exact (keep_size (w := w) (g := g) (row := none) zh) : w.heap.size ≤ gb588)); have GE588 := am ((Nat.le_trans HW0.out (by rw [hg]; exact (keep_size (w := w) (g := g) (row := none) zh) : w.heap.size ≤ gb588) : w0.heap.size ≤ gb588)); replace HK := am (KeepBut.trans zh (KeepBut.of_below hb g none) (.inl rfl)); have NB0_588 := am ((by rw [hg]; exact Nat.ne_of_lt (IsS77.lt (show IsS77 w0 _ g s0_0 t586 t587 from zi)) : g ≠ gb588)); have NB588_0 := am ((by rw [hg]; exact Nat.ne_of_gt (IsS77.lt (show IsS77 w0 _ g s0_0 t586 t587 from zi)) : gb588 ≠ g)); replace HI0 := am (IsS77.below zi hb); clear hb hbox hg; have hnb14 := NB588_0.out; have hnc14 := NB0_588.out; obtain ⟨hcz15_0, hcz15_1, hcz15_2⟩ := cz3 BK588.out; obtain ⟨hfz15_0, hfz15_1, hfz15_2⟩ := fz3 BK588.out) | ((with_reducible refine gateC (f := 97) rfl ?_); refine goesL_ (some 31) rfl rfl Tryz.func97 (by kernel_rfl) rfl #[.pointer (some ⟨g, 0, none⟩), .int .i64 3] rfl zm ?_; (with_reducible refine (spec_l1Cur_pick.calls g s0_0 t586 t587 3 t589 t590 t591 w0 _ ?side1 ?side2 A11.out).mono ?_); (case side1 => repeat ((with_reducible first | exact HI0.out | refine IsS77.far ?_ NB0_588.out _))); (case side2 => repeat ((with_reducible first | exact HB.out | refine below_set ?_ GE588.out))); rintro e w16 ⟨rfl, hi, hb, hk⟩; refine ⟨_, rfl, ?_⟩; replace HO_5 := am (Kd.S_mono (Kd.S_keep (IsS77.apartS (show IsS77 w0 _ g s0_0 t586 t587 from by repeat ((with_reducible first | exact HI0.out | refine IsS77.far ?_ NB0_588.out _))) (by exact (Kd.S_mono (Kd.S_far (p := ⟨gb588, 2, none⟩) (Kd.S_far (p := ⟨gb588, 1, none⟩) (Kd.S_far (p := ⟨gb588, 0, none⟩) (Kd.S_mono HO_5.out (fun k_ hk => (⟨hk, hk.2⟩ : _ ∧ k_ ≠ gb588))) (fun _ hk => hk.2) (.int .i64 x6_1)) (fun _ hk => hk.2) (.int .i64 t585)) (fun _ hk => hk.2) (.slice none 0 0)) (fun _ h_ => h_.1))) (by decide)) hk (fun _ h => h.2)) (fun _ h => h.1)); replace BK588 := am (KeepBut.blk hk (g' := gb588) (o := .cells #[.int .i64 x6_1, .int .i64 t585, .slice none 0 0] 60 (0, 0)) (by refine blk_put (cs := #[.int .i64 x6_1, .int .i64 t585, .slice none 0 0]) ?_ 2 _ rfl; refine blk_put (cs := #[.int .i64 x6_1, .int .i64 0, .slice none 0 0]) ?_ 1 _ rfl; refine blk_put (cs := #[.int .i64 0, .int .i64 0, .slice none 0 0]) ?_ 0 _ rfl; exact BK588.out) NB588_0.out (by simp)); replace HK := am (KeepBut.trans (by repeat ((with_reducible first | exact HK.out | refine keep_far ?_ GW588.out _))) hk (.inl rfl)); replace HB := am (hb); replace HI0 := am (hi); (try clear hb); (try clear hk); (try clear hi)))
      go_loopg [8] kj4 (fun kq v8 w' => ∃ (x8_3 : Int) (x1001_3 : Int) (x1002_3 : Int) (x589002_3 : List ByteArray) (u589002 : Value), v8 = .int .i64 x8_3 ∧ Aside0 (spec_l1Cur_hunks.l1 kq l1 x5_1 x6_1 x8_3 s0_0 x1001_3 x1002_3 x6_1 t585 x589002_3 = some (r1, r2, r3)) ∧ Aside0 (kq ≤ kj4) ∧ Aside0 (Kd.S k60 60 w' w.heap.size (fun k_ => some k_ ≠ (u589002 : Value).ownBlock ∧ k_ ≠ gb588) u5 x5_1) ∧ Aside0 (Kd.R Kd.string 9 w' w.heap.size (fun _ => True) u589002 x589002_3) ∧ Aside0 (w'.heap[gb588]? = some (.cells #[.int .i64 x6_1, .int .i64 t585, u589002] 60 (0, 0))) ∧ Aside0 (IsS77 w0 w' g s0_0 x1001_3 x1002_3) ∧ Aside0 (KeepBut w w' g none) ∧ Aside0 (Below w0.heap.size w0 w'))
      case atStart => exact ⟨(t589), (t590), (t591), (([] : List ByteArray)), (.slice none 0 0), zf, H', ⟨Nat.le_refl _⟩, ⟨by exact Kd.S_mono HO_5.out (fun _ hk => ⟨(by simp [Value.ownBlock]), hk.2⟩)⟩, ⟨by exact Kd.R_nil _ _ _ _ _⟩, ⟨zk BK588.out⟩, ⟨by repeat ((with_reducible exact HI0.out))⟩, ⟨by repeat ((with_reducible exact HK.out))⟩, ⟨by repeat ((with_reducible exact HB.out))⟩⟩
      case round =>
       clear H'
       try clear hcz15_0
       try clear hcz15_1
       try clear hcz15_2
       try clear hfz15_0
       try clear hfz15_1
       try clear hfz15_2
       obtain ⟨x8_3, x1001_3, x1002_3, x589002_3, u589002, rfl, HA, HK3, HO_5, HO_589002, BK588, HI0, HK, HB⟩ := hrel
       cases gk with
       | zero => exact absurd HA.out (by simp [spec_l1Cur_hunks.l1])
       | succ k3 =>
        have H := HA.out
        clear HA
        simp only [spec_l1Cur_hunks.l1] at H
        by_cases c17 : x8_3 > 0
        ·rw [if_pos c17] at H
         have c17b0 : decide (0 < x8_3) = true := decide_eq_true c17
         clear c17
         replace H := Option.bind_eq_some_iff.mp H
         obtain ⟨⟨t592, t593, t594⟩, A180, H⟩ := H
         dsimp only at H
         have A18 := am A180
         clear A180
         obtain ⟨c19, H⟩ := itn H
         have c19b0 := eq_true c19
         have c19b1 := decide_eq_true c19
         try have c19b2 : (9223372036854775807 < t592.size + 1) = False := eq_false (Nat.not_lt.2 c19)
         obtain ⟨c20, H⟩ := itn H
         have LMc20 := am c20
         clear c20
         obtain ⟨y595, hy595⟩ : ∃ y_ : List ByteArray, y_ = (x589002_3 ++ [t592 ++ (⟨#[10]⟩ : ByteArray)]) := ⟨_, rfl⟩
         rw [← hy595] at H
         have Ny595 := am hy595
         clear hy595
         have H' := am H
         clear H
         try go_wp2
         replace HO_5 := am (Kd.S_drew HO_5.out)
         replace HO_589002 := am (Kd.R_drew HO_589002.out)
         replace BK588 := am (blk_drew BK588.out)
         replace HI0 := am (IsS77.drew HI0.out)
         replace HK := am (keep_drew HK.out)
         replace HB := am (below_drew1 HB.out)
         refine start_ (n := 9) (S := fun w' => w'.cell? ⟨gb588, 0, none⟩ = some (.int .i64 x6_1) ∧ w'.cell? ⟨gb588, 1, none⟩ = some (.int .i64 t585) ∧ w'.cell? ⟨gb588, 2, none⟩ = some (u589002)) (ds := [8]) #[O,O,O,O,O,O,O,O,O] (by kernel_rfl) rfl rfl ⟨(blk_cell BK588.out 0).trans rfl, (blk_cell BK588.out 1).trans rfl, (blk_cell BK588.out 2).trans rfl⟩ (fun hHeld => ?_); refine with_tabW spec_l1Cur_hunks.tab8 spec_l1Cur_hunks.bits8 (fun HT_ HW_ => ?_)
         generalize wr.drew = w21 at HO_5 HO_589002 BK588 HI0 HK HB hHeld ⊢
         refine pu 0 (some 36) ?_
         refine pu 2 (some 38) ?_
         refine ta 1 (some 37) ?_
         refine one_ (i := 3) (N := some 39) #[Y,Y,Y,Y,O,O,O,O,O] rfl rfl (one_of HT_.out (by kernel_rfl)) (by decide) (fun K hK => ?_)
         refine goes_ Tryz.func120 (by kernel_rfl) rfl #[.pointer (some ⟨g, 0, none⟩)] (by rfl) rfl rfl zm ?_
         with_reducible refine (spec_l1Cur_line.calls g s0_0 x1001_3 x1002_3 t592 t593 t594 w0 _ ?side1 ?side2 A18.out).mono ?_
         (case side1 => repeat ((with_reducible exact HI0.out)))
         (case side2 => repeat ((with_reducible exact HB.out)))
         rintro e w22 ⟨rfl, hi, hb, hk⟩
         refine ⟨_, rfl, ?_⟩
         replace HO_5 := am (Kd.S_mono (Kd.S_keep (IsS77.apartS (show IsS77 w0 _ g s0_0 x1001_3 x1002_3 from by repeat ((with_reducible exact HI0.out))) (zs HO_5.out) (by decide)) hk (fun _ h => h.2)) (fun _ h => h.1))
         replace HO_589002 := am (Kd.R_mono (Kd.R_keep (IsS77.apart (show IsS77 w0 _ g s0_0 x1001_3 x1002_3 from by repeat ((with_reducible exact HI0.out))) (zr HO_589002.out) (by decide)) hk (fun _ h => h.2)) (fun _ h => h.1))
         replace BK588 := am (KeepBut.blk hk (g' := gb588) (o := .cells #[.int .i64 x6_1, .int .i64 t585, u589002] 60 (0, 0)) (zk BK588.out) NB588_0.out (by simp))
         replace HK := am (KeepBut.trans (by repeat ((with_reducible exact HK.out))) hk (.inl rfl))
         replace HB := am (hb)
         replace HI0 := am (hi)
         (try clear hb)
         (try clear hk)
         (try clear hi)
         refine hK.out _ _ ⟨(blk_cell BK588.out 0).trans rfl, (blk_cell BK588.out 1).trans rfl, (blk_cell BK588.out 2).trans rfl⟩ (fun hHeld => ?_)
         clear hK K
         refine norm_ (a' := ?_) ?_ ?_
         rotate_left
         ·show Act.put _ (some 39) _ = _
          simp only [Act.put,qa,qb,qc,i64_w,i32_w]
          rfl
         refine pu 4 (some 40) ?_
         refine one_ (i := 5) (N := some 41) #[Y,Y,Y,Y,Y,Y,O,O,O] rfl rfl (one_of HT_.out (by kernel_rfl)) (by decide) (fun K hK => ?_)
         refine value_ (w1 := ?_) (v := ?_) (by rfl) rfl ?_ ?_
         rotate_left 2
         ·go_simp
          constructor
          ·rfl
          ·rfl
         refine hK.out _ _ ⟨(blk_cell (blk_alloc BK588.out _) 0).trans rfl, (blk_cell (blk_alloc BK588.out _) 1).trans rfl, (blk_cell (blk_alloc BK588.out _) 2).trans rfl⟩ (fun hHeld => ?_)
         clear hK K
         refine norm_ (a' := ?_) ?_ ?_
         rotate_left
         ·show Act.put _ (some 41) _ = _
          simp only [Act.put,qa,qb,qc,i64_w,i32_w]
          rfl
         refine one_ (i := 6) (N := some 42) #[Y,Y,Y,Y,Y,Y,Y,O,O] rfl rfl (one_of HT_.out (by kernel_rfl)) (by decide) (fun K hK => ?_)
         refine Kd.R_append_step Kd.string w.heap.size (by rfl) (.tmp 37) (.tmp 41) 24 9 (.string ⟨#[]⟩) 16 rfl Tryz.underlying24 info9 rfl (by decide) (by omega) u589002 x589002_3 (t592 ++ (⟨#[10]⟩ : ByteArray)) [.string (t592 ++ (⟨#[10]⟩ : ByteArray))] (fun _ => True) (fun _ => False) rfl rfl ?aP (fun _ hk => hk.elim) ?aF ?aO (Below.refl _ _) ?aS ?aL ?_
         (case aP => exact rfl)
         (case aF => exact (fun _ _ => trivial))
         (case aO => exact (zr HO_589002.out))
         (case aS => exact (keep_size (w := w) (g := g) (row := none) (by repeat ((with_reducible exact HK.out)))))
         (case aL => have := LMc20.out; omega)
         intro v596 w23 ho hb hg hat
         rw [← Ny595.out] at ho
         replace HO_5 := am (Kd.S_after (ok := (fun k_ => k_ ≠ gb588)) (by exact Kd.S_mono HO_5.out (fun _ hk => ⟨hk.2, hk.1⟩)) hg hat)
         replace BK588 := am (blk_grown (g := gb588) (o := .cells #[.int .i64 x6_1, .int .i64 t585, u589002] 60 (0, 0)) (zk BK588.out) hg (Kd.R_ne HO_589002.out BK588.out (by decide)))
         replace HI0 := am (IsS77.grown (by repeat ((with_reducible exact HI0.out))) hg (IsS77.own_ne HI0.out HO_589002.out (by decide)))
         replace HB := am (below_weaken (by repeat ((with_reducible exact HB.out))) HL.out hb)
         replace HK := am (KeepBut.trans (by repeat ((with_reducible exact HK.out))) (KeepBut.of_grown hg g) (Kd.R_base2 HO_589002.out))
         have HO597 := am (ho)
         clear HO_589002
         clear ho hb hg hat
         obtain ⟨Ao24, co24, eo24⟩ := Kd.R_slice HO597.out
         (subst eo24)
         refine hK.out _ _ ⟨(blk_cell BK588.out 0).trans rfl, (blk_cell BK588.out 1).trans rfl, (blk_cell BK588.out 2).trans rfl⟩ (fun hHeld => ?_)
         clear hK K
         refine norm_ (a' := ?_) ?_ ?_
         rotate_left
         ·show Act.put _ (some 42) _ = _
          simp only [Act.put,qa,qb,qc,i64_w,i32_w]
          rfl
         refine pu 7 (some 43) ?_
         refine last_ (i := 8) (N := none) #[Y,Y,Y,Y,Y,Y,Y,Y,Y] rfl rfl (one_of HT_.out (by kernel_rfl)) (by decide) (fun K hK => ?_)
         have hs25 : w23.cell? ⟨gb588, 2, none⟩ = some (u589002) := (blk_cell BK588.out 2).trans rfl
         have hfs25 := blk_frozen BK588.out 2
         refine skip_ (w1 := ?_) (by rfl) rfl ?_ ?_
         rotate_left
         ·go_simp
          rfl
         refine hK.out _ _ ?_
         clear hK K
         refine done_ (done_of HT_.out (by kernel_rfl)) ?_
         try go_wp2
         go_roundg k3
         case measure => have := HK1.out; have := HJ4.out; have := HK3.out; omega
         case rel => exact ⟨(wrap64 (x8_3 - 1)), (t593), (t594), (y595), (.slice Ao24 y595.length co24), zf, H', ⟨by have := HK1.out; have := HJ4.out; have := HK3.out; omega⟩, ⟨by exact Kd.S_mono (Kd.S_far (p := ⟨gb588, 2, none⟩) (Kd.S_mono HO_5.out (fun k_ hk => (⟨hk, hk.1⟩ : _ ∧ k_ ≠ gb588))) (fun _ hk => hk.2) (.slice Ao24 y595.length co24)) (fun _ hk => ⟨hk.1.2, hk.1.1⟩)⟩, ⟨by exact Kd.R_mono (Kd.R_far (p := ⟨gb588, 2, none⟩) (Kd.R_types HO597.out BK588.out (by decide)) (fun _ hk => hk.2) (.slice Ao24 y595.length co24)) (fun _ hk => trivial)⟩, ⟨by refine blk_put (cs := #[.int .i64 x6_1, .int .i64 t585, u589002]) ?_ 2 _ rfl; exact BK588.out⟩, ⟨by repeat ((with_reducible first | exact HI0.out | refine IsS77.far ?_ NB0_588.out _))⟩, ⟨by repeat ((with_reducible first | exact HK.out | refine keep_far ?_ GW588.out _))⟩, ⟨by repeat ((with_reducible first | exact HB.out | refine below_set ?_ GE588.out))⟩⟩
        ·rw [if_neg c17] at H
         have c17b0 : decide (0 < x8_3) = false := decide_eq_false c17
         clear c17
         by_cases c26 : (wrap64 (t585 + (x589002_3.length : Int))) > 0
         ·rw [if_pos c26] at H
          have c26b0 : decide (0 < (wrap64 (t585 + (x589002_3.length : Int)))) = true := decide_eq_true c26
          clear c26
          by_cases c27 : (wrap64 (x6_1 + t585)) < (l1.length : Int)
          ·rw [if_pos c27] at H
           have c27b0 : decide ((wrap64 (x6_1 + t585)) < (l1.length : Int)) = true := decide_eq_true c27
           clear c27
           obtain ⟨c28, H⟩ := itn H
           have LMc28 := am c28
           clear c28
           obtain ⟨y598, hy598⟩ : ∃ y_ : List (S60), y_ = (x5_1 ++ [(⟨x6_1, t585, x589002_3⟩ : S60)]) := ⟨_, rfl⟩
           rw [← hy598] at H
           have Ny598 := am hy598
           clear hy598
           replace H := Option.bind_eq_some_iff.mp H
           obtain ⟨⟨t601, t602, t603⟩, A290, H⟩ := H
           dsimp only at H
           have A29 := am A290
           clear A290
           have H' := am H
           clear H
           have hnb30 := NB588_0.out
           have hnc30 := NB0_588.out
           obtain ⟨hcz31_0, hcz31_1, hcz31_2⟩ := cz3 BK588.out
           obtain ⟨hfz31_0, hfz31_1, hfz31_2⟩ := fz3 BK588.out
           obtain ⟨Ao32, co32, eo32⟩ := Kd.R_slice HO_589002.out
           subst eo32
           try go_wp2_with (((with_reducible refine gateB (b := .append) (xs := #[.tmp 69, .tmp 71]) rfl ?_); (try (refine gate_guard (by rfl) ?_; dsimp only)); at_builtin; refine Kd.S_append k60 w.heap.size rfl (.tmp 69) (.tmp 71) 25 60 (.agg #[(.int .i64 0), (.int .i64 0), (.slice none 0 0)]) 40 rfl Tryz.underlying25 info60 rfl (by decide) (by omega) u5 x5_1 (⟨x6_1, t585, x589002_3⟩ : S60) [.int .i64 x6_1, .int .i64 t585, .slice Ao32 x589002_3.length co32] (fun k_ => k_ ≠ gb588) (fun k_ => some k_ = (.slice Ao32 x589002_3.length co32 : Value).ownBlock) rfl rfl ?aP (fun k_ hk_ => ((Kd.R_mono (ok' := fun k_ => ((fun k_ => k_ ≠ gb588)) k_ ∧ some k_ ≠ (u5 : Value).ownBlock) (Kd.R_types (Kd.R_apart' (HO_589002.out) (Kd.S_typed HO_5.out) (by decide)) BK588.out (by decide)) (fun k_ hk => ⟨hk.2, hk.1.2⟩))).1 k_ hk_.symm) ?aF ?aO (Below.refl _ _) ?aS ?aL ?_; (case aP => exact k60_mkM _ _ _ (⟨x6_1, t585, x589002_3⟩ : S60) (Kd.R_mono (Kd.R_tight rfl (Kd.R_mono (ok' := fun k_ => ((fun k_ => k_ ≠ gb588)) k_ ∧ some k_ ≠ (u5 : Value).ownBlock) (Kd.R_types (Kd.R_apart' (HO_589002.out) (Kd.S_typed HO_5.out) (by decide)) BK588.out (by decide)) (fun k_ hk => ⟨hk.2, hk.1.2⟩))) (fun _ h_ => h_))); (case aF => exact (fun k_ hk => Kd.freshB (g := gb588) (o := .cells #[.int .i64 x6_1, .int .i64 t585, .slice Ao32 x589002_3.length co32] 60 (0, 0)) (zk BK588.out) k_ hk)); (case aO => exact (by exact Kd.S_mono HO_5.out (fun k_ hk => ⟨hk.2, fun e_ => hk.1 e_⟩))); (case aS => exact (keep_size (w := w) (g := g) (row := none) (by repeat ((with_reducible exact HK.out))))); (case aL => have := LMc28.out; omega); intro v599 w33 ho hb hg hat; rw [← Ny598.out] at ho; replace BK588 := am (blk_grown (g := gb588) (o := .cells #[.int .i64 x6_1, .int .i64 t585, .slice Ao32 x589002_3.length co32] 60 (0, 0)) (zk BK588.out) hg (Kd.S_away HO_5.out (fun _ hk => hk.2))); replace HI0 := am (IsS77.grown (by repeat ((with_reducible exact HI0.out))) hg (IsS77.own_neS HI0.out HO_5.out (by decide))); replace HB := am (below_weaken (by repeat ((with_reducible exact HB.out))) HL.out hb); replace HK := am (KeepBut.trans (by repeat ((with_reducible exact HK.out))) (KeepBut.of_grown hg g) (Kd.S_base2 HO_5.out)); have HO600 := am (ho); clear HO_5; clear HO_589002; clear ho hb hg hat))
           replace HO600 := am (Kd.S_drew HO600.out)
           replace BK588 := am (blk_drew BK588.out)
           replace HI0 := am (IsS77.drew HI0.out)
           replace HK := am (keep_drew HK.out)
           replace HB := am (below_drew1 HB.out)
           refine start_ (n := 9) (S := fun w' => w'.cell? ⟨gb588, 0, none⟩ = some (.int .i64 x6_1) ∧ w'.cell? ⟨gb588, 1, none⟩ = some (.int .i64 t585) ∧ w'.cell? ⟨gb588, 2, none⟩ = some (.slice Ao32 x589002_3.length co32)) (ds := []) #[O,O,O,O,O,O,O,O,O] (by kernel_rfl) rfl rfl ⟨(blk_cell BK588.out 0).trans rfl, (blk_cell BK588.out 1).trans rfl, (blk_cell BK588.out 2).trans rfl⟩ (fun hHeld => ?_); refine with_tabW spec_l1Cur_hunks.tab11 spec_l1Cur_hunks.bits11 (fun HT_ HW_ => ?_)
           generalize w33.drew = w34 at HO600 BK588 HI0 HK HB hHeld ⊢
           refine pu 0 (some 73) ?_
           refine pu 1 (some 74) ?_
           refine pu 4 (some 77) ?_
           refine ta 2 (some 75) ?_
           refine pu 3 (some 76) ?_
           refine one_ (i := 5) (N := some 78) #[Y,Y,Y,Y,Y,Y,O,O,O] rfl rfl (one_of HT_.out (by kernel_rfl)) (by decide) (fun K hK => ?_)
           refine goes_ Tryz.func97 (by kernel_rfl) rfl #[.pointer (some ⟨g, 0, none⟩), .int .i64 3] (by rfl) rfl rfl zm ?_
           with_reducible refine (spec_l1Cur_pick.calls g s0_0 x1001_3 x1002_3 3 t601 t602 t603 w0 _ ?side1 ?side2 A29.out).mono ?_
           (case side1 => repeat ((with_reducible exact HI0.out)))
           (case side2 => repeat ((with_reducible exact HB.out)))
           rintro e w35 ⟨rfl, hi, hb, hk⟩
           refine ⟨_, rfl, ?_⟩
           replace BK588 := am (KeepBut.blk hk (g' := gb588) (o := .cells #[.int .i64 x6_1, .int .i64 t585, .slice Ao32 x589002_3.length co32] 60 (0, 0)) (zk BK588.out) NB588_0.out (by simp))
           replace HO600 := am (Kd.S_mono (Kd.S_keep (IsS77.apartS (show IsS77 w0 _ g s0_0 x1001_3 x1002_3 from by repeat ((with_reducible exact HI0.out))) (zs HO600.out) (by decide)) hk (fun _ h => h.2)) (fun _ h => h.1))
           replace HK := am (KeepBut.trans (by repeat ((with_reducible exact HK.out))) hk (.inl rfl))
           replace HB := am (hb)
           replace HI0 := am (hi)
           (try clear hb)
           (try clear hk)
           (try clear hi)
           refine hK.out _ _ ⟨(blk_cell BK588.out 0).trans rfl, (blk_cell BK588.out 1).trans rfl, (blk_cell BK588.out 2).trans rfl⟩ (fun hHeld => ?_)
           clear hK K
           refine norm_ (a' := ?_) ?_ ?_
           rotate_left
           ·show Act.put _ (some 78) _ = _
            simp only [Act.put,qa,qb,qc,i64_w,i32_w]
            rfl
           refine pu 6 (some 79) ?_
           refine pu 7 (some 80) ?_
           refine pu 8 (some 6) ?_
           refine done_ (done_of HT_.out (by kernel_rfl)) ?_
           try go_wp2
           go_roundg k3
           case measure => have := HK1.out; have := HJ4.out; have := HK3.out; omega
           case rel => exact ⟨(y598), (wrap64 (x6_1 + (wrap64 ((wrap64 (t585 + 1)) + t601)))), (t602), (t603), zf, H', ⟨by have := HK1.out; have := HJ4.out; have := HK3.out; omega⟩, ⟨by exact Kd.S_mono HO600.out (fun _ hk => trivial)⟩, ⟨by repeat ((with_reducible exact HI0.out))⟩, ⟨by repeat ((with_reducible exact HK.out))⟩, ⟨by repeat ((with_reducible exact HB.out))⟩⟩
          ·rw [if_neg c27] at H
           have c27b0 : decide ((wrap64 (x6_1 + t585)) < (l1.length : Int)) = false := decide_eq_false c27
           clear c27
           replace H := Option.bind_eq_some_iff.mp H
           obtain ⟨t604, A360, H⟩ := H
           replace H : (if t604 = true then (if x5_1.length < 3518437208883 then ((spec_l1Cur_pick.f s0_0 x1001_3 x1002_3 3).bind fun bt608 => (spec_l1Cur_hunks.l0 k3 l1 (x5_1 ++ [(⟨x6_1, t585, x589002_3⟩ : S60)]) (wrap64 (x6_1 + (wrap64 ((wrap64 (t585 + 1)) + bt608.1)))) s0_0 bt608.2.1 bt608.2.2)) else (none)) else (if t585 > 0 then (if x5_1.length < 3518437208883 then ((spec_l1Cur_pick.f s0_0 x1001_3 x1002_3 3).bind fun bt614 => (spec_l1Cur_hunks.l0 k3 l1 (x5_1 ++ [(⟨x6_1, t585, x589002_3⟩ : S60)]) (wrap64 (x6_1 + (wrap64 ((wrap64 (t585 + 1)) + bt614.1)))) s0_0 bt614.2.1 bt614.2.2)) else (none)) else ((spec_l1Cur_pick.f s0_0 x1001_3 x1002_3 3).bind fun bt617 => (spec_l1Cur_hunks.l0 k3 l1 x5_1 (wrap64 (x6_1 + (wrap64 ((wrap64 (t585 + 1)) + bt617.1)))) s0_0 bt617.2.1 bt617.2.2)))) = some (r1, r2, r3) := H
           have A36 := am A360
           clear A360
           by_cases c37 : t604 = true
           ·subst c37
            rw [if_pos rfl] at H
            obtain ⟨c38, H⟩ := itn H
            have LMc38 := am c38
            clear c38
            obtain ⟨y605, hy605⟩ : ∃ y_ : List (S60), y_ = (x5_1 ++ [(⟨x6_1, t585, x589002_3⟩ : S60)]) := ⟨_, rfl⟩
            rw [← hy605] at H
            have Ny605 := am hy605
            clear hy605
            replace H := Option.bind_eq_some_iff.mp H
            obtain ⟨⟨t608, t609, t610⟩, A390, H⟩ := H
            dsimp only at H
            have A39 := am A390
            clear A390
            have H' := am H
            clear H
            have hnb40 := NB588_0.out
            have hnc40 := NB0_588.out
            obtain ⟨hcz41_0, hcz41_1, hcz41_2⟩ := cz3 BK588.out
            obtain ⟨hfz41_0, hfz41_1, hfz41_2⟩ := fz3 BK588.out
            obtain ⟨Ao42, co42, eo42⟩ := Kd.R_slice HO_589002.out
            subst eo42
            try go_wp2_with (first | (go_at_call 123; (with_reducible refine (spec_l1Whole.calls _ _ l1 true _ ?side1 ?side2 A36.out).mono ?_); (case side1 => exact Kd.C_keep (⟨#[]⟩ : ByteArray) HR1.out (by repeat ((with_reducible exact HK.out))) hf1); (case side2 => exact HC1.out); rintro e w' ⟨rfl, ⟨nd, rfl⟩⟩) | ((with_reducible refine gateB (b := .append) (xs := #[.tmp 69, .tmp 71]) rfl ?_); (try (refine gate_guard (by rfl) ?_; dsimp only)); at_builtin; refine Kd.S_append k60 w.heap.size rfl (.tmp 69) (.tmp 71) 25 60 (.agg #[(.int .i64 0), (.int .i64 0), (.slice none 0 0)]) 40 rfl Tryz.underlying25 info60 rfl (by decide) (by omega) u5 x5_1 (⟨x6_1, t585, x589002_3⟩ : S60) [.int .i64 x6_1, .int .i64 t585, .slice Ao42 x589002_3.length co42] (fun k_ => k_ ≠ gb588) (fun k_ => some k_ = (.slice Ao42 x589002_3.length co42 : Value).ownBlock) rfl rfl ?aP (fun k_ hk_ => ((Kd.R_mono (ok' := fun k_ => ((fun k_ => k_ ≠ gb588)) k_ ∧ some k_ ≠ (u5 : Value).ownBlock) (Kd.R_types (Kd.R_apart' (HO_589002.out) (Kd.S_typed HO_5.out) (by decide)) BK588.out (by decide)) (fun k_ hk => ⟨hk.2, hk.1.2⟩))).1 k_ hk_.symm) ?aF ?aO (Below.refl _ _) ?aS ?aL ?_; (case aP => exact k60_mkM _ _ _ (⟨x6_1, t585, x589002_3⟩ : S60) (Kd.R_mono (Kd.R_tight rfl (Kd.R_mono (ok' := fun k_ => ((fun k_ => k_ ≠ gb588)) k_ ∧ some k_ ≠ (u5 : Value).ownBlock) (Kd.R_types (Kd.R_apart' (HO_589002.out) (Kd.S_typed HO_5.out) (by decide)) BK588.out (by decide)) (fun k_ hk => ⟨hk.2, hk.1.2⟩))) (fun _ h_ => h_))); (case aF => exact (fun k_ hk => Kd.freshB (g := gb588) (o := .cells #[.int .i64 x6_1, .int .i64 t585, .slice Ao42 x589002_3.length co42] 60 (0, 0)) (zk BK588.out) k_ hk)); (case aO => exact (by (with_reducible repeat (apply Kd.S_drewN)); exact Kd.S_mono HO_5.out (fun k_ hk => ⟨hk.2, fun e_ => hk.1 e_⟩))); (case aS => exact (keep_size (w := w) (g := g) (row := none) (by repeat ((with_reducible first | exact HK.out | apply keep_drewN))))); (case aL => have := LMc38.out; omega); intro v606 w43 ho hb hg hat; rw [← Ny605.out] at ho; replace BK588 := am (blk_grown (g := gb588) (o := .cells #[.int .i64 x6_1, .int .i64 t585, .slice Ao42 x589002_3.length co42] 60 (0, 0)) (zk BK588.out) hg (Kd.S_away HO_5.out (fun _ hk => hk.2))); replace HI0 := am (IsS77.grown (by repeat ((with_reducible first | exact HI0.out | apply IsS77.drewN))) hg (IsS77.own_neS HI0.out HO_5.out (by decide))); replace HB := am (below_weaken (by repeat ((with_reducible first | exact HB.out | apply pw_below_drewN))) HL.out hb); replace HK := am (KeepBut.trans (by repeat ((with_reducible first | exact HK.out | apply keep_drewN))) (KeepBut.of_grown hg g) (Kd.S_base2 HO_5.out)); have HO607 := am (ho); clear HO_5; clear HO_589002; clear ho hb hg hat))
            replace HO607 := am (Kd.S_drew HO607.out)
            replace BK588 := am (blk_drew BK588.out)
            replace HI0 := am (IsS77.drew HI0.out)
            replace HK := am (keep_drew HK.out)
            replace HB := am (below_drew1 HB.out)
            refine start_ (n := 9) (S := fun w' => w'.cell? ⟨gb588, 0, none⟩ = some (.int .i64 x6_1) ∧ w'.cell? ⟨gb588, 1, none⟩ = some (.int .i64 t585) ∧ w'.cell? ⟨gb588, 2, none⟩ = some (.slice Ao42 x589002_3.length co42)) (ds := []) #[O,O,O,O,O,O,O,O,O] (by kernel_rfl) rfl rfl ⟨(blk_cell BK588.out 0).trans rfl, (blk_cell BK588.out 1).trans rfl, (blk_cell BK588.out 2).trans rfl⟩ (fun hHeld => ?_); refine with_tabW spec_l1Cur_hunks.tab11 spec_l1Cur_hunks.bits11 (fun HT_ HW_ => ?_)
            generalize w43.drew = w44 at HO607 BK588 HI0 HK HB hHeld ⊢
            refine pu 0 (some 73) ?_
            refine pu 1 (some 74) ?_
            refine pu 4 (some 77) ?_
            refine ta 2 (some 75) ?_
            refine pu 3 (some 76) ?_
            refine one_ (i := 5) (N := some 78) #[Y,Y,Y,Y,Y,Y,O,O,O] rfl rfl (one_of HT_.out (by kernel_rfl)) (by decide) (fun K hK => ?_)
            refine goes_ Tryz.func97 (by kernel_rfl) rfl #[.pointer (some ⟨g, 0, none⟩), .int .i64 3] (by rfl) rfl rfl zm ?_
            with_reducible refine (spec_l1Cur_pick.calls g s0_0 x1001_3 x1002_3 3 t608 t609 t610 w0 _ ?side1 ?side2 A39.out).mono ?_
            (case side1 => repeat ((with_reducible exact HI0.out)))
            (case side2 => repeat ((with_reducible exact HB.out)))
            rintro e w45 ⟨rfl, hi, hb, hk⟩
            refine ⟨_, rfl, ?_⟩
            replace BK588 := am (KeepBut.blk hk (g' := gb588) (o := .cells #[.int .i64 x6_1, .int .i64 t585, .slice Ao42 x589002_3.length co42] 60 (0, 0)) (zk BK588.out) NB588_0.out (by simp))
            replace HO607 := am (Kd.S_mono (Kd.S_keep (IsS77.apartS (show IsS77 w0 _ g s0_0 x1001_3 x1002_3 from by repeat ((with_reducible exact HI0.out))) (zs HO607.out) (by decide)) hk (fun _ h => h.2)) (fun _ h => h.1))
            replace HK := am (KeepBut.trans (by repeat ((with_reducible exact HK.out))) hk (.inl rfl))
            replace HB := am (hb)
            replace HI0 := am (hi)
            (try clear hb)
            (try clear hk)
            (try clear hi)
            refine hK.out _ _ ⟨(blk_cell BK588.out 0).trans rfl, (blk_cell BK588.out 1).trans rfl, (blk_cell BK588.out 2).trans rfl⟩ (fun hHeld => ?_)
            clear hK K
            refine norm_ (a' := ?_) ?_ ?_
            rotate_left
            ·show Act.put _ (some 78) _ = _
             simp only [Act.put,qa,qb,qc,i64_w,i32_w]
             rfl
            refine pu 6 (some 79) ?_
            refine pu 7 (some 80) ?_
            refine pu 8 (some 6) ?_
            refine done_ (done_of HT_.out (by kernel_rfl)) ?_
            try go_wp2
            go_roundg k3
            case measure => have := HK1.out; have := HJ4.out; have := HK3.out; omega
            case rel => exact ⟨(y605), (wrap64 (x6_1 + (wrap64 ((wrap64 (t585 + 1)) + t608)))), (t609), (t610), zf, H', ⟨by have := HK1.out; have := HJ4.out; have := HK3.out; omega⟩, ⟨by exact Kd.S_mono HO607.out (fun _ hk => trivial)⟩, ⟨by repeat ((with_reducible exact HI0.out))⟩, ⟨by repeat ((with_reducible exact HK.out))⟩, ⟨by repeat ((with_reducible exact HB.out))⟩⟩
           ·replace c37 := Bool.eq_false_iff.mpr c37
            subst c37
            rw [if_neg nofun] at H
            by_cases c46 : t585 > 0
            ·rw [if_pos c46] at H
             have c46b0 : decide (0 < t585) = true := decide_eq_true c46
             clear c46
             obtain ⟨c47, H⟩ := itn H
             have LMc47 := am c47
             clear c47
             obtain ⟨y611, hy611⟩ : ∃ y_ : List (S60), y_ = (x5_1 ++ [(⟨x6_1, t585, x589002_3⟩ : S60)]) := ⟨_, rfl⟩
             rw [← hy611] at H
             have Ny611 := am hy611
             clear hy611
             replace H := Option.bind_eq_some_iff.mp H
             obtain ⟨⟨t614, t615, t616⟩, A480, H⟩ := H
             dsimp only at H
             have A48 := am A480
             clear A480
             have H' := am H
             clear H
             have hnb49 := NB588_0.out
             have hnc49 := NB0_588.out
             obtain ⟨hcz50_0, hcz50_1, hcz50_2⟩ := cz3 BK588.out
             obtain ⟨hfz50_0, hfz50_1, hfz50_2⟩ := fz3 BK588.out
             obtain ⟨Ao51, co51, eo51⟩ := Kd.R_slice HO_589002.out
             subst eo51
             try go_wp2_with (first | (go_at_call 123; (with_reducible refine (spec_l1Whole.calls _ _ l1 false _ ?side1 ?side2 A36.out).mono ?_); (case side1 => exact Kd.C_keep (⟨#[]⟩ : ByteArray) HR1.out (by repeat ((with_reducible exact HK.out))) hf1); (case side2 => exact HC1.out); rintro e w' ⟨rfl, ⟨nd, rfl⟩⟩) | ((with_reducible refine gateB (b := .append) (xs := #[.tmp 69, .tmp 71]) rfl ?_); (try (refine gate_guard (by rfl) ?_; dsimp only)); at_builtin; refine Kd.S_append k60 w.heap.size rfl (.tmp 69) (.tmp 71) 25 60 (.agg #[(.int .i64 0), (.int .i64 0), (.slice none 0 0)]) 40 rfl Tryz.underlying25 info60 rfl (by decide) (by omega) u5 x5_1 (⟨x6_1, t585, x589002_3⟩ : S60) [.int .i64 x6_1, .int .i64 t585, .slice Ao51 x589002_3.length co51] (fun k_ => k_ ≠ gb588) (fun k_ => some k_ = (.slice Ao51 x589002_3.length co51 : Value).ownBlock) rfl rfl ?aP (fun k_ hk_ => ((Kd.R_mono (ok' := fun k_ => ((fun k_ => k_ ≠ gb588)) k_ ∧ some k_ ≠ (u5 : Value).ownBlock) (Kd.R_types (Kd.R_apart' (HO_589002.out) (Kd.S_typed HO_5.out) (by decide)) BK588.out (by decide)) (fun k_ hk => ⟨hk.2, hk.1.2⟩))).1 k_ hk_.symm) ?aF ?aO (Below.refl _ _) ?aS ?aL ?_; (case aP => exact k60_mkM _ _ _ (⟨x6_1, t585, x589002_3⟩ : S60) (Kd.R_mono (Kd.R_tight rfl (Kd.R_mono (ok' := fun k_ => ((fun k_ => k_ ≠ gb588)) k_ ∧ some k_ ≠ (u5 : Value).ownBlock) (Kd.R_types (Kd.R_apart' (HO_589002.out) (Kd.S_typed HO_5.out) (by decide)) BK588.out (by decide)) (fun k_ hk => ⟨hk.2, hk.1.2⟩))) (fun _ h_ => h_))); (case aF => exact (fun k_ hk => Kd.freshB (g := gb588) (o := .cells #[.int .i64 x6_1, .int .i64 t585, .slice Ao51 x589002_3.length co51] 60 (0, 0)) (zk BK588.out) k_ hk)); (case aO => exact (by (with_reducible repeat (apply Kd.S_drewN)); exact Kd.S_mono HO_5.out (fun k_ hk => ⟨hk.2, fun e_ => hk.1 e_⟩))); (case aS => exact (keep_size (w := w) (g := g) (row := none) (by repeat ((with_reducible first | exact HK.out | apply keep_drewN))))); (case aL => have := LMc47.out; omega); intro v612 w52 ho hb hg hat; rw [← Ny611.out] at ho; replace BK588 := am (blk_grown (g := gb588) (o := .cells #[.int .i64 x6_1, .int .i64 t585, .slice Ao51 x589002_3.length co51] 60 (0, 0)) (zk BK588.out) hg (Kd.S_away HO_5.out (fun _ hk => hk.2))); replace HI0 := am (IsS77.grown (by repeat ((with_reducible first | exact HI0.out | apply IsS77.drewN))) hg (IsS77.own_neS HI0.out HO_5.out (by decide))); replace HB := am (below_weaken (by repeat ((with_reducible first | exact HB.out | apply pw_below_drewN))) HL.out hb); replace HK := am (KeepBut.trans (by repeat ((with_reducible first | exact HK.out | apply keep_drewN))) (KeepBut.of_grown hg g) (Kd.S_base2 HO_5.out)); have HO613 := am (ho); clear HO_5; clear HO_589002; clear ho hb hg hat))
             replace HO613 := am (Kd.S_drew HO613.out)
             replace BK588 := am (blk_drew BK588.out)
             replace HI0 := am (IsS77.drew HI0.out)
             replace HK := am (keep_drew HK.out)
             replace HB := am (below_drew1 HB.out)
             refine start_ (n := 9) (S := fun w' => w'.cell? ⟨gb588, 0, none⟩ = some (.int .i64 x6_1) ∧ w'.cell? ⟨gb588, 1, none⟩ = some (.int .i64 t585) ∧ w'.cell? ⟨gb588, 2, none⟩ = some (.slice Ao51 x589002_3.length co51)) (ds := []) #[O,O,O,O,O,O,O,O,O] (by kernel_rfl) rfl rfl ⟨(blk_cell BK588.out 0).trans rfl, (blk_cell BK588.out 1).trans rfl, (blk_cell BK588.out 2).trans rfl⟩ (fun hHeld => ?_); refine with_tabW spec_l1Cur_hunks.tab11 spec_l1Cur_hunks.bits11 (fun HT_ HW_ => ?_)
             generalize w52.drew = w53 at HO613 BK588 HI0 HK HB hHeld ⊢
             refine pu 0 (some 73) ?_
             refine pu 1 (some 74) ?_
             refine pu 4 (some 77) ?_
             refine ta 2 (some 75) ?_
             refine pu 3 (some 76) ?_
             refine one_ (i := 5) (N := some 78) #[Y,Y,Y,Y,Y,Y,O,O,O] rfl rfl (one_of HT_.out (by kernel_rfl)) (by decide) (fun K hK => ?_)
             refine goes_ Tryz.func97 (by kernel_rfl) rfl #[.pointer (some ⟨g, 0, none⟩), .int .i64 3] (by rfl) rfl rfl zm ?_
             with_reducible refine (spec_l1Cur_pick.calls g s0_0 x1001_3 x1002_3 3 t614 t615 t616 w0 _ ?side1 ?side2 A48.out).mono ?_
             (case side1 => repeat ((with_reducible exact HI0.out)))
             (case side2 => repeat ((with_reducible exact HB.out)))
             rintro e w54 ⟨rfl, hi, hb, hk⟩
             refine ⟨_, rfl, ?_⟩
             replace BK588 := am (KeepBut.blk hk (g' := gb588) (o := .cells #[.int .i64 x6_1, .int .i64 t585, .slice Ao51 x589002_3.length co51] 60 (0, 0)) (zk BK588.out) NB588_0.out (by simp))
             replace HO613 := am (Kd.S_mono (Kd.S_keep (IsS77.apartS (show IsS77 w0 _ g s0_0 x1001_3 x1002_3 from by repeat ((with_reducible exact HI0.out))) (zs HO613.out) (by decide)) hk (fun _ h => h.2)) (fun _ h => h.1))
             replace HK := am (KeepBut.trans (by repeat ((with_reducible exact HK.out))) hk (.inl rfl))
             replace HB := am (hb)
             replace HI0 := am (hi)
             (try clear hb)
             (try clear hk)
             (try clear hi)
             refine hK.out _ _ ⟨(blk_cell BK588.out 0).trans rfl, (blk_cell BK588.out 1).trans rfl, (blk_cell BK588.out 2).trans rfl⟩ (fun hHeld => ?_)
             clear hK K
             refine norm_ (a' := ?_) ?_ ?_
             rotate_left
             ·show Act.put _ (some 78) _ = _
              simp only [Act.put,qa,qb,qc,i64_w,i32_w]
              rfl
             refine pu 6 (some 79) ?_
             refine pu 7 (some 80) ?_
             refine pu 8 (some 6) ?_
             refine done_ (done_of HT_.out (by kernel_rfl)) ?_
             try go_wp2
             go_roundg k3
             case measure => have := HK1.out; have := HJ4.out; have := HK3.out; omega
             case rel => exact ⟨(y611), (wrap64 (x6_1 + (wrap64 ((wrap64 (t585 + 1)) + t614)))), (t615), (t616), zf, H', ⟨by have := HK1.out; have := HJ4.out; have := HK3.out; omega⟩, ⟨by exact Kd.S_mono HO613.out (fun _ hk => trivial)⟩, ⟨by repeat ((with_reducible exact HI0.out))⟩, ⟨by repeat ((with_reducible exact HK.out))⟩, ⟨by repeat ((with_reducible exact HB.out))⟩⟩
            ·rw [if_neg c46] at H
             have c46b0 : decide (0 < t585) = false := decide_eq_false c46
             clear c46
             replace H := Option.bind_eq_some_iff.mp H
             obtain ⟨⟨t617, t618, t619⟩, A550, H⟩ := H
             dsimp only at H
             have A55 := am A550
             clear A550
             have H' := am H
             clear H
             have hnb56 := NB588_0.out
             have hnc56 := NB0_588.out
             obtain ⟨hcz57_0, hcz57_1, hcz57_2⟩ := cz3 BK588.out
             obtain ⟨hfz57_0, hfz57_1, hfz57_2⟩ := fz3 BK588.out
             obtain ⟨Ao58, co58, eo58⟩ := Kd.R_slice HO_589002.out
             subst eo58
             try go_wp2_with ((go_at_call 123; (with_reducible refine (spec_l1Whole.calls _ _ l1 false _ ?side1 ?side2 A36.out).mono ?_); (case side1 => exact Kd.C_keep (⟨#[]⟩ : ByteArray) HR1.out (by repeat ((with_reducible exact HK.out))) hf1); (case side2 => exact HC1.out); rintro e w' ⟨rfl, ⟨nd, rfl⟩⟩))
             (try (rw [drewN_self wr]; generalize hq_ : World.drewN wr _ = wr; have n0_ : Aside0 (Kd.S k60 60 wr w.heap.size (fun k_ => some k_ ≠ (.slice Ao58 x589002_3.length co58 : Value).ownBlock ∧ k_ ≠ gb588) u5 x5_1) := ⟨by rw [← hq_]; exact (zs HO_5.out)⟩; have n1_ : Aside0 (Kd.R Kd.string 9 wr w.heap.size (fun _ => True) (.slice Ao58 x589002_3.length co58) x589002_3) := ⟨by rw [← hq_]; exact (zr HO_589002.out)⟩; have n2_ : Aside0 (wr.heap[gb588]? = some (.cells #[.int .i64 x6_1, .int .i64 t585, .slice Ao58 x589002_3.length co58] 60 (0, 0))) := ⟨by rw [← hq_]; exact (zk BK588.out)⟩; have n3_ : Aside0 (IsS77 w0 wr g s0_0 x1001_3 x1002_3) := ⟨by rw [← hq_]; exact (by repeat ((with_reducible first | exact HI0.out | apply IsS77.drewN)))⟩; have n4_ : Aside0 (KeepBut w wr g none) := ⟨by rw [← hq_]; exact (by repeat ((with_reducible first | exact HK.out | apply keep_drewN)))⟩; have n5_ : Aside0 (Below w0.heap.size w0 wr) := ⟨by rw [← hq_]; exact (by repeat ((with_reducible first | exact HB.out | apply pw_below_drewN)))⟩; clear HO_5 HO_589002 BK588 HI0 HK HB hq_; have HO_5 := n0_; have HO_589002 := n1_; have BK588 := n2_; have HI0 := n3_; have HK := n4_; have HB := n5_; clear n0_ n1_ n2_ n3_ n4_ n5_))
             replace HO_5 := am (Kd.S_drew HO_5.out)
             replace HO_589002 := am (Kd.R_drew HO_589002.out)
             replace BK588 := am (blk_drew BK588.out)
             replace HI0 := am (IsS77.drew HI0.out)
             replace HK := am (keep_drew HK.out)
             replace HB := am (below_drew1 HB.out)
             refine start_ (n := 9) (S := fun w' => w'.cell? ⟨gb588, 0, none⟩ = some (.int .i64 x6_1) ∧ w'.cell? ⟨gb588, 1, none⟩ = some (.int .i64 t585) ∧ w'.cell? ⟨gb588, 2, none⟩ = some (.slice Ao58 x589002_3.length co58)) (ds := []) #[O,O,O,O,O,O,O,O,O] (by kernel_rfl) rfl rfl ⟨(blk_cell BK588.out 0).trans rfl, (blk_cell BK588.out 1).trans rfl, (blk_cell BK588.out 2).trans rfl⟩ (fun hHeld => ?_); refine with_tabW spec_l1Cur_hunks.tab11 spec_l1Cur_hunks.bits11 (fun HT_ HW_ => ?_)
             generalize wr.drew = w59 at HO_5 HO_589002 BK588 HI0 HK HB hHeld ⊢
             refine pu 0 (some 73) ?_
             refine pu 1 (some 74) ?_
             refine pu 4 (some 77) ?_
             refine ta 2 (some 75) ?_
             refine pu 3 (some 76) ?_
             refine one_ (i := 5) (N := some 78) #[Y,Y,Y,Y,Y,Y,O,O,O] rfl rfl (one_of HT_.out (by kernel_rfl)) (by decide) (fun K hK => ?_)
             refine goes_ Tryz.func97 (by kernel_rfl) rfl #[.pointer (some ⟨g, 0, none⟩), .int .i64 3] (by rfl) rfl rfl zm ?_
             with_reducible refine (spec_l1Cur_pick.calls g s0_0 x1001_3 x1002_3 3 t617 t618 t619 w0 _ ?side1 ?side2 A55.out).mono ?_
             (case side1 => repeat ((with_reducible exact HI0.out)))
             (case side2 => repeat ((with_reducible exact HB.out)))
             rintro e w60 ⟨rfl, hi, hb, hk⟩
             refine ⟨_, rfl, ?_⟩
             replace HO_5 := am (Kd.S_mono (Kd.S_keep (IsS77.apartS (show IsS77 w0 _ g s0_0 x1001_3 x1002_3 from by repeat ((with_reducible exact HI0.out))) (zs HO_5.out) (by decide)) hk (fun _ h => h.2)) (fun _ h => h.1))
             replace HO_589002 := am (Kd.R_mono (Kd.R_keep (IsS77.apart (show IsS77 w0 _ g s0_0 x1001_3 x1002_3 from by repeat ((with_reducible exact HI0.out))) (zr HO_589002.out) (by decide)) hk (fun _ h => h.2)) (fun _ h => h.1))
             replace BK588 := am (KeepBut.blk hk (g' := gb588) (o := .cells #[.int .i64 x6_1, .int .i64 t585, .slice Ao58 x589002_3.length co58] 60 (0, 0)) (zk BK588.out) NB588_0.out (by simp))
             replace HK := am (KeepBut.trans (by repeat ((with_reducible exact HK.out))) hk (.inl rfl))
             replace HB := am (hb)
             replace HI0 := am (hi)
             (try clear hb)
             (try clear hk)
             (try clear hi)
             refine hK.out _ _ ⟨(blk_cell BK588.out 0).trans rfl, (blk_cell BK588.out 1).trans rfl, (blk_cell BK588.out 2).trans rfl⟩ (fun hHeld => ?_)
             clear hK K
             refine norm_ (a' := ?_) ?_ ?_
             rotate_left
             ·show Act.put _ (some 78) _ = _
              simp only [Act.put,qa,qb,qc,i64_w,i32_w]
              rfl
             refine pu 6 (some 79) ?_
             refine pu 7 (some 80) ?_
             refine pu 8 (some 6) ?_
             refine done_ (done_of HT_.out (by kernel_rfl)) ?_
             try go_wp2
             go_roundg k3
             case measure => have := HK1.out; have := HJ4.out; have := HK3.out; omega
             case rel => exact ⟨(x5_1), (wrap64 (x6_1 + (wrap64 ((wrap64 (t585 + 1)) + t617)))), (t618), (t619), zf, H', ⟨by have := HK1.out; have := HJ4.out; have := HK3.out; omega⟩, ⟨by exact Kd.S_mono HO_5.out (fun _ hk => trivial)⟩, ⟨by repeat ((with_reducible exact HI0.out))⟩, ⟨by repeat ((with_reducible exact HK.out))⟩, ⟨by repeat ((with_reducible exact HB.out))⟩⟩
         ·rw [if_neg c26] at H
          have c26b0 : decide (0 < (wrap64 (t585 + (x589002_3.length : Int)))) = false := decide_eq_false c26
          clear c26
          replace H := Option.bind_eq_some_iff.mp H
          obtain ⟨⟨t620, t621, t622⟩, A610, H⟩ := H
          dsimp only at H
          have A61 := am A610
          clear A610
          have H' := am H
          clear H
          have hnb62 := NB588_0.out
          have hnc62 := NB0_588.out
          obtain ⟨hcz63_0, hcz63_1, hcz63_2⟩ := cz3 BK588.out
          obtain ⟨hfz63_0, hfz63_1, hfz63_2⟩ := fz3 BK588.out
          obtain ⟨Ao64, co64, eo64⟩ := Kd.R_slice HO_589002.out
          subst eo64
          try go_wp2
          replace HO_5 := am (Kd.S_drew HO_5.out)
          replace HO_589002 := am (Kd.R_drew HO_589002.out)
          replace BK588 := am (blk_drew BK588.out)
          replace HI0 := am (IsS77.drew HI0.out)
          replace HK := am (keep_drew HK.out)
          replace HB := am (below_drew1 HB.out)
          refine start_ (n := 9) (S := fun w' => w'.cell? ⟨gb588, 0, none⟩ = some (.int .i64 x6_1) ∧ w'.cell? ⟨gb588, 1, none⟩ = some (.int .i64 t585) ∧ w'.cell? ⟨gb588, 2, none⟩ = some (.slice Ao64 x589002_3.length co64)) (ds := []) #[O,O,O,O,O,O,O,O,O] (by kernel_rfl) rfl rfl ⟨(blk_cell BK588.out 0).trans rfl, (blk_cell BK588.out 1).trans rfl, (blk_cell BK588.out 2).trans rfl⟩ (fun hHeld => ?_); refine with_tabW spec_l1Cur_hunks.tab11 spec_l1Cur_hunks.bits11 (fun HT_ HW_ => ?_)
          generalize wr.drew = w65 at HO_5 HO_589002 BK588 HI0 HK HB hHeld ⊢
          refine pu 0 (some 73) ?_
          refine pu 1 (some 74) ?_
          refine pu 4 (some 77) ?_
          refine ta 2 (some 75) ?_
          refine pu 3 (some 76) ?_
          refine one_ (i := 5) (N := some 78) #[Y,Y,Y,Y,Y,Y,O,O,O] rfl rfl (one_of HT_.out (by kernel_rfl)) (by decide) (fun K hK => ?_)
          refine goes_ Tryz.func97 (by kernel_rfl) rfl #[.pointer (some ⟨g, 0, none⟩), .int .i64 3] (by rfl) rfl rfl zm ?_
          with_reducible refine (spec_l1Cur_pick.calls g s0_0 x1001_3 x1002_3 3 t620 t621 t622 w0 _ ?side1 ?side2 A61.out).mono ?_
          (case side1 => repeat ((with_reducible exact HI0.out)))
          (case side2 => repeat ((with_reducible exact HB.out)))
          rintro e w66 ⟨rfl, hi, hb, hk⟩
          refine ⟨_, rfl, ?_⟩
          replace HO_5 := am (Kd.S_mono (Kd.S_keep (IsS77.apartS (show IsS77 w0 _ g s0_0 x1001_3 x1002_3 from by repeat ((with_reducible exact HI0.out))) (zs HO_5.out) (by decide)) hk (fun _ h => h.2)) (fun _ h => h.1))
          replace HO_589002 := am (Kd.R_mono (Kd.R_keep (IsS77.apart (show IsS77 w0 _ g s0_0 x1001_3 x1002_3 from by repeat ((with_reducible exact HI0.out))) (zr HO_589002.out) (by decide)) hk (fun _ h => h.2)) (fun _ h => h.1))
          replace BK588 := am (KeepBut.blk hk (g' := gb588) (o := .cells #[.int .i64 x6_1, .int .i64 t585, .slice Ao64 x589002_3.length co64] 60 (0, 0)) (zk BK588.out) NB588_0.out (by simp))
          replace HK := am (KeepBut.trans (by repeat ((with_reducible exact HK.out))) hk (.inl rfl))
          replace HB := am (hb)
          replace HI0 := am (hi)
          (try clear hb)
          (try clear hk)
          (try clear hi)
          refine hK.out _ _ ⟨(blk_cell BK588.out 0).trans rfl, (blk_cell BK588.out 1).trans rfl, (blk_cell BK588.out 2).trans rfl⟩ (fun hHeld => ?_)
          clear hK K
          refine norm_ (a' := ?_) ?_ ?_
          rotate_left
          ·show Act.put _ (some 78) _ = _
           simp only [Act.put,qa,qb,qc,i64_w,i32_w]
           rfl
          refine pu 6 (some 79) ?_
          refine pu 7 (some 80) ?_
          refine pu 8 (some 6) ?_
          refine done_ (done_of HT_.out (by kernel_rfl)) ?_
          try go_wp2
          go_roundg k3
          case measure => have := HK1.out; have := HJ4.out; have := HK3.out; omega
          case rel => exact ⟨(x5_1), (wrap64 (x6_1 + (wrap64 ((wrap64 (t585 + 1)) + t620)))), (t621), (t622), zf, H', ⟨by have := HK1.out; have := HJ4.out; have := HK3.out; omega⟩, ⟨by exact Kd.S_mono HO_5.out (fun _ hk => trivial)⟩, ⟨by repeat ((with_reducible exact HI0.out))⟩, ⟨by repeat ((with_reducible exact HK.out))⟩, ⟨by repeat ((with_reducible exact HB.out))⟩⟩
     ·replace c8 := Bool.eq_false_iff.mpr c8
      subst c8
      rw [if_neg nofun] at H
      simp only [Option.some.injEq, Prod.mk.injEq] at H
      obtain ⟨rfl, rfl, rfl⟩ := H
      go_wp2
      go_ret
      exact ⟨_, by rfl, zs HO_5.out, zi, zj, zh⟩

def spec_l1Cur_one.f (s0_0 : List Int) (s0_1 : Int) (s0_2 : Int) (a1 : Int) : Option (Bool × Int × Int) := (spec_l1Cur_pick.f s0_0 s0_1 s0_2 a1).bind fun bt534 => (some ((bt534.1 == 0), bt534.2.1, bt534.2.2))
set_option maxHeartbeats 8000000 in
set_option maxRecDepth 100000 in
theorem spec_l1Cur_one.calls (g : Nat) (s0_0 : List Int) (s0_1 : Int) (s0_2 : Int) (a1 : Int) (r1 : Bool) (r2 : Int) (r3 : Int) (w0 w : World) (hI : IsS77 w0 w g s0_0 s0_1 s0_2) (hB : Below w0.heap.size w0 w) (h : spec_l1Cur_one.f s0_0 s0_1 s0_2 a1 = some (r1, r2, r3)) :
  Calls Tryz.prog 98 #[.pointer (some ⟨g, 0, none⟩), .int .i64 a1] w fun e w' => e = .returned (.bool r1) ∧ IsS77 w0 w' g s0_0 r2 r3 ∧ Below w0.heap.size w0 w' ∧ KeepBut w w' g none := by
 have HI0 := am hI
 have HK := am (KeepBut.refl w g none)
 have HL := am hB.size
 clear hI
 have HW0 := am hB.size
 have HB := am hB
 clear hB
 have H : ((spec_l1Cur_pick.f s0_0 s0_1 s0_2 a1).bind fun bt534 => (some ((bt534.1 == 0), bt534.2.1, bt534.2.2))) = some (r1, r2, r3) := h
 clear h
 replace H := Option.bind_eq_some_iff.mp H
 obtain ⟨⟨t534, t535, t536⟩, A30, H⟩ := H
 replace H : (some ((t534 == 0), t535, t536)) = some (r1, r2, r3) := H
 have A3 := am A30
 clear A30
 simp only [Option.some.injEq, Prod.mk.injEq] at H
 obtain ⟨rfl, rfl, rfl⟩ := H
 go_enter Tryz.func98, Tryz.ntmps98
 go_wp2_with (first | ((with_reducible refine gateC (f := 97) rfl ?_); refine goesL_ (some 7) rfl rfl Tryz.func97 (by kernel_rfl) rfl #[.pointer (some ⟨g, 0, none⟩), .int .i64 a1] rfl zm ?_; (with_reducible refine (spec_l1Cur_pick.calls g s0_0 s0_1 s0_2 a1 t534 t535 t536 w0 _ ?side1 ?side2 A3.out).mono ?_); (case side1 => exact zi); (case side2 => exact zj); rintro e w4 ⟨rfl, hi, hb, hk⟩; refine ⟨_, rfl, ?_⟩; have n0_ := am (KeepBut.trans zh hk (.inl rfl)); have n1_ := am (hb); have n2_ := am (hi); clear HK; clear HB; clear HI0; have HK := n0_; have HB := n1_; have HI0 := n2_; clear n0_ n1_ n2_; (try clear hb); (try clear hk); (try clear hi)))
 go_ret
 exact ⟨by first | rfl | (simp [errW_none, errW_some] <;> rfl) | (simp [*, errW_none, errW_some] <;> rfl), zi, zj, zh⟩

def spec_l1Plain.f (a0 : ByteArray) : Option (ByteArray) := (spec_l1Ends.f a0).bind fun t147 => (if t147 = true then (if 0 ≤ (wrap64 ((a0.size : Int) - 1)) then (if (wrap64 ((a0.size : Int) - 1)) ≤ (a0.size : Int) then (some (a0.extract 0 ((wrap64 ((a0.size : Int) - 1)) : Int).toNat)) else (none)) else (none)) else (some a0))
set_option maxHeartbeats 8000000 in
set_option maxRecDepth 100000 in
theorem spec_l1Plain.calls (a0 : ByteArray) (r : ByteArray) (w : World) (h : spec_l1Plain.f a0 = some r) :
  Calls Tryz.prog 46 #[.string a0] w fun e w' => e = .returned (.string r) ∧ Drawn0 w w' := by
 have H := h
 clear h
 unfold spec_l1Plain.f at H
 replace H := Option.bind_eq_some_iff.mp H
 obtain ⟨t147, A20, H⟩ := H
 replace H : (if t147 = true then (if 0 ≤ (wrap64 ((a0.size : Int) - 1)) then (if (wrap64 ((a0.size : Int) - 1)) ≤ (a0.size : Int) then (some (a0.extract 0 ((wrap64 ((a0.size : Int) - 1)) : Int).toNat)) else (none)) else (none)) else (some a0)) = some r := H
 have A2 := am A20
 clear A20
 by_cases c3 : t147 = true
 ·subst c3
  rw [if_pos rfl] at H
  obtain ⟨ji4, hji4⟩ : ∃ j_ : Int, (wrap64 ((a0.size : Int) - 1)) = j_ := ⟨_, rfl⟩
  rw [hji4] at H
  have hji4w : (IntKind.i64.wrap ((a0.size : Int) - 1)) = ji4 := (i64_w _).trans hji4
  obtain ⟨c5, H⟩ := itn H
  have c5b0 := eq_true c5
  have c5b1 := decide_eq_true c5
  clear c5
  obtain ⟨c6, H⟩ := itn H
  have c6b0 := eq_true c6
  have c6b1 := decide_eq_true c6
  clear c6
  obtain rfl := Option.some.inj H
  go_enter Tryz.func46, Tryz.ntmps46
  go_wp2_with (((with_reducible refine gateC (f := 72) rfl ?_); refine goesL_ (some 4) rfl rfl Tryz.func72 (by kernel_rfl) rfl #[.string a0] rfl zm ?_; (with_reducible refine (spec_l1Ends.calls a0 true _ A2.out).mono ?_); rintro e w' ⟨rfl, ⟨nd, rfl⟩⟩; refine ⟨_, rfl, ?_⟩))
  go_ret
  exact ⟨by rfl, by repeat (first | exact Drawn0.refl _ | apply Drawn0.step)⟩
 ·replace c3 := Bool.eq_false_iff.mpr c3
  subst c3
  rw [if_neg nofun] at H
  obtain rfl := Option.some.inj H
  go_enter Tryz.func46, Tryz.ntmps46
  go_wp2_with (((with_reducible refine gateC (f := 72) rfl ?_); refine goesL_ (some 4) rfl rfl Tryz.func72 (by kernel_rfl) rfl #[.string a0] rfl zm ?_; (with_reducible refine (spec_l1Ends.calls a0 false _ A2.out).mono ?_); rintro e w' ⟨rfl, ⟨nd, rfl⟩⟩; refine ⟨_, rfl, ?_⟩))
  go_ret
  exact ⟨by rfl, by repeat (first | exact Drawn0.refl _ | apply Drawn0.step)⟩
end Go.Proofs.YtmcldkobejhaeaaGreatDoor.My