/- Part 3 of 7 of a proof of this sentence: The Go function loop.example/g00825/laws.FnPatches returns true for every input, and each argument reads afterwards as it read before. No condition. -/
import Derived.Test.YtcefenlblnediaaCFnPatches2
/- Written by this session's program (wip/gen): a plain function with the same answers as the Go function, and the proof that the Go code comes to them. Asked: that the plain function has an answer. -/
namespace Go.Proofs.Ytcefenlblnediaa.My
open Go.RowKit Go.Proofs.YtcefenlblnediaaW.PrintWords Go.Proofs.YtcefenlblnediaaW.PrintLast Go.Proofs.YtcefenlblnediaaW.PrintMore
attribute [local go_sem] max2_int min2_int max_two min_two max_three min_three max_four min_four
set_option linter.unusedVariables false
set_option linter.unusedSimpArgs false

/-! ### impl_sameHunks_1: function 166 -/
def impl_sameHunks_1.f (k : Nat) (a0_0 : Int) (a0_1 : Int) (l0_2 : List ByteArray) (a1_0 : Int) (a1_1 : Int) (l1_2 : List ByteArray) : Option (Bool) := if a0_0 = a1_0 then (if a0_1 = a1_1 then ((slices_Equal_string_string.f k l0_2 l1_2).bind fun t974 => (some t974)) else (some false)) else (some false)
set_option maxHeartbeats 8000000 in
set_option maxRecDepth 100000 in
theorem impl_sameHunks_1.calls (k : Nat) (a0_0 : Int) (a0_1 : Int) (A0_2 : Option Addr) (c0_2 : Nat) (l0_2 : List ByteArray) (a1_0 : Int) (a1_1 : Int) (A1_2 : Option Addr) (c1_2 : Nat) (l1_2 : List ByteArray) (r : Bool) (w : World) (hr0_2 : Kd.C Kd.string w A0_2 l0_2.length l0_2) (hc0_2 : l0_2.length ≤ c0_2) (hr1_2 : Kd.C Kd.string w A1_2 l1_2.length l1_2) (hc1_2 : l1_2.length ≤ c1_2) (h : impl_sameHunks_1.f k a0_0 a0_1 l0_2 a1_0 a1_1 l1_2 = some r) :
  Calls Try.prog 166 #[.agg #[.int .i64 a0_0, .int .i64 a0_1, .slice A0_2 l0_2.length c0_2], .agg #[.int .i64 a1_0, .int .i64 a1_1, .slice A1_2 l1_2.length c1_2]] w fun e w' => e = .returned (.bool r) ∧ Below w.heap.size w w' := by
 have hu111 := Try.underlying111
 have HR0_2 := Aside0.mk hr0_2
 have HC0_2 := Aside0.mk hc0_2
 clear hr0_2 hc0_2
 have HR1_2 := Aside0.mk hr1_2
 have HC1_2 := Aside0.mk hc1_2
 clear hr1_2 hc1_2
 have HB := Aside0.mk (Below.refl w.heap.size w)
 have H : (if a0_0 = a1_0 then (if a0_1 = a1_1 then ((slices_Equal_string_string.f k l0_2 l1_2).bind fun t974 => (some t974)) else (some false)) else (some false)) = some r := h
 clear h
 by_cases c3 : a0_0 = a1_0
 ·rw [if_pos c3] at H
  have c3b0 : (a0_0 == a1_0) = true := beq_iff_eq.mpr c3
  have c3b1 : (a0_0 != a1_0) = false := bne_eq_false_iff_eq.mpr c3
  clear c3
  by_cases c4 : a0_1 = a1_1
  ·rw [if_pos c4] at H
   have c4b0 : (a0_1 == a1_1) = true := beq_iff_eq.mpr c4
   have c4b1 : (a0_1 != a1_1) = false := bne_eq_false_iff_eq.mpr c4
   clear c4
   replace H := Option.bind_eq_some_iff.mp H
   obtain ⟨t974, A50, H⟩ := H
   replace H : (some t974) = some r := H
   have A5 := Aside0.mk A50
   clear A50
   obtain rfl := Option.some.inj H
   go_enter Try.func166, Try.ntmps166
   go_wp2_with (first | ((with_reducible refine gate_dst (N := 2) rfl ?_); refine box_event ?hg (N := 2) ?hd (cs := #[.int .i64 a0_0, .int .i64 a0_1, .slice A0_2 l0_2.length c0_2]) (t := 111) ?hr ?_; (case hd => rfl); (case hg => rfl); (case hr => first | (go_simp; done) | (go_simp; rfl)); intro gb972 hg w6 hbox hb; have n0_ := Aside0.mk (below_step zb hb); have n1_ := Aside0.mk (hbox); have n2_ := Aside0.mk ((by rw [hg]; exact (below_size zb) : w.heap.size ≤ gb972)); have n3_ := Aside0.mk ((by rw [hg]; exact (below_size zb) : w.heap.size ≤ gb972)); clear HB; have HB := n0_; have BK972 := n1_; have GW972 := n2_; have GE972 := n3_; clear n0_ n1_ n2_ n3_; clear hb hbox hg) | ((with_reducible refine gate_dst (N := 3) rfl ?_); refine box_event ?hg (N := 3) ?hd (cs := #[.int .i64 a1_0, .int .i64 a1_1, .slice A1_2 l1_2.length c1_2]) (t := 111) ?hr ?_; (case hd => rfl); (case hg => rfl); (case hr => first | (go_simp; done) | (go_simp; rfl)); intro gb973 hg w7 hbox hb; have n0_ := Aside0.mk (blk_below (g := gb972) (o := .cells #[.int .i64 a0_0, .int .i64 a0_1, .slice A0_2 l0_2.length c0_2] 111 (0, 0)) (zk BK972.out) hb); have n1_ := Aside0.mk (below_step (by repeat (first | (with_reducible first | exact HB.out | apply below_alloc | apply pw_below_drewN | apply below_drew1 | refine below_set ?_ GE972.out) | exact HB.out)) hb); have n2_ := Aside0.mk (hbox); have n3_ := Aside0.mk ((by rw [hg]; exact (below_size (by repeat (first | (with_reducible first | exact HB.out | apply below_alloc | apply pw_below_drewN | apply below_drew1 | refine below_set ?_ GE972.out) | exact HB.out))) : w.heap.size ≤ gb973)); have n4_ := Aside0.mk ((by rw [hg]; exact (below_size (by repeat (first | (with_reducible first | exact HB.out | apply below_alloc | apply pw_below_drewN | apply below_drew1 | refine below_set ?_ GE972.out) | exact HB.out))) : w.heap.size ≤ gb973)); have n5_ := Aside0.mk ((by rw [hg]; exact Nat.ne_of_lt (blk_lt (g := gb972) (o := .cells #[.int .i64 a0_0, .int .i64 a0_1, .slice A0_2 l0_2.length c0_2] 111 (0, 0)) (zk BK972.out)) : gb972 ≠ gb973)); have n6_ := Aside0.mk ((by rw [hg]; exact Nat.ne_of_gt (blk_lt (g := gb972) (o := .cells #[.int .i64 a0_0, .int .i64 a0_1, .slice A0_2 l0_2.length c0_2] 111 (0, 0)) (zk BK972.out)) : gb973 ≠ gb972)); clear BK972; clear HB; have BK972 := n0_; have HB := n1_; have BK973 := n2_; have GW973 := n3_; have GE973 := n4_; have NB972_973 := n5_; have NB973_972 := n6_; clear n0_ n1_ n2_ n3_ n4_ n5_ n6_; clear hb hbox hg; have hnb8 := NB972_973.out; have hnc8 := NB973_972.out; have hcz9_0 : w7.cell? ⟨gb972, 0, none⟩ = some (.int .i64 a0_0) := (blk_cell BK972.out 0).trans rfl; have hcz9_1 : w7.cell? ⟨gb972, 1, none⟩ = some (.int .i64 a0_1) := (blk_cell BK972.out 1).trans rfl; have hcz9_2 : w7.cell? ⟨gb972, 2, none⟩ = some (.slice A0_2 l0_2.length c0_2) := (blk_cell BK972.out 2).trans rfl; have hfz9_0 := blk_frozen BK972.out 0; have hfz9_1 := blk_frozen BK972.out 1; have hfz9_2 := blk_frozen BK972.out 2; have hcz10_0 : w7.cell? ⟨gb973, 0, none⟩ = some (.int .i64 a1_0) := (blk_cell BK973.out 0).trans rfl; have hcz10_1 : w7.cell? ⟨gb973, 1, none⟩ = some (.int .i64 a1_1) := (blk_cell BK973.out 1).trans rfl; have hcz10_2 : w7.cell? ⟨gb973, 2, none⟩ = some (.slice A1_2 l1_2.length c1_2) := (blk_cell BK973.out 2).trans rfl; have hfz10_0 := blk_frozen BK973.out 0; have hfz10_1 := blk_frozen BK973.out 1; have hfz10_2 := blk_frozen BK973.out 2) | (go_at_call 132; (with_reducible refine (slices_Equal_string_string.calls k _ _ l0_2 _ _ l1_2 t974 _ ?side1 ?side2 ?side3 ?side4 A5.out).mono ?_); (case side1 => exact zq (Kd.C_below HR0_2.out HB.out)); (case side2 => exact HC0_2.out); (case side3 => exact zq (Kd.C_below HR1_2.out HB.out)); (case side4 => exact HC1_2.out); rintro e w' ⟨rfl, ⟨nd, rfl⟩⟩))
   go_ret
   exact ⟨by first | rfl | (simp [errW_none, errW_some] <;> rfl) | (simp [*, errW_none, errW_some] <;> rfl), by repeat (first | (with_reducible first | exact HB.out | apply below_alloc | apply pw_below_drewN | apply below_drew1 | refine below_set ?_ GE972.out | refine below_set ?_ GE973.out) | exact HB.out)⟩
  ·rw [if_neg c4] at H
   have c4b0 : (a0_1 == a1_1) = false := beq_eq_false_iff_ne.mpr c4
   have c4b1 : (a0_1 != a1_1) = true := bne_iff_ne.mpr c4
   obtain rfl := Option.some.inj H
   go_enter Try.func166, Try.ntmps166
   go_wp2_with (first | ((with_reducible refine gate_dst (N := 2) rfl ?_); refine box_event ?hg (N := 2) ?hd (cs := #[.int .i64 a0_0, .int .i64 a0_1, .slice A0_2 l0_2.length c0_2]) (t := 111) ?hr ?_; (case hd => rfl); (case hg => rfl); (case hr => first | (go_simp; done) | (go_simp; rfl)); intro gb972 hg w11 hbox hb; have n0_ := Aside0.mk (below_step zb hb); have n1_ := Aside0.mk (hbox); have n2_ := Aside0.mk ((by rw [hg]; exact (below_size zb) : w.heap.size ≤ gb972)); have n3_ := Aside0.mk ((by rw [hg]; exact (below_size zb) : w.heap.size ≤ gb972)); clear HB; have HB := n0_; have BK972 := n1_; have GW972 := n2_; have GE972 := n3_; clear n0_ n1_ n2_ n3_; clear hb hbox hg) | ((with_reducible refine gate_dst (N := 3) rfl ?_); refine box_event ?hg (N := 3) ?hd (cs := #[.int .i64 a1_0, .int .i64 a1_1, .slice A1_2 l1_2.length c1_2]) (t := 111) ?hr ?_; (case hd => rfl); (case hg => rfl); (case hr => first | (go_simp; done) | (go_simp; rfl)); intro gb973 hg w12 hbox hb; have n0_ := Aside0.mk (blk_below (g := gb972) (o := .cells #[.int .i64 a0_0, .int .i64 a0_1, .slice A0_2 l0_2.length c0_2] 111 (0, 0)) (zk BK972.out) hb); have n1_ := Aside0.mk (below_step (by repeat (first | (with_reducible first | exact HB.out | apply below_alloc | apply pw_below_drewN | apply below_drew1 | refine below_set ?_ GE972.out) | exact HB.out)) hb); have n2_ := Aside0.mk (hbox); have n3_ := Aside0.mk ((by rw [hg]; exact (below_size (by repeat (first | (with_reducible first | exact HB.out | apply below_alloc | apply pw_below_drewN | apply below_drew1 | refine below_set ?_ GE972.out) | exact HB.out))) : w.heap.size ≤ gb973)); have n4_ := Aside0.mk ((by rw [hg]; exact (below_size (by repeat (first | (with_reducible first | exact HB.out | apply below_alloc | apply pw_below_drewN | apply below_drew1 | refine below_set ?_ GE972.out) | exact HB.out))) : w.heap.size ≤ gb973)); have n5_ := Aside0.mk ((by rw [hg]; exact Nat.ne_of_lt (blk_lt (g := gb972) (o := .cells #[.int .i64 a0_0, .int .i64 a0_1, .slice A0_2 l0_2.length c0_2] 111 (0, 0)) (zk BK972.out)) : gb972 ≠ gb973)); have n6_ := Aside0.mk ((by rw [hg]; exact Nat.ne_of_gt (blk_lt (g := gb972) (o := .cells #[.int .i64 a0_0, .int .i64 a0_1, .slice A0_2 l0_2.length c0_2] 111 (0, 0)) (zk BK972.out)) : gb973 ≠ gb972)); clear BK972; clear HB; have BK972 := n0_; have HB := n1_; have BK973 := n2_; have GW973 := n3_; have GE973 := n4_; have NB972_973 := n5_; have NB973_972 := n6_; clear n0_ n1_ n2_ n3_ n4_ n5_ n6_; clear hb hbox hg; have hnb13 := NB972_973.out; have hnc13 := NB973_972.out; have hcz14_0 : w12.cell? ⟨gb972, 0, none⟩ = some (.int .i64 a0_0) := (blk_cell BK972.out 0).trans rfl; have hcz14_1 : w12.cell? ⟨gb972, 1, none⟩ = some (.int .i64 a0_1) := (blk_cell BK972.out 1).trans rfl; have hcz14_2 : w12.cell? ⟨gb972, 2, none⟩ = some (.slice A0_2 l0_2.length c0_2) := (blk_cell BK972.out 2).trans rfl; have hfz14_0 := blk_frozen BK972.out 0; have hfz14_1 := blk_frozen BK972.out 1; have hfz14_2 := blk_frozen BK972.out 2; have hcz15_0 : w12.cell? ⟨gb973, 0, none⟩ = some (.int .i64 a1_0) := (blk_cell BK973.out 0).trans rfl; have hcz15_1 : w12.cell? ⟨gb973, 1, none⟩ = some (.int .i64 a1_1) := (blk_cell BK973.out 1).trans rfl; have hcz15_2 : w12.cell? ⟨gb973, 2, none⟩ = some (.slice A1_2 l1_2.length c1_2) := (blk_cell BK973.out 2).trans rfl; have hfz15_0 := blk_frozen BK973.out 0; have hfz15_1 := blk_frozen BK973.out 1; have hfz15_2 := blk_frozen BK973.out 2))
   go_ret
   exact ⟨by first | rfl | (simp [errW_none, errW_some] <;> rfl) | (simp [*, errW_none, errW_some] <;> rfl), by repeat (first | (with_reducible first | exact HB.out | apply below_alloc | apply pw_below_drewN | apply below_drew1 | refine below_set ?_ GE972.out | refine below_set ?_ GE973.out) | exact HB.out)⟩
 ·rw [if_neg c3] at H
  have c3b0 : (a0_0 == a1_0) = false := beq_eq_false_iff_ne.mpr c3
  have c3b1 : (a0_0 != a1_0) = true := bne_iff_ne.mpr c3
  obtain rfl := Option.some.inj H
  go_enter Try.func166, Try.ntmps166
  go_wp2_with (first | ((with_reducible refine gate_dst (N := 2) rfl ?_); refine box_event ?hg (N := 2) ?hd (cs := #[.int .i64 a0_0, .int .i64 a0_1, .slice A0_2 l0_2.length c0_2]) (t := 111) ?hr ?_; (case hd => rfl); (case hg => rfl); (case hr => first | (go_simp; done) | (go_simp; rfl)); intro gb972 hg w16 hbox hb; have n0_ := Aside0.mk (below_step zb hb); have n1_ := Aside0.mk (hbox); have n2_ := Aside0.mk ((by rw [hg]; exact (below_size zb) : w.heap.size ≤ gb972)); have n3_ := Aside0.mk ((by rw [hg]; exact (below_size zb) : w.heap.size ≤ gb972)); clear HB; have HB := n0_; have BK972 := n1_; have GW972 := n2_; have GE972 := n3_; clear n0_ n1_ n2_ n3_; clear hb hbox hg) | ((with_reducible refine gate_dst (N := 3) rfl ?_); refine box_event ?hg (N := 3) ?hd (cs := #[.int .i64 a1_0, .int .i64 a1_1, .slice A1_2 l1_2.length c1_2]) (t := 111) ?hr ?_; (case hd => rfl); (case hg => rfl); (case hr => first | (go_simp; done) | (go_simp; rfl)); intro gb973 hg w17 hbox hb; have n0_ := Aside0.mk (blk_below (g := gb972) (o := .cells #[.int .i64 a0_0, .int .i64 a0_1, .slice A0_2 l0_2.length c0_2] 111 (0, 0)) (zk BK972.out) hb); have n1_ := Aside0.mk (below_step (by repeat (first | (with_reducible first | exact HB.out | apply below_alloc | apply pw_below_drewN | apply below_drew1 | refine below_set ?_ GE972.out) | exact HB.out)) hb); have n2_ := Aside0.mk (hbox); have n3_ := Aside0.mk ((by rw [hg]; exact (below_size (by repeat (first | (with_reducible first | exact HB.out | apply below_alloc | apply pw_below_drewN | apply below_drew1 | refine below_set ?_ GE972.out) | exact HB.out))) : w.heap.size ≤ gb973)); have n4_ := Aside0.mk ((by rw [hg]; exact (below_size (by repeat (first | (with_reducible first | exact HB.out | apply below_alloc | apply pw_below_drewN | apply below_drew1 | refine below_set ?_ GE972.out) | exact HB.out))) : w.heap.size ≤ gb973)); have n5_ := Aside0.mk ((by rw [hg]; exact Nat.ne_of_lt (blk_lt (g := gb972) (o := .cells #[.int .i64 a0_0, .int .i64 a0_1, .slice A0_2 l0_2.length c0_2] 111 (0, 0)) (zk BK972.out)) : gb972 ≠ gb973)); have n6_ := Aside0.mk ((by rw [hg]; exact Nat.ne_of_gt (blk_lt (g := gb972) (o := .cells #[.int .i64 a0_0, .int .i64 a0_1, .slice A0_2 l0_2.length c0_2] 111 (0, 0)) (zk BK972.out)) : gb973 ≠ gb972)); clear BK972; clear HB; have BK972 := n0_; have HB := n1_; have BK973 := n2_; have GW973 := n3_; have GE973 := n4_; have NB972_973 := n5_; have NB973_972 := n6_; clear n0_ n1_ n2_ n3_ n4_ n5_ n6_; clear hb hbox hg; have hnb18 := NB972_973.out; have hnc18 := NB973_972.out; have hcz19_0 : w17.cell? ⟨gb972, 0, none⟩ = some (.int .i64 a0_0) := (blk_cell BK972.out 0).trans rfl; have hcz19_1 : w17.cell? ⟨gb972, 1, none⟩ = some (.int .i64 a0_1) := (blk_cell BK972.out 1).trans rfl; have hcz19_2 : w17.cell? ⟨gb972, 2, none⟩ = some (.slice A0_2 l0_2.length c0_2) := (blk_cell BK972.out 2).trans rfl; have hfz19_0 := blk_frozen BK972.out 0; have hfz19_1 := blk_frozen BK972.out 1; have hfz19_2 := blk_frozen BK972.out 2; have hcz20_0 : w17.cell? ⟨gb973, 0, none⟩ = some (.int .i64 a1_0) := (blk_cell BK973.out 0).trans rfl; have hcz20_1 : w17.cell? ⟨gb973, 1, none⟩ = some (.int .i64 a1_1) := (blk_cell BK973.out 1).trans rfl; have hcz20_2 : w17.cell? ⟨gb973, 2, none⟩ = some (.slice A1_2 l1_2.length c1_2) := (blk_cell BK973.out 2).trans rfl; have hfz20_0 := blk_frozen BK973.out 0; have hfz20_1 := blk_frozen BK973.out 1; have hfz20_2 := blk_frozen BK973.out 2))
  go_ret
  exact ⟨by first | rfl | (simp [errW_none, errW_some] <;> rfl) | (simp [*, errW_none, errW_some] <;> rfl), by repeat (first | (with_reducible first | exact HB.out | apply below_alloc | apply pw_below_drewN | apply below_drew1 | refine below_set ?_ GE972.out | refine below_set ?_ GE973.out) | exact HB.out)⟩

end Go.Proofs.Ytcefenlblnediaa.My

/- Written by this session's program (wip/gen): a plain function with the same answers as the Go function, and the proof that the Go code comes to them. Asked: that the plain function has an answer. -/
namespace Go.Proofs.Ytcefenlblnediaa.My
open Go.RowKit Go.Proofs.YtcefenlblnediaaW.PrintWords Go.Proofs.YtcefenlblnediaaW.PrintLast Go.Proofs.YtcefenlblnediaaW.PrintMore
attribute [local go_sem] max2_int min2_int max_two min_two max_three min_three max_four min_four
set_option linter.unusedVariables false
set_option linter.unusedSimpArgs false

/-! ### slices_EqualFunc_impl_Hunk_impl_Hunk_impl_Hunk_impl_Hunk__impl_sameHunks_1: function 165 -/
def slices_EqualFunc_impl_Hunk_impl_Hunk_impl_Hunk_impl_Hunk__impl_sameHunks_1.l0 : Nat → List (S111) → List (S111) → Int → Int → Option (Bool)
 | 0, _, _, _, _ => none
 | k + 1, x1, x15, x16, x17 => if x17 < x16 then (if 0 ≤ x17 then (if x17 < (x15.length : Int) then (if x17 < (x1.length : Int) then ((impl_sameHunks_1.f k ((rd_T111 x15 x17).f0) ((rd_T111 x15 x17).f1) ((rd_T111 x15 x17).f2) ((rd_T111 x1 x17).f0) ((rd_T111 x1 x17).f1) ((rd_T111 x1 x17).f2)).bind fun t979 => (if t979 = true then (slices_EqualFunc_impl_Hunk_impl_Hunk_impl_Hunk_impl_Hunk__impl_sameHunks_1.l0 k x1 x15 x16 (wrap64 (x17 + 1))) else (some false))) else (none)) else (none)) else (none)) else (some true)
def slices_EqualFunc_impl_Hunk_impl_Hunk_impl_Hunk_impl_Hunk__impl_sameHunks_1.f (k : Nat) (l0 : List (S111)) (l1 : List (S111))  : Option (Bool) := if (l0.length : Int) = (l1.length : Int) then (slices_EqualFunc_impl_Hunk_impl_Hunk_impl_Hunk_impl_Hunk__impl_sameHunks_1.l0 k l1 l0 (l0.length : Int) 0) else (some false)
set_option maxHeartbeats 8000000 in
set_option maxRecDepth 100000 in
theorem slices_EqualFunc_impl_Hunk_impl_Hunk_impl_Hunk_impl_Hunk__impl_sameHunks_1.calls (k : Nat) (A0 : Option Addr) (c0 : Nat) (l0 : List (S111)) (A1 : Option Addr) (c1 : Nat) (l1 : List (S111))  (r : Bool) (w : World) (hr0 : Kd.C k111 w A0 l0.length l0) (hc0 : l0.length ≤ c0) (hr1 : Kd.C k111 w A1 l1.length l1) (hc1 : l1.length ≤ c1) (h : slices_EqualFunc_impl_Hunk_impl_Hunk_impl_Hunk_impl_Hunk__impl_sameHunks_1.f k l0 l1 = some r) :
  Calls Try.prog 165 #[.slice A0 l0.length c0, .slice A1 l1.length c1, .func (.func 166) #[] #[]] w fun e w' => e = .returned (.bool r) ∧ Below w.heap.size w w' := by
 have hu111 := Try.underlying111
 have HR0 := Aside0.mk hr0
 have HC0 := Aside0.mk hc0
 clear hr0 hc0
 have HR1 := Aside0.mk hr1
 have HC1 := Aside0.mk hc1
 clear hr1 hc1
 have HB := Aside0.mk (Below.refl w.heap.size w)
 have H : (if (l0.length : Int) = (l1.length : Int) then (slices_EqualFunc_impl_Hunk_impl_Hunk_impl_Hunk_impl_Hunk__impl_sameHunks_1.l0 k l1 l0 (l0.length : Int) 0) else (some false)) = some r := h
 clear h
 by_cases c4 : (l0.length : Int) = (l1.length : Int)
 ·rw [if_pos c4] at H
  have c4b0 : ((l0.length : Int) == (l1.length : Int)) = true := beq_iff_eq.mpr c4
  have c4b1 : ((l0.length : Int) != (l1.length : Int)) = false := bne_eq_false_iff_eq.mpr c4
  have c4b2 : (l0.length == l1.length) = true := by first | simpa using c4 | (simp at c4 ⊢; omega)
  clear c4
  have H' := Aside0.mk H
  clear H
  go_enter Try.func165, Try.ntmps165
  go_wp2
  go_loopg [17] k (fun kq v17 w' => ∃ (x17_1 : Int), v17 = .int .i64 x17_1 ∧ Aside0 (slices_EqualFunc_impl_Hunk_impl_Hunk_impl_Hunk_impl_Hunk__impl_sameHunks_1.l0 kq l1 l0 (l0.length : Int) x17_1 = some r) ∧ Aside0 (kq ≤ k) ∧ Aside0 (Below w.heap.size w w'))
  case atStart => exact ⟨(0), zf, H', ⟨Nat.le_refl _⟩, ⟨by repeat (first | (with_reducible first | exact HB.out | apply below_alloc | apply pw_below_drewN | apply below_drew1) | exact HB.out)⟩⟩
  case round =>
   clear H'
   try clear c1
   try clear p2
   try clear c4
   try clear c4b0
   try clear c4b1
   try clear c4b2
   obtain ⟨x17_1, rfl, HA, HK1, HB⟩ := hrel
   cases gk with
   | zero => exact absurd HA.out (by simp [slices_EqualFunc_impl_Hunk_impl_Hunk_impl_Hunk_impl_Hunk__impl_sameHunks_1.l0])
   | succ k1 =>
    have H := HA.out
    clear HA
    simp only [slices_EqualFunc_impl_Hunk_impl_Hunk_impl_Hunk_impl_Hunk__impl_sameHunks_1.l0] at H
    by_cases c5 : x17_1 < (l0.length : Int)
    ·rw [if_pos c5] at H
     have c5b0 : decide (x17_1 < (l0.length : Int)) = true := decide_eq_true c5
     clear c5
     by_cases c6 : 0 ≤ x17_1
     ·rw [if_pos c6] at H
      have c6b0 : decide (0 ≤ x17_1) = true := decide_eq_true c6
      clear c6
      by_cases c7 : x17_1 < (l0.length : Int)
      ·rw [if_pos c7] at H
       have c7b0 : decide (x17_1 < (l0.length : Int)) = true := decide_eq_true c7
       clear c7
       by_cases c8 : x17_1 < (l1.length : Int)
       ·rw [if_pos c8] at H
        have c8b0 : decide (x17_1 < (l1.length : Int)) = true := decide_eq_true c8
        clear c8
        replace H := Option.bind_eq_some_iff.mp H
        obtain ⟨t979, A90, H⟩ := H
        replace H : (if t979 = true then (slices_EqualFunc_impl_Hunk_impl_Hunk_impl_Hunk_impl_Hunk__impl_sameHunks_1.l0 k1 l1 l0 (l0.length : Int) (wrap64 (x17_1 + 1))) else (some false)) = some r := H
        have A9 := Aside0.mk A90
        clear A90
        by_cases c10 : t979 = true
        ·subst c10
         have H1 : (slices_EqualFunc_impl_Hunk_impl_Hunk_impl_Hunk_impl_Hunk__impl_sameHunks_1.l0 k1 l1 l0 (l0.length : Int) (wrap64 (x17_1 + 1))) = some r := by rw [if_pos rfl] at H; exact H
         clear H
         have H := H1
         clear H1
         have H' := Aside0.mk H
         clear H
         have p975 : 0 ≤ (x17_1 : Int) := oa
         have q975 : x17_1 < (l0.length : Int) := oa
         obtain ⟨ad975, A975_2, c975_2, e975, hx975_0, hx975_1, hx975_2, hl975_2, hi975_2⟩ := at_T111 HR0.out x17_1 p975 q975
         cases e975
         replace hx975_0 := (HB.out.cell (World.block_lt_of_cell? w _ hx975_0)).trans hx975_0
         replace hx975_1 := (HB.out.cell (World.block_lt_of_cell? w _ hx975_1)).trans hx975_1
         replace hx975_2 := (HB.out.cell (World.block_lt_of_cell? w _ hx975_2)).trans hx975_2
         have HR975_2 := Aside0.mk hi975_2
         have HC975_2 := Aside0.mk hl975_2
         clear hi975_2 hl975_2
         replace p975 := eq_true p975
         replace q975 := eq_true q975
         go_wp2_with (first | ((with_reducible refine gate_dst (N := 8) rfl ?_); refine box_event ?hg (N := 8) ?hd (cs := #[.int .i64 0, .int .i64 0, .slice none 0 0]) (t := 111) ?hr ?_; (case hd => rfl); (case hg => rfl); (case hr => first | (go_simp; done) | (go_simp; rfl)); intro gb976 hg w11 hbox hb; have n0_ := Aside0.mk (below_step zb hb); have n1_ := Aside0.mk (hbox); have n2_ := Aside0.mk ((by rw [hg]; exact (below_size zb) : w.heap.size ≤ gb976)); have n3_ := Aside0.mk ((by rw [hg]; exact (below_size zb) : w.heap.size ≤ gb976)); clear HB; have HB := n0_; have BK976 := n1_; have GW976 := n2_; have GE976 := n3_; clear n0_ n1_ n2_ n3_; clear hb hbox hg; have hcz12_0 : w11.cell? ⟨gb976, 0, none⟩ = some (.int .i64 0) := (blk_cell BK976.out 0).trans rfl; have hcz12_1 : w11.cell? ⟨gb976, 1, none⟩ = some (.int .i64 0) := (blk_cell BK976.out 1).trans rfl; have hcz12_2 : w11.cell? ⟨gb976, 2, none⟩ = some (.slice none 0 0) := (blk_cell BK976.out 2).trans rfl; have hfz12_0 := blk_frozen BK976.out 0; have hfz12_1 := blk_frozen BK976.out 1; have hfz12_2 := blk_frozen BK976.out 2; have p977 : 0 ≤ (x17_1 : Int) := oa; have q977 : x17_1 < (l1.length : Int) := oa; obtain ⟨ad977, A977_2, c977_2, e977, hx977_0, hx977_1, hx977_2, hl977_2, hi977_2⟩ := at_T111 HR1.out x17_1 p977 q977; cases e977; have hn977_0 : ad977.block ≠ gb976 := Nat.ne_of_lt (Nat.lt_of_lt_of_le (zl hx977_0) GW976.out); have hn977_1 : ad977.block ≠ gb976 := Nat.ne_of_lt (Nat.lt_of_lt_of_le (zl hx977_0) GW976.out); have hn977_2 : ad977.block ≠ gb976 := Nat.ne_of_lt (Nat.lt_of_lt_of_le (zl hx977_0) GW976.out); replace hx977_0 := (HB.out.cell (World.block_lt_of_cell? w _ hx977_0)).trans hx977_0; replace hx977_1 := (HB.out.cell (World.block_lt_of_cell? w _ hx977_1)).trans hx977_1; replace hx977_2 := (HB.out.cell (World.block_lt_of_cell? w _ hx977_2)).trans hx977_2; have HR977_2 := Aside0.mk hi977_2; have HC977_2 := Aside0.mk hl977_2; clear hi977_2 hl977_2; replace hx977_0 := (cell_far (p := ⟨gb976, 0, none⟩) (zn hn977_0) (.int .i64 ((rd_T111 l0 x17_1).f0))).trans hx977_0; replace hx977_1 := (cell_far (p := ⟨gb976, 0, none⟩) (zn hn977_0) (.int .i64 ((rd_T111 l0 x17_1).f0))).trans hx977_1; replace hx977_2 := (cell_far (p := ⟨gb976, 0, none⟩) (zn hn977_0) (.int .i64 ((rd_T111 l0 x17_1).f0))).trans hx977_2; replace hx977_0 := (cell_far (p := ⟨gb976, 1, none⟩) (zn hn977_1) (.int .i64 ((rd_T111 l0 x17_1).f1))).trans hx977_0; replace hx977_1 := (cell_far (p := ⟨gb976, 1, none⟩) (zn hn977_1) (.int .i64 ((rd_T111 l0 x17_1).f1))).trans hx977_1; replace hx977_2 := (cell_far (p := ⟨gb976, 1, none⟩) (zn hn977_1) (.int .i64 ((rd_T111 l0 x17_1).f1))).trans hx977_2; replace hx977_0 := (cell_far (p := ⟨gb976, 2, none⟩) (zn hn977_2) (.slice A975_2 ((rd_T111 l0 x17_1).f2).length c975_2)).trans hx977_0; replace hx977_1 := (cell_far (p := ⟨gb976, 2, none⟩) (zn hn977_2) (.slice A975_2 ((rd_T111 l0 x17_1).f2).length c975_2)).trans hx977_1; replace hx977_2 := (cell_far (p := ⟨gb976, 2, none⟩) (zn hn977_2) (.slice A975_2 ((rd_T111 l0 x17_1).f2).length c975_2)).trans hx977_2; clear hn977_0; clear hn977_1; clear hn977_2; replace p977 := eq_true p977; replace q977 := eq_true q977) | ((with_reducible refine gate_dst (N := 9) rfl ?_); refine box_event ?hg (N := 9) ?hd (cs := #[.int .i64 0, .int .i64 0, .slice none 0 0]) (t := 111) ?hr ?_; (case hd => rfl); (case hg => rfl); (case hr => first | (go_simp; done) | (go_simp; rfl)); intro gb978 hg w13 hbox hb; have n0_ := Aside0.mk (blk_below (g := gb976) (o := .cells #[.int .i64 ((rd_T111 l0 x17_1).f0), .int .i64 ((rd_T111 l0 x17_1).f1), .slice A975_2 ((rd_T111 l0 x17_1).f2).length c975_2] 111 (0, 0)) (by (with_reducible repeat (first | refine blk_drewN ?_ _ | refine blk_drew ?_ | refine blk_alloc ?_ _)); refine blk_put (cs := #[.int .i64 ((rd_T111 l0 x17_1).f0), .int .i64 ((rd_T111 l0 x17_1).f1), .slice none 0 0]) ?_ 2 _ rfl; (with_reducible repeat (first | refine blk_drewN ?_ _ | refine blk_drew ?_ | refine blk_alloc ?_ _)); refine blk_put (cs := #[.int .i64 ((rd_T111 l0 x17_1).f0), .int .i64 0, .slice none 0 0]) ?_ 1 _ rfl; (with_reducible repeat (first | refine blk_drewN ?_ _ | refine blk_drew ?_ | refine blk_alloc ?_ _)); refine blk_put (cs := #[.int .i64 0, .int .i64 0, .slice none 0 0]) ?_ 0 _ rfl; (with_reducible repeat (first | refine blk_drewN ?_ _ | refine blk_drew ?_ | refine blk_alloc ?_ _)); exact BK976.out) hb); have n1_ := Aside0.mk (below_step (by repeat (first | (with_reducible first | exact HB.out | apply below_alloc | apply pw_below_drewN | apply below_drew1 | refine below_set ?_ GE976.out) | exact HB.out)) hb); have n2_ := Aside0.mk (hbox); have n3_ := Aside0.mk ((by rw [hg]; exact (below_size (by repeat (first | (with_reducible first | exact HB.out | apply below_alloc | apply pw_below_drewN | apply below_drew1 | refine below_set ?_ GE976.out) | exact HB.out))) : w.heap.size ≤ gb978)); have n4_ := Aside0.mk ((by rw [hg]; exact (below_size (by repeat (first | (with_reducible first | exact HB.out | apply below_alloc | apply pw_below_drewN | apply below_drew1 | refine below_set ?_ GE976.out) | exact HB.out))) : w.heap.size ≤ gb978)); have n5_ := Aside0.mk ((by rw [hg]; exact Nat.ne_of_lt (blk_lt (g := gb976) (o := .cells #[.int .i64 ((rd_T111 l0 x17_1).f0), .int .i64 ((rd_T111 l0 x17_1).f1), .slice A975_2 ((rd_T111 l0 x17_1).f2).length c975_2] 111 (0, 0)) (by (with_reducible repeat (first | refine blk_drewN ?_ _ | refine blk_drew ?_ | refine blk_alloc ?_ _)); refine blk_put (cs := #[.int .i64 ((rd_T111 l0 x17_1).f0), .int .i64 ((rd_T111 l0 x17_1).f1), .slice none 0 0]) ?_ 2 _ rfl; (with_reducible repeat (first | refine blk_drewN ?_ _ | refine blk_drew ?_ | refine blk_alloc ?_ _)); refine blk_put (cs := #[.int .i64 ((rd_T111 l0 x17_1).f0), .int .i64 0, .slice none 0 0]) ?_ 1 _ rfl; (with_reducible repeat (first | refine blk_drewN ?_ _ | refine blk_drew ?_ | refine blk_alloc ?_ _)); refine blk_put (cs := #[.int .i64 0, .int .i64 0, .slice none 0 0]) ?_ 0 _ rfl; (with_reducible repeat (first | refine blk_drewN ?_ _ | refine blk_drew ?_ | refine blk_alloc ?_ _)); exact BK976.out)) : gb976 ≠ gb978)); have n6_ := Aside0.mk ((by rw [hg]; exact Nat.ne_of_gt (blk_lt (g := gb976) (o := .cells #[.int .i64 ((rd_T111 l0 x17_1).f0), .int .i64 ((rd_T111 l0 x17_1).f1), .slice A975_2 ((rd_T111 l0 x17_1).f2).length c975_2] 111 (0, 0)) (by (with_reducible repeat (first | refine blk_drewN ?_ _ | refine blk_drew ?_ | refine blk_alloc ?_ _)); refine blk_put (cs := #[.int .i64 ((rd_T111 l0 x17_1).f0), .int .i64 ((rd_T111 l0 x17_1).f1), .slice none 0 0]) ?_ 2 _ rfl; (with_reducible repeat (first | refine blk_drewN ?_ _ | refine blk_drew ?_ | refine blk_alloc ?_ _)); refine blk_put (cs := #[.int .i64 ((rd_T111 l0 x17_1).f0), .int .i64 0, .slice none 0 0]) ?_ 1 _ rfl; (with_reducible repeat (first | refine blk_drewN ?_ _ | refine blk_drew ?_ | refine blk_alloc ?_ _)); refine blk_put (cs := #[.int .i64 0, .int .i64 0, .slice none 0 0]) ?_ 0 _ rfl; (with_reducible repeat (first | refine blk_drewN ?_ _ | refine blk_drew ?_ | refine blk_alloc ?_ _)); exact BK976.out)) : gb978 ≠ gb976)); clear BK976; clear HB; have BK976 := n0_; have HB := n1_; have BK978 := n2_; have GW978 := n3_; have GE978 := n4_; have NB976_978 := n5_; have NB978_976 := n6_; clear n0_ n1_ n2_ n3_ n4_ n5_ n6_; clear hb hbox hg; have hnb14 := NB978_976.out; have hnc14 := NB976_978.out; have hcz15_0 : w13.cell? ⟨gb978, 0, none⟩ = some (.int .i64 0) := (blk_cell BK978.out 0).trans rfl; have hcz15_1 : w13.cell? ⟨gb978, 1, none⟩ = some (.int .i64 0) := (blk_cell BK978.out 1).trans rfl; have hcz15_2 : w13.cell? ⟨gb978, 2, none⟩ = some (.slice none 0 0) := (blk_cell BK978.out 2).trans rfl; have hfz15_0 := blk_frozen BK978.out 0; have hfz15_1 := blk_frozen BK978.out 1; have hfz15_2 := blk_frozen BK978.out 2; have hcz16_0 : w13.cell? ⟨gb976, 0, none⟩ = some (.int .i64 ((rd_T111 l0 x17_1).f0)) := (blk_cell BK976.out 0).trans rfl; have hcz16_1 : w13.cell? ⟨gb976, 1, none⟩ = some (.int .i64 ((rd_T111 l0 x17_1).f1)) := (blk_cell BK976.out 1).trans rfl; have hcz16_2 : w13.cell? ⟨gb976, 2, none⟩ = some (.slice A975_2 ((rd_T111 l0 x17_1).f2).length c975_2) := (blk_cell BK976.out 2).trans rfl; have hfz16_0 := blk_frozen BK976.out 0; have hfz16_1 := blk_frozen BK976.out 1; have hfz16_2 := blk_frozen BK976.out 2) | (go_at_call 166; (with_reducible refine (impl_sameHunks_1.calls k1 ((rd_T111 l0 x17_1).f0) ((rd_T111 l0 x17_1).f1) _ _ ((rd_T111 l0 x17_1).f2) ((rd_T111 l1 x17_1).f0) ((rd_T111 l1 x17_1).f1) _ _ ((rd_T111 l1 x17_1).f2) true _ ?side1 ?side2 ?side3 ?side4 A9.out).mono ?_); (case side1 => exact Kd.C_below HR975_2.out (by repeat (first | (with_reducible first | exact HB.out | apply below_alloc | apply pw_below_drewN | apply below_drew1 | refine below_set ?_ GE976.out | refine below_set ?_ GE978.out) | exact HB.out))); (case side2 => exact HC975_2.out); (case side3 => exact Kd.C_below HR977_2.out (by repeat (first | (with_reducible first | exact HB.out | apply below_alloc | apply pw_below_drewN | apply below_drew1 | refine below_set ?_ GE976.out | refine below_set ?_ GE978.out) | exact HB.out))); (case side4 => exact HC977_2.out); rintro e w17 ⟨rfl, hb⟩; have n0_ := Aside0.mk (blk_below (g := gb976) (o := .cells #[.int .i64 ((rd_T111 l0 x17_1).f0), .int .i64 ((rd_T111 l0 x17_1).f1), .slice A975_2 ((rd_T111 l0 x17_1).f2).length c975_2] 111 (0, 0)) (by (with_reducible repeat (first | refine blk_drewN ?_ _ | refine blk_drew ?_ | refine blk_alloc ?_ _)); refine blk_far ?_ NB976_978.out _; (with_reducible repeat (first | refine blk_drewN ?_ _ | refine blk_drew ?_ | refine blk_alloc ?_ _)); refine blk_far ?_ NB976_978.out _; (with_reducible repeat (first | refine blk_drewN ?_ _ | refine blk_drew ?_ | refine blk_alloc ?_ _)); refine blk_far ?_ NB976_978.out _; (with_reducible repeat (first | refine blk_drewN ?_ _ | refine blk_drew ?_ | refine blk_alloc ?_ _)); exact BK976.out) hb); have n1_ := Aside0.mk (blk_below (g := gb978) (o := .cells #[.int .i64 ((rd_T111 l1 x17_1).f0), .int .i64 ((rd_T111 l1 x17_1).f1), .slice A977_2 ((rd_T111 l1 x17_1).f2).length c977_2] 111 (0, 0)) (by (with_reducible repeat (first | refine blk_drewN ?_ _ | refine blk_drew ?_ | refine blk_alloc ?_ _)); refine blk_put (cs := #[.int .i64 ((rd_T111 l1 x17_1).f0), .int .i64 ((rd_T111 l1 x17_1).f1), .slice none 0 0]) ?_ 2 _ rfl; (with_reducible repeat (first | refine blk_drewN ?_ _ | refine blk_drew ?_ | refine blk_alloc ?_ _)); refine blk_put (cs := #[.int .i64 ((rd_T111 l1 x17_1).f0), .int .i64 0, .slice none 0 0]) ?_ 1 _ rfl; (with_reducible repeat (first | refine blk_drewN ?_ _ | refine blk_drew ?_ | refine blk_alloc ?_ _)); refine blk_put (cs := #[.int .i64 0, .int .i64 0, .slice none 0 0]) ?_ 0 _ rfl; (with_reducible repeat (first | refine blk_drewN ?_ _ | refine blk_drew ?_ | refine blk_alloc ?_ _)); exact BK978.out) hb); have n2_ := Aside0.mk (below_step (by repeat (first | (with_reducible first | exact HB.out | apply below_alloc | apply pw_below_drewN | apply below_drew1 | refine below_set ?_ GE976.out | refine below_set ?_ GE978.out) | exact HB.out)) hb); clear BK976; clear BK978; clear HB; have BK976 := n0_; have BK978 := n1_; have HB := n2_; clear n0_ n1_ n2_; (try clear hb); (try clear hb2); (try clear hk); (try clear hi)))
         go_roundg k1
         case measure => have := HK1.out; omega
         case rel => exact ⟨(wrap64 (x17_1 + 1)), zf, H', ⟨by have := HK1.out; omega⟩, ⟨by repeat (first | (with_reducible first | exact HB.out | apply below_alloc | apply pw_below_drewN | apply below_drew1 | refine below_set ?_ GE976.out | refine below_set ?_ GE978.out) | exact HB.out)⟩⟩
        ·replace c10 := Bool.eq_false_iff.mpr c10
         subst c10
         have H1 : (some false) = some r := by rw [if_neg (show ¬ (false = true) by decide)] at H; exact H
         clear H
         have H := H1
         clear H1
         obtain rfl := Option.some.inj H
         have p975 : 0 ≤ (x17_1 : Int) := oa
         have q975 : x17_1 < (l0.length : Int) := oa
         obtain ⟨ad975, A975_2, c975_2, e975, hx975_0, hx975_1, hx975_2, hl975_2, hi975_2⟩ := at_T111 HR0.out x17_1 p975 q975
         cases e975
         replace hx975_0 := (HB.out.cell (World.block_lt_of_cell? w _ hx975_0)).trans hx975_0
         replace hx975_1 := (HB.out.cell (World.block_lt_of_cell? w _ hx975_1)).trans hx975_1
         replace hx975_2 := (HB.out.cell (World.block_lt_of_cell? w _ hx975_2)).trans hx975_2
         have HR975_2 := Aside0.mk hi975_2
         have HC975_2 := Aside0.mk hl975_2
         clear hi975_2 hl975_2
         replace p975 := eq_true p975
         replace q975 := eq_true q975
         go_wp2_with (first | ((with_reducible refine gate_dst (N := 8) rfl ?_); refine box_event ?hg (N := 8) ?hd (cs := #[.int .i64 0, .int .i64 0, .slice none 0 0]) (t := 111) ?hr ?_; (case hd => rfl); (case hg => rfl); (case hr => first | (go_simp; done) | (go_simp; rfl)); intro gb976 hg w18 hbox hb; have n0_ := Aside0.mk (below_step zb hb); have n1_ := Aside0.mk (hbox); have n2_ := Aside0.mk ((by rw [hg]; exact (below_size zb) : w.heap.size ≤ gb976)); have n3_ := Aside0.mk ((by rw [hg]; exact (below_size zb) : w.heap.size ≤ gb976)); clear HB; have HB := n0_; have BK976 := n1_; have GW976 := n2_; have GE976 := n3_; clear n0_ n1_ n2_ n3_; clear hb hbox hg; have hcz19_0 : w18.cell? ⟨gb976, 0, none⟩ = some (.int .i64 0) := (blk_cell BK976.out 0).trans rfl; have hcz19_1 : w18.cell? ⟨gb976, 1, none⟩ = some (.int .i64 0) := (blk_cell BK976.out 1).trans rfl; have hcz19_2 : w18.cell? ⟨gb976, 2, none⟩ = some (.slice none 0 0) := (blk_cell BK976.out 2).trans rfl; have hfz19_0 := blk_frozen BK976.out 0; have hfz19_1 := blk_frozen BK976.out 1; have hfz19_2 := blk_frozen BK976.out 2; have p977 : 0 ≤ (x17_1 : Int) := oa; have q977 : x17_1 < (l1.length : Int) := oa; obtain ⟨ad977, A977_2, c977_2, e977, hx977_0, hx977_1, hx977_2, hl977_2, hi977_2⟩ := at_T111 HR1.out x17_1 p977 q977; cases e977; have hn977_0 : ad977.block ≠ gb976 := Nat.ne_of_lt (Nat.lt_of_lt_of_le (zl hx977_0) GW976.out); have hn977_1 : ad977.block ≠ gb976 := Nat.ne_of_lt (Nat.lt_of_lt_of_le (zl hx977_0) GW976.out); have hn977_2 : ad977.block ≠ gb976 := Nat.ne_of_lt (Nat.lt_of_lt_of_le (zl hx977_0) GW976.out); replace hx977_0 := (HB.out.cell (World.block_lt_of_cell? w _ hx977_0)).trans hx977_0; replace hx977_1 := (HB.out.cell (World.block_lt_of_cell? w _ hx977_1)).trans hx977_1; replace hx977_2 := (HB.out.cell (World.block_lt_of_cell? w _ hx977_2)).trans hx977_2; have HR977_2 := Aside0.mk hi977_2; have HC977_2 := Aside0.mk hl977_2; clear hi977_2 hl977_2; replace hx977_0 := (cell_far (p := ⟨gb976, 0, none⟩) (zn hn977_0) (.int .i64 ((rd_T111 l0 x17_1).f0))).trans hx977_0; replace hx977_1 := (cell_far (p := ⟨gb976, 0, none⟩) (zn hn977_0) (.int .i64 ((rd_T111 l0 x17_1).f0))).trans hx977_1; replace hx977_2 := (cell_far (p := ⟨gb976, 0, none⟩) (zn hn977_0) (.int .i64 ((rd_T111 l0 x17_1).f0))).trans hx977_2; replace hx977_0 := (cell_far (p := ⟨gb976, 1, none⟩) (zn hn977_1) (.int .i64 ((rd_T111 l0 x17_1).f1))).trans hx977_0; replace hx977_1 := (cell_far (p := ⟨gb976, 1, none⟩) (zn hn977_1) (.int .i64 ((rd_T111 l0 x17_1).f1))).trans hx977_1; replace hx977_2 := (cell_far (p := ⟨gb976, 1, none⟩) (zn hn977_1) (.int .i64 ((rd_T111 l0 x17_1).f1))).trans hx977_2; replace hx977_0 := (cell_far (p := ⟨gb976, 2, none⟩) (zn hn977_2) (.slice A975_2 ((rd_T111 l0 x17_1).f2).length c975_2)).trans hx977_0; replace hx977_1 := (cell_far (p := ⟨gb976, 2, none⟩) (zn hn977_2) (.slice A975_2 ((rd_T111 l0 x17_1).f2).length c975_2)).trans hx977_1; replace hx977_2 := (cell_far (p := ⟨gb976, 2, none⟩) (zn hn977_2) (.slice A975_2 ((rd_T111 l0 x17_1).f2).length c975_2)).trans hx977_2; clear hn977_0; clear hn977_1; clear hn977_2; replace p977 := eq_true p977; replace q977 := eq_true q977) | ((with_reducible refine gate_dst (N := 9) rfl ?_); refine box_event ?hg (N := 9) ?hd (cs := #[.int .i64 0, .int .i64 0, .slice none 0 0]) (t := 111) ?hr ?_; (case hd => rfl); (case hg => rfl); (case hr => first | (go_simp; done) | (go_simp; rfl)); intro gb978 hg w20 hbox hb; have n0_ := Aside0.mk (blk_below (g := gb976) (o := .cells #[.int .i64 ((rd_T111 l0 x17_1).f0), .int .i64 ((rd_T111 l0 x17_1).f1), .slice A975_2 ((rd_T111 l0 x17_1).f2).length c975_2] 111 (0, 0)) (by (with_reducible repeat (first | refine blk_drewN ?_ _ | refine blk_drew ?_ | refine blk_alloc ?_ _)); refine blk_put (cs := #[.int .i64 ((rd_T111 l0 x17_1).f0), .int .i64 ((rd_T111 l0 x17_1).f1), .slice none 0 0]) ?_ 2 _ rfl; (with_reducible repeat (first | refine blk_drewN ?_ _ | refine blk_drew ?_ | refine blk_alloc ?_ _)); refine blk_put (cs := #[.int .i64 ((rd_T111 l0 x17_1).f0), .int .i64 0, .slice none 0 0]) ?_ 1 _ rfl; (with_reducible repeat (first | refine blk_drewN ?_ _ | refine blk_drew ?_ | refine blk_alloc ?_ _)); refine blk_put (cs := #[.int .i64 0, .int .i64 0, .slice none 0 0]) ?_ 0 _ rfl; (with_reducible repeat (first | refine blk_drewN ?_ _ | refine blk_drew ?_ | refine blk_alloc ?_ _)); exact BK976.out) hb); have n1_ := Aside0.mk (below_step (by repeat (first | (with_reducible first | exact HB.out | apply below_alloc | apply pw_below_drewN | apply below_drew1 | refine below_set ?_ GE976.out) | exact HB.out)) hb); have n2_ := Aside0.mk (hbox); have n3_ := Aside0.mk ((by rw [hg]; exact (below_size (by repeat (first | (with_reducible first | exact HB.out | apply below_alloc | apply pw_below_drewN | apply below_drew1 | refine below_set ?_ GE976.out) | exact HB.out))) : w.heap.size ≤ gb978)); have n4_ := Aside0.mk ((by rw [hg]; exact (below_size (by repeat (first | (with_reducible first | exact HB.out | apply below_alloc | apply pw_below_drewN | apply below_drew1 | refine below_set ?_ GE976.out) | exact HB.out))) : w.heap.size ≤ gb978)); have n5_ := Aside0.mk ((by rw [hg]; exact Nat.ne_of_lt (blk_lt (g := gb976) (o := .cells #[.int .i64 ((rd_T111 l0 x17_1).f0), .int .i64 ((rd_T111 l0 x17_1).f1), .slice A975_2 ((rd_T111 l0 x17_1).f2).length c975_2] 111 (0, 0)) (by (with_reducible repeat (first | refine blk_drewN ?_ _ | refine blk_drew ?_ | refine blk_alloc ?_ _)); refine blk_put (cs := #[.int .i64 ((rd_T111 l0 x17_1).f0), .int .i64 ((rd_T111 l0 x17_1).f1), .slice none 0 0]) ?_ 2 _ rfl; (with_reducible repeat (first | refine blk_drewN ?_ _ | refine blk_drew ?_ | refine blk_alloc ?_ _)); refine blk_put (cs := #[.int .i64 ((rd_T111 l0 x17_1).f0), .int .i64 0, .slice none 0 0]) ?_ 1 _ rfl; (with_reducible repeat (first | refine blk_drewN ?_ _ | refine blk_drew ?_ | refine blk_alloc ?_ _)); refine blk_put (cs := #[.int .i64 0, .int .i64 0, .slice none 0 0]) ?_ 0 _ rfl; (with_reducible repeat (first | refine blk_drewN ?_ _ | refine blk_drew ?_ | refine blk_alloc ?_ _)); exact BK976.out)) : gb976 ≠ gb978)); have n6_ := Aside0.mk ((by rw [hg]; exact Nat.ne_of_gt (blk_lt (g := gb976) (o := .cells #[.int .i64 ((rd_T111 l0 x17_1).f0), .int .i64 ((rd_T111 l0 x17_1).f1), .slice A975_2 ((rd_T111 l0 x17_1).f2).length c975_2] 111 (0, 0)) (by (with_reducible repeat (first | refine blk_drewN ?_ _ | refine blk_drew ?_ | refine blk_alloc ?_ _)); refine blk_put (cs := #[.int .i64 ((rd_T111 l0 x17_1).f0), .int .i64 ((rd_T111 l0 x17_1).f1), .slice none 0 0]) ?_ 2 _ rfl; (with_reducible repeat (first | refine blk_drewN ?_ _ | refine blk_drew ?_ | refine blk_alloc ?_ _)); refine blk_put (cs := #[.int .i64 ((rd_T111 l0 x17_1).f0), .int .i64 0, .slice none 0 0]) ?_ 1 _ rfl; (with_reducible repeat (first | refine blk_drewN ?_ _ | refine blk_drew ?_ | refine blk_alloc ?_ _)); refine blk_put (cs := #[.int .i64 0, .int .i64 0, .slice none 0 0]) ?_ 0 _ rfl; (with_reducible repeat (first | refine blk_drewN ?_ _ | refine blk_drew ?_ | refine blk_alloc ?_ _)); exact BK976.out)) : gb978 ≠ gb976)); clear BK976; clear HB; have BK976 := n0_; have HB := n1_; have BK978 := n2_; have GW978 := n3_; have GE978 := n4_; have NB976_978 := n5_; have NB978_976 := n6_; clear n0_ n1_ n2_ n3_ n4_ n5_ n6_; clear hb hbox hg; have hnb21 := NB978_976.out; have hnc21 := NB976_978.out; have hcz22_0 : w20.cell? ⟨gb978, 0, none⟩ = some (.int .i64 0) := (blk_cell BK978.out 0).trans rfl; have hcz22_1 : w20.cell? ⟨gb978, 1, none⟩ = some (.int .i64 0) := (blk_cell BK978.out 1).trans rfl; have hcz22_2 : w20.cell? ⟨gb978, 2, none⟩ = some (.slice none 0 0) := (blk_cell BK978.out 2).trans rfl; have hfz22_0 := blk_frozen BK978.out 0; have hfz22_1 := blk_frozen BK978.out 1; have hfz22_2 := blk_frozen BK978.out 2; have hcz23_0 : w20.cell? ⟨gb976, 0, none⟩ = some (.int .i64 ((rd_T111 l0 x17_1).f0)) := (blk_cell BK976.out 0).trans rfl; have hcz23_1 : w20.cell? ⟨gb976, 1, none⟩ = some (.int .i64 ((rd_T111 l0 x17_1).f1)) := (blk_cell BK976.out 1).trans rfl; have hcz23_2 : w20.cell? ⟨gb976, 2, none⟩ = some (.slice A975_2 ((rd_T111 l0 x17_1).f2).length c975_2) := (blk_cell BK976.out 2).trans rfl; have hfz23_0 := blk_frozen BK976.out 0; have hfz23_1 := blk_frozen BK976.out 1; have hfz23_2 := blk_frozen BK976.out 2) | (go_at_call 166; (with_reducible refine (impl_sameHunks_1.calls k1 ((rd_T111 l0 x17_1).f0) ((rd_T111 l0 x17_1).f1) _ _ ((rd_T111 l0 x17_1).f2) ((rd_T111 l1 x17_1).f0) ((rd_T111 l1 x17_1).f1) _ _ ((rd_T111 l1 x17_1).f2) false _ ?side1 ?side2 ?side3 ?side4 A9.out).mono ?_); (case side1 => exact Kd.C_below HR975_2.out (by repeat (first | (with_reducible first | exact HB.out | apply below_alloc | apply pw_below_drewN | apply below_drew1 | refine below_set ?_ GE976.out | refine below_set ?_ GE978.out) | exact HB.out))); (case side2 => exact HC975_2.out); (case side3 => exact Kd.C_below HR977_2.out (by repeat (first | (with_reducible first | exact HB.out | apply below_alloc | apply pw_below_drewN | apply below_drew1 | refine below_set ?_ GE976.out | refine below_set ?_ GE978.out) | exact HB.out))); (case side4 => exact HC977_2.out); rintro e w24 ⟨rfl, hb⟩; have n0_ := Aside0.mk (blk_below (g := gb976) (o := .cells #[.int .i64 ((rd_T111 l0 x17_1).f0), .int .i64 ((rd_T111 l0 x17_1).f1), .slice A975_2 ((rd_T111 l0 x17_1).f2).length c975_2] 111 (0, 0)) (by (with_reducible repeat (first | refine blk_drewN ?_ _ | refine blk_drew ?_ | refine blk_alloc ?_ _)); refine blk_far ?_ NB976_978.out _; (with_reducible repeat (first | refine blk_drewN ?_ _ | refine blk_drew ?_ | refine blk_alloc ?_ _)); refine blk_far ?_ NB976_978.out _; (with_reducible repeat (first | refine blk_drewN ?_ _ | refine blk_drew ?_ | refine blk_alloc ?_ _)); refine blk_far ?_ NB976_978.out _; (with_reducible repeat (first | refine blk_drewN ?_ _ | refine blk_drew ?_ | refine blk_alloc ?_ _)); exact BK976.out) hb); have n1_ := Aside0.mk (blk_below (g := gb978) (o := .cells #[.int .i64 ((rd_T111 l1 x17_1).f0), .int .i64 ((rd_T111 l1 x17_1).f1), .slice A977_2 ((rd_T111 l1 x17_1).f2).length c977_2] 111 (0, 0)) (by (with_reducible repeat (first | refine blk_drewN ?_ _ | refine blk_drew ?_ | refine blk_alloc ?_ _)); refine blk_put (cs := #[.int .i64 ((rd_T111 l1 x17_1).f0), .int .i64 ((rd_T111 l1 x17_1).f1), .slice none 0 0]) ?_ 2 _ rfl; (with_reducible repeat (first | refine blk_drewN ?_ _ | refine blk_drew ?_ | refine blk_alloc ?_ _)); refine blk_put (cs := #[.int .i64 ((rd_T111 l1 x17_1).f0), .int .i64 0, .slice none 0 0]) ?_ 1 _ rfl; (with_reducible repeat (first | refine blk_drewN ?_ _ | refine blk_drew ?_ | refine blk_alloc ?_ _)); refine blk_put (cs := #[.int .i64 0, .int .i64 0, .slice none 0 0]) ?_ 0 _ rfl; (with_reducible repeat (first | refine blk_drewN ?_ _ | refine blk_drew ?_ | refine blk_alloc ?_ _)); exact BK978.out) hb); have n2_ := Aside0.mk (below_step (by repeat (first | (with_reducible first | exact HB.out | apply below_alloc | apply pw_below_drewN | apply below_drew1 | refine below_set ?_ GE976.out | refine below_set ?_ GE978.out) | exact HB.out)) hb); clear BK976; clear BK978; clear HB; have BK976 := n0_; have BK978 := n1_; have HB := n2_; clear n0_ n1_ n2_; (try clear hb); (try clear hb2); (try clear hk); (try clear hi)))
         go_ret
         exact ⟨by first | rfl | (simp [errW_none, errW_some] <;> rfl) | (simp [*, errW_none, errW_some] <;> rfl), by repeat (first | (with_reducible first | exact HB.out | apply below_alloc | apply pw_below_drewN | apply below_drew1 | refine below_set ?_ GE976.out | refine below_set ?_ GE978.out) | exact HB.out)⟩
       ·rw [if_neg c8] at H
        exact absurd H (by simp)
      ·rw [if_neg c7] at H
       exact absurd H (by simp)
     ·rw [if_neg c6] at H
      exact absurd H (by simp)
    ·rw [if_neg c5] at H
     have c5b0 : decide (x17_1 < (l0.length : Int)) = false := decide_eq_false c5
     clear c5
     obtain rfl := Option.some.inj H
     go_wp2
     go_ret
     exact ⟨by first | rfl | (simp [errW_none, errW_some] <;> rfl) | (simp [*, errW_none, errW_some] <;> rfl), by repeat (first | (with_reducible first | exact HB.out | apply below_alloc | apply pw_below_drewN | apply below_drew1) | exact HB.out)⟩
 ·rw [if_neg c4] at H
  have c4b0 : ((l0.length : Int) == (l1.length : Int)) = false := beq_eq_false_iff_ne.mpr c4
  have c4b1 : ((l0.length : Int) != (l1.length : Int)) = true := bne_iff_ne.mpr c4
  have c4b2 : (l0.length == l1.length) = false := by first | simpa using c4 | (simp at c4 ⊢; omega)
  obtain rfl := Option.some.inj H
  go_enter Try.func165, Try.ntmps165
  go_wp2
  go_ret
  exact ⟨by first | rfl | (simp [errW_none, errW_some] <;> rfl) | (simp [*, errW_none, errW_some] <;> rfl), by repeat (first | (with_reducible first | exact HB.out | apply below_alloc | apply pw_below_drewN | apply below_drew1) | exact HB.out)⟩

end Go.Proofs.Ytcefenlblnediaa.My

/- Written by this session's program (wip/gen): a plain function with the same answers as the Go function, and the proof that the Go code comes to them. Asked: that the plain function has an answer. -/
namespace Go.Proofs.Ytcefenlblnediaa.My
open Go.RowKit Go.Proofs.YtcefenlblnediaaW.PrintWords Go.Proofs.YtcefenlblnediaaW.PrintLast Go.Proofs.YtcefenlblnediaaW.PrintMore
attribute [local go_sem] max2_int min2_int max_two min_two max_three min_three max_four min_four
set_option linter.unusedVariables false
set_option linter.unusedSimpArgs false

/-! ### impl_sameHunks: function 116 -/
def impl_sameHunks.f (k : Nat) (l0 : List (S111)) (l1 : List (S111)) : Option (Bool) := (slices_EqualFunc_impl_Hunk_impl_Hunk_impl_Hunk_impl_Hunk__impl_sameHunks_1.f k l0 l1).bind fun t975 => (some t975)
set_option maxHeartbeats 8000000 in
set_option maxRecDepth 100000 in
theorem impl_sameHunks.calls (k : Nat) (A0 : Option Addr) (c0 : Nat) (l0 : List (S111)) (A1 : Option Addr) (c1 : Nat) (l1 : List (S111)) (r : Bool) (w : World) (hr0 : Kd.C k111 w A0 l0.length l0) (hc0 : l0.length ≤ c0) (hr1 : Kd.C k111 w A1 l1.length l1) (hc1 : l1.length ≤ c1) (h : impl_sameHunks.f k l0 l1 = some r) :
  Calls Try.prog 116 #[.slice A0 l0.length c0, .slice A1 l1.length c1] w fun e w' => e = .returned (.bool r) ∧ Below w.heap.size w w' := by
 have HR0 := Aside0.mk hr0
 have HC0 := Aside0.mk hc0
 clear hr0 hc0
 have HR1 := Aside0.mk hr1
 have HC1 := Aside0.mk hc1
 clear hr1 hc1
 have HB := Aside0.mk (Below.refl w.heap.size w)
 have H : ((slices_EqualFunc_impl_Hunk_impl_Hunk_impl_Hunk_impl_Hunk__impl_sameHunks_1.f k l0 l1).bind fun t975 => (some t975)) = some r := h
 clear h
 replace H := Option.bind_eq_some_iff.mp H
 obtain ⟨t975, A30, H⟩ := H
 replace H : (some t975) = some r := H
 have A3 := Aside0.mk A30
 clear A30
 obtain rfl := Option.some.inj H
 go_enter Try.func116, Try.ntmps116
 go_wp2_with (first | ((with_reducible refine gateC (f := 165) rfl ?_); refine goesL_ (some 7) rfl rfl Try.func165 (by kernel_rfl) rfl #[.slice A0 l0.length c0, .slice A1 l1.length c1, .func (.func 166) #[] #[]] rfl zm ?_; (with_reducible refine (slices_EqualFunc_impl_Hunk_impl_Hunk_impl_Hunk_impl_Hunk__impl_sameHunks_1.calls k _ _ l0 _ _ l1  t975 _ ?side1 ?side2 ?side3 ?side4 A3.out).mono ?_); (case side1 => exact zq HR0.out); (case side2 => exact HC0.out); (case side3 => exact zq HR1.out); (case side4 => exact HC1.out); rintro e w4 ⟨rfl, hb⟩; refine ⟨_, rfl, ?_⟩; have n0_ := Aside0.mk (below_step zb hb); clear HB; have HB := n0_; clear n0_; (try clear hb); (try clear hb2); (try clear hk); (try clear hi)))
 go_ret
 exact ⟨by first | rfl | (simp [errW_none, errW_some] <;> rfl) | (simp [*, errW_none, errW_some] <;> rfl), by repeat (first | (with_reducible first | exact HB.out | apply below_alloc | apply pw_below_drewN | apply below_drew1) | exact HB.out)⟩

end Go.Proofs.Ytcefenlblnediaa.My

/- Written by this session's program (wip/gen): a plain function with the same answers as the Go function, and the proof that the Go code comes to them. Asked: that the plain function has an answer. -/
namespace Go.Proofs.Ytcefenlblnediaa.My
open Go.RowKit Go.Proofs.YtcefenlblnediaaW.PrintWords Go.Proofs.YtcefenlblnediaaW.PrintLast Go.Proofs.YtcefenlblnediaaW.PrintMore
attribute [local go_sem] max2_int min2_int max_two min_two max_three min_three max_four min_four
set_option linter.unusedVariables false
set_option linter.unusedSimpArgs false

/-! ### impl_SameHunks: function 55 -/
def impl_SameHunks.f (k : Nat) (l0 : List (S111)) (l1 : List (S111)) : Option (Bool) := (impl_sameHunks.f k l0 l1).bind fun t976 => (some t976)
set_option maxHeartbeats 8000000 in
set_option maxRecDepth 100000 in
theorem impl_SameHunks.calls (k : Nat) (A0 : Option Addr) (c0 : Nat) (l0 : List (S111)) (A1 : Option Addr) (c1 : Nat) (l1 : List (S111)) (r : Bool) (w : World) (hr0 : Kd.C k111 w A0 l0.length l0) (hc0 : l0.length ≤ c0) (hr1 : Kd.C k111 w A1 l1.length l1) (hc1 : l1.length ≤ c1) (h : impl_SameHunks.f k l0 l1 = some r) :
  Calls Try.prog 55 #[.slice A0 l0.length c0, .slice A1 l1.length c1] w fun e w' => e = .returned (.bool r) ∧ Below w.heap.size w w' := by
 have HR0 := Aside0.mk hr0
 have HC0 := Aside0.mk hc0
 clear hr0 hc0
 have HR1 := Aside0.mk hr1
 have HC1 := Aside0.mk hc1
 clear hr1 hc1
 have HB := Aside0.mk (Below.refl w.heap.size w)
 have H : ((impl_sameHunks.f k l0 l1).bind fun t976 => (some t976)) = some r := h
 clear h
 replace H := Option.bind_eq_some_iff.mp H
 obtain ⟨t976, A30, H⟩ := H
 replace H : (some t976) = some r := H
 have A3 := Aside0.mk A30
 clear A30
 obtain rfl := Option.some.inj H
 go_enter Try.func55, Try.ntmps55
 go_wp2_with (first | ((with_reducible refine gateC (f := 116) rfl ?_); refine goesL_ (some 7) rfl rfl Try.func116 (by kernel_rfl) rfl #[.slice A0 l0.length c0, .slice A1 l1.length c1] rfl zm ?_; (with_reducible refine (impl_sameHunks.calls k _ _ l0 _ _ l1 t976 _ ?side1 ?side2 ?side3 ?side4 A3.out).mono ?_); (case side1 => exact zq HR0.out); (case side2 => exact HC0.out); (case side3 => exact zq HR1.out); (case side4 => exact HC1.out); rintro e w4 ⟨rfl, hb⟩; refine ⟨_, rfl, ?_⟩; have n0_ := Aside0.mk (below_step zb hb); clear HB; have HB := n0_; clear n0_; (try clear hb); (try clear hb2); (try clear hk); (try clear hi)))
 go_ret
 exact ⟨by first | rfl | (simp [errW_none, errW_some] <;> rfl) | (simp [*, errW_none, errW_some] <;> rfl), by repeat (first | (with_reducible first | exact HB.out | apply below_alloc | apply pw_below_drewN | apply below_drew1) | exact HB.out)⟩

end Go.Proofs.Ytcefenlblnediaa.My

/- Written by this session's program (wip/gen): a plain function with the same answers as the Go function, and the proof that the Go code comes to them. Asked: that the plain function has an answer. -/
namespace Go.Proofs.Ytcefenlblnediaa.My
open Go.RowKit Go.Proofs.YtcefenlblnediaaW.PrintWords Go.Proofs.YtcefenlblnediaaW.PrintLast Go.Proofs.YtcefenlblnediaaW.PrintMore
attribute [local go_sem] max2_int min2_int max_two min_two max_three min_three max_four min_four
set_option linter.unusedVariables false
set_option linter.unusedSimpArgs false

/-! ### laws_big: function 32 -/
def laws_big.f (l0 : List Int) (l1 : List Int) : Option (Bool) := if (l0.length : Int) > 1048576 then (some true) else (some (decide ((l1.length : Int) > (wrap64 (1048576 - (l0.length : Int))))))
set_option maxHeartbeats 8000000 in
set_option maxRecDepth 100000 in
theorem laws_big.calls (A0 : Option Addr) (c0 : Nat) (l0 : List Int) (A1 : Option Addr) (c1 : Nat) (l1 : List Int) (r : Bool) (w : World) (hr0 : Kd.C (Kd.int .u8) w A0 l0.length l0) (hc0 : l0.length ≤ c0) (hr1 : Kd.C (Kd.int .u8) w A1 l1.length l1) (hc1 : l1.length ≤ c1) (h : laws_big.f l0 l1 = some r) :
  Calls Try.prog 32 #[.slice A0 l0.length c0, .slice A1 l1.length c1] w fun e w' => e = .returned (.bool r) ∧ Drawn0 w w' := by
 have HR0 := Aside0.mk hr0
 have HC0 := Aside0.mk hc0
 clear hr0 hc0
 have HR1 := Aside0.mk hr1
 have HC1 := Aside0.mk hc1
 clear hr1 hc1
 have H : (if (l0.length : Int) > 1048576 then (some true) else (some (decide ((l1.length : Int) > (wrap64 (1048576 - (l0.length : Int))))))) = some r := h
 clear h
 by_cases c3 : (l0.length : Int) > 1048576
 ·rw [if_pos c3] at H
  have c3b0 : decide (1048576 < (l0.length : Int)) = true := decide_eq_true c3
  have c3b1 : decide (1048576 < l0.length) = true := decide_eq_true (by omega)
  clear c3
  obtain rfl := Option.some.inj H
  go_enter Try.func32, Try.ntmps32
  go_wp2
  go_ret
  exact ⟨by first | rfl | (simp; done) | (simp [*]; done), by repeat (first | exact Drawn0.refl _ | apply Drawn0.step)⟩
 ·rw [if_neg c3] at H
  have c3b0 : decide (1048576 < (l0.length : Int)) = false := decide_eq_false c3
  have c3b1 : decide (1048576 < l0.length) = false := decide_eq_false (by omega)
  clear c3
  obtain rfl := Option.some.inj H
  go_enter Try.func32, Try.ntmps32
  go_wp2
  go_ret
  exact ⟨by first | rfl | (simp; done) | (simp [*]; done), by repeat (first | exact Drawn0.refl _ | apply Drawn0.step)⟩

end Go.Proofs.Ytcefenlblnediaa.My

/- Written by this session's program (wip/gen): a plain function with the same answers as the Go function, and the proof that the Go code comes to them. Asked: that the plain function has an answer. -/
namespace Go.Proofs.Ytcefenlblnediaa.My
open Go.RowKit Go.Proofs.YtcefenlblnediaaW.PrintWords Go.Proofs.YtcefenlblnediaaW.PrintLast Go.Proofs.YtcefenlblnediaaW.PrintMore
attribute [local go_sem] max2_int min2_int max_two min_two max_three min_three max_four min_four
set_option linter.unusedVariables false
set_option linter.unusedSimpArgs false

/-! ### laws_sameTexts: function 36 -/
def laws_sameTexts.l0 : Nat → List ByteArray → List ByteArray → Int → Int → Option (Bool)
 | 0, _, _, _, _ => none
 | k + 1, x0, x1, x12, x13 => if x13 < x12 then (if 0 ≤ x13 then (if x13 < (x0.length : Int) then (if x13 < (x1.length : Int) then (if (rdOf ByteArray.empty x0 x13).toList = (rdOf ByteArray.empty x1 x13).toList then (laws_sameTexts.l0 k x0 x1 x12 (wrap64 (x13 + 1))) else (some false)) else (none)) else (none)) else (none)) else (some true)
def laws_sameTexts.f (k : Nat) (l0 : List ByteArray) (l1 : List ByteArray) : Option (Bool) := if (l0.length : Int) = (l1.length : Int) then (laws_sameTexts.l0 k l0 l1 (l0.length : Int) 0) else (some false)
set_option maxHeartbeats 8000000 in
set_option maxRecDepth 100000 in
theorem laws_sameTexts.calls (k : Nat) (A0 : Option Addr) (c0 : Nat) (l0 : List ByteArray) (A1 : Option Addr) (c1 : Nat) (l1 : List ByteArray) (r : Bool) (w : World) (hr0 : Kd.C Kd.string w A0 l0.length l0) (hc0 : l0.length ≤ c0) (hr1 : Kd.C Kd.string w A1 l1.length l1) (hc1 : l1.length ≤ c1) (h : laws_sameTexts.f k l0 l1 = some r) :
  Calls Try.prog 36 #[.slice A0 l0.length c0, .slice A1 l1.length c1] w fun e w' => e = .returned (.bool r) ∧ Drawn0 w w' := by
 have HR0 := Aside0.mk hr0
 have HC0 := Aside0.mk hc0
 clear hr0 hc0
 have HR1 := Aside0.mk hr1
 have HC1 := Aside0.mk hc1
 clear hr1 hc1
 have H : (if (l0.length : Int) = (l1.length : Int) then (laws_sameTexts.l0 k l0 l1 (l0.length : Int) 0) else (some false)) = some r := h
 clear h
 by_cases c3 : (l0.length : Int) = (l1.length : Int)
 ·rw [if_pos c3] at H
  have c3b0 : ((l0.length : Int) == (l1.length : Int)) = true := beq_iff_eq.mpr c3
  have c3b1 : ((l0.length : Int) != (l1.length : Int)) = false := bne_eq_false_iff_eq.mpr c3
  have c3b2 : (l0.length == l1.length) = true := by first | simpa using c3 | (simp at c3 ⊢; omega)
  clear c3
  have H' := Aside0.mk H
  clear H
  go_enter Try.func36, Try.ntmps36
  go_wp2
  repeat (go_quiet (fail); try go_wp2)
  go_loopg [13] k (fun kq v13 w' => ∃ (x13_1 : Int), v13 = .int .i64 x13_1 ∧ Aside0 (laws_sameTexts.l0 kq l0 l1 (l0.length : Int) x13_1 = some r) ∧ Aside0 (kq ≤ k) ∧ Drawn0 w w')
  case atStart => exact ⟨(0), zf, H', ⟨Nat.le_refl _⟩, by repeat (first | exact Drawn0.refl _ | apply Drawn0.step)⟩
  case round =>
   clear H'
   try clear c1
   try clear p2
   try clear c3
   try clear c3b0
   try clear c3b1
   try clear c3b2
   obtain ⟨x13_1, rfl, HA, HK1, ⟨m1, rfl⟩⟩ := hrel
   cases gk with
   | zero => exact absurd HA.out (by simp [laws_sameTexts.l0])
   | succ k1 =>
    have H := HA.out
    clear HA
    simp only [laws_sameTexts.l0] at H
    by_cases c4 : x13_1 < (l0.length : Int)
    ·rw [if_pos c4] at H
     have c4b0 : decide (x13_1 < (l0.length : Int)) = true := decide_eq_true c4
     clear c4
     by_cases c5 : 0 ≤ x13_1
     ·rw [if_pos c5] at H
      have c5b0 : decide (0 ≤ x13_1) = true := decide_eq_true c5
      clear c5
      by_cases c6 : x13_1 < (l0.length : Int)
      ·rw [if_pos c6] at H
       have c6b0 : decide (x13_1 < (l0.length : Int)) = true := decide_eq_true c6
       clear c6
       by_cases c7 : x13_1 < (l1.length : Int)
       ·rw [if_pos c7] at H
        have c7b0 : decide (x13_1 < (l1.length : Int)) = true := decide_eq_true c7
        clear c7
        by_cases c8 : (rdOf ByteArray.empty l0 x13_1).toList = (rdOf ByteArray.empty l1 x13_1).toList
        ·rw [if_pos c8] at H
         have c8b0 : ((rdOf ByteArray.empty l0 x13_1).toList == (rdOf ByteArray.empty l1 x13_1).toList) = true := beq_iff_eq.mpr c8
         have c8b1 : ((rdOf ByteArray.empty l0 x13_1).toList != (rdOf ByteArray.empty l1 x13_1).toList) = false := bne_eq_false_iff_eq.mpr c8
         clear c8
         have H' := Aside0.mk H
         clear H
         have p763 : 0 ≤ (x13_1 : Int) := oa
         have q763 : x13_1 < (l0.length : Int) := oa
         obtain ⟨ad763, e763, hx763_0⟩ := Kd.at_string HR0.out x13_1 p763 q763
         cases e763
         replace p763 := eq_true p763
         replace q763 := eq_true q763
         have p764 : 0 ≤ (x13_1 : Int) := oa
         have q764 : x13_1 < (l1.length : Int) := oa
         obtain ⟨ad764, e764, hx764_0⟩ := Kd.at_string HR1.out x13_1 p764 q764
         cases e764
         replace p764 := eq_true p764
         replace q764 := eq_true q764
         go_wp2
         repeat (go_quiet (fail); try go_wp2)
         go_roundg k1
         case measure => have := HK1.out; omega
         case rel => exact ⟨(wrap64 (x13_1 + 1)), zf, H', ⟨by have := HK1.out; omega⟩, by repeat (first | exact Drawn0.refl _ | apply Drawn0.step)⟩
        ·rw [if_neg c8] at H
         have c8b0 : ((rdOf ByteArray.empty l0 x13_1).toList == (rdOf ByteArray.empty l1 x13_1).toList) = false := beq_eq_false_iff_ne.mpr c8
         have c8b1 : ((rdOf ByteArray.empty l0 x13_1).toList != (rdOf ByteArray.empty l1 x13_1).toList) = true := bne_iff_ne.mpr c8
         obtain rfl := Option.some.inj H
         have p763 : 0 ≤ (x13_1 : Int) := oa
         have q763 : x13_1 < (l0.length : Int) := oa
         obtain ⟨ad763, e763, hx763_0⟩ := Kd.at_string HR0.out x13_1 p763 q763
         cases e763
         replace p763 := eq_true p763
         replace q763 := eq_true q763
         have p764 : 0 ≤ (x13_1 : Int) := oa
         have q764 : x13_1 < (l1.length : Int) := oa
         obtain ⟨ad764, e764, hx764_0⟩ := Kd.at_string HR1.out x13_1 p764 q764
         cases e764
         replace p764 := eq_true p764
         replace q764 := eq_true q764
         go_wp2
         repeat (go_quiet (fail); try go_wp2)
         go_ret
         exact ⟨by first | rfl | (simp; done) | (simp [*]; done), by repeat (first | exact Drawn0.refl _ | apply Drawn0.step)⟩
       ·rw [if_neg c7] at H
        exact absurd H (by simp)
      ·rw [if_neg c6] at H
       exact absurd H (by simp)
     ·rw [if_neg c5] at H
      exact absurd H (by simp)
    ·rw [if_neg c4] at H
     have c4b0 : decide (x13_1 < (l0.length : Int)) = false := decide_eq_false c4
     clear c4
     obtain rfl := Option.some.inj H
     go_wp2
     repeat (go_quiet (fail); try go_wp2)
     go_ret
     exact ⟨by first | rfl | (simp; done) | (simp [*]; done), by repeat (first | exact Drawn0.refl _ | apply Drawn0.step)⟩
 ·rw [if_neg c3] at H
  have c3b0 : ((l0.length : Int) == (l1.length : Int)) = false := beq_eq_false_iff_ne.mpr c3
  have c3b1 : ((l0.length : Int) != (l1.length : Int)) = true := bne_iff_ne.mpr c3
  have c3b2 : (l0.length == l1.length) = false := by first | simpa using c3 | (simp at c3 ⊢; omega)
  obtain rfl := Option.some.inj H
  go_enter Try.func36, Try.ntmps36
  go_wp2
  repeat (go_quiet (fail); try go_wp2)
  go_ret
  exact ⟨by first | rfl | (simp; done) | (simp [*]; done), by repeat (first | exact Drawn0.refl _ | apply Drawn0.step)⟩

end Go.Proofs.Ytcefenlblnediaa.My

/- Written by this session's program (wip/gen): a plain function with the same answers as the Go function, and the proof that the Go code comes to them. Asked: that the plain function has an answer. -/
namespace Go.Proofs.Ytcefenlblnediaa.My
open Go.RowKit Go.Proofs.YtcefenlblnediaaW.PrintWords Go.Proofs.YtcefenlblnediaaW.PrintLast Go.Proofs.YtcefenlblnediaaW.PrintMore
attribute [local go_sem] max2_int min2_int max_two min_two max_three min_three max_four min_four
set_option linter.unusedVariables false
set_option linter.unusedSimpArgs false

/-! ### laws_sameHunks: function 34 -/
def laws_sameHunks.l0 : Nat → List (S111) → List (S111) → Int → Int → Option (Bool)
 | 0, _, _, _, _ => none
 | k + 1, x1, x12, x13, x14 => if x14 < x13 then (if 0 ≤ x14 then (if x14 < (x12.length : Int) then (if x14 < (x1.length : Int) then (if ((rd_T111 x12 x14).f0) = ((rd_T111 x1 x14).f0) then (if ((rd_T111 x12 x14).f1) = ((rd_T111 x1 x14).f1) then ((laws_sameTexts.f k ((rd_T111 x12 x14).f2) ((rd_T111 x1 x14).f2)).bind fun t770 => (if t770 = true then (laws_sameHunks.l0 k x1 x12 x13 (wrap64 (x14 + 1))) else (some false))) else (some false)) else (some false)) else (none)) else (none)) else (none)) else (some true)
def laws_sameHunks.f (k : Nat) (l0 : List (S111)) (l1 : List (S111)) : Option (Bool) := if (l0.length : Int) = (l1.length : Int) then (laws_sameHunks.l0 k l1 l0 (l0.length : Int) 0) else (some false)
set_option maxHeartbeats 8000000 in
set_option maxRecDepth 100000 in
theorem laws_sameHunks.calls (k : Nat) (A0 : Option Addr) (c0 : Nat) (l0 : List (S111)) (A1 : Option Addr) (c1 : Nat) (l1 : List (S111)) (r : Bool) (w : World) (hr0 : Kd.C k111 w A0 l0.length l0) (hc0 : l0.length ≤ c0) (hr1 : Kd.C k111 w A1 l1.length l1) (hc1 : l1.length ≤ c1) (h : laws_sameHunks.f k l0 l1 = some r) :
  Calls Try.prog 34 #[.slice A0 l0.length c0, .slice A1 l1.length c1] w fun e w' => e = .returned (.bool r) ∧ Below w.heap.size w w' := by
 have hu111 := Try.underlying111
 have HR0 := Aside0.mk hr0
 have HC0 := Aside0.mk hc0
 clear hr0 hc0
 have HR1 := Aside0.mk hr1
 have HC1 := Aside0.mk hc1
 clear hr1 hc1
 have HB := Aside0.mk (Below.refl w.heap.size w)
 have H : (if (l0.length : Int) = (l1.length : Int) then (laws_sameHunks.l0 k l1 l0 (l0.length : Int) 0) else (some false)) = some r := h
 clear h
 by_cases c3 : (l0.length : Int) = (l1.length : Int)
 ·rw [if_pos c3] at H
  have c3b0 : ((l0.length : Int) == (l1.length : Int)) = true := beq_iff_eq.mpr c3
  have c3b1 : ((l0.length : Int) != (l1.length : Int)) = false := bne_eq_false_iff_eq.mpr c3
  have c3b2 : (l0.length == l1.length) = true := by first | simpa using c3 | (simp at c3 ⊢; omega)
  clear c3
  have H' := Aside0.mk H
  clear H
  go_enter Try.func34, Try.ntmps34
  go_wp2
  repeat (go_quiet (fail); try go_wp2)
  go_loopg [14] k (fun kq v14 w' => ∃ (x14_1 : Int), v14 = .int .i64 x14_1 ∧ Aside0 (laws_sameHunks.l0 kq l1 l0 (l0.length : Int) x14_1 = some r) ∧ Aside0 (kq ≤ k) ∧ Aside0 (Below w.heap.size w w'))
  case atStart => exact ⟨(0), zf, H', ⟨Nat.le_refl _⟩, ⟨by repeat (first | (with_reducible first | exact HB.out | apply below_alloc | apply pw_below_drewN | apply below_drew1) | exact HB.out)⟩⟩
  case round =>
   clear H'
   try clear c1
   try clear p2
   try clear c3
   try clear c3b0
   try clear c3b1
   try clear c3b2
   obtain ⟨x14_1, rfl, HA, HK1, HB⟩ := hrel
   cases gk with
   | zero => exact absurd HA.out (by simp [laws_sameHunks.l0])
   | succ k1 =>
    have H := HA.out
    clear HA
    simp only [laws_sameHunks.l0] at H
    by_cases c4 : x14_1 < (l0.length : Int)
    ·rw [if_pos c4] at H
     have c4b0 : decide (x14_1 < (l0.length : Int)) = true := decide_eq_true c4
     clear c4
     by_cases c5 : 0 ≤ x14_1
     ·rw [if_pos c5] at H
      have c5b0 : decide (0 ≤ x14_1) = true := decide_eq_true c5
      clear c5
      by_cases c6 : x14_1 < (l0.length : Int)
      ·rw [if_pos c6] at H
       have c6b0 : decide (x14_1 < (l0.length : Int)) = true := decide_eq_true c6
       clear c6
       by_cases c7 : x14_1 < (l1.length : Int)
       ·rw [if_pos c7] at H
        have c7b0 : decide (x14_1 < (l1.length : Int)) = true := decide_eq_true c7
        clear c7
        by_cases c8 : ((rd_T111 l0 x14_1).f0) = ((rd_T111 l1 x14_1).f0)
        ·rw [if_pos c8] at H
         have c8b0 : (((rd_T111 l0 x14_1).f0) == ((rd_T111 l1 x14_1).f0)) = true := beq_iff_eq.mpr c8
         have c8b1 : (((rd_T111 l0 x14_1).f0) != ((rd_T111 l1 x14_1).f0)) = false := bne_eq_false_iff_eq.mpr c8
         clear c8
         by_cases c9 : ((rd_T111 l0 x14_1).f1) = ((rd_T111 l1 x14_1).f1)
         ·rw [if_pos c9] at H
          have c9b0 : (((rd_T111 l0 x14_1).f1) == ((rd_T111 l1 x14_1).f1)) = true := beq_iff_eq.mpr c9
          have c9b1 : (((rd_T111 l0 x14_1).f1) != ((rd_T111 l1 x14_1).f1)) = false := bne_eq_false_iff_eq.mpr c9
          clear c9
          replace H := Option.bind_eq_some_iff.mp H
          obtain ⟨t770, A100, H⟩ := H
          replace H : (if t770 = true then (laws_sameHunks.l0 k1 l1 l0 (l0.length : Int) (wrap64 (x14_1 + 1))) else (some false)) = some r := H
          have A10 := Aside0.mk A100
          clear A100
          by_cases c11 : t770 = true
          ·subst c11
           have H1 : (laws_sameHunks.l0 k1 l1 l0 (l0.length : Int) (wrap64 (x14_1 + 1))) = some r := by rw [if_pos rfl] at H; exact H
           clear H
           have H := H1
           clear H1
           have H' := Aside0.mk H
           clear H
           have p765 : 0 ≤ (x14_1 : Int) := oa
           have q765 : x14_1 < (l0.length : Int) := oa
           obtain ⟨ad765, A765_2, c765_2, e765, hx765_0, hx765_1, hx765_2, hl765_2, hi765_2⟩ := at_T111 HR0.out x14_1 p765 q765
           cases e765
           replace hx765_0 := (HB.out.cell (World.block_lt_of_cell? w _ hx765_0)).trans hx765_0
           replace hx765_1 := (HB.out.cell (World.block_lt_of_cell? w _ hx765_1)).trans hx765_1
           replace hx765_2 := (HB.out.cell (World.block_lt_of_cell? w _ hx765_2)).trans hx765_2
           have HR765_2 := Aside0.mk hi765_2
           have HC765_2 := Aside0.mk hl765_2
           clear hi765_2 hl765_2
           replace p765 := eq_true p765
           replace q765 := eq_true q765
           go_wp2_with (first | ((with_reducible refine gate_dst (N := 6) rfl ?_); refine box_event ?hg (N := 6) ?hd (cs := #[.int .i64 0, .int .i64 0, .slice none 0 0]) (t := 111) ?hr ?_; (case hd => rfl); (case hg => rfl); (case hr => first | (go_simp; done) | (go_simp; rfl)); intro gb766 hg w12 hbox hb; have n0_ := Aside0.mk (below_step zb hb); have n1_ := Aside0.mk (hbox); have n2_ := Aside0.mk ((by rw [hg]; exact (below_size zb) : w.heap.size ≤ gb766)); have n3_ := Aside0.mk ((by rw [hg]; exact (below_size zb) : w.heap.size ≤ gb766)); clear HB; have HB := n0_; have BK766 := n1_; have GW766 := n2_; have GE766 := n3_; clear n0_ n1_ n2_ n3_; clear hb hbox hg; have hcz13_0 : w12.cell? ⟨gb766, 0, none⟩ = some (.int .i64 0) := (blk_cell BK766.out 0).trans rfl; have hcz13_1 : w12.cell? ⟨gb766, 1, none⟩ = some (.int .i64 0) := (blk_cell BK766.out 1).trans rfl; have hcz13_2 : w12.cell? ⟨gb766, 2, none⟩ = some (.slice none 0 0) := (blk_cell BK766.out 2).trans rfl; have hfz13_0 := blk_frozen BK766.out 0; have hfz13_1 := blk_frozen BK766.out 1; have hfz13_2 := blk_frozen BK766.out 2; have p767 : 0 ≤ (x14_1 : Int) := oa; have q767 : x14_1 < (l1.length : Int) := oa; obtain ⟨ad767, A767_2, c767_2, e767, hx767_0, hx767_1, hx767_2, hl767_2, hi767_2⟩ := at_T111 HR1.out x14_1 p767 q767; cases e767; have hn767_0 : ad767.block ≠ gb766 := Nat.ne_of_lt (Nat.lt_of_lt_of_le (zl hx767_0) GW766.out); have hn767_1 : ad767.block ≠ gb766 := Nat.ne_of_lt (Nat.lt_of_lt_of_le (zl hx767_0) GW766.out); have hn767_2 : ad767.block ≠ gb766 := Nat.ne_of_lt (Nat.lt_of_lt_of_le (zl hx767_0) GW766.out); replace hx767_0 := (HB.out.cell (World.block_lt_of_cell? w _ hx767_0)).trans hx767_0; replace hx767_1 := (HB.out.cell (World.block_lt_of_cell? w _ hx767_1)).trans hx767_1; replace hx767_2 := (HB.out.cell (World.block_lt_of_cell? w _ hx767_2)).trans hx767_2; have HR767_2 := Aside0.mk hi767_2; have HC767_2 := Aside0.mk hl767_2; clear hi767_2 hl767_2; replace hx767_0 := (cell_far (p := ⟨gb766, 0, none⟩) (zn hn767_0) (.int .i64 ((rd_T111 l0 x14_1).f0))).trans hx767_0; replace hx767_1 := (cell_far (p := ⟨gb766, 0, none⟩) (zn hn767_0) (.int .i64 ((rd_T111 l0 x14_1).f0))).trans hx767_1; replace hx767_2 := (cell_far (p := ⟨gb766, 0, none⟩) (zn hn767_0) (.int .i64 ((rd_T111 l0 x14_1).f0))).trans hx767_2; replace hx767_0 := (cell_far (p := ⟨gb766, 1, none⟩) (zn hn767_1) (.int .i64 ((rd_T111 l0 x14_1).f1))).trans hx767_0; replace hx767_1 := (cell_far (p := ⟨gb766, 1, none⟩) (zn hn767_1) (.int .i64 ((rd_T111 l0 x14_1).f1))).trans hx767_1; replace hx767_2 := (cell_far (p := ⟨gb766, 1, none⟩) (zn hn767_1) (.int .i64 ((rd_T111 l0 x14_1).f1))).trans hx767_2; replace hx767_0 := (cell_far (p := ⟨gb766, 2, none⟩) (zn hn767_2) (.slice A765_2 ((rd_T111 l0 x14_1).f2).length c765_2)).trans hx767_0; replace hx767_1 := (cell_far (p := ⟨gb766, 2, none⟩) (zn hn767_2) (.slice A765_2 ((rd_T111 l0 x14_1).f2).length c765_2)).trans hx767_1; replace hx767_2 := (cell_far (p := ⟨gb766, 2, none⟩) (zn hn767_2) (.slice A765_2 ((rd_T111 l0 x14_1).f2).length c765_2)).trans hx767_2; (try have hy767_0 := fun (n_ : Nat) => (show (((((w12.drewN n_).setCell ⟨gb766, 0, none⟩ (.int .i64 ((rd_T111 l0 x14_1).f0))).setCell ⟨gb766, 1, none⟩ (.int .i64 ((rd_T111 l0 x14_1).f1))).setCell ⟨gb766, 2, none⟩ (.slice A765_2 ((rd_T111 l0 x14_1).f2).length c765_2))).cell? _ = some _ from hx767_0)); (try have hy767_1 := fun (n_ : Nat) => (show (((((w12.drewN n_).setCell ⟨gb766, 0, none⟩ (.int .i64 ((rd_T111 l0 x14_1).f0))).setCell ⟨gb766, 1, none⟩ (.int .i64 ((rd_T111 l0 x14_1).f1))).setCell ⟨gb766, 2, none⟩ (.slice A765_2 ((rd_T111 l0 x14_1).f2).length c765_2))).cell? _ = some _ from hx767_1)); (try have hy767_2 := fun (n_ : Nat) => (show (((((w12.drewN n_).setCell ⟨gb766, 0, none⟩ (.int .i64 ((rd_T111 l0 x14_1).f0))).setCell ⟨gb766, 1, none⟩ (.int .i64 ((rd_T111 l0 x14_1).f1))).setCell ⟨gb766, 2, none⟩ (.slice A765_2 ((rd_T111 l0 x14_1).f2).length c765_2))).cell? _ = some _ from hx767_2)); clear hn767_0; clear hn767_1; clear hn767_2; replace p767 := eq_true p767; replace q767 := eq_true q767; have p768 : 0 ≤ (x14_1 : Int) := oa; have q768 : x14_1 < (l1.length : Int) := oa; obtain ⟨ad768, A768_2, c768_2, e768, hx768_0, hx768_1, hx768_2, hl768_2, hi768_2⟩ := at_T111 HR1.out x14_1 p768 q768; obtain rfl : ad767 = ad768 := (by injection e768); have hn768_0 : ad767.block ≠ gb766 := Nat.ne_of_lt (Nat.lt_of_lt_of_le (zl hx768_0) GW766.out); have hn768_1 : ad767.block ≠ gb766 := Nat.ne_of_lt (Nat.lt_of_lt_of_le (zl hx768_0) GW766.out); have hn768_2 : ad767.block ≠ gb766 := Nat.ne_of_lt (Nat.lt_of_lt_of_le (zl hx768_0) GW766.out); replace hx768_0 := (HB.out.cell (World.block_lt_of_cell? w _ hx768_0)).trans hx768_0; replace hx768_1 := (HB.out.cell (World.block_lt_of_cell? w _ hx768_1)).trans hx768_1; replace hx768_2 := (HB.out.cell (World.block_lt_of_cell? w _ hx768_2)).trans hx768_2; have HR768_2 := Aside0.mk hi768_2; have HC768_2 := Aside0.mk hl768_2; clear hi768_2 hl768_2; replace hx768_0 := (cell_far (p := ⟨gb766, 0, none⟩) (zn hn768_0) (.int .i64 ((rd_T111 l0 x14_1).f0))).trans hx768_0; replace hx768_1 := (cell_far (p := ⟨gb766, 0, none⟩) (zn hn768_0) (.int .i64 ((rd_T111 l0 x14_1).f0))).trans hx768_1; replace hx768_2 := (cell_far (p := ⟨gb766, 0, none⟩) (zn hn768_0) (.int .i64 ((rd_T111 l0 x14_1).f0))).trans hx768_2; replace hx768_0 := (cell_far (p := ⟨gb766, 1, none⟩) (zn hn768_1) (.int .i64 ((rd_T111 l0 x14_1).f1))).trans hx768_0; replace hx768_1 := (cell_far (p := ⟨gb766, 1, none⟩) (zn hn768_1) (.int .i64 ((rd_T111 l0 x14_1).f1))).trans hx768_1; replace hx768_2 := (cell_far (p := ⟨gb766, 1, none⟩) (zn hn768_1) (.int .i64 ((rd_T111 l0 x14_1).f1))).trans hx768_2; replace hx768_0 := (cell_far (p := ⟨gb766, 2, none⟩) (zn hn768_2) (.slice A765_2 ((rd_T111 l0 x14_1).f2).length c765_2)).trans hx768_0; replace hx768_1 := (cell_far (p := ⟨gb766, 2, none⟩) (zn hn768_2) (.slice A765_2 ((rd_T111 l0 x14_1).f2).length c765_2)).trans hx768_1; replace hx768_2 := (cell_far (p := ⟨gb766, 2, none⟩) (zn hn768_2) (.slice A765_2 ((rd_T111 l0 x14_1).f2).length c765_2)).trans hx768_2; (try have hy768_0 := fun (n_ : Nat) => (show (((((w12.drewN n_).setCell ⟨gb766, 0, none⟩ (.int .i64 ((rd_T111 l0 x14_1).f0))).setCell ⟨gb766, 1, none⟩ (.int .i64 ((rd_T111 l0 x14_1).f1))).setCell ⟨gb766, 2, none⟩ (.slice A765_2 ((rd_T111 l0 x14_1).f2).length c765_2))).cell? _ = some _ from hx768_0)); (try have hy768_1 := fun (n_ : Nat) => (show (((((w12.drewN n_).setCell ⟨gb766, 0, none⟩ (.int .i64 ((rd_T111 l0 x14_1).f0))).setCell ⟨gb766, 1, none⟩ (.int .i64 ((rd_T111 l0 x14_1).f1))).setCell ⟨gb766, 2, none⟩ (.slice A765_2 ((rd_T111 l0 x14_1).f2).length c765_2))).cell? _ = some _ from hx768_1)); (try have hy768_2 := fun (n_ : Nat) => (show (((((w12.drewN n_).setCell ⟨gb766, 0, none⟩ (.int .i64 ((rd_T111 l0 x14_1).f0))).setCell ⟨gb766, 1, none⟩ (.int .i64 ((rd_T111 l0 x14_1).f1))).setCell ⟨gb766, 2, none⟩ (.slice A765_2 ((rd_T111 l0 x14_1).f2).length c765_2))).cell? _ = some _ from hx768_2)); clear hn768_0; clear hn768_1; clear hn768_2; replace p768 := eq_true p768; replace q768 := eq_true q768; have p769 : 0 ≤ (x14_1 : Int) := oa; have q769 : x14_1 < (l1.length : Int) := oa; obtain ⟨ad769, A769_2, c769_2, e769, hx769_0, hx769_1, hx769_2, hl769_2, hi769_2⟩ := at_T111 HR1.out x14_1 p769 q769; obtain rfl : ad767 = ad769 := (by injection e769); have hn769_0 : ad767.block ≠ gb766 := Nat.ne_of_lt (Nat.lt_of_lt_of_le (zl hx769_0) GW766.out); have hn769_1 : ad767.block ≠ gb766 := Nat.ne_of_lt (Nat.lt_of_lt_of_le (zl hx769_0) GW766.out); have hn769_2 : ad767.block ≠ gb766 := Nat.ne_of_lt (Nat.lt_of_lt_of_le (zl hx769_0) GW766.out); replace hx769_0 := (HB.out.cell (World.block_lt_of_cell? w _ hx769_0)).trans hx769_0; replace hx769_1 := (HB.out.cell (World.block_lt_of_cell? w _ hx769_1)).trans hx769_1; replace hx769_2 := (HB.out.cell (World.block_lt_of_cell? w _ hx769_2)).trans hx769_2; have HR769_2 := Aside0.mk hi769_2; have HC769_2 := Aside0.mk hl769_2; clear hi769_2 hl769_2; replace hx769_0 := (cell_far (p := ⟨gb766, 0, none⟩) (zn hn769_0) (.int .i64 ((rd_T111 l0 x14_1).f0))).trans hx769_0; replace hx769_1 := (cell_far (p := ⟨gb766, 0, none⟩) (zn hn769_0) (.int .i64 ((rd_T111 l0 x14_1).f0))).trans hx769_1; replace hx769_2 := (cell_far (p := ⟨gb766, 0, none⟩) (zn hn769_0) (.int .i64 ((rd_T111 l0 x14_1).f0))).trans hx769_2; replace hx769_0 := (cell_far (p := ⟨gb766, 1, none⟩) (zn hn769_1) (.int .i64 ((rd_T111 l0 x14_1).f1))).trans hx769_0; replace hx769_1 := (cell_far (p := ⟨gb766, 1, none⟩) (zn hn769_1) (.int .i64 ((rd_T111 l0 x14_1).f1))).trans hx769_1; replace hx769_2 := (cell_far (p := ⟨gb766, 1, none⟩) (zn hn769_1) (.int .i64 ((rd_T111 l0 x14_1).f1))).trans hx769_2; replace hx769_0 := (cell_far (p := ⟨gb766, 2, none⟩) (zn hn769_2) (.slice A765_2 ((rd_T111 l0 x14_1).f2).length c765_2)).trans hx769_0; replace hx769_1 := (cell_far (p := ⟨gb766, 2, none⟩) (zn hn769_2) (.slice A765_2 ((rd_T111 l0 x14_1).f2).length c765_2)).trans hx769_1; replace hx769_2 := (cell_far (p := ⟨gb766, 2, none⟩) (zn hn769_2) (.slice A765_2 ((rd_T111 l0 x14_1).f2).length c765_2)).trans hx769_2; (try have hy769_0 := fun (n_ : Nat) => (show (((((w12.drewN n_).setCell ⟨gb766, 0, none⟩ (.int .i64 ((rd_T111 l0 x14_1).f0))).setCell ⟨gb766, 1, none⟩ (.int .i64 ((rd_T111 l0 x14_1).f1))).setCell ⟨gb766, 2, none⟩ (.slice A765_2 ((rd_T111 l0 x14_1).f2).length c765_2))).cell? _ = some _ from hx769_0)); (try have hy769_1 := fun (n_ : Nat) => (show (((((w12.drewN n_).setCell ⟨gb766, 0, none⟩ (.int .i64 ((rd_T111 l0 x14_1).f0))).setCell ⟨gb766, 1, none⟩ (.int .i64 ((rd_T111 l0 x14_1).f1))).setCell ⟨gb766, 2, none⟩ (.slice A765_2 ((rd_T111 l0 x14_1).f2).length c765_2))).cell? _ = some _ from hx769_1)); (try have hy769_2 := fun (n_ : Nat) => (show (((((w12.drewN n_).setCell ⟨gb766, 0, none⟩ (.int .i64 ((rd_T111 l0 x14_1).f0))).setCell ⟨gb766, 1, none⟩ (.int .i64 ((rd_T111 l0 x14_1).f1))).setCell ⟨gb766, 2, none⟩ (.slice A765_2 ((rd_T111 l0 x14_1).f2).length c765_2))).cell? _ = some _ from hx769_2)); clear hn769_0; clear hn769_1; clear hn769_2; replace p769 := eq_true p769; replace q769 := eq_true q769))
           repeat (go_quiet (first | (go_at_call 36; (with_reducible refine (laws_sameTexts.calls k1 _ _ ((rd_T111 l0 x14_1).f2) _ _ ((rd_T111 l1 x14_1).f2) true _ ?side1 ?side2 ?side3 ?side4 A10.out).mono ?_); (case side1 => exact Kd.C_below HR765_2.out (by repeat (first | (with_reducible first | exact HB.out | apply below_alloc | apply pw_below_drewN | apply below_drew1 | refine below_set ?_ GE766.out) | exact HB.out))); (case side2 => exact HC765_2.out); (case side3 => exact Kd.C_below HR767_2.out (by repeat (first | (with_reducible first | exact HB.out | apply below_alloc | apply pw_below_drewN | apply below_drew1 | refine below_set ?_ GE766.out) | exact HB.out))); (case side4 => exact HC767_2.out); rintro e w' ⟨rfl, ⟨nd, rfl⟩⟩; (try exact zd))); try go_wp2)
           go_roundg k1
           case measure => have := HK1.out; omega
           case rel => exact ⟨(wrap64 (x14_1 + 1)), zf, H', ⟨by have := HK1.out; omega⟩, ⟨by repeat (first | (with_reducible first | exact HB.out | apply below_alloc | apply pw_below_drewN | apply below_drew1 | refine below_set ?_ GE766.out) | exact HB.out)⟩⟩
          ·replace c11 := Bool.eq_false_iff.mpr c11
           subst c11
           have H1 : (some false) = some r := by rw [if_neg (show ¬ (false = true) by decide)] at H; exact H
           clear H
           have H := H1
           clear H1
           obtain rfl := Option.some.inj H
           have p765 : 0 ≤ (x14_1 : Int) := oa
           have q765 : x14_1 < (l0.length : Int) := oa
           obtain ⟨ad765, A765_2, c765_2, e765, hx765_0, hx765_1, hx765_2, hl765_2, hi765_2⟩ := at_T111 HR0.out x14_1 p765 q765
           cases e765
           replace hx765_0 := (HB.out.cell (World.block_lt_of_cell? w _ hx765_0)).trans hx765_0
           replace hx765_1 := (HB.out.cell (World.block_lt_of_cell? w _ hx765_1)).trans hx765_1
           replace hx765_2 := (HB.out.cell (World.block_lt_of_cell? w _ hx765_2)).trans hx765_2
           have HR765_2 := Aside0.mk hi765_2
           have HC765_2 := Aside0.mk hl765_2
           clear hi765_2 hl765_2
           replace p765 := eq_true p765
           replace q765 := eq_true q765
           go_wp2_with (first | ((with_reducible refine gate_dst (N := 6) rfl ?_); refine box_event ?hg (N := 6) ?hd (cs := #[.int .i64 0, .int .i64 0, .slice none 0 0]) (t := 111) ?hr ?_; (case hd => rfl); (case hg => rfl); (case hr => first | (go_simp; done) | (go_simp; rfl)); intro gb766 hg w14 hbox hb; have n0_ := Aside0.mk (below_step zb hb); have n1_ := Aside0.mk (hbox); have n2_ := Aside0.mk ((by rw [hg]; exact (below_size zb) : w.heap.size ≤ gb766)); have n3_ := Aside0.mk ((by rw [hg]; exact (below_size zb) : w.heap.size ≤ gb766)); clear HB; have HB := n0_; have BK766 := n1_; have GW766 := n2_; have GE766 := n3_; clear n0_ n1_ n2_ n3_; clear hb hbox hg; have hcz15_0 : w14.cell? ⟨gb766, 0, none⟩ = some (.int .i64 0) := (blk_cell BK766.out 0).trans rfl; have hcz15_1 : w14.cell? ⟨gb766, 1, none⟩ = some (.int .i64 0) := (blk_cell BK766.out 1).trans rfl; have hcz15_2 : w14.cell? ⟨gb766, 2, none⟩ = some (.slice none 0 0) := (blk_cell BK766.out 2).trans rfl; have hfz15_0 := blk_frozen BK766.out 0; have hfz15_1 := blk_frozen BK766.out 1; have hfz15_2 := blk_frozen BK766.out 2; have p767 : 0 ≤ (x14_1 : Int) := oa; have q767 : x14_1 < (l1.length : Int) := oa; obtain ⟨ad767, A767_2, c767_2, e767, hx767_0, hx767_1, hx767_2, hl767_2, hi767_2⟩ := at_T111 HR1.out x14_1 p767 q767; cases e767; have hn767_0 : ad767.block ≠ gb766 := Nat.ne_of_lt (Nat.lt_of_lt_of_le (zl hx767_0) GW766.out); have hn767_1 : ad767.block ≠ gb766 := Nat.ne_of_lt (Nat.lt_of_lt_of_le (zl hx767_0) GW766.out); have hn767_2 : ad767.block ≠ gb766 := Nat.ne_of_lt (Nat.lt_of_lt_of_le (zl hx767_0) GW766.out); replace hx767_0 := (HB.out.cell (World.block_lt_of_cell? w _ hx767_0)).trans hx767_0; replace hx767_1 := (HB.out.cell (World.block_lt_of_cell? w _ hx767_1)).trans hx767_1; replace hx767_2 := (HB.out.cell (World.block_lt_of_cell? w _ hx767_2)).trans hx767_2; have HR767_2 := Aside0.mk hi767_2; have HC767_2 := Aside0.mk hl767_2; clear hi767_2 hl767_2; replace hx767_0 := (cell_far (p := ⟨gb766, 0, none⟩) (zn hn767_0) (.int .i64 ((rd_T111 l0 x14_1).f0))).trans hx767_0; replace hx767_1 := (cell_far (p := ⟨gb766, 0, none⟩) (zn hn767_0) (.int .i64 ((rd_T111 l0 x14_1).f0))).trans hx767_1; replace hx767_2 := (cell_far (p := ⟨gb766, 0, none⟩) (zn hn767_0) (.int .i64 ((rd_T111 l0 x14_1).f0))).trans hx767_2; replace hx767_0 := (cell_far (p := ⟨gb766, 1, none⟩) (zn hn767_1) (.int .i64 ((rd_T111 l0 x14_1).f1))).trans hx767_0; replace hx767_1 := (cell_far (p := ⟨gb766, 1, none⟩) (zn hn767_1) (.int .i64 ((rd_T111 l0 x14_1).f1))).trans hx767_1; replace hx767_2 := (cell_far (p := ⟨gb766, 1, none⟩) (zn hn767_1) (.int .i64 ((rd_T111 l0 x14_1).f1))).trans hx767_2; replace hx767_0 := (cell_far (p := ⟨gb766, 2, none⟩) (zn hn767_2) (.slice A765_2 ((rd_T111 l0 x14_1).f2).length c765_2)).trans hx767_0; replace hx767_1 := (cell_far (p := ⟨gb766, 2, none⟩) (zn hn767_2) (.slice A765_2 ((rd_T111 l0 x14_1).f2).length c765_2)).trans hx767_1; replace hx767_2 := (cell_far (p := ⟨gb766, 2, none⟩) (zn hn767_2) (.slice A765_2 ((rd_T111 l0 x14_1).f2).length c765_2)).trans hx767_2; (try have hy767_0 := fun (n_ : Nat) => (show (((((w14.drewN n_).setCell ⟨gb766, 0, none⟩ (.int .i64 ((rd_T111 l0 x14_1).f0))).setCell ⟨gb766, 1, none⟩ (.int .i64 ((rd_T111 l0 x14_1).f1))).setCell ⟨gb766, 2, none⟩ (.slice A765_2 ((rd_T111 l0 x14_1).f2).length c765_2))).cell? _ = some _ from hx767_0)); (try have hy767_1 := fun (n_ : Nat) => (show (((((w14.drewN n_).setCell ⟨gb766, 0, none⟩ (.int .i64 ((rd_T111 l0 x14_1).f0))).setCell ⟨gb766, 1, none⟩ (.int .i64 ((rd_T111 l0 x14_1).f1))).setCell ⟨gb766, 2, none⟩ (.slice A765_2 ((rd_T111 l0 x14_1).f2).length c765_2))).cell? _ = some _ from hx767_1)); (try have hy767_2 := fun (n_ : Nat) => (show (((((w14.drewN n_).setCell ⟨gb766, 0, none⟩ (.int .i64 ((rd_T111 l0 x14_1).f0))).setCell ⟨gb766, 1, none⟩ (.int .i64 ((rd_T111 l0 x14_1).f1))).setCell ⟨gb766, 2, none⟩ (.slice A765_2 ((rd_T111 l0 x14_1).f2).length c765_2))).cell? _ = some _ from hx767_2)); clear hn767_0; clear hn767_1; clear hn767_2; replace p767 := eq_true p767; replace q767 := eq_true q767; have p768 : 0 ≤ (x14_1 : Int) := oa; have q768 : x14_1 < (l1.length : Int) := oa; obtain ⟨ad768, A768_2, c768_2, e768, hx768_0, hx768_1, hx768_2, hl768_2, hi768_2⟩ := at_T111 HR1.out x14_1 p768 q768; obtain rfl : ad767 = ad768 := (by injection e768); have hn768_0 : ad767.block ≠ gb766 := Nat.ne_of_lt (Nat.lt_of_lt_of_le (zl hx768_0) GW766.out); have hn768_1 : ad767.block ≠ gb766 := Nat.ne_of_lt (Nat.lt_of_lt_of_le (zl hx768_0) GW766.out); have hn768_2 : ad767.block ≠ gb766 := Nat.ne_of_lt (Nat.lt_of_lt_of_le (zl hx768_0) GW766.out); replace hx768_0 := (HB.out.cell (World.block_lt_of_cell? w _ hx768_0)).trans hx768_0; replace hx768_1 := (HB.out.cell (World.block_lt_of_cell? w _ hx768_1)).trans hx768_1; replace hx768_2 := (HB.out.cell (World.block_lt_of_cell? w _ hx768_2)).trans hx768_2; have HR768_2 := Aside0.mk hi768_2; have HC768_2 := Aside0.mk hl768_2; clear hi768_2 hl768_2; replace hx768_0 := (cell_far (p := ⟨gb766, 0, none⟩) (zn hn768_0) (.int .i64 ((rd_T111 l0 x14_1).f0))).trans hx768_0; replace hx768_1 := (cell_far (p := ⟨gb766, 0, none⟩) (zn hn768_0) (.int .i64 ((rd_T111 l0 x14_1).f0))).trans hx768_1; replace hx768_2 := (cell_far (p := ⟨gb766, 0, none⟩) (zn hn768_0) (.int .i64 ((rd_T111 l0 x14_1).f0))).trans hx768_2; replace hx768_0 := (cell_far (p := ⟨gb766, 1, none⟩) (zn hn768_1) (.int .i64 ((rd_T111 l0 x14_1).f1))).trans hx768_0; replace hx768_1 := (cell_far (p := ⟨gb766, 1, none⟩) (zn hn768_1) (.int .i64 ((rd_T111 l0 x14_1).f1))).trans hx768_1; replace hx768_2 := (cell_far (p := ⟨gb766, 1, none⟩) (zn hn768_1) (.int .i64 ((rd_T111 l0 x14_1).f1))).trans hx768_2; replace hx768_0 := (cell_far (p := ⟨gb766, 2, none⟩) (zn hn768_2) (.slice A765_2 ((rd_T111 l0 x14_1).f2).length c765_2)).trans hx768_0; replace hx768_1 := (cell_far (p := ⟨gb766, 2, none⟩) (zn hn768_2) (.slice A765_2 ((rd_T111 l0 x14_1).f2).length c765_2)).trans hx768_1; replace hx768_2 := (cell_far (p := ⟨gb766, 2, none⟩) (zn hn768_2) (.slice A765_2 ((rd_T111 l0 x14_1).f2).length c765_2)).trans hx768_2; (try have hy768_0 := fun (n_ : Nat) => (show (((((w14.drewN n_).setCell ⟨gb766, 0, none⟩ (.int .i64 ((rd_T111 l0 x14_1).f0))).setCell ⟨gb766, 1, none⟩ (.int .i64 ((rd_T111 l0 x14_1).f1))).setCell ⟨gb766, 2, none⟩ (.slice A765_2 ((rd_T111 l0 x14_1).f2).length c765_2))).cell? _ = some _ from hx768_0)); (try have hy768_1 := fun (n_ : Nat) => (show (((((w14.drewN n_).setCell ⟨gb766, 0, none⟩ (.int .i64 ((rd_T111 l0 x14_1).f0))).setCell ⟨gb766, 1, none⟩ (.int .i64 ((rd_T111 l0 x14_1).f1))).setCell ⟨gb766, 2, none⟩ (.slice A765_2 ((rd_T111 l0 x14_1).f2).length c765_2))).cell? _ = some _ from hx768_1)); (try have hy768_2 := fun (n_ : Nat) => (show (((((w14.drewN n_).setCell ⟨gb766, 0, none⟩ (.int .i64 ((rd_T111 l0 x14_1).f0))).setCell ⟨gb766, 1, none⟩ (.int .i64 ((rd_T111 l0 x14_1).f1))).setCell ⟨gb766, 2, none⟩ (.slice A765_2 ((rd_T111 l0 x14_1).f2).length c765_2))).cell? _ = some _ from hx768_2)); clear hn768_0; clear hn768_1; clear hn768_2; replace p768 := eq_true p768; replace q768 := eq_true q768; have p769 : 0 ≤ (x14_1 : Int) := oa; have q769 : x14_1 < (l1.length : Int) := oa; obtain ⟨ad769, A769_2, c769_2, e769, hx769_0, hx769_1, hx769_2, hl769_2, hi769_2⟩ := at_T111 HR1.out x14_1 p769 q769; obtain rfl : ad767 = ad769 := (by injection e769); have hn769_0 : ad767.block ≠ gb766 := Nat.ne_of_lt (Nat.lt_of_lt_of_le (zl hx769_0) GW766.out); have hn769_1 : ad767.block ≠ gb766 := Nat.ne_of_lt (Nat.lt_of_lt_of_le (zl hx769_0) GW766.out); have hn769_2 : ad767.block ≠ gb766 := Nat.ne_of_lt (Nat.lt_of_lt_of_le (zl hx769_0) GW766.out); replace hx769_0 := (HB.out.cell (World.block_lt_of_cell? w _ hx769_0)).trans hx769_0; replace hx769_1 := (HB.out.cell (World.block_lt_of_cell? w _ hx769_1)).trans hx769_1; replace hx769_2 := (HB.out.cell (World.block_lt_of_cell? w _ hx769_2)).trans hx769_2; have HR769_2 := Aside0.mk hi769_2; have HC769_2 := Aside0.mk hl769_2; clear hi769_2 hl769_2; replace hx769_0 := (cell_far (p := ⟨gb766, 0, none⟩) (zn hn769_0) (.int .i64 ((rd_T111 l0 x14_1).f0))).trans hx769_0; replace hx769_1 := (cell_far (p := ⟨gb766, 0, none⟩) (zn hn769_0) (.int .i64 ((rd_T111 l0 x14_1).f0))).trans hx769_1; replace hx769_2 := (cell_far (p := ⟨gb766, 0, none⟩) (zn hn769_0) (.int .i64 ((rd_T111 l0 x14_1).f0))).trans hx769_2; replace hx769_0 := (cell_far (p := ⟨gb766, 1, none⟩) (zn hn769_1) (.int .i64 ((rd_T111 l0 x14_1).f1))).trans hx769_0; replace hx769_1 := (cell_far (p := ⟨gb766, 1, none⟩) (zn hn769_1) (.int .i64 ((rd_T111 l0 x14_1).f1))).trans hx769_1; replace hx769_2 := (cell_far (p := ⟨gb766, 1, none⟩) (zn hn769_1) (.int .i64 ((rd_T111 l0 x14_1).f1))).trans hx769_2; replace hx769_0 := (cell_far (p := ⟨gb766, 2, none⟩) (zn hn769_2) (.slice A765_2 ((rd_T111 l0 x14_1).f2).length c765_2)).trans hx769_0; replace hx769_1 := (cell_far (p := ⟨gb766, 2, none⟩) (zn hn769_2) (.slice A765_2 ((rd_T111 l0 x14_1).f2).length c765_2)).trans hx769_1; replace hx769_2 := (cell_far (p := ⟨gb766, 2, none⟩) (zn hn769_2) (.slice A765_2 ((rd_T111 l0 x14_1).f2).length c765_2)).trans hx769_2; (try have hy769_0 := fun (n_ : Nat) => (show (((((w14.drewN n_).setCell ⟨gb766, 0, none⟩ (.int .i64 ((rd_T111 l0 x14_1).f0))).setCell ⟨gb766, 1, none⟩ (.int .i64 ((rd_T111 l0 x14_1).f1))).setCell ⟨gb766, 2, none⟩ (.slice A765_2 ((rd_T111 l0 x14_1).f2).length c765_2))).cell? _ = some _ from hx769_0)); (try have hy769_1 := fun (n_ : Nat) => (show (((((w14.drewN n_).setCell ⟨gb766, 0, none⟩ (.int .i64 ((rd_T111 l0 x14_1).f0))).setCell ⟨gb766, 1, none⟩ (.int .i64 ((rd_T111 l0 x14_1).f1))).setCell ⟨gb766, 2, none⟩ (.slice A765_2 ((rd_T111 l0 x14_1).f2).length c765_2))).cell? _ = some _ from hx769_1)); (try have hy769_2 := fun (n_ : Nat) => (show (((((w14.drewN n_).setCell ⟨gb766, 0, none⟩ (.int .i64 ((rd_T111 l0 x14_1).f0))).setCell ⟨gb766, 1, none⟩ (.int .i64 ((rd_T111 l0 x14_1).f1))).setCell ⟨gb766, 2, none⟩ (.slice A765_2 ((rd_T111 l0 x14_1).f2).length c765_2))).cell? _ = some _ from hx769_2)); clear hn769_0; clear hn769_1; clear hn769_2; replace p769 := eq_true p769; replace q769 := eq_true q769))
           repeat (go_quiet (first | (go_at_call 36; (with_reducible refine (laws_sameTexts.calls k1 _ _ ((rd_T111 l0 x14_1).f2) _ _ ((rd_T111 l1 x14_1).f2) false _ ?side1 ?side2 ?side3 ?side4 A10.out).mono ?_); (case side1 => exact Kd.C_below HR765_2.out (by repeat (first | (with_reducible first | exact HB.out | apply below_alloc | apply pw_below_drewN | apply below_drew1 | refine below_set ?_ GE766.out) | exact HB.out))); (case side2 => exact HC765_2.out); (case side3 => exact Kd.C_below HR767_2.out (by repeat (first | (with_reducible first | exact HB.out | apply below_alloc | apply pw_below_drewN | apply below_drew1 | refine below_set ?_ GE766.out) | exact HB.out))); (case side4 => exact HC767_2.out); rintro e w' ⟨rfl, ⟨nd, rfl⟩⟩; (try exact zd))); try go_wp2)
           go_ret
           exact ⟨by first | rfl | (simp [errW_none, errW_some] <;> rfl) | (simp [*, errW_none, errW_some] <;> rfl), by repeat (first | (with_reducible first | exact HB.out | apply below_alloc | apply pw_below_drewN | apply below_drew1 | refine below_set ?_ GE766.out) | exact HB.out)⟩
         ·rw [if_neg c9] at H
          have c9b0 : (((rd_T111 l0 x14_1).f1) == ((rd_T111 l1 x14_1).f1)) = false := beq_eq_false_iff_ne.mpr c9
          have c9b1 : (((rd_T111 l0 x14_1).f1) != ((rd_T111 l1 x14_1).f1)) = true := bne_iff_ne.mpr c9
          obtain rfl := Option.some.inj H
          have p765 : 0 ≤ (x14_1 : Int) := oa
          have q765 : x14_1 < (l0.length : Int) := oa
          obtain ⟨ad765, A765_2, c765_2, e765, hx765_0, hx765_1, hx765_2, hl765_2, hi765_2⟩ := at_T111 HR0.out x14_1 p765 q765
          cases e765
          replace hx765_0 := (HB.out.cell (World.block_lt_of_cell? w _ hx765_0)).trans hx765_0
          replace hx765_1 := (HB.out.cell (World.block_lt_of_cell? w _ hx765_1)).trans hx765_1
          replace hx765_2 := (HB.out.cell (World.block_lt_of_cell? w _ hx765_2)).trans hx765_2
          have HR765_2 := Aside0.mk hi765_2
          have HC765_2 := Aside0.mk hl765_2
          clear hi765_2 hl765_2
          replace p765 := eq_true p765
          replace q765 := eq_true q765
          go_wp2_with (first | ((with_reducible refine gate_dst (N := 6) rfl ?_); refine box_event ?hg (N := 6) ?hd (cs := #[.int .i64 0, .int .i64 0, .slice none 0 0]) (t := 111) ?hr ?_; (case hd => rfl); (case hg => rfl); (case hr => first | (go_simp; done) | (go_simp; rfl)); intro gb766 hg w16 hbox hb; have n0_ := Aside0.mk (below_step zb hb); have n1_ := Aside0.mk (hbox); have n2_ := Aside0.mk ((by rw [hg]; exact (below_size zb) : w.heap.size ≤ gb766)); have n3_ := Aside0.mk ((by rw [hg]; exact (below_size zb) : w.heap.size ≤ gb766)); clear HB; have HB := n0_; have BK766 := n1_; have GW766 := n2_; have GE766 := n3_; clear n0_ n1_ n2_ n3_; clear hb hbox hg; have hcz17_0 : w16.cell? ⟨gb766, 0, none⟩ = some (.int .i64 0) := (blk_cell BK766.out 0).trans rfl; have hcz17_1 : w16.cell? ⟨gb766, 1, none⟩ = some (.int .i64 0) := (blk_cell BK766.out 1).trans rfl; have hcz17_2 : w16.cell? ⟨gb766, 2, none⟩ = some (.slice none 0 0) := (blk_cell BK766.out 2).trans rfl; have hfz17_0 := blk_frozen BK766.out 0; have hfz17_1 := blk_frozen BK766.out 1; have hfz17_2 := blk_frozen BK766.out 2; have p767 : 0 ≤ (x14_1 : Int) := oa; have q767 : x14_1 < (l1.length : Int) := oa; obtain ⟨ad767, A767_2, c767_2, e767, hx767_0, hx767_1, hx767_2, hl767_2, hi767_2⟩ := at_T111 HR1.out x14_1 p767 q767; cases e767; have hn767_0 : ad767.block ≠ gb766 := Nat.ne_of_lt (Nat.lt_of_lt_of_le (zl hx767_0) GW766.out); have hn767_1 : ad767.block ≠ gb766 := Nat.ne_of_lt (Nat.lt_of_lt_of_le (zl hx767_0) GW766.out); have hn767_2 : ad767.block ≠ gb766 := Nat.ne_of_lt (Nat.lt_of_lt_of_le (zl hx767_0) GW766.out); replace hx767_0 := (HB.out.cell (World.block_lt_of_cell? w _ hx767_0)).trans hx767_0; replace hx767_1 := (HB.out.cell (World.block_lt_of_cell? w _ hx767_1)).trans hx767_1; replace hx767_2 := (HB.out.cell (World.block_lt_of_cell? w _ hx767_2)).trans hx767_2; have HR767_2 := Aside0.mk hi767_2; have HC767_2 := Aside0.mk hl767_2; clear hi767_2 hl767_2; replace hx767_0 := (cell_far (p := ⟨gb766, 0, none⟩) (zn hn767_0) (.int .i64 ((rd_T111 l0 x14_1).f0))).trans hx767_0; replace hx767_1 := (cell_far (p := ⟨gb766, 0, none⟩) (zn hn767_0) (.int .i64 ((rd_T111 l0 x14_1).f0))).trans hx767_1; replace hx767_2 := (cell_far (p := ⟨gb766, 0, none⟩) (zn hn767_0) (.int .i64 ((rd_T111 l0 x14_1).f0))).trans hx767_2; replace hx767_0 := (cell_far (p := ⟨gb766, 1, none⟩) (zn hn767_1) (.int .i64 ((rd_T111 l0 x14_1).f1))).trans hx767_0; replace hx767_1 := (cell_far (p := ⟨gb766, 1, none⟩) (zn hn767_1) (.int .i64 ((rd_T111 l0 x14_1).f1))).trans hx767_1; replace hx767_2 := (cell_far (p := ⟨gb766, 1, none⟩) (zn hn767_1) (.int .i64 ((rd_T111 l0 x14_1).f1))).trans hx767_2; replace hx767_0 := (cell_far (p := ⟨gb766, 2, none⟩) (zn hn767_2) (.slice A765_2 ((rd_T111 l0 x14_1).f2).length c765_2)).trans hx767_0; replace hx767_1 := (cell_far (p := ⟨gb766, 2, none⟩) (zn hn767_2) (.slice A765_2 ((rd_T111 l0 x14_1).f2).length c765_2)).trans hx767_1; replace hx767_2 := (cell_far (p := ⟨gb766, 2, none⟩) (zn hn767_2) (.slice A765_2 ((rd_T111 l0 x14_1).f2).length c765_2)).trans hx767_2; (try have hy767_0 := fun (n_ : Nat) => (show (((((w16.drewN n_).setCell ⟨gb766, 0, none⟩ (.int .i64 ((rd_T111 l0 x14_1).f0))).setCell ⟨gb766, 1, none⟩ (.int .i64 ((rd_T111 l0 x14_1).f1))).setCell ⟨gb766, 2, none⟩ (.slice A765_2 ((rd_T111 l0 x14_1).f2).length c765_2))).cell? _ = some _ from hx767_0)); (try have hy767_1 := fun (n_ : Nat) => (show (((((w16.drewN n_).setCell ⟨gb766, 0, none⟩ (.int .i64 ((rd_T111 l0 x14_1).f0))).setCell ⟨gb766, 1, none⟩ (.int .i64 ((rd_T111 l0 x14_1).f1))).setCell ⟨gb766, 2, none⟩ (.slice A765_2 ((rd_T111 l0 x14_1).f2).length c765_2))).cell? _ = some _ from hx767_1)); (try have hy767_2 := fun (n_ : Nat) => (show (((((w16.drewN n_).setCell ⟨gb766, 0, none⟩ (.int .i64 ((rd_T111 l0 x14_1).f0))).setCell ⟨gb766, 1, none⟩ (.int .i64 ((rd_T111 l0 x14_1).f1))).setCell ⟨gb766, 2, none⟩ (.slice A765_2 ((rd_T111 l0 x14_1).f2).length c765_2))).cell? _ = some _ from hx767_2)); clear hn767_0; clear hn767_1; clear hn767_2; replace p767 := eq_true p767; replace q767 := eq_true q767; have p768 : 0 ≤ (x14_1 : Int) := oa; have q768 : x14_1 < (l1.length : Int) := oa; obtain ⟨ad768, A768_2, c768_2, e768, hx768_0, hx768_1, hx768_2, hl768_2, hi768_2⟩ := at_T111 HR1.out x14_1 p768 q768; obtain rfl : ad767 = ad768 := (by injection e768); have hn768_0 : ad767.block ≠ gb766 := Nat.ne_of_lt (Nat.lt_of_lt_of_le (zl hx768_0) GW766.out); have hn768_1 : ad767.block ≠ gb766 := Nat.ne_of_lt (Nat.lt_of_lt_of_le (zl hx768_0) GW766.out); have hn768_2 : ad767.block ≠ gb766 := Nat.ne_of_lt (Nat.lt_of_lt_of_le (zl hx768_0) GW766.out); replace hx768_0 := (HB.out.cell (World.block_lt_of_cell? w _ hx768_0)).trans hx768_0; replace hx768_1 := (HB.out.cell (World.block_lt_of_cell? w _ hx768_1)).trans hx768_1; replace hx768_2 := (HB.out.cell (World.block_lt_of_cell? w _ hx768_2)).trans hx768_2; have HR768_2 := Aside0.mk hi768_2; have HC768_2 := Aside0.mk hl768_2; clear hi768_2 hl768_2; replace hx768_0 := (cell_far (p := ⟨gb766, 0, none⟩) (zn hn768_0) (.int .i64 ((rd_T111 l0 x14_1).f0))).trans hx768_0; replace hx768_1 := (cell_far (p := ⟨gb766, 0, none⟩) (zn hn768_0) (.int .i64 ((rd_T111 l0 x14_1).f0))).trans hx768_1; replace hx768_2 := (cell_far (p := ⟨gb766, 0, none⟩) (zn hn768_0) (.int .i64 ((rd_T111 l0 x14_1).f0))).trans hx768_2; replace hx768_0 := (cell_far (p := ⟨gb766, 1, none⟩) (zn hn768_1) (.int .i64 ((rd_T111 l0 x14_1).f1))).trans hx768_0; replace hx768_1 := (cell_far (p := ⟨gb766, 1, none⟩) (zn hn768_1) (.int .i64 ((rd_T111 l0 x14_1).f1))).trans hx768_1; replace hx768_2 := (cell_far (p := ⟨gb766, 1, none⟩) (zn hn768_1) (.int .i64 ((rd_T111 l0 x14_1).f1))).trans hx768_2; replace hx768_0 := (cell_far (p := ⟨gb766, 2, none⟩) (zn hn768_2) (.slice A765_2 ((rd_T111 l0 x14_1).f2).length c765_2)).trans hx768_0; replace hx768_1 := (cell_far (p := ⟨gb766, 2, none⟩) (zn hn768_2) (.slice A765_2 ((rd_T111 l0 x14_1).f2).length c765_2)).trans hx768_1; replace hx768_2 := (cell_far (p := ⟨gb766, 2, none⟩) (zn hn768_2) (.slice A765_2 ((rd_T111 l0 x14_1).f2).length c765_2)).trans hx768_2; (try have hy768_0 := fun (n_ : Nat) => (show (((((w16.drewN n_).setCell ⟨gb766, 0, none⟩ (.int .i64 ((rd_T111 l0 x14_1).f0))).setCell ⟨gb766, 1, none⟩ (.int .i64 ((rd_T111 l0 x14_1).f1))).setCell ⟨gb766, 2, none⟩ (.slice A765_2 ((rd_T111 l0 x14_1).f2).length c765_2))).cell? _ = some _ from hx768_0)); (try have hy768_1 := fun (n_ : Nat) => (show (((((w16.drewN n_).setCell ⟨gb766, 0, none⟩ (.int .i64 ((rd_T111 l0 x14_1).f0))).setCell ⟨gb766, 1, none⟩ (.int .i64 ((rd_T111 l0 x14_1).f1))).setCell ⟨gb766, 2, none⟩ (.slice A765_2 ((rd_T111 l0 x14_1).f2).length c765_2))).cell? _ = some _ from hx768_1)); (try have hy768_2 := fun (n_ : Nat) => (show (((((w16.drewN n_).setCell ⟨gb766, 0, none⟩ (.int .i64 ((rd_T111 l0 x14_1).f0))).setCell ⟨gb766, 1, none⟩ (.int .i64 ((rd_T111 l0 x14_1).f1))).setCell ⟨gb766, 2, none⟩ (.slice A765_2 ((rd_T111 l0 x14_1).f2).length c765_2))).cell? _ = some _ from hx768_2)); clear hn768_0; clear hn768_1; clear hn768_2; replace p768 := eq_true p768; replace q768 := eq_true q768))
          repeat (go_quiet (first | ((with_reducible refine gate_dst (N := 6) rfl ?_); refine box_event ?hg (N := 6) ?hd (cs := #[.int .i64 0, .int .i64 0, .slice none 0 0]) (t := 111) ?hr ?_; (case hd => rfl); (case hg => rfl); (case hr => first | (go_simp; done) | (go_simp; rfl)); intro gb766 hg w16 hbox hb; have n0_ := Aside0.mk (below_step zb hb); have n1_ := Aside0.mk (hbox); have n2_ := Aside0.mk ((by rw [hg]; exact (below_size zb) : w.heap.size ≤ gb766)); have n3_ := Aside0.mk ((by rw [hg]; exact (below_size zb) : w.heap.size ≤ gb766)); clear HB; have HB := n0_; have BK766 := n1_; have GW766 := n2_; have GE766 := n3_; clear n0_ n1_ n2_ n3_; clear hb hbox hg; have hcz17_0 : w16.cell? ⟨gb766, 0, none⟩ = some (.int .i64 0) := (blk_cell BK766.out 0).trans rfl; have hcz17_1 : w16.cell? ⟨gb766, 1, none⟩ = some (.int .i64 0) := (blk_cell BK766.out 1).trans rfl; have hcz17_2 : w16.cell? ⟨gb766, 2, none⟩ = some (.slice none 0 0) := (blk_cell BK766.out 2).trans rfl; have hfz17_0 := blk_frozen BK766.out 0; have hfz17_1 := blk_frozen BK766.out 1; have hfz17_2 := blk_frozen BK766.out 2; have p767 : 0 ≤ (x14_1 : Int) := oa; have q767 : x14_1 < (l1.length : Int) := oa; obtain ⟨ad767, A767_2, c767_2, e767, hx767_0, hx767_1, hx767_2, hl767_2, hi767_2⟩ := at_T111 HR1.out x14_1 p767 q767; cases e767; have hn767_0 : ad767.block ≠ gb766 := Nat.ne_of_lt (Nat.lt_of_lt_of_le (zl hx767_0) GW766.out); have hn767_1 : ad767.block ≠ gb766 := Nat.ne_of_lt (Nat.lt_of_lt_of_le (zl hx767_0) GW766.out); have hn767_2 : ad767.block ≠ gb766 := Nat.ne_of_lt (Nat.lt_of_lt_of_le (zl hx767_0) GW766.out); replace hx767_0 := (HB.out.cell (World.block_lt_of_cell? w _ hx767_0)).trans hx767_0; replace hx767_1 := (HB.out.cell (World.block_lt_of_cell? w _ hx767_1)).trans hx767_1; replace hx767_2 := (HB.out.cell (World.block_lt_of_cell? w _ hx767_2)).trans hx767_2; have HR767_2 := Aside0.mk hi767_2; have HC767_2 := Aside0.mk hl767_2; clear hi767_2 hl767_2; replace hx767_0 := (cell_far (p := ⟨gb766, 0, none⟩) (zn hn767_0) (.int .i64 ((rd_T111 l0 x14_1).f0))).trans hx767_0; replace hx767_1 := (cell_far (p := ⟨gb766, 0, none⟩) (zn hn767_0) (.int .i64 ((rd_T111 l0 x14_1).f0))).trans hx767_1; replace hx767_2 := (cell_far (p := ⟨gb766, 0, none⟩) (zn hn767_0) (.int .i64 ((rd_T111 l0 x14_1).f0))).trans hx767_2; replace hx767_0 := (cell_far (p := ⟨gb766, 1, none⟩) (zn hn767_1) (.int .i64 ((rd_T111 l0 x14_1).f1))).trans hx767_0; replace hx767_1 := (cell_far (p := ⟨gb766, 1, none⟩) (zn hn767_1) (.int .i64 ((rd_T111 l0 x14_1).f1))).trans hx767_1; replace hx767_2 := (cell_far (p := ⟨gb766, 1, none⟩) (zn hn767_1) (.int .i64 ((rd_T111 l0 x14_1).f1))).trans hx767_2; replace hx767_0 := (cell_far (p := ⟨gb766, 2, none⟩) (zn hn767_2) (.slice A765_2 ((rd_T111 l0 x14_1).f2).length c765_2)).trans hx767_0; replace hx767_1 := (cell_far (p := ⟨gb766, 2, none⟩) (zn hn767_2) (.slice A765_2 ((rd_T111 l0 x14_1).f2).length c765_2)).trans hx767_1; replace hx767_2 := (cell_far (p := ⟨gb766, 2, none⟩) (zn hn767_2) (.slice A765_2 ((rd_T111 l0 x14_1).f2).length c765_2)).trans hx767_2; (try have hy767_0 := fun (n_ : Nat) => (show (((((w16.drewN n_).setCell ⟨gb766, 0, none⟩ (.int .i64 ((rd_T111 l0 x14_1).f0))).setCell ⟨gb766, 1, none⟩ (.int .i64 ((rd_T111 l0 x14_1).f1))).setCell ⟨gb766, 2, none⟩ (.slice A765_2 ((rd_T111 l0 x14_1).f2).length c765_2))).cell? _ = some _ from hx767_0)); (try have hy767_1 := fun (n_ : Nat) => (show (((((w16.drewN n_).setCell ⟨gb766, 0, none⟩ (.int .i64 ((rd_T111 l0 x14_1).f0))).setCell ⟨gb766, 1, none⟩ (.int .i64 ((rd_T111 l0 x14_1).f1))).setCell ⟨gb766, 2, none⟩ (.slice A765_2 ((rd_T111 l0 x14_1).f2).length c765_2))).cell? _ = some _ from hx767_1)); (try have hy767_2 := fun (n_ : Nat) => (show (((((w16.drewN n_).setCell ⟨gb766, 0, none⟩ (.int .i64 ((rd_T111 l0 x14_1).f0))).setCell ⟨gb766, 1, none⟩ (.int .i64 ((rd_T111 l0 x14_1).f1))).setCell ⟨gb766, 2, none⟩ (.slice A765_2 ((rd_T111 l0 x14_1).f2).length c765_2))).cell? _ = some _ from hx767_2)); clear hn767_0; clear hn767_1; clear hn767_2; replace p767 := eq_true p767; replace q767 := eq_true q767; have p768 : 0 ≤ (x14_1 : Int) := oa; have q768 : x14_1 < (l1.length : Int) := oa; obtain ⟨ad768, A768_2, c768_2, e768, hx768_0, hx768_1, hx768_2, hl768_2, hi768_2⟩ := at_T111 HR1.out x14_1 p768 q768; obtain rfl : ad767 = ad768 := (by injection e768); have hn768_0 : ad767.block ≠ gb766 := Nat.ne_of_lt (Nat.lt_of_lt_of_le (zl hx768_0) GW766.out); have hn768_1 : ad767.block ≠ gb766 := Nat.ne_of_lt (Nat.lt_of_lt_of_le (zl hx768_0) GW766.out); have hn768_2 : ad767.block ≠ gb766 := Nat.ne_of_lt (Nat.lt_of_lt_of_le (zl hx768_0) GW766.out); replace hx768_0 := (HB.out.cell (World.block_lt_of_cell? w _ hx768_0)).trans hx768_0; replace hx768_1 := (HB.out.cell (World.block_lt_of_cell? w _ hx768_1)).trans hx768_1; replace hx768_2 := (HB.out.cell (World.block_lt_of_cell? w _ hx768_2)).trans hx768_2; have HR768_2 := Aside0.mk hi768_2; have HC768_2 := Aside0.mk hl768_2; clear hi768_2 hl768_2; replace hx768_0 := (cell_far (p := ⟨gb766, 0, none⟩) (zn hn768_0) (.int .i64 ((rd_T111 l0 x14_1).f0))).trans hx768_0; replace hx768_1 := (cell_far (p := ⟨gb766, 0, none⟩) (zn hn768_0) (.int .i64 ((rd_T111 l0 x14_1).f0))).trans hx768_1; replace hx768_2 := (cell_far (p := ⟨gb766, 0, none⟩) (zn hn768_0) (.int .i64 ((rd_T111 l0 x14_1).f0))).trans hx768_2; replace hx768_0 := (cell_far (p := ⟨gb766, 1, none⟩) (zn hn768_1) (.int .i64 ((rd_T111 l0 x14_1).f1))).trans hx768_0; replace hx768_1 := (cell_far (p := ⟨gb766, 1, none⟩) (zn hn768_1) (.int .i64 ((rd_T111 l0 x14_1).f1))).trans hx768_1; replace hx768_2 := (cell_far (p := ⟨gb766, 1, none⟩) (zn hn768_1) (.int .i64 ((rd_T111 l0 x14_1).f1))).trans hx768_2; replace hx768_0 := (cell_far (p := ⟨gb766, 2, none⟩) (zn hn768_2) (.slice A765_2 ((rd_T111 l0 x14_1).f2).length c765_2)).trans hx768_0; replace hx768_1 := (cell_far (p := ⟨gb766, 2, none⟩) (zn hn768_2) (.slice A765_2 ((rd_T111 l0 x14_1).f2).length c765_2)).trans hx768_1; replace hx768_2 := (cell_far (p := ⟨gb766, 2, none⟩) (zn hn768_2) (.slice A765_2 ((rd_T111 l0 x14_1).f2).length c765_2)).trans hx768_2; (try have hy768_0 := fun (n_ : Nat) => (show (((((w16.drewN n_).setCell ⟨gb766, 0, none⟩ (.int .i64 ((rd_T111 l0 x14_1).f0))).setCell ⟨gb766, 1, none⟩ (.int .i64 ((rd_T111 l0 x14_1).f1))).setCell ⟨gb766, 2, none⟩ (.slice A765_2 ((rd_T111 l0 x14_1).f2).length c765_2))).cell? _ = some _ from hx768_0)); (try have hy768_1 := fun (n_ : Nat) => (show (((((w16.drewN n_).setCell ⟨gb766, 0, none⟩ (.int .i64 ((rd_T111 l0 x14_1).f0))).setCell ⟨gb766, 1, none⟩ (.int .i64 ((rd_T111 l0 x14_1).f1))).setCell ⟨gb766, 2, none⟩ (.slice A765_2 ((rd_T111 l0 x14_1).f2).length c765_2))).cell? _ = some _ from hx768_1)); (try have hy768_2 := fun (n_ : Nat) => (show (((((w16.drewN n_).setCell ⟨gb766, 0, none⟩ (.int .i64 ((rd_T111 l0 x14_1).f0))).setCell ⟨gb766, 1, none⟩ (.int .i64 ((rd_T111 l0 x14_1).f1))).setCell ⟨gb766, 2, none⟩ (.slice A765_2 ((rd_T111 l0 x14_1).f2).length c765_2))).cell? _ = some _ from hx768_2)); clear hn768_0; clear hn768_1; clear hn768_2; replace p768 := eq_true p768; replace q768 := eq_true q768)); try go_wp2_with (first | ((with_reducible refine gate_dst (N := 6) rfl ?_); refine box_event ?hg (N := 6) ?hd (cs := #[.int .i64 0, .int .i64 0, .slice none 0 0]) (t := 111) ?hr ?_; (case hd => rfl); (case hg => rfl); (case hr => first | (go_simp; done) | (go_simp; rfl)); intro gb766 hg w16 hbox hb; have n0_ := Aside0.mk (below_step zb hb); have n1_ := Aside0.mk (hbox); have n2_ := Aside0.mk ((by rw [hg]; exact (below_size zb) : w.heap.size ≤ gb766)); have n3_ := Aside0.mk ((by rw [hg]; exact (below_size zb) : w.heap.size ≤ gb766)); clear HB; have HB := n0_; have BK766 := n1_; have GW766 := n2_; have GE766 := n3_; clear n0_ n1_ n2_ n3_; clear hb hbox hg; have hcz17_0 : w16.cell? ⟨gb766, 0, none⟩ = some (.int .i64 0) := (blk_cell BK766.out 0).trans rfl; have hcz17_1 : w16.cell? ⟨gb766, 1, none⟩ = some (.int .i64 0) := (blk_cell BK766.out 1).trans rfl; have hcz17_2 : w16.cell? ⟨gb766, 2, none⟩ = some (.slice none 0 0) := (blk_cell BK766.out 2).trans rfl; have hfz17_0 := blk_frozen BK766.out 0; have hfz17_1 := blk_frozen BK766.out 1; have hfz17_2 := blk_frozen BK766.out 2; have p767 : 0 ≤ (x14_1 : Int) := oa; have q767 : x14_1 < (l1.length : Int) := oa; obtain ⟨ad767, A767_2, c767_2, e767, hx767_0, hx767_1, hx767_2, hl767_2, hi767_2⟩ := at_T111 HR1.out x14_1 p767 q767; cases e767; have hn767_0 : ad767.block ≠ gb766 := Nat.ne_of_lt (Nat.lt_of_lt_of_le (zl hx767_0) GW766.out); have hn767_1 : ad767.block ≠ gb766 := Nat.ne_of_lt (Nat.lt_of_lt_of_le (zl hx767_0) GW766.out); have hn767_2 : ad767.block ≠ gb766 := Nat.ne_of_lt (Nat.lt_of_lt_of_le (zl hx767_0) GW766.out); replace hx767_0 := (HB.out.cell (World.block_lt_of_cell? w _ hx767_0)).trans hx767_0; replace hx767_1 := (HB.out.cell (World.block_lt_of_cell? w _ hx767_1)).trans hx767_1; replace hx767_2 := (HB.out.cell (World.block_lt_of_cell? w _ hx767_2)).trans hx767_2; have HR767_2 := Aside0.mk hi767_2; have HC767_2 := Aside0.mk hl767_2; clear hi767_2 hl767_2; replace hx767_0 := (cell_far (p := ⟨gb766, 0, none⟩) (zn hn767_0) (.int .i64 ((rd_T111 l0 x14_1).f0))).trans hx767_0; replace hx767_1 := (cell_far (p := ⟨gb766, 0, none⟩) (zn hn767_0) (.int .i64 ((rd_T111 l0 x14_1).f0))).trans hx767_1; replace hx767_2 := (cell_far (p := ⟨gb766, 0, none⟩) (zn hn767_0) (.int .i64 ((rd_T111 l0 x14_1).f0))).trans hx767_2; replace hx767_0 := (cell_far (p := ⟨gb766, 1, none⟩) (zn hn767_1) (.int .i64 ((rd_T111 l0 x14_1).f1))).trans hx767_0; replace hx767_1 := (cell_far (p := ⟨gb766, 1, none⟩) (zn hn767_1) (.int .i64 ((rd_T111 l0 x14_1).f1))).trans hx767_1; replace hx767_2 := (cell_far (p := ⟨gb766, 1, none⟩) (zn hn767_1) (.int .i64 ((rd_T111 l0 x14_1).f1))).trans hx767_2; replace hx767_0 := (cell_far (p := ⟨gb766, 2, none⟩) (zn hn767_2) (.slice A765_2 ((rd_T111 l0 x14_1).f2).length c765_2)).trans hx767_0; replace hx767_1 := (cell_far (p := ⟨gb766, 2, none⟩) (zn hn767_2) (.slice A765_2 ((rd_T111 l0 x14_1).f2).length c765_2)).trans hx767_1; replace hx767_2 := (cell_far (p := ⟨gb766, 2, none⟩) (zn hn767_2) (.slice A765_2 ((rd_T111 l0 x14_1).f2).length c765_2)).trans hx767_2; (try have hy767_0 := fun (n_ : Nat) => (show (((((w16.drewN n_).setCell ⟨gb766, 0, none⟩ (.int .i64 ((rd_T111 l0 x14_1).f0))).setCell ⟨gb766, 1, none⟩ (.int .i64 ((rd_T111 l0 x14_1).f1))).setCell ⟨gb766, 2, none⟩ (.slice A765_2 ((rd_T111 l0 x14_1).f2).length c765_2))).cell? _ = some _ from hx767_0)); (try have hy767_1 := fun (n_ : Nat) => (show (((((w16.drewN n_).setCell ⟨gb766, 0, none⟩ (.int .i64 ((rd_T111 l0 x14_1).f0))).setCell ⟨gb766, 1, none⟩ (.int .i64 ((rd_T111 l0 x14_1).f1))).setCell ⟨gb766, 2, none⟩ (.slice A765_2 ((rd_T111 l0 x14_1).f2).length c765_2))).cell? _ = some _ from hx767_1)); (try have hy767_2 := fun (n_ : Nat) => (show (((((w16.drewN n_).setCell ⟨gb766, 0, none⟩ (.int .i64 ((rd_T111 l0 x14_1).f0))).setCell ⟨gb766, 1, none⟩ (.int .i64 ((rd_T111 l0 x14_1).f1))).setCell ⟨gb766, 2, none⟩ (.slice A765_2 ((rd_T111 l0 x14_1).f2).length c765_2))).cell? _ = some _ from hx767_2)); clear hn767_0; clear hn767_1; clear hn767_2; replace p767 := eq_true p767; replace q767 := eq_true q767; have p768 : 0 ≤ (x14_1 : Int) := oa; have q768 : x14_1 < (l1.length : Int) := oa; obtain ⟨ad768, A768_2, c768_2, e768, hx768_0, hx768_1, hx768_2, hl768_2, hi768_2⟩ := at_T111 HR1.out x14_1 p768 q768; obtain rfl : ad767 = ad768 := (by injection e768); have hn768_0 : ad767.block ≠ gb766 := Nat.ne_of_lt (Nat.lt_of_lt_of_le (zl hx768_0) GW766.out); have hn768_1 : ad767.block ≠ gb766 := Nat.ne_of_lt (Nat.lt_of_lt_of_le (zl hx768_0) GW766.out); have hn768_2 : ad767.block ≠ gb766 := Nat.ne_of_lt (Nat.lt_of_lt_of_le (zl hx768_0) GW766.out); replace hx768_0 := (HB.out.cell (World.block_lt_of_cell? w _ hx768_0)).trans hx768_0; replace hx768_1 := (HB.out.cell (World.block_lt_of_cell? w _ hx768_1)).trans hx768_1; replace hx768_2 := (HB.out.cell (World.block_lt_of_cell? w _ hx768_2)).trans hx768_2; have HR768_2 := Aside0.mk hi768_2; have HC768_2 := Aside0.mk hl768_2; clear hi768_2 hl768_2; replace hx768_0 := (cell_far (p := ⟨gb766, 0, none⟩) (zn hn768_0) (.int .i64 ((rd_T111 l0 x14_1).f0))).trans hx768_0; replace hx768_1 := (cell_far (p := ⟨gb766, 0, none⟩) (zn hn768_0) (.int .i64 ((rd_T111 l0 x14_1).f0))).trans hx768_1; replace hx768_2 := (cell_far (p := ⟨gb766, 0, none⟩) (zn hn768_0) (.int .i64 ((rd_T111 l0 x14_1).f0))).trans hx768_2; replace hx768_0 := (cell_far (p := ⟨gb766, 1, none⟩) (zn hn768_1) (.int .i64 ((rd_T111 l0 x14_1).f1))).trans hx768_0; replace hx768_1 := (cell_far (p := ⟨gb766, 1, none⟩) (zn hn768_1) (.int .i64 ((rd_T111 l0 x14_1).f1))).trans hx768_1; replace hx768_2 := (cell_far (p := ⟨gb766, 1, none⟩) (zn hn768_1) (.int .i64 ((rd_T111 l0 x14_1).f1))).trans hx768_2; replace hx768_0 := (cell_far (p := ⟨gb766, 2, none⟩) (zn hn768_2) (.slice A765_2 ((rd_T111 l0 x14_1).f2).length c765_2)).trans hx768_0; replace hx768_1 := (cell_far (p := ⟨gb766, 2, none⟩) (zn hn768_2) (.slice A765_2 ((rd_T111 l0 x14_1).f2).length c765_2)).trans hx768_1; replace hx768_2 := (cell_far (p := ⟨gb766, 2, none⟩) (zn hn768_2) (.slice A765_2 ((rd_T111 l0 x14_1).f2).length c765_2)).trans hx768_2; (try have hy768_0 := fun (n_ : Nat) => (show (((((w16.drewN n_).setCell ⟨gb766, 0, none⟩ (.int .i64 ((rd_T111 l0 x14_1).f0))).setCell ⟨gb766, 1, none⟩ (.int .i64 ((rd_T111 l0 x14_1).f1))).setCell ⟨gb766, 2, none⟩ (.slice A765_2 ((rd_T111 l0 x14_1).f2).length c765_2))).cell? _ = some _ from hx768_0)); (try have hy768_1 := fun (n_ : Nat) => (show (((((w16.drewN n_).setCell ⟨gb766, 0, none⟩ (.int .i64 ((rd_T111 l0 x14_1).f0))).setCell ⟨gb766, 1, none⟩ (.int .i64 ((rd_T111 l0 x14_1).f1))).setCell ⟨gb766, 2, none⟩ (.slice A765_2 ((rd_T111 l0 x14_1).f2).length c765_2))).cell? _ = some _ from hx768_1)); (try have hy768_2 := fun (n_ : Nat) => (show (((((w16.drewN n_).setCell ⟨gb766, 0, none⟩ (.int .i64 ((rd_T111 l0 x14_1).f0))).setCell ⟨gb766, 1, none⟩ (.int .i64 ((rd_T111 l0 x14_1).f1))).setCell ⟨gb766, 2, none⟩ (.slice A765_2 ((rd_T111 l0 x14_1).f2).length c765_2))).cell? _ = some _ from hx768_2)); clear hn768_0; clear hn768_1; clear hn768_2; replace p768 := eq_true p768; replace q768 := eq_true q768)))
          go_ret
          exact ⟨by first | rfl | (simp [errW_none, errW_some] <;> rfl) | (simp [*, errW_none, errW_some] <;> rfl), by repeat (first | (with_reducible first | exact HB.out | apply below_alloc | apply pw_below_drewN | apply below_drew1 | refine below_set ?_ GE766.out) | exact HB.out)⟩
        ·rw [if_neg c8] at H
         have c8b0 : (((rd_T111 l0 x14_1).f0) == ((rd_T111 l1 x14_1).f0)) = false := beq_eq_false_iff_ne.mpr c8
         have c8b1 : (((rd_T111 l0 x14_1).f0) != ((rd_T111 l1 x14_1).f0)) = true := bne_iff_ne.mpr c8
         obtain rfl := Option.some.inj H
         have p765 : 0 ≤ (x14_1 : Int) := oa
         have q765 : x14_1 < (l0.length : Int) := oa
         obtain ⟨ad765, A765_2, c765_2, e765, hx765_0, hx765_1, hx765_2, hl765_2, hi765_2⟩ := at_T111 HR0.out x14_1 p765 q765
         cases e765
         replace hx765_0 := (HB.out.cell (World.block_lt_of_cell? w _ hx765_0)).trans hx765_0
         replace hx765_1 := (HB.out.cell (World.block_lt_of_cell? w _ hx765_1)).trans hx765_1
         replace hx765_2 := (HB.out.cell (World.block_lt_of_cell? w _ hx765_2)).trans hx765_2
         have HR765_2 := Aside0.mk hi765_2
         have HC765_2 := Aside0.mk hl765_2
         clear hi765_2 hl765_2
         replace p765 := eq_true p765
         replace q765 := eq_true q765
         go_wp2_with (first | ((with_reducible refine gate_dst (N := 6) rfl ?_); refine box_event ?hg (N := 6) ?hd (cs := #[.int .i64 0, .int .i64 0, .slice none 0 0]) (t := 111) ?hr ?_; (case hd => rfl); (case hg => rfl); (case hr => first | (go_simp; done) | (go_simp; rfl)); intro gb766 hg w18 hbox hb; have n0_ := Aside0.mk (below_step zb hb); have n1_ := Aside0.mk (hbox); have n2_ := Aside0.mk ((by rw [hg]; exact (below_size zb) : w.heap.size ≤ gb766)); have n3_ := Aside0.mk ((by rw [hg]; exact (below_size zb) : w.heap.size ≤ gb766)); clear HB; have HB := n0_; have BK766 := n1_; have GW766 := n2_; have GE766 := n3_; clear n0_ n1_ n2_ n3_; clear hb hbox hg; have hcz19_0 : w18.cell? ⟨gb766, 0, none⟩ = some (.int .i64 0) := (blk_cell BK766.out 0).trans rfl; have hcz19_1 : w18.cell? ⟨gb766, 1, none⟩ = some (.int .i64 0) := (blk_cell BK766.out 1).trans rfl; have hcz19_2 : w18.cell? ⟨gb766, 2, none⟩ = some (.slice none 0 0) := (blk_cell BK766.out 2).trans rfl; have hfz19_0 := blk_frozen BK766.out 0; have hfz19_1 := blk_frozen BK766.out 1; have hfz19_2 := blk_frozen BK766.out 2; have p767 : 0 ≤ (x14_1 : Int) := oa; have q767 : x14_1 < (l1.length : Int) := oa; obtain ⟨ad767, A767_2, c767_2, e767, hx767_0, hx767_1, hx767_2, hl767_2, hi767_2⟩ := at_T111 HR1.out x14_1 p767 q767; cases e767; have hn767_0 : ad767.block ≠ gb766 := Nat.ne_of_lt (Nat.lt_of_lt_of_le (zl hx767_0) GW766.out); have hn767_1 : ad767.block ≠ gb766 := Nat.ne_of_lt (Nat.lt_of_lt_of_le (zl hx767_0) GW766.out); have hn767_2 : ad767.block ≠ gb766 := Nat.ne_of_lt (Nat.lt_of_lt_of_le (zl hx767_0) GW766.out); replace hx767_0 := (HB.out.cell (World.block_lt_of_cell? w _ hx767_0)).trans hx767_0; replace hx767_1 := (HB.out.cell (World.block_lt_of_cell? w _ hx767_1)).trans hx767_1; replace hx767_2 := (HB.out.cell (World.block_lt_of_cell? w _ hx767_2)).trans hx767_2; have HR767_2 := Aside0.mk hi767_2; have HC767_2 := Aside0.mk hl767_2; clear hi767_2 hl767_2; replace hx767_0 := (cell_far (p := ⟨gb766, 0, none⟩) (zn hn767_0) (.int .i64 ((rd_T111 l0 x14_1).f0))).trans hx767_0; replace hx767_1 := (cell_far (p := ⟨gb766, 0, none⟩) (zn hn767_0) (.int .i64 ((rd_T111 l0 x14_1).f0))).trans hx767_1; replace hx767_2 := (cell_far (p := ⟨gb766, 0, none⟩) (zn hn767_0) (.int .i64 ((rd_T111 l0 x14_1).f0))).trans hx767_2; replace hx767_0 := (cell_far (p := ⟨gb766, 1, none⟩) (zn hn767_1) (.int .i64 ((rd_T111 l0 x14_1).f1))).trans hx767_0; replace hx767_1 := (cell_far (p := ⟨gb766, 1, none⟩) (zn hn767_1) (.int .i64 ((rd_T111 l0 x14_1).f1))).trans hx767_1; replace hx767_2 := (cell_far (p := ⟨gb766, 1, none⟩) (zn hn767_1) (.int .i64 ((rd_T111 l0 x14_1).f1))).trans hx767_2; replace hx767_0 := (cell_far (p := ⟨gb766, 2, none⟩) (zn hn767_2) (.slice A765_2 ((rd_T111 l0 x14_1).f2).length c765_2)).trans hx767_0; replace hx767_1 := (cell_far (p := ⟨gb766, 2, none⟩) (zn hn767_2) (.slice A765_2 ((rd_T111 l0 x14_1).f2).length c765_2)).trans hx767_1; replace hx767_2 := (cell_far (p := ⟨gb766, 2, none⟩) (zn hn767_2) (.slice A765_2 ((rd_T111 l0 x14_1).f2).length c765_2)).trans hx767_2; (try have hy767_0 := fun (n_ : Nat) => (show (((((w18.drewN n_).setCell ⟨gb766, 0, none⟩ (.int .i64 ((rd_T111 l0 x14_1).f0))).setCell ⟨gb766, 1, none⟩ (.int .i64 ((rd_T111 l0 x14_1).f1))).setCell ⟨gb766, 2, none⟩ (.slice A765_2 ((rd_T111 l0 x14_1).f2).length c765_2))).cell? _ = some _ from hx767_0)); (try have hy767_1 := fun (n_ : Nat) => (show (((((w18.drewN n_).setCell ⟨gb766, 0, none⟩ (.int .i64 ((rd_T111 l0 x14_1).f0))).setCell ⟨gb766, 1, none⟩ (.int .i64 ((rd_T111 l0 x14_1).f1))).setCell ⟨gb766, 2, none⟩ (.slice A765_2 ((rd_T111 l0 x14_1).f2).length c765_2))).cell? _ = some _ from hx767_1)); (try have hy767_2 := fun (n_ : Nat) => (show (((((w18.drewN n_).setCell ⟨gb766, 0, none⟩ (.int .i64 ((rd_T111 l0 x14_1).f0))).setCell ⟨gb766, 1, none⟩ (.int .i64 ((rd_T111 l0 x14_1).f1))).setCell ⟨gb766, 2, none⟩ (.slice A765_2 ((rd_T111 l0 x14_1).f2).length c765_2))).cell? _ = some _ from hx767_2)); clear hn767_0; clear hn767_1; clear hn767_2; replace p767 := eq_true p767; replace q767 := eq_true q767))
         repeat (go_quiet (first | ((with_reducible refine gate_dst (N := 6) rfl ?_); refine box_event ?hg (N := 6) ?hd (cs := #[.int .i64 0, .int .i64 0, .slice none 0 0]) (t := 111) ?hr ?_; (case hd => rfl); (case hg => rfl); (case hr => first | (go_simp; done) | (go_simp; rfl)); intro gb766 hg w18 hbox hb; have n0_ := Aside0.mk (below_step zb hb); have n1_ := Aside0.mk (hbox); have n2_ := Aside0.mk ((by rw [hg]; exact (below_size zb) : w.heap.size ≤ gb766)); have n3_ := Aside0.mk ((by rw [hg]; exact (below_size zb) : w.heap.size ≤ gb766)); clear HB; have HB := n0_; have BK766 := n1_; have GW766 := n2_; have GE766 := n3_; clear n0_ n1_ n2_ n3_; clear hb hbox hg; have hcz19_0 : w18.cell? ⟨gb766, 0, none⟩ = some (.int .i64 0) := (blk_cell BK766.out 0).trans rfl; have hcz19_1 : w18.cell? ⟨gb766, 1, none⟩ = some (.int .i64 0) := (blk_cell BK766.out 1).trans rfl; have hcz19_2 : w18.cell? ⟨gb766, 2, none⟩ = some (.slice none 0 0) := (blk_cell BK766.out 2).trans rfl; have hfz19_0 := blk_frozen BK766.out 0; have hfz19_1 := blk_frozen BK766.out 1; have hfz19_2 := blk_frozen BK766.out 2; have p767 : 0 ≤ (x14_1 : Int) := oa; have q767 : x14_1 < (l1.length : Int) := oa; obtain ⟨ad767, A767_2, c767_2, e767, hx767_0, hx767_1, hx767_2, hl767_2, hi767_2⟩ := at_T111 HR1.out x14_1 p767 q767; cases e767; have hn767_0 : ad767.block ≠ gb766 := Nat.ne_of_lt (Nat.lt_of_lt_of_le (zl hx767_0) GW766.out); have hn767_1 : ad767.block ≠ gb766 := Nat.ne_of_lt (Nat.lt_of_lt_of_le (zl hx767_0) GW766.out); have hn767_2 : ad767.block ≠ gb766 := Nat.ne_of_lt (Nat.lt_of_lt_of_le (zl hx767_0) GW766.out); replace hx767_0 := (HB.out.cell (World.block_lt_of_cell? w _ hx767_0)).trans hx767_0; replace hx767_1 := (HB.out.cell (World.block_lt_of_cell? w _ hx767_1)).trans hx767_1; replace hx767_2 := (HB.out.cell (World.block_lt_of_cell? w _ hx767_2)).trans hx767_2; have HR767_2 := Aside0.mk hi767_2; have HC767_2 := Aside0.mk hl767_2; clear hi767_2 hl767_2; replace hx767_0 := (cell_far (p := ⟨gb766, 0, none⟩) (zn hn767_0) (.int .i64 ((rd_T111 l0 x14_1).f0))).trans hx767_0; replace hx767_1 := (cell_far (p := ⟨gb766, 0, none⟩) (zn hn767_0) (.int .i64 ((rd_T111 l0 x14_1).f0))).trans hx767_1; replace hx767_2 := (cell_far (p := ⟨gb766, 0, none⟩) (zn hn767_0) (.int .i64 ((rd_T111 l0 x14_1).f0))).trans hx767_2; replace hx767_0 := (cell_far (p := ⟨gb766, 1, none⟩) (zn hn767_1) (.int .i64 ((rd_T111 l0 x14_1).f1))).trans hx767_0; replace hx767_1 := (cell_far (p := ⟨gb766, 1, none⟩) (zn hn767_1) (.int .i64 ((rd_T111 l0 x14_1).f1))).trans hx767_1; replace hx767_2 := (cell_far (p := ⟨gb766, 1, none⟩) (zn hn767_1) (.int .i64 ((rd_T111 l0 x14_1).f1))).trans hx767_2; replace hx767_0 := (cell_far (p := ⟨gb766, 2, none⟩) (zn hn767_2) (.slice A765_2 ((rd_T111 l0 x14_1).f2).length c765_2)).trans hx767_0; replace hx767_1 := (cell_far (p := ⟨gb766, 2, none⟩) (zn hn767_2) (.slice A765_2 ((rd_T111 l0 x14_1).f2).length c765_2)).trans hx767_1; replace hx767_2 := (cell_far (p := ⟨gb766, 2, none⟩) (zn hn767_2) (.slice A765_2 ((rd_T111 l0 x14_1).f2).length c765_2)).trans hx767_2; (try have hy767_0 := fun (n_ : Nat) => (show (((((w18.drewN n_).setCell ⟨gb766, 0, none⟩ (.int .i64 ((rd_T111 l0 x14_1).f0))).setCell ⟨gb766, 1, none⟩ (.int .i64 ((rd_T111 l0 x14_1).f1))).setCell ⟨gb766, 2, none⟩ (.slice A765_2 ((rd_T111 l0 x14_1).f2).length c765_2))).cell? _ = some _ from hx767_0)); (try have hy767_1 := fun (n_ : Nat) => (show (((((w18.drewN n_).setCell ⟨gb766, 0, none⟩ (.int .i64 ((rd_T111 l0 x14_1).f0))).setCell ⟨gb766, 1, none⟩ (.int .i64 ((rd_T111 l0 x14_1).f1))).setCell ⟨gb766, 2, none⟩ (.slice A765_2 ((rd_T111 l0 x14_1).f2).length c765_2))).cell? _ = some _ from hx767_1)); (try have hy767_2 := fun (n_ : Nat) => (show (((((w18.drewN n_).setCell ⟨gb766, 0, none⟩ (.int .i64 ((rd_T111 l0 x14_1).f0))).setCell ⟨gb766, 1, none⟩ (.int .i64 ((rd_T111 l0 x14_1).f1))).setCell ⟨gb766, 2, none⟩ (.slice A765_2 ((rd_T111 l0 x14_1).f2).length c765_2))).cell? _ = some _ from hx767_2)); clear hn767_0; clear hn767_1; clear hn767_2; replace p767 := eq_true p767; replace q767 := eq_true q767)); try go_wp2_with (first | ((with_reducible refine gate_dst (N := 6) rfl ?_); refine box_event ?hg (N := 6) ?hd (cs := #[.int .i64 0, .int .i64 0, .slice none 0 0]) (t := 111) ?hr ?_; (case hd => rfl); (case hg => rfl); (case hr => first | (go_simp; done) | (go_simp; rfl)); intro gb766 hg w18 hbox hb; have n0_ := Aside0.mk (below_step zb hb); have n1_ := Aside0.mk (hbox); have n2_ := Aside0.mk ((by rw [hg]; exact (below_size zb) : w.heap.size ≤ gb766)); have n3_ := Aside0.mk ((by rw [hg]; exact (below_size zb) : w.heap.size ≤ gb766)); clear HB; have HB := n0_; have BK766 := n1_; have GW766 := n2_; have GE766 := n3_; clear n0_ n1_ n2_ n3_; clear hb hbox hg; have hcz19_0 : w18.cell? ⟨gb766, 0, none⟩ = some (.int .i64 0) := (blk_cell BK766.out 0).trans rfl; have hcz19_1 : w18.cell? ⟨gb766, 1, none⟩ = some (.int .i64 0) := (blk_cell BK766.out 1).trans rfl; have hcz19_2 : w18.cell? ⟨gb766, 2, none⟩ = some (.slice none 0 0) := (blk_cell BK766.out 2).trans rfl; have hfz19_0 := blk_frozen BK766.out 0; have hfz19_1 := blk_frozen BK766.out 1; have hfz19_2 := blk_frozen BK766.out 2; have p767 : 0 ≤ (x14_1 : Int) := oa; have q767 : x14_1 < (l1.length : Int) := oa; obtain ⟨ad767, A767_2, c767_2, e767, hx767_0, hx767_1, hx767_2, hl767_2, hi767_2⟩ := at_T111 HR1.out x14_1 p767 q767; cases e767; have hn767_0 : ad767.block ≠ gb766 := Nat.ne_of_lt (Nat.lt_of_lt_of_le (zl hx767_0) GW766.out); have hn767_1 : ad767.block ≠ gb766 := Nat.ne_of_lt (Nat.lt_of_lt_of_le (zl hx767_0) GW766.out); have hn767_2 : ad767.block ≠ gb766 := Nat.ne_of_lt (Nat.lt_of_lt_of_le (zl hx767_0) GW766.out); replace hx767_0 := (HB.out.cell (World.block_lt_of_cell? w _ hx767_0)).trans hx767_0; replace hx767_1 := (HB.out.cell (World.block_lt_of_cell? w _ hx767_1)).trans hx767_1; replace hx767_2 := (HB.out.cell (World.block_lt_of_cell? w _ hx767_2)).trans hx767_2; have HR767_2 := Aside0.mk hi767_2; have HC767_2 := Aside0.mk hl767_2; clear hi767_2 hl767_2; replace hx767_0 := (cell_far (p := ⟨gb766, 0, none⟩) (zn hn767_0) (.int .i64 ((rd_T111 l0 x14_1).f0))).trans hx767_0; replace hx767_1 := (cell_far (p := ⟨gb766, 0, none⟩) (zn hn767_0) (.int .i64 ((rd_T111 l0 x14_1).f0))).trans hx767_1; replace hx767_2 := (cell_far (p := ⟨gb766, 0, none⟩) (zn hn767_0) (.int .i64 ((rd_T111 l0 x14_1).f0))).trans hx767_2; replace hx767_0 := (cell_far (p := ⟨gb766, 1, none⟩) (zn hn767_1) (.int .i64 ((rd_T111 l0 x14_1).f1))).trans hx767_0; replace hx767_1 := (cell_far (p := ⟨gb766, 1, none⟩) (zn hn767_1) (.int .i64 ((rd_T111 l0 x14_1).f1))).trans hx767_1; replace hx767_2 := (cell_far (p := ⟨gb766, 1, none⟩) (zn hn767_1) (.int .i64 ((rd_T111 l0 x14_1).f1))).trans hx767_2; replace hx767_0 := (cell_far (p := ⟨gb766, 2, none⟩) (zn hn767_2) (.slice A765_2 ((rd_T111 l0 x14_1).f2).length c765_2)).trans hx767_0; replace hx767_1 := (cell_far (p := ⟨gb766, 2, none⟩) (zn hn767_2) (.slice A765_2 ((rd_T111 l0 x14_1).f2).length c765_2)).trans hx767_1; replace hx767_2 := (cell_far (p := ⟨gb766, 2, none⟩) (zn hn767_2) (.slice A765_2 ((rd_T111 l0 x14_1).f2).length c765_2)).trans hx767_2; (try have hy767_0 := fun (n_ : Nat) => (show (((((w18.drewN n_).setCell ⟨gb766, 0, none⟩ (.int .i64 ((rd_T111 l0 x14_1).f0))).setCell ⟨gb766, 1, none⟩ (.int .i64 ((rd_T111 l0 x14_1).f1))).setCell ⟨gb766, 2, none⟩ (.slice A765_2 ((rd_T111 l0 x14_1).f2).length c765_2))).cell? _ = some _ from hx767_0)); (try have hy767_1 := fun (n_ : Nat) => (show (((((w18.drewN n_).setCell ⟨gb766, 0, none⟩ (.int .i64 ((rd_T111 l0 x14_1).f0))).setCell ⟨gb766, 1, none⟩ (.int .i64 ((rd_T111 l0 x14_1).f1))).setCell ⟨gb766, 2, none⟩ (.slice A765_2 ((rd_T111 l0 x14_1).f2).length c765_2))).cell? _ = some _ from hx767_1)); (try have hy767_2 := fun (n_ : Nat) => (show (((((w18.drewN n_).setCell ⟨gb766, 0, none⟩ (.int .i64 ((rd_T111 l0 x14_1).f0))).setCell ⟨gb766, 1, none⟩ (.int .i64 ((rd_T111 l0 x14_1).f1))).setCell ⟨gb766, 2, none⟩ (.slice A765_2 ((rd_T111 l0 x14_1).f2).length c765_2))).cell? _ = some _ from hx767_2)); clear hn767_0; clear hn767_1; clear hn767_2; replace p767 := eq_true p767; replace q767 := eq_true q767)))
         go_ret
         exact ⟨by first | rfl | (simp [errW_none, errW_some] <;> rfl) | (simp [*, errW_none, errW_some] <;> rfl), by repeat (first | (with_reducible first | exact HB.out | apply below_alloc | apply pw_below_drewN | apply below_drew1 | refine below_set ?_ GE766.out) | exact HB.out)⟩
       ·rw [if_neg c7] at H
        exact absurd H (by simp)
      ·rw [if_neg c6] at H
       exact absurd H (by simp)
     ·rw [if_neg c5] at H
      exact absurd H (by simp)
    ·rw [if_neg c4] at H
     have c4b0 : decide (x14_1 < (l0.length : Int)) = false := decide_eq_false c4
     clear c4
     obtain rfl := Option.some.inj H
     go_wp2
     repeat (go_quiet (fail); try go_wp2)
     go_ret
     exact ⟨by first | rfl | (simp [errW_none, errW_some] <;> rfl) | (simp [*, errW_none, errW_some] <;> rfl), by repeat (first | (with_reducible first | exact HB.out | apply below_alloc | apply pw_below_drewN | apply below_drew1) | exact HB.out)⟩
 ·rw [if_neg c3] at H
  have c3b0 : ((l0.length : Int) == (l1.length : Int)) = false := beq_eq_false_iff_ne.mpr c3
  have c3b1 : ((l0.length : Int) != (l1.length : Int)) = true := bne_iff_ne.mpr c3
  have c3b2 : (l0.length == l1.length) = false := by first | simpa using c3 | (simp at c3 ⊢; omega)
  obtain rfl := Option.some.inj H
  go_enter Try.func34, Try.ntmps34
  go_wp2
  repeat (go_quiet (fail); try go_wp2)
  go_ret
  exact ⟨by first | rfl | (simp [errW_none, errW_some] <;> rfl) | (simp [*, errW_none, errW_some] <;> rfl), by repeat (first | (with_reducible first | exact HB.out | apply below_alloc | apply pw_below_drewN | apply below_drew1) | exact HB.out)⟩

end Go.Proofs.Ytcefenlblnediaa.My

/- Written by this session's program (wip/gen): a plain function with the same answers as the Go function, and the proof that the Go code comes to them. Asked: that the plain function has an answer. -/
namespace Go.Proofs.Ytcefenlblnediaa.My
open Go.RowKit Go.Proofs.YtcefenlblnediaaW.PrintWords Go.Proofs.YtcefenlblnediaaW.PrintLast Go.Proofs.YtcefenlblnediaaW.PrintMore
attribute [local go_sem] max2_int min2_int max_two min_two max_three min_three max_four min_four
set_option linter.unusedVariables false
set_option linter.unusedSimpArgs false

/-! ### spec_l1Ends: function 148 -/
def spec_l1Ends.f (a0 : ByteArray) : Option (Bool) := if 0 ≤ (wrap64 ((a0.size : Int) - 1)) then (if (wrap64 ((a0.size : Int) - 1)) < (a0.size : Int) then (some ((bt a0 (wrap64 ((a0.size : Int) - 1))) == 10)) else (none)) else (none)
set_option maxHeartbeats 8000000 in
set_option maxRecDepth 100000 in
theorem spec_l1Ends.calls (a0 : ByteArray) (r : Bool) (w : World) (h : spec_l1Ends.f a0 = some r) :
  Calls Try.prog 148 #[.string a0] w fun e w' => e = .returned (.bool r) ∧ Drawn0 w w' := by
 have H : (if 0 ≤ (wrap64 ((a0.size : Int) - 1)) then (if (wrap64 ((a0.size : Int) - 1)) < (a0.size : Int) then (some ((bt a0 (wrap64 ((a0.size : Int) - 1))) == 10)) else (none)) else (none)) = some r := h
 clear h
 obtain ⟨ji2, hji2⟩ : ∃ j_ : Int, (wrap64 ((a0.size : Int) - 1)) = j_ := ⟨_, rfl⟩
 replace H : (if 0 ≤ (ji2) then (if (ji2) < (a0.size : Int) then (some ((bt a0 (ji2)) == 10)) else (none)) else (none)) = some r := by first | (rw [hji2] at H; exact H) | (simp only [hji2] at H ⊢; exact H)
 have hji2w : (IntKind.i64.wrap ((a0.size : Int) - 1)) = ji2 := (i64_w _).trans hji2
 by_cases c3 : 0 ≤ (ji2)
 ·rw [if_pos c3] at H
  have c3b0 : decide (0 ≤ (ji2)) = true := decide_eq_true c3
  clear c3
  by_cases c4 : (ji2) < (a0.size : Int)
  ·rw [if_pos c4] at H
   have c4b0 : decide ((ji2) < (a0.size : Int)) = true := decide_eq_true c4
   clear c4
   obtain rfl := Option.some.inj H
   have p5 : 0 ≤ ((ji2) : Int) := oa
   have q5 : (ji2) < (a0.size : Int) := oa
   have hx5 := bt_at a0 (ji2)
   replace p5 := eq_true p5
   replace q5 := eq_true q5
   go_enter Try.func148, Try.ntmps148
   go_wp2
   go_ret
   exact ⟨by first | rfl | (simp; done) | (simp only [← hji2] <;> (first | rfl | simp)) | (simp [*]; done), by repeat (first | exact Drawn0.refl _ | apply Drawn0.step)⟩
  ·rw [if_neg c4] at H
   exact absurd H (by simp)
 ·rw [if_neg c3] at H
  exact absurd H (by simp)

end Go.Proofs.Ytcefenlblnediaa.My

/- Written by this session's program (wip/gen): a plain function with the same answers as the Go function, and the proof that the Go code comes to them. Asked: that the plain function has an answer. -/
namespace Go.Proofs.Ytcefenlblnediaa.My
open Go.RowKit Go.Proofs.YtcefenlblnediaaW.PrintWords Go.Proofs.YtcefenlblnediaaW.PrintLast Go.Proofs.YtcefenlblnediaaW.PrintMore
attribute [local go_sem] max2_int min2_int max_two min_two max_three min_three max_four min_four
set_option linter.unusedVariables false
set_option linter.unusedSimpArgs false

/-! ### spec_l1In: function 114 -/
def spec_l1In.f (a0 : Int) (a1 : Int) (a2 : Int) : Option (Bool) := if a0 ≥ a1 then (some (decide (a0 ≤ a2))) else (some false)
set_option maxHeartbeats 8000000 in
set_option maxRecDepth 100000 in
theorem spec_l1In.calls (a0 : Int) (a1 : Int) (a2 : Int) (r : Bool) (w : World) (h : spec_l1In.f a0 a1 a2 = some r) :
  Calls Try.prog 114 #[.int .i64 a0, .int .i64 a1, .int .i64 a2] w fun e w' => e = .returned (.bool r) ∧ Drawn0 w w' := by
 have H : (if a0 ≥ a1 then (some (decide (a0 ≤ a2))) else (some false)) = some r := h
 clear h
 by_cases c4 : a0 ≥ a1
 ·rw [if_pos c4] at H
  have c4b0 : decide (a1 ≤ a0) = true := decide_eq_true c4
  clear c4
  obtain rfl := Option.some.inj H
  go_enter Try.func114, Try.ntmps114
  go_wp2
  go_ret
  exact ⟨by first | rfl | (simp; done) | (simp [*]; done), by repeat (first | exact Drawn0.refl _ | apply Drawn0.step)⟩
 ·rw [if_neg c4] at H
  have c4b0 : decide (a1 ≤ a0) = false := decide_eq_false c4
  clear c4
  obtain rfl := Option.some.inj H
  go_enter Try.func114, Try.ntmps114
  go_wp2
  go_ret
  exact ⟨by first | rfl | (simp; done) | (simp [*]; done), by repeat (first | exact Drawn0.refl _ | apply Drawn0.step)⟩

end Go.Proofs.Ytcefenlblnediaa.My

/- Written by this session's program (wip/gen): a plain function with the same answers as the Go function, and the proof that the Go code comes to them. Asked: that the plain function has an answer. -/
namespace Go.Proofs.Ytcefenlblnediaa.My
open Go.RowKit Go.Proofs.YtcefenlblnediaaW.PrintWords Go.Proofs.YtcefenlblnediaaW.PrintLast Go.Proofs.YtcefenlblnediaaW.PrintMore
attribute [local go_sem] max2_int min2_int max_two min_two max_three min_three max_four min_four
set_option linter.unusedVariables false
set_option linter.unusedSimpArgs false

/-! ### spec_l1Line: function 147 -/
def spec_l1Line.l0 : Nat → ByteArray → Int → Option (Bool)
 | 0, _, _ => none
 | k + 1, x0, x3 => if x3 < (wrap64 ((x0.size : Int) - 1)) then (if 0 ≤ x3 then (if x3 < (x0.size : Int) then (if (bt x0 x3) = 10 then (some false) else (spec_l1Line.l0 k x0 (wrap64 (x3 + 1)))) else (none)) else (none)) else ((spec_l1In.f (x0.size : Int) 1 30).bind fun t102 => (some t102))
def spec_l1Line.f (k : Nat) (a0 : ByteArray) : Option (Bool) := spec_l1Line.l0 k a0 0
set_option maxHeartbeats 8000000 in
set_option maxRecDepth 100000 in
theorem spec_l1Line.calls (k : Nat) (a0 : ByteArray) (r : Bool) (w : World) (h : spec_l1Line.f k a0 = some r) :
  Calls Try.prog 147 #[.string a0] w fun e w' => e = .returned (.bool r) ∧ Drawn0 w w' := by
 have H : (spec_l1Line.l0 k a0 0) = some r := h
 clear h
 have H' := Aside0.mk H
 clear H
 go_enter Try.func147, Try.ntmps147
 go_wp2
 go_loopg [3] k (fun kq v3 w' => ∃ (x3_1 : Int), v3 = .int .i64 x3_1 ∧ Aside0 (spec_l1Line.l0 kq a0 x3_1 = some r) ∧ Aside0 (kq ≤ k) ∧ Drawn0 w w')
 case atStart => exact ⟨(0), zf, H', ⟨Nat.le_refl _⟩, by repeat (first | exact Drawn0.refl _ | apply Drawn0.step)⟩
 case round =>
  clear H'
  try clear c1
  obtain ⟨x3_1, rfl, HA, HK1, ⟨m1, rfl⟩⟩ := hrel
  cases gk with
  | zero => exact absurd HA.out (by simp [spec_l1Line.l0])
  | succ k1 =>
   have H := HA.out
   clear HA
   simp only [spec_l1Line.l0] at H
   by_cases c2 : x3_1 < (wrap64 ((a0.size : Int) - 1))
   ·rw [if_pos c2] at H
    have c2b0 : decide (x3_1 < (wrap64 ((a0.size : Int) - 1))) = true := decide_eq_true c2
    clear c2
    by_cases c3 : 0 ≤ x3_1
    ·rw [if_pos c3] at H
     have c3b0 : decide (0 ≤ x3_1) = true := decide_eq_true c3
     clear c3
     by_cases c4 : x3_1 < (a0.size : Int)
     ·rw [if_pos c4] at H
      have c4b0 : decide (x3_1 < (a0.size : Int)) = true := decide_eq_true c4
      clear c4
      by_cases c6 : (bt a0 x3_1) = 10
      ·rw [if_pos c6] at H
       have c6b0 : ((bt a0 x3_1) == 10) = true := beq_iff_eq.mpr c6
       have c6b1 : ((bt a0 x3_1) != 10) = false := bne_eq_false_iff_eq.mpr c6
       clear c6
       obtain rfl := Option.some.inj H
       have p5 : 0 ≤ (x3_1 : Int) := oa
       have q5 : x3_1 < (a0.size : Int) := oa
       have hx5 := bt_at a0 x3_1
       replace p5 := eq_true p5
       replace q5 := eq_true q5
       go_wp2
       go_ret
       exact ⟨by first | rfl | (simp; done) | (simp [*]; done), by repeat (first | exact Drawn0.refl _ | apply Drawn0.step)⟩
      ·rw [if_neg c6] at H
       have c6b0 : ((bt a0 x3_1) == 10) = false := beq_eq_false_iff_ne.mpr c6
       have c6b1 : ((bt a0 x3_1) != 10) = true := bne_iff_ne.mpr c6
       have H' := Aside0.mk H
       clear H
       have p5 : 0 ≤ (x3_1 : Int) := oa
       have q5 : x3_1 < (a0.size : Int) := oa
       have hx5 := bt_at a0 x3_1
       replace p5 := eq_true p5
       replace q5 := eq_true q5
       go_wp2
       go_roundg k1
       case measure => have := HK1.out; omega
       case rel => exact ⟨(wrap64 (x3_1 + 1)), zf, H', ⟨by have := HK1.out; omega⟩, by repeat (first | exact Drawn0.refl _ | apply Drawn0.step)⟩
     ·rw [if_neg c4] at H
      exact absurd H (by simp)
    ·rw [if_neg c3] at H
     exact absurd H (by simp)
   ·rw [if_neg c2] at H
    have c2b0 : decide (x3_1 < (wrap64 ((a0.size : Int) - 1))) = false := decide_eq_false c2
    clear c2
    replace H := Option.bind_eq_some_iff.mp H
    obtain ⟨t102, A70, H⟩ := H
    replace H : (some t102) = some r := H
    have A7 := Aside0.mk A70
    clear A70
    obtain rfl := Option.some.inj H
    go_wp2_with (first | ((with_reducible refine gateC (f := 114) rfl ?_); refine goesL_ (some 17) rfl rfl Try.func114 (by kernel_rfl) rfl #[.int .i64 (a0.size : Int), .int .i64 1, .int .i64 30] rfl zm ?_; (with_reducible refine (spec_l1In.calls (a0.size : Int) 1 30 t102 _ A7.out).mono ?_); rintro e w' ⟨rfl, ⟨nd, rfl⟩⟩; refine ⟨_, rfl, ?_⟩))
    go_ret
    exact ⟨by first | rfl | (simp; done) | (simp [*]; done), by repeat (first | exact Drawn0.refl _ | apply Drawn0.step)⟩

end Go.Proofs.Ytcefenlblnediaa.My

/- Written by this session's program (wip/gen): a plain function with the same answers as the Go function, and the proof that the Go code comes to them. Asked: that the plain function has an answer. -/
namespace Go.Proofs.Ytcefenlblnediaa.My
open Go.RowKit Go.Proofs.YtcefenlblnediaaW.PrintWords Go.Proofs.YtcefenlblnediaaW.PrintLast Go.Proofs.YtcefenlblnediaaW.PrintMore
attribute [local go_sem] max2_int min2_int max_two min_two max_three min_three max_four min_four
set_option linter.unusedVariables false
set_option linter.unusedSimpArgs false

/-! ### spec_l1Good: function 78 -/
def spec_l1Good.l0 : Nat → List ByteArray → List ByteArray → Int → Int → Option (Bool)
 | 0, _, _, _, _ => none
 | k + 1, x0, x5, x6, x7 => if x7 < x6 then (if 0 ≤ x7 then (if x7 < (x5.length : Int) then ((spec_l1Line.f k (rdOf ByteArray.empty x5 x7)).bind fun t104 => (if t104 = true then (if x7 < (wrap64 ((x0.length : Int) - 1)) then ((spec_l1Ends.f (rdOf ByteArray.empty x5 x7)).bind fun t105 => (if t105 = true then (spec_l1Good.l0 k x0 x5 x6 (wrap64 (x7 + 1))) else (some false))) else (spec_l1Good.l0 k x0 x5 x6 (wrap64 (x7 + 1)))) else (some false))) else (none)) else (none)) else (some (decide ((x0.length : Int) ≤ 40)))
def spec_l1Good.f (k : Nat) (l0 : List ByteArray) : Option (Bool) := spec_l1Good.l0 k l0 l0 (l0.length : Int) 0
set_option maxHeartbeats 8000000 in
set_option maxRecDepth 100000 in
theorem spec_l1Good.calls (k : Nat) (A0 : Option Addr) (c0 : Nat) (l0 : List ByteArray) (r : Bool) (w : World) (hr0 : Kd.C Kd.string w A0 l0.length l0) (hc0 : l0.length ≤ c0) (h : spec_l1Good.f k l0 = some r) :
  Calls Try.prog 78 #[.slice A0 l0.length c0] w fun e w' => e = .returned (.bool r) ∧ Drawn0 w w' := by
 have HR0 := Aside0.mk hr0
 have HC0 := Aside0.mk hc0
 clear hr0 hc0
 have H : (spec_l1Good.l0 k l0 l0 (l0.length : Int) 0) = some r := h
 clear h
 have H' := Aside0.mk H
 clear H
 go_enter Try.func78, Try.ntmps78
 go_wp2
 go_loopg [7] k (fun kq v7 w' => ∃ (x7_1 : Int), v7 = .int .i64 x7_1 ∧ Aside0 (spec_l1Good.l0 kq l0 l0 (l0.length : Int) x7_1 = some r) ∧ Aside0 (kq ≤ k) ∧ Drawn0 w w')
 case atStart => exact ⟨(0), zf, H', ⟨Nat.le_refl _⟩, by repeat (first | exact Drawn0.refl _ | apply Drawn0.step)⟩
 case round =>
  clear H'
  obtain ⟨x7_1, rfl, HA, HK1, ⟨m1, rfl⟩⟩ := hrel
  cases gk with
  | zero => exact absurd HA.out (by simp [spec_l1Good.l0])
  | succ k1 =>
   have H := HA.out
   clear HA
   simp only [spec_l1Good.l0] at H
   by_cases c2 : x7_1 < (l0.length : Int)
   ·rw [if_pos c2] at H
    have c2b0 : decide (x7_1 < (l0.length : Int)) = true := decide_eq_true c2
    clear c2
    by_cases c3 : 0 ≤ x7_1
    ·rw [if_pos c3] at H
     have c3b0 : decide (0 ≤ x7_1) = true := decide_eq_true c3
     clear c3
     by_cases c4 : x7_1 < (l0.length : Int)
     ·rw [if_pos c4] at H
      have c4b0 : decide (x7_1 < (l0.length : Int)) = true := decide_eq_true c4
      clear c4
      replace H := Option.bind_eq_some_iff.mp H
      obtain ⟨t104, A50, H⟩ := H
      replace H : (if t104 = true then (if x7_1 < (wrap64 ((l0.length : Int) - 1)) then ((spec_l1Ends.f (rdOf ByteArray.empty l0 x7_1)).bind fun t105 => (if t105 = true then (spec_l1Good.l0 k1 l0 l0 (l0.length : Int) (wrap64 (x7_1 + 1))) else (some false))) else (spec_l1Good.l0 k1 l0 l0 (l0.length : Int) (wrap64 (x7_1 + 1)))) else (some false)) = some r := H
      have A5 := Aside0.mk A50
      clear A50
      by_cases c6 : t104 = true
      ·subst c6
       have H1 : (if x7_1 < (wrap64 ((l0.length : Int) - 1)) then ((spec_l1Ends.f (rdOf ByteArray.empty l0 x7_1)).bind fun t105 => (if t105 = true then (spec_l1Good.l0 k1 l0 l0 (l0.length : Int) (wrap64 (x7_1 + 1))) else (some false))) else (spec_l1Good.l0 k1 l0 l0 (l0.length : Int) (wrap64 (x7_1 + 1)))) = some r := by rw [if_pos rfl] at H; exact H
       clear H
       have H := H1
       clear H1
       by_cases c7 : x7_1 < (wrap64 ((l0.length : Int) - 1))
       ·rw [if_pos c7] at H
        have c7b0 : decide (x7_1 < (wrap64 ((l0.length : Int) - 1))) = true := decide_eq_true c7
        clear c7
        replace H := Option.bind_eq_some_iff.mp H
        obtain ⟨t105, A80, H⟩ := H
        replace H : (if t105 = true then (spec_l1Good.l0 k1 l0 l0 (l0.length : Int) (wrap64 (x7_1 + 1))) else (some false)) = some r := H
        have A8 := Aside0.mk A80
        clear A80
        by_cases c9 : t105 = true
        ·subst c9
         have H1 : (spec_l1Good.l0 k1 l0 l0 (l0.length : Int) (wrap64 (x7_1 + 1))) = some r := by rw [if_pos rfl] at H; exact H
         clear H
         have H := H1
         clear H1
         have H' := Aside0.mk H
         clear H
         have p103 : 0 ≤ (x7_1 : Int) := oa
         have q103 : x7_1 < (l0.length : Int) := oa
         obtain ⟨ad103, e103, hx103_0⟩ := Kd.at_string HR0.out x7_1 p103 q103
         cases e103
         replace p103 := eq_true p103
         replace q103 := eq_true q103
         go_wp2_with (first | ((with_reducible refine gateC (f := 147) rfl ?_); refine goesL_ (some 13) rfl rfl Try.func147 (by kernel_rfl) rfl #[.string (rdOf ByteArray.empty l0 x7_1)] rfl zm ?_; (with_reducible refine (spec_l1Line.calls k1 (rdOf ByteArray.empty l0 x7_1) true _ A5.out).mono ?_); rintro e w' ⟨rfl, ⟨nd, rfl⟩⟩; refine ⟨_, rfl, ?_⟩) | (go_at_call 148; (with_reducible refine (spec_l1Ends.calls (rdOf ByteArray.empty l0 x7_1) true _ A8.out).mono ?_); rintro e w' ⟨rfl, ⟨nd, rfl⟩⟩))
         go_roundg k1
         case measure => have := HK1.out; omega
         case rel => exact ⟨(wrap64 (x7_1 + 1)), zf, H', ⟨by have := HK1.out; omega⟩, by repeat (first | exact Drawn0.refl _ | apply Drawn0.step)⟩
        ·replace c9 := Bool.eq_false_iff.mpr c9
         subst c9
         have H1 : (some false) = some r := by rw [if_neg (show ¬ (false = true) by decide)] at H; exact H
         clear H
         have H := H1
         clear H1
         obtain rfl := Option.some.inj H
         have p103 : 0 ≤ (x7_1 : Int) := oa
         have q103 : x7_1 < (l0.length : Int) := oa
         obtain ⟨ad103, e103, hx103_0⟩ := Kd.at_string HR0.out x7_1 p103 q103
         cases e103
         replace p103 := eq_true p103
         replace q103 := eq_true q103
         go_wp2_with (first | ((with_reducible refine gateC (f := 147) rfl ?_); refine goesL_ (some 13) rfl rfl Try.func147 (by kernel_rfl) rfl #[.string (rdOf ByteArray.empty l0 x7_1)] rfl zm ?_; (with_reducible refine (spec_l1Line.calls k1 (rdOf ByteArray.empty l0 x7_1) true _ A5.out).mono ?_); rintro e w' ⟨rfl, ⟨nd, rfl⟩⟩; refine ⟨_, rfl, ?_⟩) | (go_at_call 148; (with_reducible refine (spec_l1Ends.calls (rdOf ByteArray.empty l0 x7_1) false _ A8.out).mono ?_); rintro e w' ⟨rfl, ⟨nd, rfl⟩⟩))
         go_ret
         exact ⟨by first | rfl | (simp; done) | (simp [*]; done), by repeat (first | exact Drawn0.refl _ | apply Drawn0.step)⟩
       ·rw [if_neg c7] at H
        have c7b0 : decide (x7_1 < (wrap64 ((l0.length : Int) - 1))) = false := decide_eq_false c7
        clear c7
        have H' := Aside0.mk H
        clear H
        have p103 : 0 ≤ (x7_1 : Int) := oa
        have q103 : x7_1 < (l0.length : Int) := oa
        obtain ⟨ad103, e103, hx103_0⟩ := Kd.at_string HR0.out x7_1 p103 q103
        cases e103
        replace p103 := eq_true p103
        replace q103 := eq_true q103
        go_wp2_with (first | ((with_reducible refine gateC (f := 147) rfl ?_); refine goesL_ (some 13) rfl rfl Try.func147 (by kernel_rfl) rfl #[.string (rdOf ByteArray.empty l0 x7_1)] rfl zm ?_; (with_reducible refine (spec_l1Line.calls k1 (rdOf ByteArray.empty l0 x7_1) true _ A5.out).mono ?_); rintro e w' ⟨rfl, ⟨nd, rfl⟩⟩; refine ⟨_, rfl, ?_⟩))
        go_roundg k1
        case measure => have := HK1.out; omega
        case rel => exact ⟨(wrap64 (x7_1 + 1)), zf, H', ⟨by have := HK1.out; omega⟩, by repeat (first | exact Drawn0.refl _ | apply Drawn0.step)⟩
      ·replace c6 := Bool.eq_false_iff.mpr c6
       subst c6
       have H1 : (some false) = some r := by rw [if_neg (show ¬ (false = true) by decide)] at H; exact H
       clear H
       have H := H1
       clear H1
       obtain rfl := Option.some.inj H
       have p103 : 0 ≤ (x7_1 : Int) := oa
       have q103 : x7_1 < (l0.length : Int) := oa
       obtain ⟨ad103, e103, hx103_0⟩ := Kd.at_string HR0.out x7_1 p103 q103
       cases e103
       replace p103 := eq_true p103
       replace q103 := eq_true q103
       go_wp2_with (first | ((with_reducible refine gateC (f := 147) rfl ?_); refine goesL_ (some 13) rfl rfl Try.func147 (by kernel_rfl) rfl #[.string (rdOf ByteArray.empty l0 x7_1)] rfl zm ?_; (with_reducible refine (spec_l1Line.calls k1 (rdOf ByteArray.empty l0 x7_1) false _ A5.out).mono ?_); rintro e w' ⟨rfl, ⟨nd, rfl⟩⟩; refine ⟨_, rfl, ?_⟩))
       go_ret
       exact ⟨by first | rfl | (simp; done) | (simp [*]; done), by repeat (first | exact Drawn0.refl _ | apply Drawn0.step)⟩
     ·rw [if_neg c4] at H
      exact absurd H (by simp)
    ·rw [if_neg c3] at H
     exact absurd H (by simp)
   ·rw [if_neg c2] at H
    have c2b0 : decide (x7_1 < (l0.length : Int)) = false := decide_eq_false c2
    clear c2
    obtain rfl := Option.some.inj H
    go_wp2
    go_ret
    exact ⟨by first | rfl | (simp; done) | (simp [*]; done), by repeat (first | exact Drawn0.refl _ | apply Drawn0.step)⟩

end Go.Proofs.Ytcefenlblnediaa.My

/- Written by this session's program (wip/gen): a plain function with the same answers as the Go function, and the proof that the Go code comes to them. Asked: that the plain function has an answer. -/
namespace Go.Proofs.Ytcefenlblnediaa.My
open Go.RowKit Go.Proofs.YtcefenlblnediaaW.PrintWords Go.Proofs.YtcefenlblnediaaW.PrintLast Go.Proofs.YtcefenlblnediaaW.PrintMore
attribute [local go_sem] max2_int min2_int max_two min_two max_three min_three max_four min_four
set_option linter.unusedVariables false
set_option linter.unusedSimpArgs false

/-! ### spec_l2Hunks: function 92 -/
mutual
def spec_l2Hunks.l0 : Nat → Int → List (S111) → List (S111) → Int → Int → Option (Bool)
 | 0, _, _, _, _, _ => none
 | k + 1, x0, x1, x9, x10, x11 => if x11 < x10 then (if 0 ≤ x11 then (if x11 < (x9.length : Int) then (if ((rd_T111 x9 x11).f0) < 0 then (spec_l2Hunks.j1 k x0 x1 x9 x10 x11 true ((rd_T111 x9 x11).f0) ((rd_T111 x9 x11).f1) ((rd_T111 x9 x11).f2)) else (if ((rd_T111 x9 x11).f1) < 0 then (spec_l2Hunks.j1 k x0 x1 x9 x10 x11 true ((rd_T111 x9 x11).f0) ((rd_T111 x9 x11).f1) ((rd_T111 x9 x11).f2)) else (if ((rd_T111 x9 x11).f1) > x0 then (spec_l2Hunks.j1 k x0 x1 x9 x10 x11 true ((rd_T111 x9 x11).f0) ((rd_T111 x9 x11).f1) ((rd_T111 x9 x11).f2)) else (if ((rd_T111 x9 x11).f0) > (wrap64 (x0 - ((rd_T111 x9 x11).f1))) then (spec_l2Hunks.j1 k x0 x1 x9 x10 x11 true ((rd_T111 x9 x11).f0) ((rd_T111 x9 x11).f1) ((rd_T111 x9 x11).f2)) else (if (wrap64 (((rd_T111 x9 x11).f1) + (((rd_T111 x9 x11).f2).length : Int))) = 0 then (spec_l2Hunks.j1 k x0 x1 x9 x10 x11 true ((rd_T111 x9 x11).f0) ((rd_T111 x9 x11).f1) ((rd_T111 x9 x11).f2)) else (if (((rd_T111 x9 x11).f2).length : Int) > 40 then (spec_l2Hunks.j1 k x0 x1 x9 x10 x11 true ((rd_T111 x9 x11).f0) ((rd_T111 x9 x11).f1) ((rd_T111 x9 x11).f2)) else (if x11 > 0 then (if 0 ≤ (wrap64 (x11 - 1)) then (if (wrap64 (x11 - 1)) < (x1.length : Int) then (spec_l2Hunks.j1 k x0 x1 x9 x10 x11 (decide (((rd_T111 x9 x11).f0) ≤ (wrap64 (((rd_T111 x1 (wrap64 (x11 - 1))).f0) + ((rd_T111 x1 (wrap64 (x11 - 1))).f1))))) ((rd_T111 x9 x11).f0) ((rd_T111 x9 x11).f1) ((rd_T111 x9 x11).f2)) else (none)) else (none)) else (spec_l2Hunks.j1 k x0 x1 x9 x10 x11 false ((rd_T111 x9 x11).f0) ((rd_T111 x9 x11).f1) ((rd_T111 x9 x11).f2))))))))) else (none)) else (none)) else (if (x1.length : Int) ≤ 20 then ((spec_l1In.f x0 0 40).bind fun t340 => (some t340)) else (some false))
def spec_l2Hunks.j1 : Nat → Int → List (S111) → List (S111) → Int → Int → Bool → Int → Int → List ByteArray → Option (Bool)
 | 0, _, _, _, _, _, _, _, _, _ => none
 | k + 1, x0, x1, x9, x10, x11, x75, x343000, x343001, x343002 => if x75 = true then (some false) else (spec_l2Hunks.l1 k x0 x1 x9 x10 x11 x343002 (x343002.length : Int) 0)
def spec_l2Hunks.l1 : Nat → Int → List (S111) → List (S111) → Int → Int → List ByteArray → Int → Int → Option (Bool)
 | 0, _, _, _, _, _, _, _, _ => none
 | k + 1, x0, x1, x9, x10, x11, x77, x78, x79 => if x79 < x78 then (if 0 ≤ x79 then (if x79 < (x77.length : Int) then ((spec_l1Line.f k (rdOf ByteArray.empty x77 x79)).bind fun t346 => (if t346 = true then (spec_l2Hunks.l1 k x0 x1 x9 x10 x11 x77 x78 (wrap64 (x79 + 1))) else (some false))) else (none)) else (none)) else (spec_l2Hunks.l0 k x0 x1 x9 x10 (wrap64 (x11 + 1)))
end
def spec_l2Hunks.f (k : Nat) (a0 : Int) (l1 : List (S111)) : Option (Bool) := spec_l2Hunks.l0 k a0 l1 l1 (l1.length : Int) 0
set_option maxHeartbeats 8000000 in
set_option maxRecDepth 100000 in
theorem spec_l2Hunks.calls (k : Nat) (a0 : Int) (A1 : Option Addr) (c1 : Nat) (l1 : List (S111)) (r : Bool) (w : World) (hr1 : Kd.C k111 w A1 l1.length l1) (hc1 : l1.length ≤ c1) (h : spec_l2Hunks.f k a0 l1 = some r) :
  Calls Try.prog 92 #[.int .i64 a0, .slice A1 l1.length c1] w fun e w' => e = .returned (.bool r) ∧ Below w.heap.size w w' := by
 have hu111 := Try.underlying111
 have HR1 := Aside0.mk hr1
 have HC1 := Aside0.mk hc1
 clear hr1 hc1
 have HB := Aside0.mk (Below.refl w.heap.size w)
 have H : (spec_l2Hunks.l0 k a0 l1 l1 (l1.length : Int) 0) = some r := h
 clear h
 have H' := Aside0.mk H
 clear H
 go_enter Try.func92, Try.ntmps92
 go_wp2
 repeat (go_quiet (fail); try go_wp2)
 go_loopg [11] k (fun kq v11 w' => ∃ (x11_1 : Int), v11 = .int .i64 x11_1 ∧ Aside0 (spec_l2Hunks.l0 kq a0 l1 l1 (l1.length : Int) x11_1 = some r) ∧ Aside0 (kq ≤ k) ∧ Aside0 (Below w.heap.size w w'))
 case atStart => exact ⟨(0), zf, H', ⟨Nat.le_refl _⟩, ⟨by repeat (first | (with_reducible first | exact HB.out | apply below_alloc | apply pw_below_drewN | apply below_drew1) | exact HB.out)⟩⟩
 case round =>
  clear H'
  try clear c1
  try clear p2
  obtain ⟨x11_1, rfl, HA, HK1, HB⟩ := hrel
  cases gk with
  | zero => exact absurd HA.out (by simp [spec_l2Hunks.l0])
  | succ k1 =>
   have H := HA.out
   clear HA
   simp only [spec_l2Hunks.l0] at H
   by_cases c3 : x11_1 < (l1.length : Int)
   ·rw [if_pos c3] at H
    have c3b0 : decide (x11_1 < (l1.length : Int)) = true := decide_eq_true c3
    clear c3
    by_cases c4 : 0 ≤ x11_1
    ·rw [if_pos c4] at H
     have c4b0 : decide (0 ≤ x11_1) = true := decide_eq_true c4
     clear c4
     by_cases c5 : x11_1 < (l1.length : Int)
     ·rw [if_pos c5] at H
      have c5b0 : decide (x11_1 < (l1.length : Int)) = true := decide_eq_true c5
      clear c5
      have HC6 := Aside0.mk H
      clear H
      have p341 : 0 ≤ (x11_1 : Int) := oa
      have q341 : x11_1 < (l1.length : Int) := oa
      obtain ⟨ad341, A341_2, c341_2, e341, hx341_0, hx341_1, hx341_2, hl341_2, hi341_2⟩ := at_T111 HR1.out x11_1 p341 q341
      cases e341
      replace hx341_0 := (HB.out.cell (World.block_lt_of_cell? w _ hx341_0)).trans hx341_0
      replace hx341_1 := (HB.out.cell (World.block_lt_of_cell? w _ hx341_1)).trans hx341_1
      replace hx341_2 := (HB.out.cell (World.block_lt_of_cell? w _ hx341_2)).trans hx341_2
      have HR341_2 := Aside0.mk hi341_2
      have HC341_2 := Aside0.mk hl341_2
      clear hi341_2 hl341_2
      replace p341 := eq_true p341
      replace q341 := eq_true q341
      go_upto_region 4 with (first | ((with_reducible refine gate_dst (N := 6) rfl ?_); (try (refine gate_guard (by rfl) ?_; dsimp only)); refine box_event ?hg (N := 6) ?hd (cs := #[.int .i64 0, .int .i64 0, .slice none 0 0]) (t := 111) ?hr ?_; (case hd => rfl); (case hg => rfl); (case hr => first | (go_simp; done) | (go_simp; rfl)); intro gb342 hg w7 hbox hb; have n0_ := Aside0.mk (below_step zb hb); have n1_ := Aside0.mk (hbox); have n2_ := Aside0.mk ((by rw [hg]; exact (below_size zb) : w.heap.size ≤ gb342)); have n3_ := Aside0.mk ((by rw [hg]; exact (below_size zb) : w.heap.size ≤ gb342)); clear HB; have HB := n0_; have BK342 := n1_; have GW342 := n2_; have GE342 := n3_; clear n0_ n1_ n2_ n3_; clear hb hbox hg; have hcz8_0 : w7.cell? ⟨gb342, 0, none⟩ = some (.int .i64 0) := (blk_cell BK342.out 0).trans rfl; have hcz8_1 : w7.cell? ⟨gb342, 1, none⟩ = some (.int .i64 0) := (blk_cell BK342.out 1).trans rfl; have hcz8_2 : w7.cell? ⟨gb342, 2, none⟩ = some (.slice none 0 0) := (blk_cell BK342.out 2).trans rfl; have hfz8_0 := blk_frozen BK342.out 0; have hfz8_1 := blk_frozen BK342.out 1; have hfz8_2 := blk_frozen BK342.out 2))
      repeat (go_quiet (first | ((with_reducible refine gate_dst (N := 6) rfl ?_); (try (refine gate_guard (by rfl) ?_; dsimp only)); refine box_event ?hg (N := 6) ?hd (cs := #[.int .i64 0, .int .i64 0, .slice none 0 0]) (t := 111) ?hr ?_; (case hd => rfl); (case hg => rfl); (case hr => first | (go_simp; done) | (go_simp; rfl)); intro gb342 hg w7 hbox hb; have n0_ := Aside0.mk (below_step zb hb); have n1_ := Aside0.mk (hbox); have n2_ := Aside0.mk ((by rw [hg]; exact (below_size zb) : w.heap.size ≤ gb342)); have n3_ := Aside0.mk ((by rw [hg]; exact (below_size zb) : w.heap.size ≤ gb342)); clear HB; have HB := n0_; have BK342 := n1_; have GW342 := n2_; have GE342 := n3_; clear n0_ n1_ n2_ n3_; clear hb hbox hg; have hcz8_0 : w7.cell? ⟨gb342, 0, none⟩ = some (.int .i64 0) := (blk_cell BK342.out 0).trans rfl; have hcz8_1 : w7.cell? ⟨gb342, 1, none⟩ = some (.int .i64 0) := (blk_cell BK342.out 1).trans rfl; have hcz8_2 : w7.cell? ⟨gb342, 2, none⟩ = some (.slice none 0 0) := (blk_cell BK342.out 2).trans rfl; have hfz8_0 := blk_frozen BK342.out 0; have hfz8_1 := blk_frozen BK342.out 1; have hfz8_2 := blk_frozen BK342.out 2)); go_upto_region 4 with (first | ((with_reducible refine gate_dst (N := 6) rfl ?_); (try (refine gate_guard (by rfl) ?_; dsimp only)); refine box_event ?hg (N := 6) ?hd (cs := #[.int .i64 0, .int .i64 0, .slice none 0 0]) (t := 111) ?hr ?_; (case hd => rfl); (case hg => rfl); (case hr => first | (go_simp; done) | (go_simp; rfl)); intro gb342 hg w7 hbox hb; have n0_ := Aside0.mk (below_step zb hb); have n1_ := Aside0.mk (hbox); have n2_ := Aside0.mk ((by rw [hg]; exact (below_size zb) : w.heap.size ≤ gb342)); have n3_ := Aside0.mk ((by rw [hg]; exact (below_size zb) : w.heap.size ≤ gb342)); clear HB; have HB := n0_; have BK342 := n1_; have GW342 := n2_; have GE342 := n3_; clear n0_ n1_ n2_ n3_; clear hb hbox hg; have hcz8_0 : w7.cell? ⟨gb342, 0, none⟩ = some (.int .i64 0) := (blk_cell BK342.out 0).trans rfl; have hcz8_1 : w7.cell? ⟨gb342, 1, none⟩ = some (.int .i64 0) := (blk_cell BK342.out 1).trans rfl; have hcz8_2 : w7.cell? ⟨gb342, 2, none⟩ = some (.slice none 0 0) := (blk_cell BK342.out 2).trans rfl; have hfz8_0 := blk_frozen BK342.out 0; have hfz8_1 := blk_frozen BK342.out 1; have hfz8_2 := blk_frozen BK342.out 2)))
      (try simp only [Act.put, List.setIfInBounds_toArray, List.set_cons_zero, List.set_cons_succ])
      go_cut [75] (fun v75 wc => ∃ (kq : Nat) (x75_5 : Bool), v75 = .bool x75_5 ∧ Aside0 (spec_l2Hunks.j1 kq a0 l1 l1 (l1.length : Int) x11_1 x75_5 ((rd_T111 l1 x11_1).f0) ((rd_T111 l1 x11_1).f1) ((rd_T111 l1 x11_1).f2) = some r) ∧ Aside0 (kq ≤ k1) ∧ Aside0 (wc.heap[gb342]? = some (.cells #[.int .i64 ((rd_T111 l1 x11_1).f0), .int .i64 ((rd_T111 l1 x11_1).f1), (.slice A341_2 ((rd_T111 l1 x11_1).f2).length c341_2)] 111 (0, 0))) ∧ Aside0 (Below w.heap.size w wc))
      case first =>
       have H := HC6.out
       clear HC6
       by_cases c9 : ((rd_T111 l1 x11_1).f0) < 0
       ·rw [if_pos c9] at H
        have c9b0 : decide (((rd_T111 l1 x11_1).f0) < 0) = true := decide_eq_true c9
        clear c9
        (first | rw [c9b0] | (simp only [i64_w, i32_w]; rw [c9b0]) | skip)
        have H' := Aside0.mk H
        clear H
        have hcz10_0 : w7.cell? ⟨gb342, 0, none⟩ = some (.int .i64 0) := (blk_cell BK342.out 0).trans rfl
        have hcz10_1 : w7.cell? ⟨gb342, 1, none⟩ = some (.int .i64 0) := (blk_cell BK342.out 1).trans rfl
        have hcz10_2 : w7.cell? ⟨gb342, 2, none⟩ = some (.slice none 0 0) := (blk_cell BK342.out 2).trans rfl
        have hfz10_0 := blk_frozen BK342.out 0
        have hfz10_1 := blk_frozen BK342.out 1
        have hfz10_2 := blk_frozen BK342.out 2
        go_wp2
        repeat (go_quiet (fail); try go_wp2)
        go_meet
        case rel => exact ⟨_, (true), zf, H', ⟨by have := HK1.out; first | omega | exact Nat.le_refl _⟩, ⟨by (with_reducible repeat (first | refine blk_drewN ?_ _ | refine blk_drew ?_ | refine blk_alloc ?_ _)); refine blk_put (cs := #[.int .i64 ((rd_T111 l1 x11_1).f0), .int .i64 ((rd_T111 l1 x11_1).f1), .slice none 0 0]) ?_ 2 _ rfl; (with_reducible repeat (first | refine blk_drewN ?_ _ | refine blk_drew ?_ | refine blk_alloc ?_ _)); refine blk_put (cs := #[.int .i64 ((rd_T111 l1 x11_1).f0), .int .i64 0, .slice none 0 0]) ?_ 1 _ rfl; (with_reducible repeat (first | refine blk_drewN ?_ _ | refine blk_drew ?_ | refine blk_alloc ?_ _)); refine blk_put (cs := #[.int .i64 0, .int .i64 0, .slice none 0 0]) ?_ 0 _ rfl; (with_reducible repeat (first | refine blk_drewN ?_ _ | refine blk_drew ?_ | refine blk_alloc ?_ _)); exact BK342.out⟩, ⟨by repeat (first | (with_reducible first | exact HB.out | apply below_alloc | apply pw_below_drewN | apply below_drew1 | refine below_set ?_ GE342.out) | exact HB.out)⟩⟩
       ·rw [if_neg c9] at H
        have c9b0 : decide (((rd_T111 l1 x11_1).f0) < 0) = false := decide_eq_false c9
        clear c9
        (first | rw [c9b0] | (simp only [i64_w, i32_w]; rw [c9b0]) | skip)
        by_cases c11 : ((rd_T111 l1 x11_1).f1) < 0
        ·rw [if_pos c11] at H
         have c11b0 : decide (((rd_T111 l1 x11_1).f1) < 0) = true := decide_eq_true c11
         clear c11
         have H' := Aside0.mk H
         clear H
         have hcz12_0 : w7.cell? ⟨gb342, 0, none⟩ = some (.int .i64 0) := (blk_cell BK342.out 0).trans rfl
         have hcz12_1 : w7.cell? ⟨gb342, 1, none⟩ = some (.int .i64 0) := (blk_cell BK342.out 1).trans rfl
         have hcz12_2 : w7.cell? ⟨gb342, 2, none⟩ = some (.slice none 0 0) := (blk_cell BK342.out 2).trans rfl
         have hfz12_0 := blk_frozen BK342.out 0
         have hfz12_1 := blk_frozen BK342.out 1
         have hfz12_2 := blk_frozen BK342.out 2
         go_wp2
         repeat (go_quiet (fail); try go_wp2)
         go_meet
         case rel => exact ⟨_, (true), zf, H', ⟨by have := HK1.out; first | omega | exact Nat.le_refl _⟩, ⟨by (with_reducible repeat (first | refine blk_drewN ?_ _ | refine blk_drew ?_ | refine blk_alloc ?_ _)); refine blk_put (cs := #[.int .i64 ((rd_T111 l1 x11_1).f0), .int .i64 ((rd_T111 l1 x11_1).f1), .slice none 0 0]) ?_ 2 _ rfl; (with_reducible repeat (first | refine blk_drewN ?_ _ | refine blk_drew ?_ | refine blk_alloc ?_ _)); refine blk_put (cs := #[.int .i64 ((rd_T111 l1 x11_1).f0), .int .i64 0, .slice none 0 0]) ?_ 1 _ rfl; (with_reducible repeat (first | refine blk_drewN ?_ _ | refine blk_drew ?_ | refine blk_alloc ?_ _)); refine blk_put (cs := #[.int .i64 0, .int .i64 0, .slice none 0 0]) ?_ 0 _ rfl; (with_reducible repeat (first | refine blk_drewN ?_ _ | refine blk_drew ?_ | refine blk_alloc ?_ _)); exact BK342.out⟩, ⟨by repeat (first | (with_reducible first | exact HB.out | apply below_alloc | apply pw_below_drewN | apply below_drew1 | refine below_set ?_ GE342.out) | exact HB.out)⟩⟩
        ·rw [if_neg c11] at H
         have c11b0 : decide (((rd_T111 l1 x11_1).f1) < 0) = false := decide_eq_false c11
         clear c11
         by_cases c13 : ((rd_T111 l1 x11_1).f1) > a0
         ·rw [if_pos c13] at H
          have c13b0 : decide (a0 < ((rd_T111 l1 x11_1).f1)) = true := decide_eq_true c13
          clear c13
          have H' := Aside0.mk H
          clear H
          have hcz14_0 : w7.cell? ⟨gb342, 0, none⟩ = some (.int .i64 0) := (blk_cell BK342.out 0).trans rfl
          have hcz14_1 : w7.cell? ⟨gb342, 1, none⟩ = some (.int .i64 0) := (blk_cell BK342.out 1).trans rfl
          have hcz14_2 : w7.cell? ⟨gb342, 2, none⟩ = some (.slice none 0 0) := (blk_cell BK342.out 2).trans rfl
          have hfz14_0 := blk_frozen BK342.out 0
          have hfz14_1 := blk_frozen BK342.out 1
          have hfz14_2 := blk_frozen BK342.out 2
          go_wp2
          repeat (go_quiet (fail); try go_wp2)
          go_meet
          case rel => exact ⟨_, (true), zf, H', ⟨by have := HK1.out; first | omega | exact Nat.le_refl _⟩, ⟨by (with_reducible repeat (first | refine blk_drewN ?_ _ | refine blk_drew ?_ | refine blk_alloc ?_ _)); refine blk_put (cs := #[.int .i64 ((rd_T111 l1 x11_1).f0), .int .i64 ((rd_T111 l1 x11_1).f1), .slice none 0 0]) ?_ 2 _ rfl; (with_reducible repeat (first | refine blk_drewN ?_ _ | refine blk_drew ?_ | refine blk_alloc ?_ _)); refine blk_put (cs := #[.int .i64 ((rd_T111 l1 x11_1).f0), .int .i64 0, .slice none 0 0]) ?_ 1 _ rfl; (with_reducible repeat (first | refine blk_drewN ?_ _ | refine blk_drew ?_ | refine blk_alloc ?_ _)); refine blk_put (cs := #[.int .i64 0, .int .i64 0, .slice none 0 0]) ?_ 0 _ rfl; (with_reducible repeat (first | refine blk_drewN ?_ _ | refine blk_drew ?_ | refine blk_alloc ?_ _)); exact BK342.out⟩, ⟨by repeat (first | (with_reducible first | exact HB.out | apply below_alloc | apply pw_below_drewN | apply below_drew1 | refine below_set ?_ GE342.out) | exact HB.out)⟩⟩
         ·rw [if_neg c13] at H
          have c13b0 : decide (a0 < ((rd_T111 l1 x11_1).f1)) = false := decide_eq_false c13
          clear c13
          by_cases c15 : ((rd_T111 l1 x11_1).f0) > (wrap64 (a0 - ((rd_T111 l1 x11_1).f1)))
          ·rw [if_pos c15] at H
           have c15b0 : decide ((wrap64 (a0 - ((rd_T111 l1 x11_1).f1))) < ((rd_T111 l1 x11_1).f0)) = true := decide_eq_true c15
           clear c15
           have H' := Aside0.mk H
           clear H
           have hcz16_0 : w7.cell? ⟨gb342, 0, none⟩ = some (.int .i64 0) := (blk_cell BK342.out 0).trans rfl
           have hcz16_1 : w7.cell? ⟨gb342, 1, none⟩ = some (.int .i64 0) := (blk_cell BK342.out 1).trans rfl
           have hcz16_2 : w7.cell? ⟨gb342, 2, none⟩ = some (.slice none 0 0) := (blk_cell BK342.out 2).trans rfl
           have hfz16_0 := blk_frozen BK342.out 0
           have hfz16_1 := blk_frozen BK342.out 1
           have hfz16_2 := blk_frozen BK342.out 2
           go_wp2
           repeat (go_quiet (fail); try go_wp2)
           go_meet
           case rel => exact ⟨_, (true), zf, H', ⟨by have := HK1.out; first | omega | exact Nat.le_refl _⟩, ⟨by (with_reducible repeat (first | refine blk_drewN ?_ _ | refine blk_drew ?_ | refine blk_alloc ?_ _)); refine blk_put (cs := #[.int .i64 ((rd_T111 l1 x11_1).f0), .int .i64 ((rd_T111 l1 x11_1).f1), .slice none 0 0]) ?_ 2 _ rfl; (with_reducible repeat (first | refine blk_drewN ?_ _ | refine blk_drew ?_ | refine blk_alloc ?_ _)); refine blk_put (cs := #[.int .i64 ((rd_T111 l1 x11_1).f0), .int .i64 0, .slice none 0 0]) ?_ 1 _ rfl; (with_reducible repeat (first | refine blk_drewN ?_ _ | refine blk_drew ?_ | refine blk_alloc ?_ _)); refine blk_put (cs := #[.int .i64 0, .int .i64 0, .slice none 0 0]) ?_ 0 _ rfl; (with_reducible repeat (first | refine blk_drewN ?_ _ | refine blk_drew ?_ | refine blk_alloc ?_ _)); exact BK342.out⟩, ⟨by repeat (first | (with_reducible first | exact HB.out | apply below_alloc | apply pw_below_drewN | apply below_drew1 | refine below_set ?_ GE342.out) | exact HB.out)⟩⟩
          ·rw [if_neg c15] at H
           have c15b0 : decide ((wrap64 (a0 - ((rd_T111 l1 x11_1).f1))) < ((rd_T111 l1 x11_1).f0)) = false := decide_eq_false c15
           clear c15
           by_cases c17 : (wrap64 (((rd_T111 l1 x11_1).f1) + (((rd_T111 l1 x11_1).f2).length : Int))) = 0
           ·rw [if_pos c17] at H
            have c17b0 : ((wrap64 (((rd_T111 l1 x11_1).f1) + (((rd_T111 l1 x11_1).f2).length : Int))) == 0) = true := beq_iff_eq.mpr c17
            have c17b1 : ((wrap64 (((rd_T111 l1 x11_1).f1) + (((rd_T111 l1 x11_1).f2).length : Int))) != 0) = false := bne_eq_false_iff_eq.mpr c17
            clear c17
            have H' := Aside0.mk H
            clear H
            have hcz18_0 : w7.cell? ⟨gb342, 0, none⟩ = some (.int .i64 0) := (blk_cell BK342.out 0).trans rfl
            have hcz18_1 : w7.cell? ⟨gb342, 1, none⟩ = some (.int .i64 0) := (blk_cell BK342.out 1).trans rfl
            have hcz18_2 : w7.cell? ⟨gb342, 2, none⟩ = some (.slice none 0 0) := (blk_cell BK342.out 2).trans rfl
            have hfz18_0 := blk_frozen BK342.out 0
            have hfz18_1 := blk_frozen BK342.out 1
            have hfz18_2 := blk_frozen BK342.out 2
            go_wp2
            repeat (go_quiet (fail); try go_wp2)
            go_meet
            case rel => exact ⟨_, (true), zf, H', ⟨by have := HK1.out; first | omega | exact Nat.le_refl _⟩, ⟨by (with_reducible repeat (first | refine blk_drewN ?_ _ | refine blk_drew ?_ | refine blk_alloc ?_ _)); refine blk_put (cs := #[.int .i64 ((rd_T111 l1 x11_1).f0), .int .i64 ((rd_T111 l1 x11_1).f1), .slice none 0 0]) ?_ 2 _ rfl; (with_reducible repeat (first | refine blk_drewN ?_ _ | refine blk_drew ?_ | refine blk_alloc ?_ _)); refine blk_put (cs := #[.int .i64 ((rd_T111 l1 x11_1).f0), .int .i64 0, .slice none 0 0]) ?_ 1 _ rfl; (with_reducible repeat (first | refine blk_drewN ?_ _ | refine blk_drew ?_ | refine blk_alloc ?_ _)); refine blk_put (cs := #[.int .i64 0, .int .i64 0, .slice none 0 0]) ?_ 0 _ rfl; (with_reducible repeat (first | refine blk_drewN ?_ _ | refine blk_drew ?_ | refine blk_alloc ?_ _)); exact BK342.out⟩, ⟨by repeat (first | (with_reducible first | exact HB.out | apply below_alloc | apply pw_below_drewN | apply below_drew1 | refine below_set ?_ GE342.out) | exact HB.out)⟩⟩
           ·rw [if_neg c17] at H
            have c17b0 : ((wrap64 (((rd_T111 l1 x11_1).f1) + (((rd_T111 l1 x11_1).f2).length : Int))) == 0) = false := beq_eq_false_iff_ne.mpr c17
            have c17b1 : ((wrap64 (((rd_T111 l1 x11_1).f1) + (((rd_T111 l1 x11_1).f2).length : Int))) != 0) = true := bne_iff_ne.mpr c17
            by_cases c19 : (((rd_T111 l1 x11_1).f2).length : Int) > 40
            ·rw [if_pos c19] at H
             have c19b0 : decide (40 < (((rd_T111 l1 x11_1).f2).length : Int)) = true := decide_eq_true c19
             have c19b1 : decide (40 < ((rd_T111 l1 x11_1).f2).length) = true := decide_eq_true (by omega)
             clear c19
             have H' := Aside0.mk H
             clear H
             have hcz20_0 : w7.cell? ⟨gb342, 0, none⟩ = some (.int .i64 0) := (blk_cell BK342.out 0).trans rfl
             have hcz20_1 : w7.cell? ⟨gb342, 1, none⟩ = some (.int .i64 0) := (blk_cell BK342.out 1).trans rfl
             have hcz20_2 : w7.cell? ⟨gb342, 2, none⟩ = some (.slice none 0 0) := (blk_cell BK342.out 2).trans rfl
             have hfz20_0 := blk_frozen BK342.out 0
             have hfz20_1 := blk_frozen BK342.out 1
             have hfz20_2 := blk_frozen BK342.out 2
             go_wp2
             repeat (go_quiet (fail); try go_wp2)
             go_meet
             case rel => exact ⟨_, (true), zf, H', ⟨by have := HK1.out; first | omega | exact Nat.le_refl _⟩, ⟨by (with_reducible repeat (first | refine blk_drewN ?_ _ | refine blk_drew ?_ | refine blk_alloc ?_ _)); refine blk_put (cs := #[.int .i64 ((rd_T111 l1 x11_1).f0), .int .i64 ((rd_T111 l1 x11_1).f1), .slice none 0 0]) ?_ 2 _ rfl; (with_reducible repeat (first | refine blk_drewN ?_ _ | refine blk_drew ?_ | refine blk_alloc ?_ _)); refine blk_put (cs := #[.int .i64 ((rd_T111 l1 x11_1).f0), .int .i64 0, .slice none 0 0]) ?_ 1 _ rfl; (with_reducible repeat (first | refine blk_drewN ?_ _ | refine blk_drew ?_ | refine blk_alloc ?_ _)); refine blk_put (cs := #[.int .i64 0, .int .i64 0, .slice none 0 0]) ?_ 0 _ rfl; (with_reducible repeat (first | refine blk_drewN ?_ _ | refine blk_drew ?_ | refine blk_alloc ?_ _)); exact BK342.out⟩, ⟨by repeat (first | (with_reducible first | exact HB.out | apply below_alloc | apply pw_below_drewN | apply below_drew1 | refine below_set ?_ GE342.out) | exact HB.out)⟩⟩
            ·rw [if_neg c19] at H
             have c19b0 : decide (40 < (((rd_T111 l1 x11_1).f2).length : Int)) = false := decide_eq_false c19
             have c19b1 : decide (40 < ((rd_T111 l1 x11_1).f2).length) = false := decide_eq_false (by omega)
             clear c19
             by_cases c21 : x11_1 > 0
             ·rw [if_pos c21] at H
              have c21b0 : decide (0 < x11_1) = true := decide_eq_true c21
              clear c21
              obtain ⟨ji22, hji22⟩ : ∃ j_ : Int, (wrap64 (x11_1 - 1)) = j_ := ⟨_, rfl⟩
              replace H : (if 0 ≤ (ji22) then (if (ji22) < (l1.length : Int) then (spec_l2Hunks.j1 k1 a0 l1 l1 (l1.length : Int) x11_1 (decide (((rd_T111 l1 x11_1).f0) ≤ (wrap64 (((rd_T111 l1 (ji22)).f0) + ((rd_T111 l1 (ji22)).f1))))) ((rd_T111 l1 x11_1).f0) ((rd_T111 l1 x11_1).f1) ((rd_T111 l1 x11_1).f2)) else (none)) else (none)) = some r := by first | (rw [hji22] at H; exact H) | (simp only [hji22] at H ⊢; exact H)
              have hji22w : (IntKind.i64.wrap (x11_1 - 1)) = ji22 := (i64_w _).trans hji22
              by_cases c23 : 0 ≤ (ji22)
              ·rw [if_pos c23] at H
               have c23b0 : decide (0 ≤ (ji22)) = true := decide_eq_true c23
               clear c23
               by_cases c24 : (ji22) < (l1.length : Int)
               ·rw [if_pos c24] at H
                have c24b0 : decide ((ji22) < (l1.length : Int)) = true := decide_eq_true c24
                clear c24
                have H' := Aside0.mk H
                clear H
                have hcz25_0 : w7.cell? ⟨gb342, 0, none⟩ = some (.int .i64 0) := (blk_cell BK342.out 0).trans rfl
                have hcz25_1 : w7.cell? ⟨gb342, 1, none⟩ = some (.int .i64 0) := (blk_cell BK342.out 1).trans rfl
                have hcz25_2 : w7.cell? ⟨gb342, 2, none⟩ = some (.slice none 0 0) := (blk_cell BK342.out 2).trans rfl
                have hfz25_0 := blk_frozen BK342.out 0
                have hfz25_1 := blk_frozen BK342.out 1
                have hfz25_2 := blk_frozen BK342.out 2
                have p343 : 0 ≤ ((ji22) : Int) := oa
                have q343 : (ji22) < (l1.length : Int) := oa
                obtain ⟨ad343, A343_2, c343_2, e343, hx343_0, hx343_1, hx343_2, hl343_2, hi343_2⟩ := at_T111 HR1.out (ji22) p343 q343
                obtain rfl : ad341 = ad343 := (by injection e343)
                have hn343_0 : ad341.block ≠ gb342 := Nat.ne_of_lt (Nat.lt_of_lt_of_le (zl hx343_0) GW342.out)
                have hn343_1 : ad341.block ≠ gb342 := Nat.ne_of_lt (Nat.lt_of_lt_of_le (zl hx343_0) GW342.out)
                have hn343_2 : ad341.block ≠ gb342 := Nat.ne_of_lt (Nat.lt_of_lt_of_le (zl hx343_0) GW342.out)
                replace hx343_0 := (HB.out.cell (World.block_lt_of_cell? w _ hx343_0)).trans hx343_0
                replace hx343_1 := (HB.out.cell (World.block_lt_of_cell? w _ hx343_1)).trans hx343_1
                replace hx343_2 := (HB.out.cell (World.block_lt_of_cell? w _ hx343_2)).trans hx343_2
                have HR343_2 := Aside0.mk hi343_2
                have HC343_2 := Aside0.mk hl343_2
                clear hi343_2 hl343_2
                replace hx343_0 := (cell_far (p := ⟨gb342, 0, none⟩) (zn hn343_0) (.int .i64 ((rd_T111 l1 x11_1).f0))).trans hx343_0
                replace hx343_1 := (cell_far (p := ⟨gb342, 0, none⟩) (zn hn343_0) (.int .i64 ((rd_T111 l1 x11_1).f0))).trans hx343_1
                replace hx343_2 := (cell_far (p := ⟨gb342, 0, none⟩) (zn hn343_0) (.int .i64 ((rd_T111 l1 x11_1).f0))).trans hx343_2
                replace hx343_0 := (cell_far (p := ⟨gb342, 1, none⟩) (zn hn343_1) (.int .i64 ((rd_T111 l1 x11_1).f1))).trans hx343_0
                replace hx343_1 := (cell_far (p := ⟨gb342, 1, none⟩) (zn hn343_1) (.int .i64 ((rd_T111 l1 x11_1).f1))).trans hx343_1
                replace hx343_2 := (cell_far (p := ⟨gb342, 1, none⟩) (zn hn343_1) (.int .i64 ((rd_T111 l1 x11_1).f1))).trans hx343_2
                replace hx343_0 := (cell_far (p := ⟨gb342, 2, none⟩) (zn hn343_2) (.slice A341_2 ((rd_T111 l1 x11_1).f2).length c341_2)).trans hx343_0
                replace hx343_1 := (cell_far (p := ⟨gb342, 2, none⟩) (zn hn343_2) (.slice A341_2 ((rd_T111 l1 x11_1).f2).length c341_2)).trans hx343_1
                replace hx343_2 := (cell_far (p := ⟨gb342, 2, none⟩) (zn hn343_2) (.slice A341_2 ((rd_T111 l1 x11_1).f2).length c341_2)).trans hx343_2
                (try have hy343_0 := fun (n_ : Nat) => (show (((((w7.drewN n_).setCell ⟨gb342, 0, none⟩ (.int .i64 ((rd_T111 l1 x11_1).f0))).setCell ⟨gb342, 1, none⟩ (.int .i64 ((rd_T111 l1 x11_1).f1))).setCell ⟨gb342, 2, none⟩ (.slice A341_2 ((rd_T111 l1 x11_1).f2).length c341_2))).cell? _ = some _ from hx343_0))
                (try have hy343_1 := fun (n_ : Nat) => (show (((((w7.drewN n_).setCell ⟨gb342, 0, none⟩ (.int .i64 ((rd_T111 l1 x11_1).f0))).setCell ⟨gb342, 1, none⟩ (.int .i64 ((rd_T111 l1 x11_1).f1))).setCell ⟨gb342, 2, none⟩ (.slice A341_2 ((rd_T111 l1 x11_1).f2).length c341_2))).cell? _ = some _ from hx343_1))
                (try have hy343_2 := fun (n_ : Nat) => (show (((((w7.drewN n_).setCell ⟨gb342, 0, none⟩ (.int .i64 ((rd_T111 l1 x11_1).f0))).setCell ⟨gb342, 1, none⟩ (.int .i64 ((rd_T111 l1 x11_1).f1))).setCell ⟨gb342, 2, none⟩ (.slice A341_2 ((rd_T111 l1 x11_1).f2).length c341_2))).cell? _ = some _ from hx343_2))
                clear hn343_0
                clear hn343_1
                clear hn343_2
                replace p343 := eq_true p343
                replace q343 := eq_true q343
                have p344 : 0 ≤ ((ji22) : Int) := oa
                have q344 : (ji22) < (l1.length : Int) := oa
                obtain ⟨ad344, A344_2, c344_2, e344, hx344_0, hx344_1, hx344_2, hl344_2, hi344_2⟩ := at_T111 HR1.out (ji22) p344 q344
                obtain rfl : ad341 = ad344 := (by injection e344)
                have hn344_0 : ad341.block ≠ gb342 := Nat.ne_of_lt (Nat.lt_of_lt_of_le (zl hx344_0) GW342.out)
                have hn344_1 : ad341.block ≠ gb342 := Nat.ne_of_lt (Nat.lt_of_lt_of_le (zl hx344_0) GW342.out)
                have hn344_2 : ad341.block ≠ gb342 := Nat.ne_of_lt (Nat.lt_of_lt_of_le (zl hx344_0) GW342.out)
                replace hx344_0 := (HB.out.cell (World.block_lt_of_cell? w _ hx344_0)).trans hx344_0
                replace hx344_1 := (HB.out.cell (World.block_lt_of_cell? w _ hx344_1)).trans hx344_1
                replace hx344_2 := (HB.out.cell (World.block_lt_of_cell? w _ hx344_2)).trans hx344_2
                have HR344_2 := Aside0.mk hi344_2
                have HC344_2 := Aside0.mk hl344_2
                clear hi344_2 hl344_2
                replace hx344_0 := (cell_far (p := ⟨gb342, 0, none⟩) (zn hn344_0) (.int .i64 ((rd_T111 l1 x11_1).f0))).trans hx344_0
                replace hx344_1 := (cell_far (p := ⟨gb342, 0, none⟩) (zn hn344_0) (.int .i64 ((rd_T111 l1 x11_1).f0))).trans hx344_1
                replace hx344_2 := (cell_far (p := ⟨gb342, 0, none⟩) (zn hn344_0) (.int .i64 ((rd_T111 l1 x11_1).f0))).trans hx344_2
                replace hx344_0 := (cell_far (p := ⟨gb342, 1, none⟩) (zn hn344_1) (.int .i64 ((rd_T111 l1 x11_1).f1))).trans hx344_0
                replace hx344_1 := (cell_far (p := ⟨gb342, 1, none⟩) (zn hn344_1) (.int .i64 ((rd_T111 l1 x11_1).f1))).trans hx344_1
                replace hx344_2 := (cell_far (p := ⟨gb342, 1, none⟩) (zn hn344_1) (.int .i64 ((rd_T111 l1 x11_1).f1))).trans hx344_2
                replace hx344_0 := (cell_far (p := ⟨gb342, 2, none⟩) (zn hn344_2) (.slice A341_2 ((rd_T111 l1 x11_1).f2).length c341_2)).trans hx344_0
                replace hx344_1 := (cell_far (p := ⟨gb342, 2, none⟩) (zn hn344_2) (.slice A341_2 ((rd_T111 l1 x11_1).f2).length c341_2)).trans hx344_1
                replace hx344_2 := (cell_far (p := ⟨gb342, 2, none⟩) (zn hn344_2) (.slice A341_2 ((rd_T111 l1 x11_1).f2).length c341_2)).trans hx344_2
                (try have hy344_0 := fun (n_ : Nat) => (show (((((w7.drewN n_).setCell ⟨gb342, 0, none⟩ (.int .i64 ((rd_T111 l1 x11_1).f0))).setCell ⟨gb342, 1, none⟩ (.int .i64 ((rd_T111 l1 x11_1).f1))).setCell ⟨gb342, 2, none⟩ (.slice A341_2 ((rd_T111 l1 x11_1).f2).length c341_2))).cell? _ = some _ from hx344_0))
                (try have hy344_1 := fun (n_ : Nat) => (show (((((w7.drewN n_).setCell ⟨gb342, 0, none⟩ (.int .i64 ((rd_T111 l1 x11_1).f0))).setCell ⟨gb342, 1, none⟩ (.int .i64 ((rd_T111 l1 x11_1).f1))).setCell ⟨gb342, 2, none⟩ (.slice A341_2 ((rd_T111 l1 x11_1).f2).length c341_2))).cell? _ = some _ from hx344_1))
                (try have hy344_2 := fun (n_ : Nat) => (show (((((w7.drewN n_).setCell ⟨gb342, 0, none⟩ (.int .i64 ((rd_T111 l1 x11_1).f0))).setCell ⟨gb342, 1, none⟩ (.int .i64 ((rd_T111 l1 x11_1).f1))).setCell ⟨gb342, 2, none⟩ (.slice A341_2 ((rd_T111 l1 x11_1).f2).length c341_2))).cell? _ = some _ from hx344_2))
                clear hn344_0
                clear hn344_1
                clear hn344_2
                replace p344 := eq_true p344
                replace q344 := eq_true q344
                have eb_ := Option.some.inj (hx343_2.symm.trans hx344_2)
                injection eb_ with ea_ en_ ec_
                subst ea_
                subst ec_
                clear en_
                go_wp2
                repeat (go_quiet (fail); try go_wp2)
                go_meet
                case rel => exact ⟨_, (decide (((rd_T111 l1 x11_1).f0) ≤ (wrap64 (((rd_T111 l1 (ji22)).f0) + ((rd_T111 l1 (ji22)).f1))))), (by first | rfl | (simp; done) | (simp only [← hji22] <;> (first | rfl | simp)) | (simp [*]; done)), H', ⟨by have := HK1.out; first | omega | exact Nat.le_refl _⟩, ⟨by (with_reducible repeat (first | refine blk_drewN ?_ _ | refine blk_drew ?_ | refine blk_alloc ?_ _)); refine blk_put (cs := #[.int .i64 ((rd_T111 l1 x11_1).f0), .int .i64 ((rd_T111 l1 x11_1).f1), .slice none 0 0]) ?_ 2 _ rfl; (with_reducible repeat (first | refine blk_drewN ?_ _ | refine blk_drew ?_ | refine blk_alloc ?_ _)); refine blk_put (cs := #[.int .i64 ((rd_T111 l1 x11_1).f0), .int .i64 0, .slice none 0 0]) ?_ 1 _ rfl; (with_reducible repeat (first | refine blk_drewN ?_ _ | refine blk_drew ?_ | refine blk_alloc ?_ _)); refine blk_put (cs := #[.int .i64 0, .int .i64 0, .slice none 0 0]) ?_ 0 _ rfl; (with_reducible repeat (first | refine blk_drewN ?_ _ | refine blk_drew ?_ | refine blk_alloc ?_ _)); exact BK342.out⟩, ⟨by repeat (first | (with_reducible first | exact HB.out | apply below_alloc | apply pw_below_drewN | apply below_drew1 | refine below_set ?_ GE342.out) | exact HB.out)⟩⟩
               ·rw [if_neg c24] at H
                exact absurd H (by simp)
              ·rw [if_neg c23] at H
               exact absurd H (by simp)
             ·rw [if_neg c21] at H
              have c21b0 : decide (0 < x11_1) = false := decide_eq_false c21
              clear c21
              have H' := Aside0.mk H
              clear H
              have hcz26_0 : w7.cell? ⟨gb342, 0, none⟩ = some (.int .i64 0) := (blk_cell BK342.out 0).trans rfl
              have hcz26_1 : w7.cell? ⟨gb342, 1, none⟩ = some (.int .i64 0) := (blk_cell BK342.out 1).trans rfl
              have hcz26_2 : w7.cell? ⟨gb342, 2, none⟩ = some (.slice none 0 0) := (blk_cell BK342.out 2).trans rfl
              have hfz26_0 := blk_frozen BK342.out 0
              have hfz26_1 := blk_frozen BK342.out 1
              have hfz26_2 := blk_frozen BK342.out 2
              go_wp2
              repeat (go_quiet (fail); try go_wp2)
              go_meet
              case rel => exact ⟨_, (false), zf, H', ⟨by have := HK1.out; first | omega | exact Nat.le_refl _⟩, ⟨by (with_reducible repeat (first | refine blk_drewN ?_ _ | refine blk_drew ?_ | refine blk_alloc ?_ _)); refine blk_put (cs := #[.int .i64 ((rd_T111 l1 x11_1).f0), .int .i64 ((rd_T111 l1 x11_1).f1), .slice none 0 0]) ?_ 2 _ rfl; (with_reducible repeat (first | refine blk_drewN ?_ _ | refine blk_drew ?_ | refine blk_alloc ?_ _)); refine blk_put (cs := #[.int .i64 ((rd_T111 l1 x11_1).f0), .int .i64 0, .slice none 0 0]) ?_ 1 _ rfl; (with_reducible repeat (first | refine blk_drewN ?_ _ | refine blk_drew ?_ | refine blk_alloc ?_ _)); refine blk_put (cs := #[.int .i64 0, .int .i64 0, .slice none 0 0]) ?_ 0 _ rfl; (with_reducible repeat (first | refine blk_drewN ?_ _ | refine blk_drew ?_ | refine blk_alloc ?_ _)); exact BK342.out⟩, ⟨by repeat (first | (with_reducible first | exact HB.out | apply below_alloc | apply pw_below_drewN | apply below_drew1 | refine below_set ?_ GE342.out) | exact HB.out)⟩⟩
      case rest =>
       clear HC6
       try clear c1
       try clear c2
       try clear p2
       try clear c3
       try clear c3b0
       try clear p3
       try clear q3
       try clear hx3
       try clear c4
       try clear c4b0
       try clear c5
       try clear c5b0
       try clear p6
       try clear c9
       try clear c9b0
       try clear c11
       try clear c11b0
       try clear c13
       try clear c13b0
       try clear c15
       try clear c15b0
       try clear c17
       try clear c17b0
       try clear c17b1
       try clear c19
       try clear c19b0
       try clear c19b1
       try clear c21
       try clear c21b0
       try clear c23
       try clear c23b0
       try clear c24
       try clear c24b0
       try clear hcz10_0
       try clear hcz10_1
       try clear hcz10_2
       try clear hcz12_0
       try clear hcz12_1
       try clear hcz12_2
       try clear hcz14_0
       try clear hcz14_1
       try clear hcz14_2
       try clear hcz16_0
       try clear hcz16_1
       try clear hcz16_2
       try clear hcz18_0
       try clear hcz18_1
       try clear hcz18_2
       try clear hcz20_0
       try clear hcz20_1
       try clear hcz20_2
       try clear hcz25_0
       try clear hcz25_1
       try clear hcz25_2
       try clear hcz26_0
       try clear hcz26_1
       try clear hcz26_2
       try clear hcz8_0
       try clear hcz8_1
       try clear hcz8_2
       try clear hfz10_0
       try clear hfz10_1
       try clear hfz10_2
       try clear hfz12_0
       try clear hfz12_1
       try clear hfz12_2
       try clear hfz14_0
       try clear hfz14_1
       try clear hfz14_2
       try clear hfz16_0
       try clear hfz16_1
       try clear hfz16_2
       try clear hfz18_0
       try clear hfz18_1
       try clear hfz18_2
       try clear hfz20_0
       try clear hfz20_1
       try clear hfz20_2
       try clear hfz25_0
       try clear hfz25_1
       try clear hfz25_2
       try clear hfz26_0
       try clear hfz26_1
       try clear hfz26_2
       try clear hfz8_0
       try clear hfz8_1
       try clear hfz8_2
       try clear hx341_0
       try clear hx341_1
       try clear hx341_2
       try clear hx343_0
       try clear hx343_1
       try clear hx343_2
       try clear hx344_0
       try clear hx344_1
       try clear hx344_2
       try clear p2
       try clear p341
       try clear p343
       try clear p344
       try clear q341
       try clear q343
       try clear q344
       obtain ⟨kq, x75_5, rfl, HA, HJ5, BK342, HB⟩ := hcut
       cases kq with
       | zero => exact absurd HA.out (by simp [spec_l2Hunks.j1])
       | succ kj5 =>
        have H := HA.out
        clear HA
        simp only [spec_l2Hunks.j1] at H
        by_cases c27 : x75_5 = true
        ·subst c27
         have H1 : (some false) = some r := by rw [if_pos rfl] at H; exact H
         clear H
         have H := H1
         clear H1
         obtain rfl := Option.some.inj H
         go_wp2
         repeat (go_quiet (fail); try go_wp2)
         go_ret
         exact ⟨by first | rfl | (simp [errW_none, errW_some] <;> rfl) | (simp [*, errW_none, errW_some] <;> rfl), by repeat (first | (with_reducible first | exact HB.out | apply below_alloc | apply pw_below_drewN | apply below_drew1 | refine below_set ?_ GE342.out) | exact HB.out)⟩
        ·replace c27 := Bool.eq_false_iff.mpr c27
         subst c27
         have H1 : (spec_l2Hunks.l1 kj5 a0 l1 l1 (l1.length : Int) x11_1 ((rd_T111 l1 x11_1).f2) (((rd_T111 l1 x11_1).f2).length : Int) 0) = some r := by rw [if_neg (show ¬ (false = true) by decide)] at H; exact H
         clear H
         have H := H1
         clear H1
         have H' := Aside0.mk H
         clear H
         have hcz28_0 : wc.cell? ⟨gb342, 0, none⟩ = some (.int .i64 ((rd_T111 l1 x11_1).f0)) := (blk_cell BK342.out 0).trans rfl
         have hcz28_1 : wc.cell? ⟨gb342, 1, none⟩ = some (.int .i64 ((rd_T111 l1 x11_1).f1)) := (blk_cell BK342.out 1).trans rfl
         have hcz28_2 : wc.cell? ⟨gb342, 2, none⟩ = some (.slice A341_2 ((rd_T111 l1 x11_1).f2).length c341_2) := (blk_cell BK342.out 2).trans rfl
         have hfz28_0 := blk_frozen BK342.out 0
         have hfz28_1 := blk_frozen BK342.out 1
         have hfz28_2 := blk_frozen BK342.out 2
         go_wp2
         repeat (go_quiet (fail); try go_wp2)
         go_loopg [79] kj5 (fun kq v79 w' => ∃ (x79_3 : Int), v79 = .int .i64 x79_3 ∧ Aside0 (spec_l2Hunks.l1 kq a0 l1 l1 (l1.length : Int) x11_1 ((rd_T111 l1 x11_1).f2) (((rd_T111 l1 x11_1).f2).length : Int) x79_3 = some r) ∧ Aside0 (kq ≤ kj5) ∧ Aside0 (w'.heap[gb342]? = some (.cells #[.int .i64 ((rd_T111 l1 x11_1).f0), .int .i64 ((rd_T111 l1 x11_1).f1), (.slice A341_2 ((rd_T111 l1 x11_1).f2).length c341_2)] 111 (0, 0))) ∧ Aside0 (Below w.heap.size w w'))
         case atStart => exact ⟨(0), zf, H', ⟨Nat.le_refl _⟩, ⟨by (with_reducible repeat (first | refine blk_drewN ?_ _ | refine blk_drew ?_ | refine blk_alloc ?_ _)); exact BK342.out⟩, ⟨by repeat (first | (with_reducible first | exact HB.out | apply below_alloc | apply pw_below_drewN | apply below_drew1 | refine below_set ?_ GE342.out) | exact HB.out)⟩⟩
         case round =>
          clear H'
          try clear c1
          try clear c2
          try clear p2
          try clear c3
          try clear c3b0
          try clear p3
          try clear q3
          try clear hx3
          try clear c4
          try clear c4b0
          try clear c5
          try clear c5b0
          try clear p6
          try clear c9
          try clear c9b0
          try clear c11
          try clear c11b0
          try clear c13
          try clear c13b0
          try clear c15
          try clear c15b0
          try clear c17
          try clear c17b0
          try clear c17b1
          try clear c19
          try clear c19b0
          try clear c19b1
          try clear c21
          try clear c21b0
          try clear c23
          try clear c23b0
          try clear c24
          try clear c24b0
          try clear c27
          try clear hcz10_0
          try clear hcz10_1
          try clear hcz10_2
          try clear hcz12_0
          try clear hcz12_1
          try clear hcz12_2
          try clear hcz14_0
          try clear hcz14_1
          try clear hcz14_2
          try clear hcz16_0
          try clear hcz16_1
          try clear hcz16_2
          try clear hcz18_0
          try clear hcz18_1
          try clear hcz18_2
          try clear hcz20_0
          try clear hcz20_1
          try clear hcz20_2
          try clear hcz25_0
          try clear hcz25_1
          try clear hcz25_2
          try clear hcz26_0
          try clear hcz26_1
          try clear hcz26_2
          try clear hcz28_0
          try clear hcz28_1
          try clear hcz28_2
          try clear hcz8_0
          try clear hcz8_1
          try clear hcz8_2
          try clear hfz10_0
          try clear hfz10_1
          try clear hfz10_2
          try clear hfz12_0
          try clear hfz12_1
          try clear hfz12_2
          try clear hfz14_0
          try clear hfz14_1
          try clear hfz14_2
          try clear hfz16_0
          try clear hfz16_1
          try clear hfz16_2
          try clear hfz18_0
          try clear hfz18_1
          try clear hfz18_2
          try clear hfz20_0
          try clear hfz20_1
          try clear hfz20_2
          try clear hfz25_0
          try clear hfz25_1
          try clear hfz25_2
          try clear hfz26_0
          try clear hfz26_1
          try clear hfz26_2
          try clear hfz28_0
          try clear hfz28_1
          try clear hfz28_2
          try clear hfz8_0
          try clear hfz8_1
          try clear hfz8_2
          try clear hx341_0
          try clear hx341_1
          try clear hx341_2
          try clear hx343_0
          try clear hx343_1
          try clear hx343_2
          try clear hx344_0
          try clear hx344_1
          try clear hx344_2
          try clear p2
          try clear p3
          try clear p341
          try clear p343
          try clear p344
          try clear p6
          try clear q3
          try clear q341
          try clear q343
          try clear q344
          obtain ⟨x79_3, rfl, HA, HK3, BK342, HB⟩ := hrel
          cases gk with
          | zero => exact absurd HA.out (by simp [spec_l2Hunks.l1])
          | succ k3 =>
           have H := HA.out
           clear HA
           simp only [spec_l2Hunks.l1] at H
           by_cases c29 : x79_3 < (((rd_T111 l1 x11_1).f2).length : Int)
           ·rw [if_pos c29] at H
            have c29b0 : decide (x79_3 < (((rd_T111 l1 x11_1).f2).length : Int)) = true := decide_eq_true c29
            clear c29
            by_cases c30 : 0 ≤ x79_3
            ·rw [if_pos c30] at H
             have c30b0 : decide (0 ≤ x79_3) = true := decide_eq_true c30
             clear c30
             by_cases c31 : x79_3 < (((rd_T111 l1 x11_1).f2).length : Int)
             ·rw [if_pos c31] at H
              have c31b0 : decide (x79_3 < (((rd_T111 l1 x11_1).f2).length : Int)) = true := decide_eq_true c31
              clear c31
              replace H := Option.bind_eq_some_iff.mp H
              obtain ⟨t346, A320, H⟩ := H
              replace H : (if t346 = true then (spec_l2Hunks.l1 k3 a0 l1 l1 (l1.length : Int) x11_1 ((rd_T111 l1 x11_1).f2) (((rd_T111 l1 x11_1).f2).length : Int) (wrap64 (x79_3 + 1))) else (some false)) = some r := H
              have A32 := Aside0.mk A320
              clear A320
              by_cases c33 : t346 = true
              ·subst c33
               have H1 : (spec_l2Hunks.l1 k3 a0 l1 l1 (l1.length : Int) x11_1 ((rd_T111 l1 x11_1).f2) (((rd_T111 l1 x11_1).f2).length : Int) (wrap64 (x79_3 + 1))) = some r := by rw [if_pos rfl] at H; exact H
               clear H
               have H := H1
               clear H1
               have H' := Aside0.mk H
               clear H
               have p345 : 0 ≤ (x79_3 : Int) := oa
               have q345 : x79_3 < (((rd_T111 l1 x11_1).f2).length : Int) := oa
               obtain ⟨ad345, e345, hx345_0⟩ := Kd.at_string HR341_2.out x79_3 p345 q345
               cases e345
               replace hx345_0 := (HB.out.cell (World.block_lt_of_cell? w _ hx345_0)).trans hx345_0
               replace p345 := eq_true p345
               replace q345 := eq_true q345
               go_wp2_with (first | (go_at_call 147; (with_reducible refine (spec_l1Line.calls k3 (rdOf ByteArray.empty ((rd_T111 l1 x11_1).f2) x79_3) true _ A32.out).mono ?_); rintro e w' ⟨rfl, ⟨nd, rfl⟩⟩; (try exact zd)))
               repeat (go_quiet (first | (go_at_call 147; (with_reducible refine (spec_l1Line.calls k3 (rdOf ByteArray.empty ((rd_T111 l1 x11_1).f2) x79_3) true _ A32.out).mono ?_); rintro e w' ⟨rfl, ⟨nd, rfl⟩⟩; (try exact zd))); try go_wp2_with (first | (go_at_call 147; (with_reducible refine (spec_l1Line.calls k3 (rdOf ByteArray.empty ((rd_T111 l1 x11_1).f2) x79_3) true _ A32.out).mono ?_); rintro e w' ⟨rfl, ⟨nd, rfl⟩⟩; (try exact zd))))
               go_roundg k3
               case measure => have := HK1.out; have := HJ5.out; have := HK3.out; omega
               case rel => exact ⟨(wrap64 (x79_3 + 1)), zf, H', ⟨by have := HK1.out; have := HJ5.out; have := HK3.out; omega⟩, ⟨by (with_reducible repeat (first | refine blk_drewN ?_ _ | refine blk_drew ?_ | refine blk_alloc ?_ _)); exact BK342.out⟩, ⟨by repeat (first | (with_reducible first | exact HB.out | apply below_alloc | apply pw_below_drewN | apply below_drew1 | refine below_set ?_ GE342.out) | exact HB.out)⟩⟩
              ·replace c33 := Bool.eq_false_iff.mpr c33
               subst c33
               have H1 : (some false) = some r := by rw [if_neg (show ¬ (false = true) by decide)] at H; exact H
               clear H
               have H := H1
               clear H1
               obtain rfl := Option.some.inj H
               have p345 : 0 ≤ (x79_3 : Int) := oa
               have q345 : x79_3 < (((rd_T111 l1 x11_1).f2).length : Int) := oa
               obtain ⟨ad345, e345, hx345_0⟩ := Kd.at_string HR341_2.out x79_3 p345 q345
               cases e345
               replace hx345_0 := (HB.out.cell (World.block_lt_of_cell? w _ hx345_0)).trans hx345_0
               replace p345 := eq_true p345
               replace q345 := eq_true q345
               go_wp2_with (first | (go_at_call 147; (with_reducible refine (spec_l1Line.calls k3 (rdOf ByteArray.empty ((rd_T111 l1 x11_1).f2) x79_3) false _ A32.out).mono ?_); rintro e w' ⟨rfl, ⟨nd, rfl⟩⟩; (try exact zd)))
               repeat (go_quiet (first | (go_at_call 147; (with_reducible refine (spec_l1Line.calls k3 (rdOf ByteArray.empty ((rd_T111 l1 x11_1).f2) x79_3) false _ A32.out).mono ?_); rintro e w' ⟨rfl, ⟨nd, rfl⟩⟩; (try exact zd))); try go_wp2_with (first | (go_at_call 147; (with_reducible refine (spec_l1Line.calls k3 (rdOf ByteArray.empty ((rd_T111 l1 x11_1).f2) x79_3) false _ A32.out).mono ?_); rintro e w' ⟨rfl, ⟨nd, rfl⟩⟩; (try exact zd))))
               go_ret
               exact ⟨by first | rfl | (simp [errW_none, errW_some] <;> rfl) | (simp [*, errW_none, errW_some] <;> rfl), by repeat (first | (with_reducible first | exact HB.out | apply below_alloc | apply pw_below_drewN | apply below_drew1 | refine below_set ?_ GE342.out) | exact HB.out)⟩
             ·rw [if_neg c31] at H
              exact absurd H (by simp)
            ·rw [if_neg c30] at H
             exact absurd H (by simp)
           ·rw [if_neg c29] at H
            have c29b0 : decide (x79_3 < (((rd_T111 l1 x11_1).f2).length : Int)) = false := decide_eq_false c29
            clear c29
            have H' := Aside0.mk H
            clear H
            go_wp2
            repeat (go_quiet (fail); try go_wp2)
            go_roundg k3
            case measure => have := HK1.out; have := HJ5.out; have := HK3.out; omega
            case rel => exact ⟨(wrap64 (x11_1 + 1)), zf, H', ⟨by have := HK1.out; have := HJ5.out; have := HK3.out; omega⟩, ⟨by repeat (first | (with_reducible first | exact HB.out | apply below_alloc | apply pw_below_drewN | apply below_drew1 | refine below_set ?_ GE342.out) | exact HB.out)⟩⟩
     ·rw [if_neg c5] at H
      exact absurd H (by simp)
    ·rw [if_neg c4] at H
     exact absurd H (by simp)
   ·rw [if_neg c3] at H
    have c3b0 : decide (x11_1 < (l1.length : Int)) = false := decide_eq_false c3
    clear c3
    by_cases c34 : (l1.length : Int) ≤ 20
    ·rw [if_pos c34] at H
     have c34b0 : decide ((l1.length : Int) ≤ 20) = true := decide_eq_true c34
     have c34b1 : decide (l1.length ≤ 20) = true := decide_eq_true (by omega)
     clear c34
     replace H := Option.bind_eq_some_iff.mp H
     obtain ⟨t340, A350, H⟩ := H
     replace H : (some t340) = some r := H
     have A35 := Aside0.mk A350
     clear A350
     obtain rfl := Option.some.inj H
     go_wp2_with (first | (go_at_call 114; (with_reducible refine (spec_l1In.calls a0 0 40 t340 _ A35.out).mono ?_); rintro e w' ⟨rfl, ⟨nd, rfl⟩⟩; (try exact zd)))
     repeat (go_quiet (first | (go_at_call 114; (with_reducible refine (spec_l1In.calls a0 0 40 t340 _ A35.out).mono ?_); rintro e w' ⟨rfl, ⟨nd, rfl⟩⟩; (try exact zd))); try go_wp2_with (first | (go_at_call 114; (with_reducible refine (spec_l1In.calls a0 0 40 t340 _ A35.out).mono ?_); rintro e w' ⟨rfl, ⟨nd, rfl⟩⟩; (try exact zd))))
     go_ret
     exact ⟨by first | rfl | (simp [errW_none, errW_some] <;> rfl) | (simp [*, errW_none, errW_some] <;> rfl), by repeat (first | (with_reducible first | exact HB.out | apply below_alloc | apply pw_below_drewN | apply below_drew1) | exact HB.out)⟩
    ·rw [if_neg c34] at H
     have c34b0 : decide ((l1.length : Int) ≤ 20) = false := decide_eq_false c34
     have c34b1 : decide (l1.length ≤ 20) = false := decide_eq_false (by omega)
     clear c34
     obtain rfl := Option.some.inj H
     go_wp2
     repeat (go_quiet (fail); try go_wp2)
     go_ret
     exact ⟨by first | rfl | (simp [errW_none, errW_some] <;> rfl) | (simp [*, errW_none, errW_some] <;> rfl), by repeat (first | (with_reducible first | exact HB.out | apply below_alloc | apply pw_below_drewN | apply below_drew1) | exact HB.out)⟩

end Go.Proofs.Ytcefenlblnediaa.My

/- Written by this session's program (wip/gen): a plain function with the same answers as the Go function, and the proof that the Go code comes to them. Asked: that the plain function has an answer. -/
namespace Go.Proofs.Ytcefenlblnediaa.My
open Go.RowKit Go.Proofs.YtcefenlblnediaaW.PrintWords Go.Proofs.YtcefenlblnediaaW.PrintLast Go.Proofs.YtcefenlblnediaaW.PrintMore
attribute [local go_sem] max2_int min2_int max_two min_two max_three min_three max_four min_four
set_option linter.unusedVariables false
set_option linter.unusedSimpArgs false

/-! ### spec_l2Asked: function 103 -/
def spec_l2Asked.f (k : Nat) (l0 : List ByteArray) (l1 : List (S111)) : Option (Bool) := (spec_l1Good.f k l0).bind fun t347 => (if t347 = true then ((spec_l2Hunks.f k (l0.length : Int) l1).bind fun t348 => (some t348)) else (some false))
set_option maxHeartbeats 8000000 in
set_option maxRecDepth 100000 in
theorem spec_l2Asked.calls (k : Nat) (A0 : Option Addr) (c0 : Nat) (l0 : List ByteArray) (A1 : Option Addr) (c1 : Nat) (l1 : List (S111)) (r : Bool) (w : World) (hr0 : Kd.C Kd.string w A0 l0.length l0) (hc0 : l0.length ≤ c0) (hr1 : Kd.C k111 w A1 l1.length l1) (hc1 : l1.length ≤ c1) (h : spec_l2Asked.f k l0 l1 = some r) :
  Calls Try.prog 103 #[.slice A0 l0.length c0, .slice A1 l1.length c1] w fun e w' => e = .returned (.bool r) ∧ Below w.heap.size w w' := by
 have HR0 := Aside0.mk hr0
 have HC0 := Aside0.mk hc0
 clear hr0 hc0
 have HR1 := Aside0.mk hr1
 have HC1 := Aside0.mk hc1
 clear hr1 hc1
 have HB := Aside0.mk (Below.refl w.heap.size w)
 have H : ((spec_l1Good.f k l0).bind fun t347 => (if t347 = true then ((spec_l2Hunks.f k (l0.length : Int) l1).bind fun t348 => (some t348)) else (some false))) = some r := h
 clear h
 replace H := Option.bind_eq_some_iff.mp H
 obtain ⟨t347, A30, H⟩ := H
 replace H : (if t347 = true then ((spec_l2Hunks.f k (l0.length : Int) l1).bind fun t348 => (some t348)) else (some false)) = some r := H
 have A3 := Aside0.mk A30
 clear A30
 by_cases c4 : t347 = true
 ·subst c4
  have H1 : ((spec_l2Hunks.f k (l0.length : Int) l1).bind fun t348 => (some t348)) = some r := by rw [if_pos rfl] at H; exact H
  clear H
  have H := H1
  clear H1
  replace H := Option.bind_eq_some_iff.mp H
  obtain ⟨t348, A50, H⟩ := H
  replace H : (some t348) = some r := H
  have A5 := Aside0.mk A50
  clear A50
  obtain rfl := Option.some.inj H
  go_enter Try.func103, Try.ntmps103
  go_wp2_with (first | ((with_reducible refine gateC (f := 78) rfl ?_); refine goesL_ (some 6) rfl rfl Try.func78 (by kernel_rfl) rfl #[.slice A0 l0.length c0] rfl zm ?_; (with_reducible refine (spec_l1Good.calls k _ _ l0 true _ ?side1 ?side2 A3.out).mono ?_); (case side1 => exact zq HR0.out); (case side2 => exact HC0.out); rintro e w' ⟨rfl, ⟨nd, rfl⟩⟩; refine ⟨_, rfl, ?_⟩) | (go_at_call 92; (with_reducible refine (spec_l2Hunks.calls k (l0.length : Int) _ _ l1 t348 _ ?side1 ?side2 A5.out).mono ?_); (case side1 => exact zq HR1.out); (case side2 => exact HC1.out); rintro e w6 ⟨rfl, hb⟩; have n0_ := Aside0.mk (below_step zb hb); clear HB; have HB := n0_; clear n0_; (try clear hb); (try clear hb2); (try clear hk); (try clear hi)))
  go_ret
  exact ⟨by first | rfl | (simp [errW_none, errW_some] <;> rfl) | (simp [*, errW_none, errW_some] <;> rfl), by repeat (first | (with_reducible first | exact HB.out | apply below_alloc | apply pw_below_drewN | apply below_drew1) | exact HB.out)⟩
 ·replace c4 := Bool.eq_false_iff.mpr c4
  subst c4
  have H1 : (some false) = some r := by rw [if_neg (show ¬ (false = true) by decide)] at H; exact H
  clear H
  have H := H1
  clear H1
  obtain rfl := Option.some.inj H
  go_enter Try.func103, Try.ntmps103
  go_wp2_with (first | ((with_reducible refine gateC (f := 78) rfl ?_); refine goesL_ (some 6) rfl rfl Try.func78 (by kernel_rfl) rfl #[.slice A0 l0.length c0] rfl zm ?_; (with_reducible refine (spec_l1Good.calls k _ _ l0 false _ ?side1 ?side2 A3.out).mono ?_); (case side1 => exact zq HR0.out); (case side2 => exact HC0.out); rintro e w' ⟨rfl, ⟨nd, rfl⟩⟩; refine ⟨_, rfl, ?_⟩))
  go_ret
  exact ⟨by first | rfl | (simp [errW_none, errW_some] <;> rfl) | (simp [*, errW_none, errW_some] <;> rfl), by repeat (first | (with_reducible first | exact HB.out | apply below_alloc | apply pw_below_drewN | apply below_drew1) | exact HB.out)⟩

end Go.Proofs.Ytcefenlblnediaa.My

/- Written by this session's program (wip/gen): a plain function with the same answers as the Go function, and the proof that the Go code comes to them. Asked: that the plain function has an answer. -/
namespace Go.Proofs.Ytcefenlblnediaa.My
open Go.RowKit Go.Proofs.YtcefenlblnediaaW.PrintWords Go.Proofs.YtcefenlblnediaaW.PrintLast Go.Proofs.YtcefenlblnediaaW.PrintMore
attribute [local go_sem] max2_int min2_int max_two min_two max_three min_three max_four min_four
set_option linter.unusedVariables false
set_option linter.unusedSimpArgs false

/-! ### spec_l2Patch: function 104 -/
def spec_l2Patch.l0 : Nat → List ByteArray → List ByteArray → Int → List (S111) → Int → Int → Option (List ByteArray)
 | 0, _, _, _, _, _, _ => none
 | k + 1, x0, x5, x6, x9, x10, x11 => if x11 < x10 then (if 0 ≤ x11 then (if x11 < (x9.length : Int) then (if 0 ≤ x6 then (if x6 ≤ ((rd_T111 x9 x11).f0) then (if ((rd_T111 x9 x11).f0) ≤ (x0.length : Int) then (if x5.length + ((x0.take (((rd_T111 x9 x11).f0) : Int).toNat).drop (x6 : Int).toNat).length < 8796093022208 then ((some (x5 ++ ((x0.take (((rd_T111 x9 x11).f0) : Int).toNat).drop (x6 : Int).toNat) : List ByteArray)).bind fun y352 => (if y352.length + ((rd_T111 x9 x11).f2).length < 8796093022208 then (spec_l2Patch.l0 k x0 (y352 ++ ((rd_T111 x9 x11).f2)) (wrap64 (((rd_T111 x9 x11).f0) + ((rd_T111 x9 x11).f1))) x9 x10 (wrap64 (x11 + 1))) else (none))) else (none)) else (none)) else (none)) else (none)) else (none)) else (none)) else (if 0 ≤ x6 then (if x6 ≤ (x0.length : Int) then (if x5.length + (x0.drop (x6 : Int).toNat).length < 8796093022208 then (some (x5 ++ (x0.drop (x6 : Int).toNat))) else (none)) else (none)) else (none))
def spec_l2Patch.f (k : Nat) (l0 : List ByteArray) (l1 : List (S111)) : Option (List ByteArray) := spec_l2Patch.l0 k l0 ([] : List ByteArray) 0 l1 (l1.length : Int) 0
set_option maxHeartbeats 8000000 in
set_option maxRecDepth 100000 in
theorem spec_l2Patch.calls (k : Nat) (A0 : Option Addr) (c0 : Nat) (l0 : List ByteArray) (A1 : Option Addr) (c1 : Nat) (l1 : List (S111)) (r : List ByteArray) (w : World) (hr0 : Kd.C Kd.string w A0 l0.length l0) (hc0 : l0.length ≤ c0) (hr1 : Kd.C k111 w A1 l1.length l1) (hc1 : l1.length ≤ c1) (h : spec_l2Patch.f k l0 l1 = some r) :
  Calls Try.prog 104 #[.slice A0 l0.length c0, .slice A1 l1.length c1] w fun e w' => ∃ v0_ : Value, e = .returned (v0_) ∧ Kd.R Kd.string 9 w' w.heap.size (fun _ => True) v0_ r ∧ Below w.heap.size w w' := by
 have hu111 := Try.underlying111
 have HR0 := Aside0.mk hr0
 have HC0 := Aside0.mk hc0
 clear hr0 hc0
 have HR1 := Aside0.mk hr1
 have HC1 := Aside0.mk hc1
 clear hr1 hc1
 have HB := Aside0.mk (Below.refl w.heap.size w)
 have H : (spec_l2Patch.l0 k l0 ([] : List ByteArray) 0 l1 (l1.length : Int) 0) = some r := h
 clear h
 have H' := Aside0.mk H
 clear H
 go_enter Try.func104, Try.ntmps104
 go_wp2
 go_loopg [5, 6, 11] k (fun kq v5 v6 v11 w' => ∃ (x5_1 : List ByteArray) (x6_1 : Int) (x11_1 : Int), v6 = .int .i64 x6_1 ∧ v11 = .int .i64 x11_1 ∧ Aside0 (spec_l2Patch.l0 kq l0 x5_1 x6_1 l1 (l1.length : Int) x11_1 = some r) ∧ Aside0 (kq ≤ k) ∧ Aside0 (Kd.R Kd.string 9 w' w.heap.size (fun _ => True) v5 x5_1) ∧ Aside0 (Below w.heap.size w w'))
 case atStart => exact ⟨(([] : List ByteArray)), (0), (0), zf, zf, H', ⟨Nat.le_refl _⟩, ⟨by first | exact Kd.R_nil _ _ _ _ _ | exact Kd.Q_nil _ _ _ _ _ | exact Kd.S_nil _ _ _ _ _⟩, ⟨by repeat (first | (with_reducible first | exact HB.out | apply below_alloc | apply pw_below_drewN | apply below_drew1) | exact HB.out)⟩⟩
 case round =>
  clear H'
  try clear c1
  try clear p2
  obtain ⟨x5_1, x6_1, x11_1, rfl, rfl, HA, HK1, HO_5, HB⟩ := hrel
  cases gk with
  | zero => exact absurd HA.out (by simp [spec_l2Patch.l0])
  | succ k1 =>
   have H := HA.out
   clear HA
   simp only [spec_l2Patch.l0] at H
   by_cases c3 : x11_1 < (l1.length : Int)
   ·rw [if_pos c3] at H
    have c3b0 : decide (x11_1 < (l1.length : Int)) = true := decide_eq_true c3
    clear c3
    by_cases c4 : 0 ≤ x11_1
    ·rw [if_pos c4] at H
     have c4b0 : decide (0 ≤ x11_1) = true := decide_eq_true c4
     clear c4
     by_cases c5 : x11_1 < (l1.length : Int)
     ·rw [if_pos c5] at H
      have c5b0 : decide (x11_1 < (l1.length : Int)) = true := decide_eq_true c5
      clear c5
      by_cases c6 : 0 ≤ x6_1
      ·rw [if_pos c6] at H
       have c6b0 := eq_true c6
       have c6b1 : decide (0 ≤ x6_1) = true := decide_eq_true c6
       clear c6
       by_cases c7 : x6_1 ≤ ((rd_T111 l1 x11_1).f0)
       ·rw [if_pos c7] at H
        have c7b0 := eq_true c7
        have c7b1 : decide (x6_1 ≤ ((rd_T111 l1 x11_1).f0)) = true := decide_eq_true c7
        clear c7
        by_cases c8 : ((rd_T111 l1 x11_1).f0) ≤ (l0.length : Int)
        ·rw [if_pos c8] at H
         have c8b0 := eq_true c8
         have c8b1 : decide (((rd_T111 l1 x11_1).f0) ≤ (l0.length : Int)) = true := decide_eq_true c8
         clear c8
         by_cases c9 : x5_1.length + ((l0.take (((rd_T111 l1 x11_1).f0) : Int).toNat).drop (x6_1 : Int).toNat).length < 8796093022208
         ·rw [if_pos c9] at H
          have LMc9 := Aside0.mk c9
          clear c9
          obtain ⟨y352, hy352⟩ : ∃ y_ : List ByteArray, y_ = (x5_1 ++ ((l0.take (((rd_T111 l1 x11_1).f0) : Int).toNat).drop (x6_1 : Int).toNat)) := ⟨_, rfl⟩
          replace H : (if y352.length + ((rd_T111 l1 x11_1).f2).length < 8796093022208 then (spec_l2Patch.l0 k1 l0 (y352 ++ ((rd_T111 l1 x11_1).f2)) (wrap64 (((rd_T111 l1 x11_1).f0) + ((rd_T111 l1 x11_1).f1))) l1 (l1.length : Int) (wrap64 (x11_1 + 1))) else (none)) = some r := by first | (rw [hy352]; with_reducible exact H) | (have H2_ := (Option.bind_some _ _).symm.trans H; rw [hy352]; with_reducible exact H2_) | (have H2_ := (Option.bind_some _ _).symm.trans H; with_reducible exact H2_) | with_reducible exact H | (rw [hy352]; exact H) | exact H
          have Ny352 := Aside0.mk hy352
          clear hy352
          by_cases c10 : y352.length + ((rd_T111 l1 x11_1).f2).length < 8796093022208
          ·rw [if_pos c10] at H
           have LMc10 := Aside0.mk c10
           clear c10
           obtain ⟨y355, hy355⟩ : ∃ y_ : List ByteArray, y_ = (y352 ++ ((rd_T111 l1 x11_1).f2)) := ⟨_, rfl⟩
           replace H : (spec_l2Patch.l0 k1 l0 y355 (wrap64 (((rd_T111 l1 x11_1).f0) + ((rd_T111 l1 x11_1).f1))) l1 (l1.length : Int) (wrap64 (x11_1 + 1))) = some r := by first | (rw [hy355]; with_reducible exact H) | (have H2_ := (Option.bind_some _ _).symm.trans H; rw [hy355]; with_reducible exact H2_) | (have H2_ := (Option.bind_some _ _).symm.trans H; with_reducible exact H2_) | with_reducible exact H | (rw [hy355]; exact H) | exact H
           have Ny355 := Aside0.mk hy355
           clear hy355
           have H' := Aside0.mk H
           clear H
           have p349 : 0 ≤ (x11_1 : Int) := oa
           have q349 : x11_1 < (l1.length : Int) := oa
           obtain ⟨ad349, A349_2, c349_2, e349, hx349_0, hx349_1, hx349_2, hl349_2, hi349_2⟩ := at_T111 HR1.out x11_1 p349 q349
           cases e349
           replace hx349_0 := (HB.out.cell (World.block_lt_of_cell? w _ hx349_0)).trans hx349_0
           replace hx349_1 := (HB.out.cell (World.block_lt_of_cell? w _ hx349_1)).trans hx349_1
           replace hx349_2 := (HB.out.cell (World.block_lt_of_cell? w _ hx349_2)).trans hx349_2
           have HR349_2 := Aside0.mk hi349_2
           have HC349_2 := Aside0.mk hl349_2
           clear hi349_2 hl349_2
           replace p349 := eq_true p349
           replace q349 := eq_true q349
           go_wp2_with (first | ((with_reducible refine gate_dst (N := 8) rfl ?_); refine box_event ?hg (N := 8) ?hd (cs := #[.int .i64 0, .int .i64 0, .slice none 0 0]) (t := 111) ?hr ?_; (case hd => rfl); (case hg => rfl); (case hr => first | (go_simp; done) | (go_simp; rfl)); intro gb350 hg w11 hbox hb; have n0_ := Aside0.mk (Kd.R_below (zr HO_5.out) hb); have n1_ := Aside0.mk (below_step zb hb); have n2_ := Aside0.mk (hbox); have n3_ := Aside0.mk ((by rw [hg]; exact (below_size zb) : w.heap.size ≤ gb350)); have n4_ := Aside0.mk ((by rw [hg]; exact (below_size zb) : w.heap.size ≤ gb350)); clear HO_5; clear HB; have HO_5 := n0_; have HB := n1_; have BK350 := n2_; have GW350 := n3_; have GE350 := n4_; clear n0_ n1_ n2_ n3_ n4_; clear hb hbox hg; have hcz12_0 : w11.cell? ⟨gb350, 0, none⟩ = some (.int .i64 0) := (blk_cell BK350.out 0).trans rfl; have hcz12_1 : w11.cell? ⟨gb350, 1, none⟩ = some (.int .i64 0) := (blk_cell BK350.out 1).trans rfl; have hcz12_2 : w11.cell? ⟨gb350, 2, none⟩ = some (.slice none 0 0) := (blk_cell BK350.out 2).trans rfl; have hfz12_0 := blk_frozen BK350.out 0; have hfz12_1 := blk_frozen BK350.out 1; have hfz12_2 := blk_frozen BK350.out 2; obtain ⟨i013, hi013, _, hsz13, _⟩ := info_parts info9; obtain ⟨A13, hcut13, hA13, hC13⟩ := print_mid_of (P := Try.prog) Value.string (⟨#[]⟩ : ByteArray) 22 9 .i64 .i64 Try.underlying22 hi013 hsz13 A0 c0 l0 x6_1 ((rd_T111 l1 x11_1).f0) oa (by first | omega | exact oa) oa HC0.out; have HR351 := Aside0.mk (Kd.C_of_reads (h1 := fun _ => rfl) (hA13 _ (Kd.reads_of_C HR0.out))); have HC351 := Aside0.mk hC13; clear hA13 hC13 hi013 hsz13) | ((with_reducible refine gateB (b := .append) (xs := #[.tmp 15, .tmp 20]) rfl ?_); at_builtin; refine Kd.R_append_rows Kd.string (w0 := w) w.heap.size rfl (.tmp 15) (.tmp 20) 22 9 (.string ⟨#[]⟩) 16 rfl Try.underlying22 info9 rfl (by decide) (by omega) u5 x5_1 ((l0.take (((rd_T111 l1 x11_1).f0) : Int).toNat).drop (x6_1 : Int).toNat) _ _ _ (fun _ => True) (fun _ => False) rfl rfl ?aO ?aR (fun _ _ h => h) (fun _ h => h.elim) ?aF ?aB ?aS ?aL ?_; (case aR => first | (rw [← show ((l0.take (((rd_T111 l1 x11_1).f0) : Int).toNat).drop (x6_1 : Int).toNat).length = (((rd_T111 l1 x11_1).f0).toNat - x6_1.toNat) from (by rw [List.length_drop, List.length_take]; have h_ : (((rd_T111 l1 x11_1).f0) : Int) ≤ (l0.length : Int) := oa; omega)]; exact Kd.C_below HR351.out (by repeat (first | (with_reducible first | exact HB.out | apply below_alloc | apply pw_below_drewN | apply below_drew1 | refine below_set ?_ GE350.out) | exact HB.out))) | (exact Kd.C_below HR351.out (by repeat (first | (with_reducible first | exact HB.out | apply below_alloc | apply pw_below_drewN | apply below_drew1 | refine below_set ?_ GE350.out) | exact HB.out)))); (case aB => exact (by repeat (first | (with_reducible first | exact HB.out | apply below_alloc | apply pw_below_drewN | apply below_drew1 | refine below_set ?_ GE350.out) | exact HB.out))); (case aF => exact (fun _ _ => trivial)); (case aO => exact (by (with_reducible repeat (first | apply Kd.R_alloc | apply Kd.R_drewN | apply Kd.R_drew)); exact Kd.R_mono (Kd.R_far (p := ⟨gb350, 2, none⟩) (Kd.R_far (p := ⟨gb350, 1, none⟩) (Kd.R_far (p := ⟨gb350, 0, none⟩) (Kd.R_types HO_5.out BK350.out (by decide)) (fun _ hk => hk.2) (.int .i64 ((rd_T111 l1 x11_1).f0))) (fun _ hk => hk.2) (.int .i64 ((rd_T111 l1 x11_1).f1))) (fun _ hk => hk.2) (.slice A349_2 ((rd_T111 l1 x11_1).f2).length c349_2)) (fun _ hk => trivial))); (case aS => exact (below_size (by repeat (first | (with_reducible first | exact HB.out | apply below_alloc | apply pw_below_drewN | apply below_drew1 | refine below_set ?_ GE350.out) | exact HB.out)))); (case aL => have := LMc9.out; have hlx_ := (show ((l0.take (((rd_T111 l1 x11_1).f0) : Int).toNat).drop (x6_1 : Int).toNat).length = (((rd_T111 l1 x11_1).f0).toNat - x6_1.toNat) from (by rw [List.length_drop, List.length_take]; have h_ : (((rd_T111 l1 x11_1).f0) : Int) ≤ (l0.length : Int) := oa; omega)); omega); intro v353 w14 ho hb hg hat; rw [← Ny352.out] at ho; have n0_ := Aside0.mk (blk_grown (g := gb350) (o := .cells #[.int .i64 ((rd_T111 l1 x11_1).f0), .int .i64 ((rd_T111 l1 x11_1).f1), .slice A349_2 ((rd_T111 l1 x11_1).f2).length c349_2] 111 (0, 0)) (by (with_reducible repeat (first | refine blk_drewN ?_ _ | refine blk_drew ?_ | refine blk_alloc ?_ _)); refine blk_put (cs := #[.int .i64 ((rd_T111 l1 x11_1).f0), .int .i64 ((rd_T111 l1 x11_1).f1), .slice none 0 0]) ?_ 2 _ rfl; (with_reducible repeat (first | refine blk_drewN ?_ _ | refine blk_drew ?_ | refine blk_alloc ?_ _)); refine blk_put (cs := #[.int .i64 ((rd_T111 l1 x11_1).f0), .int .i64 0, .slice none 0 0]) ?_ 1 _ rfl; (with_reducible repeat (first | refine blk_drewN ?_ _ | refine blk_drew ?_ | refine blk_alloc ?_ _)); refine blk_put (cs := #[.int .i64 0, .int .i64 0, .slice none 0 0]) ?_ 0 _ rfl; (with_reducible repeat (first | refine blk_drewN ?_ _ | refine blk_drew ?_ | refine blk_alloc ?_ _)); exact BK350.out) hg (Kd.R_ne HO_5.out BK350.out (by decide))); have n1_ := Aside0.mk (hb); have n2_ := Aside0.mk (ho); clear BK350; clear HB; clear HO_5; have BK350 := n0_; have HB := n1_; have HO354 := n2_; clear n0_ n1_ n2_; clear ho hb hg hat; have hcz15_0 : w14.cell? ⟨gb350, 0, none⟩ = some (.int .i64 ((rd_T111 l1 x11_1).f0)) := (blk_cell BK350.out 0).trans rfl; have hcz15_1 : w14.cell? ⟨gb350, 1, none⟩ = some (.int .i64 ((rd_T111 l1 x11_1).f1)) := (blk_cell BK350.out 1).trans rfl; have hcz15_2 : w14.cell? ⟨gb350, 2, none⟩ = some (.slice A349_2 ((rd_T111 l1 x11_1).f2).length c349_2) := (blk_cell BK350.out 2).trans rfl; have hfz15_0 := blk_frozen BK350.out 0; have hfz15_1 := blk_frozen BK350.out 1; have hfz15_2 := blk_frozen BK350.out 2) | ((with_reducible refine gateB (b := .append) (xs := #[.tmp 22, .tmp 24]) rfl ?_); at_builtin; refine Kd.R_append_rows Kd.string (w0 := w) w.heap.size rfl (.tmp 22) (.tmp 24) 22 9 (.string ⟨#[]⟩) 16 rfl Try.underlying22 info9 rfl (by decide) (by omega) v353 y352 ((rd_T111 l1 x11_1).f2) _ _ _ (fun _ => True) (fun _ => False) rfl rfl ?aO ?aR (fun _ _ h => h) (fun _ h => h.elim) ?aF ?aB ?aS ?aL ?_; (case aR => exact zq (Kd.C_below HR349_2.out HB.out)); (case aB => exact (by repeat (first | (with_reducible first | exact HB.out | apply below_alloc | apply pw_below_drewN | apply below_drew1 | refine below_set ?_ GE350.out) | exact HB.out))); (case aF => exact (fun _ _ => trivial)); (case aO => exact (zr HO354.out)); (case aS => exact (below_size (by repeat (first | (with_reducible first | exact HB.out | apply below_alloc | apply pw_below_drewN | apply below_drew1 | refine below_set ?_ GE350.out) | exact HB.out)))); (case aL => have := LMc10.out; omega); intro v356 w16 ho hb hg hat; rw [← Ny355.out] at ho; have n0_ := Aside0.mk (blk_grown (g := gb350) (o := .cells #[.int .i64 ((rd_T111 l1 x11_1).f0), .int .i64 ((rd_T111 l1 x11_1).f1), .slice A349_2 ((rd_T111 l1 x11_1).f2).length c349_2] 111 (0, 0)) (zk BK350.out) hg (Kd.R_ne HO354.out BK350.out (by decide))); have n1_ := Aside0.mk (hb); have n2_ := Aside0.mk (ho); clear BK350; clear HB; clear HO354; have BK350 := n0_; have HB := n1_; have HO357 := n2_; clear n0_ n1_ n2_; clear ho hb hg hat; have hcz17_0 : w16.cell? ⟨gb350, 0, none⟩ = some (.int .i64 ((rd_T111 l1 x11_1).f0)) := (blk_cell BK350.out 0).trans rfl; have hcz17_1 : w16.cell? ⟨gb350, 1, none⟩ = some (.int .i64 ((rd_T111 l1 x11_1).f1)) := (blk_cell BK350.out 1).trans rfl; have hcz17_2 : w16.cell? ⟨gb350, 2, none⟩ = some (.slice A349_2 ((rd_T111 l1 x11_1).f2).length c349_2) := (blk_cell BK350.out 2).trans rfl; have hfz17_0 := blk_frozen BK350.out 0; have hfz17_1 := blk_frozen BK350.out 1; have hfz17_2 := blk_frozen BK350.out 2))
           go_roundg k1
           case measure => have := HK1.out; omega
           case rel => exact ⟨(y355), (wrap64 (((rd_T111 l1 x11_1).f0) + ((rd_T111 l1 x11_1).f1))), (wrap64 (x11_1 + 1)), zf, zf, H', ⟨by have := HK1.out; omega⟩, ⟨by (with_reducible repeat (first | apply Kd.R_alloc | apply Kd.R_drewN | apply Kd.R_drew)); exact HO357.out⟩, ⟨by repeat (first | (with_reducible first | exact HB.out | apply below_alloc | apply pw_below_drewN | apply below_drew1 | refine below_set ?_ GE350.out) | exact HB.out)⟩⟩
          ·rw [if_neg c10] at H
           exact absurd H (by simp)
         ·rw [if_neg c9] at H
          exact absurd H (by simp)
        ·rw [if_neg c8] at H
         exact absurd H (by simp)
       ·rw [if_neg c7] at H
        exact absurd H (by simp)
      ·rw [if_neg c6] at H
       exact absurd H (by simp)
     ·rw [if_neg c5] at H
      exact absurd H (by simp)
    ·rw [if_neg c4] at H
     exact absurd H (by simp)
   ·rw [if_neg c3] at H
    have c3b0 : decide (x11_1 < (l1.length : Int)) = false := decide_eq_false c3
    clear c3
    by_cases c18 : 0 ≤ x6_1
    ·rw [if_pos c18] at H
     have c18b0 := eq_true c18
     have c18b1 : decide (0 ≤ x6_1) = true := decide_eq_true c18
     clear c18
     by_cases c19 : x6_1 ≤ (l0.length : Int)
     ·rw [if_pos c19] at H
      have c19b0 := eq_true c19
      have c19b1 : decide (x6_1 ≤ (l0.length : Int)) = true := decide_eq_true c19
      clear c19
      by_cases c20 : x5_1.length + (l0.drop (x6_1 : Int).toNat).length < 8796093022208
      ·rw [if_pos c20] at H
       have LMc20 := Aside0.mk c20
       clear c20
       obtain ⟨y359, hy359⟩ : ∃ y_ : List ByteArray, y_ = (x5_1 ++ (l0.drop (x6_1 : Int).toNat)) := ⟨_, rfl⟩
       replace H : (some y359) = some r := by first | (rw [hy359]; with_reducible exact H) | (have H2_ := (Option.bind_some _ _).symm.trans H; rw [hy359]; with_reducible exact H2_) | (have H2_ := (Option.bind_some _ _).symm.trans H; with_reducible exact H2_) | with_reducible exact H | (rw [hy359]; exact H) | exact H
       have Ny359 := Aside0.mk hy359
       clear hy359
       obtain rfl := Option.some.inj H
       obtain ⟨i021, hi021, _, hsz21, _⟩ := info_parts info9
       obtain ⟨A21, hcut21, hA21, hC21⟩ := print_drop_of (P := Try.prog) Value.string (⟨#[]⟩ : ByteArray) 22 9 .i64 Try.underlying22 hi021 hsz21 A0 c0 l0 x6_1 oa oa HC0.out
       have HR358 := Aside0.mk (Kd.C_of_reads (h1 := fun _ => rfl) (hA21 _ (Kd.reads_of_C HR0.out)))
       have HC358 := Aside0.mk hC21
       clear hA21 hC21 hi021 hsz21
       go_wp2_with (first | ((with_reducible refine gateB (b := .append) (xs := #[.tmp 32, .tmp 35]) rfl ?_); at_builtin; refine Kd.R_append_rows Kd.string (w0 := w) w.heap.size rfl (.tmp 32) (.tmp 35) 22 9 (.string ⟨#[]⟩) 16 rfl Try.underlying22 info9 rfl (by decide) (by omega) u5 x5_1 (l0.drop (x6_1 : Int).toNat) _ _ _ (fun _ => True) (fun _ => False) rfl rfl ?aO ?aR (fun _ _ h => h) (fun _ h => h.elim) ?aF ?aB ?aS ?aL ?_; (case aR => first | (rw [← show (l0.drop (x6_1 : Int).toNat).length = (l0.length - x6_1.toNat) from List.length_drop]; exact zq (Kd.C_below HR358.out HB.out)) | (exact zq (Kd.C_below HR358.out HB.out))); (case aB => exact zb); (case aF => exact (fun _ _ => trivial)); (case aO => exact (zr HO_5.out)); (case aS => exact (below_size zb)); (case aL => have := LMc20.out; have hlx_ := (show (l0.drop (x6_1 : Int).toNat).length = (l0.length - x6_1.toNat) from List.length_drop); omega); intro v360 w22 ho hb hg hat; rw [← Ny359.out] at ho; have n0_ := Aside0.mk (hb); have n1_ := Aside0.mk (ho); clear HB; clear HO_5; have HB := n0_; have HO361 := n1_; clear n0_ n1_; clear ho hb hg hat))
       go_ret
       exact ⟨_, by first | rfl | (simp [errW_none, errW_some] <;> rfl) | (simp [*, errW_none, errW_some] <;> rfl), by (with_reducible repeat (first | apply Kd.R_alloc | apply Kd.R_drewN | apply Kd.R_drew)); exact HO361.out, by repeat (first | (with_reducible first | exact HB.out | apply below_alloc | apply pw_below_drewN | apply below_drew1) | exact HB.out)⟩
      ·rw [if_neg c20] at H
       exact absurd H (by simp)
     ·rw [if_neg c19] at H
      exact absurd H (by simp)
    ·rw [if_neg c18] at H
     exact absurd H (by simp)

end Go.Proofs.Ytcefenlblnediaa.My

/- Written by this session's program (wip/gen): a plain function with the same answers as the Go function, and the proof that the Go code comes to them. Asked: that the plain function has an answer. -/
namespace Go.Proofs.Ytcefenlblnediaa.My
open Go.RowKit Go.Proofs.YtcefenlblnediaaW.PrintWords Go.Proofs.YtcefenlblnediaaW.PrintLast Go.Proofs.YtcefenlblnediaaW.PrintMore
attribute [local go_sem] max2_int min2_int max_two min_two max_three min_three max_four min_four
set_option linter.unusedVariables false
set_option linter.unusedSimpArgs false

/-! ### spec_Patch: function 39 -/
def spec_Patch.f (k : Nat) (l0 : List ByteArray) (l1 : List (S111)) : Option (List ByteArray × Bool) := (spec_l2Asked.f k l0 l1).bind fun t362 => (if t362 = true then ((spec_l2Patch.f k l0 l1).bind fun t363 => ((spec_l1Good.f k t363).bind fun t366 => (if t366 = true then (some (t363, true)) else (some (([] : List ByteArray), false))))) else (some (([] : List ByteArray), false)))
set_option maxHeartbeats 8000000 in
set_option maxRecDepth 100000 in
theorem spec_Patch.calls (k : Nat) (A0 : Option Addr) (c0 : Nat) (l0 : List ByteArray) (A1 : Option Addr) (c1 : Nat) (l1 : List (S111)) (r1 : List ByteArray) (r2 : Bool) (w : World) (hr0 : Kd.C Kd.string w A0 l0.length l0) (hc0 : l0.length ≤ c0) (hr1 : Kd.C k111 w A1 l1.length l1) (hc1 : l1.length ≤ c1) (h : spec_Patch.f k l0 l1 = some (r1, r2)) :
  Calls Try.prog 39 #[.slice A0 l0.length c0, .slice A1 l1.length c1] w fun e w' => ∃ v0_ : Value, e = .returned (.tuple #[v0_, .bool r2]) ∧ Kd.R Kd.string 9 w' w.heap.size (fun _ => True) v0_ r1 ∧ Below w.heap.size w w' := by
 have HR0 := Aside0.mk hr0
 have HC0 := Aside0.mk hc0
 clear hr0 hc0
 have HR1 := Aside0.mk hr1
 have HC1 := Aside0.mk hc1
 clear hr1 hc1
 have HB := Aside0.mk (Below.refl w.heap.size w)
 have H : ((spec_l2Asked.f k l0 l1).bind fun t362 => (if t362 = true then ((spec_l2Patch.f k l0 l1).bind fun t363 => ((spec_l1Good.f k t363).bind fun t366 => (if t366 = true then (some (t363, true)) else (some (([] : List ByteArray), false))))) else (some (([] : List ByteArray), false)))) = some (r1, r2) := h
 clear h
 replace H := Option.bind_eq_some_iff.mp H
 obtain ⟨t362, A30, H⟩ := H
 replace H : (if t362 = true then ((spec_l2Patch.f k l0 l1).bind fun t363 => ((spec_l1Good.f k t363).bind fun t366 => (if t366 = true then (some (t363, true)) else (some (([] : List ByteArray), false))))) else (some (([] : List ByteArray), false))) = some (r1, r2) := H
 have A3 := Aside0.mk A30
 clear A30
 by_cases c4 : t362 = true
 ·subst c4
  have H1 : ((spec_l2Patch.f k l0 l1).bind fun t363 => ((spec_l1Good.f k t363).bind fun t366 => (if t366 = true then (some (t363, true)) else (some (([] : List ByteArray), false))))) = some (r1, r2) := by rw [if_pos rfl] at H; exact H
  clear H
  have H := H1
  clear H1
  replace H := Option.bind_eq_some_iff.mp H
  obtain ⟨t363, A50, H⟩ := H
  replace H : ((spec_l1Good.f k t363).bind fun t366 => (if t366 = true then (some (t363, true)) else (some (([] : List ByteArray), false)))) = some (r1, r2) := H
  have A5 := Aside0.mk A50
  clear A50
  replace H := Option.bind_eq_some_iff.mp H
  obtain ⟨t366, A60, H⟩ := H
  replace H : (if t366 = true then (some (t363, true)) else (some (([] : List ByteArray), false))) = some (r1, r2) := H
  have A6 := Aside0.mk A60
  clear A60
  by_cases c7 : t366 = true
  ·subst c7
   have H1 : (some (t363, true)) = some (r1, r2) := by rw [if_pos rfl] at H; exact H
   clear H
   have H := H1
   clear H1
   simp only [Option.some.injEq, Prod.mk.injEq] at H
   obtain ⟨rfl, rfl⟩ := H
   go_enter Try.func39, Try.ntmps39
   go_wp2_with (first | ((with_reducible refine gateC (f := 103) rfl ?_); refine goesL_ (some 9) rfl rfl Try.func103 (by kernel_rfl) rfl #[.slice A0 l0.length c0, .slice A1 l1.length c1] rfl zm ?_; (with_reducible refine (spec_l2Asked.calls k _ _ l0 _ _ l1 true _ ?side1 ?side2 ?side3 ?side4 A3.out).mono ?_); (case side1 => exact zq HR0.out); (case side2 => exact HC0.out); (case side3 => exact zq HR1.out); (case side4 => exact HC1.out); rintro e w8 ⟨rfl, hb⟩; refine ⟨_, rfl, ?_⟩; have n0_ := Aside0.mk (below_step zb hb); clear HB; have HB := n0_; clear n0_; (try clear hb); (try clear hb2); (try clear hk); (try clear hi)) | ((with_reducible refine gateC (f := 104) rfl ?_); refine goesL_ (some 13) rfl rfl Try.func104 (by kernel_rfl) rfl #[.slice A0 l0.length c0, .slice A1 l1.length c1] rfl zm ?_; (with_reducible refine (spec_l2Patch.calls k _ _ l0 _ _ l1 t363 _ ?side1 ?side2 ?side3 ?side4 A5.out).mono ?_); (case side1 => exact zq (Kd.C_below HR0.out HB.out)); (case side2 => exact HC0.out); (case side3 => exact zq (Kd.C_below HR1.out HB.out)); (case side4 => exact HC1.out); rintro e w9 ⟨v364, rfl, ho0, hb⟩; refine ⟨_, rfl, ?_⟩; have n0_ := Aside0.mk (Kd.R_lower ho0 (below_size zb)); have n1_ := Aside0.mk (below_step zb hb); clear HB; have HO365 := n0_; have HB := n1_; clear n0_ n1_; (try clear hb); (try clear hb2); (try clear hk); (try clear hi); (try clear ho0); obtain ⟨Ao10, co10, eo10⟩ := Kd.R_slice HO365.out; subst eo10) | ((with_reducible refine gateC (f := 78) rfl ?_); refine goesL_ (some 15) rfl rfl Try.func78 (by kernel_rfl) rfl #[.slice Ao10 t363.length co10] rfl zm ?_; (with_reducible refine (spec_l1Good.calls k _ _ t363 true _ ?side1 ?side2 A6.out).mono ?_); (case side1 => repeat (first | exact (Kd.R_reads' HO365.out).2.2 | (with_reducible refine Kd.C_alloc ?_ _) | (with_reducible refine Kd.C_drewN ?_ _) | (with_reducible refine Kd.C_drew ?_))); (case side2 => exact (Kd.R_reads' HO365.out).2.1); rintro e w' ⟨rfl, ⟨nd, rfl⟩⟩; refine ⟨_, rfl, ?_⟩))
   go_ret2
   exact ⟨_, by first | rfl | (simp [errW_none, errW_some] <;> rfl) | (simp [*, errW_none, errW_some] <;> rfl), by (with_reducible repeat (first | apply Kd.R_alloc | apply Kd.R_drewN | apply Kd.R_drew)); exact HO365.out, by repeat (first | (with_reducible first | exact HB.out | apply below_alloc | apply pw_below_drewN | apply below_drew1) | exact HB.out)⟩
  ·replace c7 := Bool.eq_false_iff.mpr c7
   subst c7
   have H1 : (some (([] : List ByteArray), false)) = some (r1, r2) := by rw [if_neg (show ¬ (false = true) by decide)] at H; exact H
   clear H
   have H := H1
   clear H1
   simp only [Option.some.injEq, Prod.mk.injEq] at H
   obtain ⟨rfl, rfl⟩ := H
   go_enter Try.func39, Try.ntmps39
   go_wp2_with (first | ((with_reducible refine gateC (f := 103) rfl ?_); refine goesL_ (some 9) rfl rfl Try.func103 (by kernel_rfl) rfl #[.slice A0 l0.length c0, .slice A1 l1.length c1] rfl zm ?_; (with_reducible refine (spec_l2Asked.calls k _ _ l0 _ _ l1 true _ ?side1 ?side2 ?side3 ?side4 A3.out).mono ?_); (case side1 => exact zq HR0.out); (case side2 => exact HC0.out); (case side3 => exact zq HR1.out); (case side4 => exact HC1.out); rintro e w11 ⟨rfl, hb⟩; refine ⟨_, rfl, ?_⟩; have n0_ := Aside0.mk (below_step zb hb); clear HB; have HB := n0_; clear n0_; (try clear hb); (try clear hb2); (try clear hk); (try clear hi)) | ((with_reducible refine gateC (f := 104) rfl ?_); refine goesL_ (some 13) rfl rfl Try.func104 (by kernel_rfl) rfl #[.slice A0 l0.length c0, .slice A1 l1.length c1] rfl zm ?_; (with_reducible refine (spec_l2Patch.calls k _ _ l0 _ _ l1 t363 _ ?side1 ?side2 ?side3 ?side4 A5.out).mono ?_); (case side1 => exact zq (Kd.C_below HR0.out HB.out)); (case side2 => exact HC0.out); (case side3 => exact zq (Kd.C_below HR1.out HB.out)); (case side4 => exact HC1.out); rintro e w12 ⟨v364, rfl, ho0, hb⟩; refine ⟨_, rfl, ?_⟩; have n0_ := Aside0.mk (Kd.R_lower ho0 (below_size zb)); have n1_ := Aside0.mk (below_step zb hb); clear HB; have HO365 := n0_; have HB := n1_; clear n0_ n1_; (try clear hb); (try clear hb2); (try clear hk); (try clear hi); (try clear ho0); obtain ⟨Ao13, co13, eo13⟩ := Kd.R_slice HO365.out; subst eo13) | ((with_reducible refine gateC (f := 78) rfl ?_); refine goesL_ (some 15) rfl rfl Try.func78 (by kernel_rfl) rfl #[.slice Ao13 t363.length co13] rfl zm ?_; (with_reducible refine (spec_l1Good.calls k _ _ t363 false _ ?side1 ?side2 A6.out).mono ?_); (case side1 => repeat (first | exact (Kd.R_reads' HO365.out).2.2 | (with_reducible refine Kd.C_alloc ?_ _) | (with_reducible refine Kd.C_drewN ?_ _) | (with_reducible refine Kd.C_drew ?_))); (case side2 => exact (Kd.R_reads' HO365.out).2.1); rintro e w' ⟨rfl, ⟨nd, rfl⟩⟩; refine ⟨_, rfl, ?_⟩))
   go_ret2
   exact ⟨_, by first | rfl | (simp [errW_none, errW_some] <;> rfl) | (simp [*, errW_none, errW_some] <;> rfl), by first | exact Kd.R_nil _ _ _ _ _ | exact Kd.Q_nil _ _ _ _ _ | exact Kd.S_nil _ _ _ _ _, by repeat (first | (with_reducible first | exact HB.out | apply below_alloc | apply pw_below_drewN | apply below_drew1) | exact HB.out)⟩
 ·replace c4 := Bool.eq_false_iff.mpr c4
  subst c4
  have H1 : (some (([] : List ByteArray), false)) = some (r1, r2) := by rw [if_neg (show ¬ (false = true) by decide)] at H; exact H
  clear H
  have H := H1
  clear H1
  simp only [Option.some.injEq, Prod.mk.injEq] at H
  obtain ⟨rfl, rfl⟩ := H
  go_enter Try.func39, Try.ntmps39
  go_wp2_with (first | ((with_reducible refine gateC (f := 103) rfl ?_); refine goesL_ (some 9) rfl rfl Try.func103 (by kernel_rfl) rfl #[.slice A0 l0.length c0, .slice A1 l1.length c1] rfl zm ?_; (with_reducible refine (spec_l2Asked.calls k _ _ l0 _ _ l1 false _ ?side1 ?side2 ?side3 ?side4 A3.out).mono ?_); (case side1 => exact zq HR0.out); (case side2 => exact HC0.out); (case side3 => exact zq HR1.out); (case side4 => exact HC1.out); rintro e w14 ⟨rfl, hb⟩; refine ⟨_, rfl, ?_⟩; have n0_ := Aside0.mk (below_step zb hb); clear HB; have HB := n0_; clear n0_; (try clear hb); (try clear hb2); (try clear hk); (try clear hi)))
  go_ret2
  exact ⟨_, by first | rfl | (simp [errW_none, errW_some] <;> rfl) | (simp [*, errW_none, errW_some] <;> rfl), by first | exact Kd.R_nil _ _ _ _ _ | exact Kd.Q_nil _ _ _ _ _ | exact Kd.S_nil _ _ _ _ _, by repeat (first | (with_reducible first | exact HB.out | apply below_alloc | apply pw_below_drewN | apply below_drew1) | exact HB.out)⟩

end Go.Proofs.Ytcefenlblnediaa.My

/- Written by this session's program (wip/gen): a plain function with the same answers as the Go function, and the proof that the Go code comes to them. Asked: that the plain function has an answer. -/
namespace Go.Proofs.Ytcefenlblnediaa.My
open Go.RowKit Go.Proofs.YtcefenlblnediaaW.PrintWords Go.Proofs.YtcefenlblnediaaW.PrintLast Go.Proofs.YtcefenlblnediaaW.PrintMore
attribute [local go_sem] max2_int min2_int max_two min_two max_three min_three max_four min_four
set_option linter.unusedVariables false
set_option linter.unusedSimpArgs false

/-! ### spec_l1OwnT: function 155 -/
def spec_l1OwnT.f (l0 : List ByteArray) : Option (List ByteArray) := (some (([] : List ByteArray) : List ByteArray)).bind fun y369 => (if y369.length + l0.length < 8796093022208 then (some (y369 ++ l0)) else (none))
set_option maxHeartbeats 8000000 in
set_option maxRecDepth 100000 in
theorem spec_l1OwnT.calls (A0 : Option Addr) (c0 : Nat) (l0 : List ByteArray) (r : List ByteArray) (w : World) (hr0 : Kd.C Kd.string w A0 l0.length l0) (hc0 : l0.length ≤ c0) (h : spec_l1OwnT.f l0 = some r) :
  Calls Try.prog 155 #[.slice A0 l0.length c0] w fun e w' => ∃ v0_ : Value, e = .returned (v0_) ∧ Kd.R Kd.string 9 w' w.heap.size (fun _ => True) v0_ r ∧ Below w.heap.size w w' := by
 have HR0 := Aside0.mk hr0
 have HC0 := Aside0.mk hc0
 clear hr0 hc0
 have HB := Aside0.mk (Below.refl w.heap.size w)
 have H : ((some (([] : List ByteArray) : List ByteArray)).bind fun y369 => (if y369.length + l0.length < 8796093022208 then (some (y369 ++ l0)) else (none))) = some r := h
 clear h
 obtain ⟨y369, hy369⟩ : ∃ y_ : List ByteArray, y_ = (([] : List ByteArray)) := ⟨_, rfl⟩
 replace H : (if y369.length + l0.length < 8796093022208 then (some (y369 ++ l0)) else (none)) = some r := by first | (rw [hy369]; with_reducible exact H) | (have H2_ := (Option.bind_some _ _).symm.trans H; rw [hy369]; with_reducible exact H2_) | (have H2_ := (Option.bind_some _ _).symm.trans H; with_reducible exact H2_) | with_reducible exact H | (rw [hy369]; exact H) | exact H
 have Ny369 := Aside0.mk hy369
 clear hy369
 by_cases c2 : y369.length + l0.length < 8796093022208
 ·rw [if_pos c2] at H
  have LMc2 := Aside0.mk c2
  clear c2
  obtain ⟨y372, hy372⟩ : ∃ y_ : List ByteArray, y_ = (y369 ++ l0) := ⟨_, rfl⟩
  replace H : (some y372) = some r := by first | (rw [hy372]; with_reducible exact H) | (have H2_ := (Option.bind_some _ _).symm.trans H; rw [hy372]; with_reducible exact H2_) | (have H2_ := (Option.bind_some _ _).symm.trans H; with_reducible exact H2_) | with_reducible exact H | (rw [hy372]; exact H) | exact H
  have Ny372 := Aside0.mk hy372
  clear hy372
  obtain rfl := Option.some.inj H
  go_enter Try.func155, Try.ntmps155
  go_wp2_with (first | ((with_reducible refine gate_dst (N := 3) rfl ?_); refine Kd.R_lit Kd.string _ 9 ?hg (N := 3) ?hd (xs := ([] : List ByteArray)) (inner := []) (ok := fun _ => True) (okp := fun _ => True) ?hr ?hp (fun _ hk => hk) trivial (Below.refl _ _) (Nat.le_refl _) (by simp) ?_; (case hd => rfl); (case hg => rfl); (case hr => first | (go_simp; done) | (go_simp; rfl)); (case hp => exact (Reps.none _ _)); intro v370 w3 ho4 hb hg_ hnew_; clear hg_ hnew_; (first | rw [← Ny369.out] at ho4 | (simp only [Int.reduceToNat] at ho4; rw [← Ny369.out] at ho4)); have n0_ := Aside0.mk (Kd.R_lower ho4 (below_size zb)); have n1_ := Aside0.mk (below_step zb hb); clear HB; have HO371 := n0_; have HB := n1_; clear n0_ n1_; clear hb ho4) | ((with_reducible refine gateB (b := .append) (xs := #[.tmp 3, .tmp 4]) rfl ?_); at_builtin; refine Kd.R_append_rows Kd.string (w0 := w) w.heap.size rfl (.tmp 3) (.tmp 4) 22 9 (.string ⟨#[]⟩) 16 rfl Try.underlying22 info9 rfl (by decide) (by omega) v370 y369 l0 _ _ _ (fun _ => True) (fun _ => False) rfl rfl ?aO ?aR (fun _ _ h => h) (fun _ h => h.elim) ?aF ?aB ?aS ?aL ?_; (case aR => exact zq (Kd.C_below HR0.out HB.out)); (case aB => exact zb); (case aF => exact (fun _ _ => trivial)); (case aO => exact (zr HO371.out)); (case aS => exact (below_size zb)); (case aL => have := LMc2.out; omega); intro v373 w5 ho hb hg hat; rw [← Ny372.out] at ho; have n0_ := Aside0.mk (hb); have n1_ := Aside0.mk (ho); clear HB; clear HO371; have HB := n0_; have HO374 := n1_; clear n0_ n1_; clear ho hb hg hat))
  go_ret
  exact ⟨_, by first | rfl | (simp [errW_none, errW_some] <;> rfl) | (simp [*, errW_none, errW_some] <;> rfl), by (with_reducible repeat (first | apply Kd.R_alloc | apply Kd.R_drewN | apply Kd.R_drew)); exact HO374.out, by repeat (first | (with_reducible first | exact HB.out | apply below_alloc | apply pw_below_drewN | apply below_drew1) | exact HB.out)⟩
 ·rw [if_neg c2] at H
  exact absurd H (by simp)

end Go.Proofs.Ytcefenlblnediaa.My

/- Written by this session's program (wip/gen): a plain function with the same answers as the Go function, and the proof that the Go code comes to them. Asked: that the plain function has an answer. -/
namespace Go.Proofs.Ytcefenlblnediaa.My
open Go.RowKit Go.Proofs.YtcefenlblnediaaW.PrintWords Go.Proofs.YtcefenlblnediaaW.PrintLast Go.Proofs.YtcefenlblnediaaW.PrintMore
attribute [local go_sem] max2_int min2_int max_two min_two max_three min_three max_four min_four
set_option linter.unusedVariables false
set_option linter.unusedSimpArgs false

/-! ### spec_l2Back: function 115 -/
def spec_l2Back.l0 : Nat → List ByteArray → List (S111) → Int → List (S111) → Int → Int → Option ((List (S111)))
 | 0, _, _, _, _, _, _ => none
 | k + 1, x0, x5, x6, x9, x10, x11 => if x11 < x10 then (if 0 ≤ x11 then (if x11 < (x9.length : Int) then (if 0 ≤ ((rd_T111 x9 x11).f0) then (if ((rd_T111 x9 x11).f0) ≤ (wrap64 (((rd_T111 x9 x11).f0) + ((rd_T111 x9 x11).f1))) then (if (wrap64 (((rd_T111 x9 x11).f0) + ((rd_T111 x9 x11).f1))) ≤ (x0.length : Int) then ((spec_l1OwnT.f ((x0.take ((wrap64 (((rd_T111 x9 x11).f0) + ((rd_T111 x9 x11).f1))) : Int).toNat).drop (((rd_T111 x9 x11).f0) : Int).toNat)).bind fun t946 => (if x5.length < 3518437208883 then (spec_l2Back.l0 k x0 (x5 ++ [(⟨wrap64 (((rd_T111 x9 x11).f0) + x6), (((rd_T111 x9 x11).f2).length : Int), t946⟩ : S111)]) (wrap64 (x6 + (wrap64 ((((rd_T111 x9 x11).f2).length : Int) - ((rd_T111 x9 x11).f1))))) x9 x10 (wrap64 (x11 + 1))) else (none))) else (none)) else (none)) else (none)) else (none)) else (none)) else (some x5)
def spec_l2Back.f (k : Nat) (l0 : List ByteArray) (l1 : List (S111)) : Option ((List (S111))) := spec_l2Back.l0 k l0 ([] : List (S111)) 0 l1 (l1.length : Int) 0
def spec_l2Back.T6 : Bool × List (List Nat × List Nat) := (true, [([], []), ([], []), ([1], [1]), ([], []), ([2, 3], [2, 3]), ([], []), ([5], [5]), ([6], [6]), ([], []), ([], []), ([9], [9]), ([], []), ([11], [11]), ([], []), ([13], [13]), ([12, 14], [12, 14]), ([8, 10, 15], [8, 10, 15]), ([16], [16]), ([4, 7, 17], [4, 7, 17]), ([18], [18]), ([0, 19, 17], [0, 19]), ([20, 20, 0, 1, 2, 3, 4, 5, 6, 7, 8, 9, 10, 11, 12, 13, 14, 15, 16, 17, 18, 19, 20], [0, 20])])
def spec_l2Back.B6 : List Nat := [0, 0, 2, 0, 14, 0, 32, 96, 0, 0, 512, 0, 2048, 0, 8192, 30720, 65280, 130816, 262142, 524286, 1048575, 2097151]
theorem spec_l2Back.tab6 : rtab .any (opsOf Try.f115 6) = spec_l2Back.T6 := by kernel_rfl
theorem spec_l2Back.bits6 : waitsOk spec_l2Back.T6.2 spec_l2Back.B6 = true := by kernel_rfl
set_option maxHeartbeats 8000000 in
set_option maxRecDepth 100000 in
theorem spec_l2Back.calls (k : Nat) (A0 : Option Addr) (c0 : Nat) (l0 : List ByteArray) (A1 : Option Addr) (c1 : Nat) (l1 : List (S111)) (r : List (S111)) (w : World) (hr0 : Kd.C Kd.string w A0 l0.length l0) (hc0 : l0.length ≤ c0) (hr1 : Kd.C k111 w A1 l1.length l1) (hc1 : l1.length ≤ c1) (h : spec_l2Back.f k l0 l1 = some r) :
  Calls Try.prog 115 #[.slice A0 l0.length c0, .slice A1 l1.length c1] w fun e w' => ∃ v0_ : Value, e = .returned (v0_) ∧ Kd.S k111 111 w' w.heap.size (fun _ => True) v0_ r ∧ Below w.heap.size w w' := by
 have hu111 := Try.underlying111
 have HR0 := Aside0.mk hr0
 have HC0 := Aside0.mk hc0
 clear hr0 hc0
 have HR1 := Aside0.mk hr1
 have HC1 := Aside0.mk hc1
 clear hr1 hc1
 have HB := Aside0.mk (Below.refl w.heap.size w)
 have H : (spec_l2Back.l0 k l0 ([] : List (S111)) 0 l1 (l1.length : Int) 0) = some r := h
 clear h
 have H' := Aside0.mk H
 clear H
 go_enter Try.func115, Try.ntmps115
 go_wp2
 go_loopg [5, 6, 11] k (fun kq v5 v6 v11 w' => ∃ (x5_1 : List (S111)) (x6_1 : Int) (x11_1 : Int), v6 = .int .i64 x6_1 ∧ v11 = .int .i64 x11_1 ∧ Aside0 (spec_l2Back.l0 kq l0 x5_1 x6_1 l1 (l1.length : Int) x11_1 = some r) ∧ Aside0 (kq ≤ k) ∧ Aside0 (Kd.S k111 111 w' w.heap.size (fun _ => True) v5 x5_1) ∧ Aside0 (Below w.heap.size w w'))
 case atStart => exact ⟨(([] : List (S111))), (0), (0), zf, zf, H', ⟨Nat.le_refl _⟩, ⟨by first | exact Kd.S_nil _ _ _ _ _ | exact Kd.Q_nil _ _ _ _ _ | exact Kd.R_nil _ _ _ _ _⟩, ⟨by repeat (first | (with_reducible first | exact HB.out | apply below_alloc | apply pw_below_drewN | apply below_drew1) | exact HB.out)⟩⟩
 case round =>
  clear H'
  try clear c1
  try clear p2
  obtain ⟨x5_1, x6_1, x11_1, rfl, rfl, HA, HK1, HO_5, HB⟩ := hrel
  cases gk with
  | zero => exact absurd HA.out (by simp [spec_l2Back.l0])
  | succ k1 =>
   have H := HA.out
   clear HA
   simp only [spec_l2Back.l0] at H
   by_cases c3 : x11_1 < (l1.length : Int)
   ·rw [if_pos c3] at H
    have c3b0 : decide (x11_1 < (l1.length : Int)) = true := decide_eq_true c3
    clear c3
    by_cases c4 : 0 ≤ x11_1
    ·rw [if_pos c4] at H
     have c4b0 : decide (0 ≤ x11_1) = true := decide_eq_true c4
     clear c4
     by_cases c5 : x11_1 < (l1.length : Int)
     ·rw [if_pos c5] at H
      have c5b0 : decide (x11_1 < (l1.length : Int)) = true := decide_eq_true c5
      clear c5
      by_cases c6 : 0 ≤ ((rd_T111 l1 x11_1).f0)
      ·rw [if_pos c6] at H
       have c6b0 := eq_true c6
       have c6b1 : decide (0 ≤ ((rd_T111 l1 x11_1).f0)) = true := decide_eq_true c6
       clear c6
       by_cases c7 : ((rd_T111 l1 x11_1).f0) ≤ (wrap64 (((rd_T111 l1 x11_1).f0) + ((rd_T111 l1 x11_1).f1)))
       ·rw [if_pos c7] at H
        have c7b0 := eq_true c7
        have c7b1 : decide (((rd_T111 l1 x11_1).f0) ≤ (wrap64 (((rd_T111 l1 x11_1).f0) + ((rd_T111 l1 x11_1).f1)))) = true := decide_eq_true c7
        by_cases c8 : (wrap64 (((rd_T111 l1 x11_1).f0) + ((rd_T111 l1 x11_1).f1))) ≤ (l0.length : Int)
        ·rw [if_pos c8] at H
         have c8b0 := eq_true c8
         have c8b1 : decide ((wrap64 (((rd_T111 l1 x11_1).f0) + ((rd_T111 l1 x11_1).f1))) ≤ (l0.length : Int)) = true := decide_eq_true c8
         replace H := Option.bind_eq_some_iff.mp H
         obtain ⟨t946, A90, H⟩ := H
         replace H : (if x5_1.length < 3518437208883 then (spec_l2Back.l0 k1 l0 (x5_1 ++ [(⟨wrap64 (((rd_T111 l1 x11_1).f0) + x6_1), (((rd_T111 l1 x11_1).f2).length : Int), t946⟩ : S111)]) (wrap64 (x6_1 + (wrap64 ((((rd_T111 l1 x11_1).f2).length : Int) - ((rd_T111 l1 x11_1).f1))))) l1 (l1.length : Int) (wrap64 (x11_1 + 1))) else (none)) = some r := H
         have A9 := Aside0.mk A90
         clear A90
         by_cases c10 : x5_1.length < 3518437208883
         ·rw [if_pos c10] at H
          have LMc10 := Aside0.mk c10
          clear c10
          obtain ⟨y949, hy949⟩ : ∃ y_ : List (S111), y_ = (x5_1 ++ [(⟨wrap64 (((rd_T111 l1 x11_1).f0) + x6_1), (((rd_T111 l1 x11_1).f2).length : Int), t946⟩ : S111)]) := ⟨_, rfl⟩
          replace H : (spec_l2Back.l0 k1 l0 y949 (wrap64 (x6_1 + (wrap64 ((((rd_T111 l1 x11_1).f2).length : Int) - ((rd_T111 l1 x11_1).f1))))) l1 (l1.length : Int) (wrap64 (x11_1 + 1))) = some r := by first | (rw [hy949]; with_reducible exact H) | (have H2_ := (Option.bind_some _ _).symm.trans H; rw [hy949]; with_reducible exact H2_) | (have H2_ := (Option.bind_some _ _).symm.trans H; with_reducible exact H2_) | with_reducible exact H | (rw [hy949]; exact H) | exact H
          have Ny949 := Aside0.mk hy949
          clear hy949
          have H' := Aside0.mk H
          clear H
          have p943 : 0 ≤ (x11_1 : Int) := oa
          have q943 : x11_1 < (l1.length : Int) := oa
          obtain ⟨ad943, A943_2, c943_2, e943, hx943_0, hx943_1, hx943_2, hl943_2, hi943_2⟩ := at_T111 HR1.out x11_1 p943 q943
          cases e943
          replace hx943_0 := (HB.out.cell (World.block_lt_of_cell? w _ hx943_0)).trans hx943_0
          replace hx943_1 := (HB.out.cell (World.block_lt_of_cell? w _ hx943_1)).trans hx943_1
          replace hx943_2 := (HB.out.cell (World.block_lt_of_cell? w _ hx943_2)).trans hx943_2
          have HR943_2 := Aside0.mk hi943_2
          have HC943_2 := Aside0.mk hl943_2
          clear hi943_2 hl943_2
          replace p943 := eq_true p943
          replace q943 := eq_true q943
          try go_wp2_with (first | ((with_reducible refine gate_dst (N := 8) rfl ?_); refine box_event ?hg (N := 8) ?hd (cs := #[.int .i64 0, .int .i64 0, .slice none 0 0]) (t := 111) ?hr ?_; (case hd => rfl); (case hg => rfl); (case hr => first | (go_simp; done) | (go_simp; rfl)); intro gb944 hg w11 hbox hb; have n0_ := Aside0.mk (Kd.S_below (Kd.S_elderB (zs HO_5.out) gb944 (Nat.le_of_eq hg.symm)) hb); have n1_ := Aside0.mk (below_step zb hb); have n2_ := Aside0.mk (hbox); have n3_ := Aside0.mk ((by rw [hg]; exact (below_size zb) : w.heap.size ≤ gb944)); have n4_ := Aside0.mk ((by rw [hg]; exact (below_size zb) : w.heap.size ≤ gb944)); clear HO_5; clear HB; have HO_5 := n0_; have HB := n1_; have BK944 := n2_; have GW944 := n3_; have GE944 := n4_; clear n0_ n1_ n2_ n3_ n4_; clear hb hbox hg; have hcz12_0 : w11.cell? ⟨gb944, 0, none⟩ = some (.int .i64 0) := (blk_cell BK944.out 0).trans rfl; have hcz12_1 : w11.cell? ⟨gb944, 1, none⟩ = some (.int .i64 0) := (blk_cell BK944.out 1).trans rfl; have hcz12_2 : w11.cell? ⟨gb944, 2, none⟩ = some (.slice none 0 0) := (blk_cell BK944.out 2).trans rfl; have hfz12_0 := blk_frozen BK944.out 0; have hfz12_1 := blk_frozen BK944.out 1; have hfz12_2 := blk_frozen BK944.out 2))
          have n0_ : Aside0 (Kd.S k111 111 (((w11.setCell ⟨gb944, 0, none⟩ (.int .i64 ((rd_T111 l1 x11_1).f0))).setCell ⟨gb944, 1, none⟩ (.int .i64 ((rd_T111 l1 x11_1).f1))).setCell ⟨gb944, 2, none⟩ (.slice A943_2 ((rd_T111 l1 x11_1).f2).length c943_2)) w.heap.size (fun k_ => k_ ≠ gb944) u5 x5_1) := ⟨by (with_reducible repeat (first | apply Kd.S_alloc | apply Kd.S_drewN | apply Kd.S_drew)); exact Kd.S_mono (Kd.S_far (p := ⟨gb944, 2, none⟩) (Kd.S_far (p := ⟨gb944, 1, none⟩) (Kd.S_far (p := ⟨gb944, 0, none⟩) (Kd.S_mono HO_5.out (fun k_ hk => (⟨hk, hk.2⟩ : _ ∧ k_ ≠ gb944))) (fun _ hk => hk.2) (.int .i64 ((rd_T111 l1 x11_1).f0))) (fun _ hk => hk.2) (.int .i64 ((rd_T111 l1 x11_1).f1))) (fun _ hk => hk.2) (.slice A943_2 ((rd_T111 l1 x11_1).f2).length c943_2)) (fun _ hk => hk.1.2)⟩
          have n1_ : Aside0 ((((w11.setCell ⟨gb944, 0, none⟩ (.int .i64 ((rd_T111 l1 x11_1).f0))).setCell ⟨gb944, 1, none⟩ (.int .i64 ((rd_T111 l1 x11_1).f1))).setCell ⟨gb944, 2, none⟩ (.slice A943_2 ((rd_T111 l1 x11_1).f2).length c943_2)).heap[gb944]? = some (.cells #[.int .i64 ((rd_T111 l1 x11_1).f0), .int .i64 ((rd_T111 l1 x11_1).f1), .slice A943_2 ((rd_T111 l1 x11_1).f2).length c943_2] 111 (0, 0))) := ⟨by (with_reducible repeat (first | refine blk_drewN ?_ _ | refine blk_drew ?_ | refine blk_alloc ?_ _)); refine blk_put (cs := #[.int .i64 ((rd_T111 l1 x11_1).f0), .int .i64 ((rd_T111 l1 x11_1).f1), .slice none 0 0]) ?_ 2 _ rfl; (with_reducible repeat (first | refine blk_drewN ?_ _ | refine blk_drew ?_ | refine blk_alloc ?_ _)); refine blk_put (cs := #[.int .i64 ((rd_T111 l1 x11_1).f0), .int .i64 0, .slice none 0 0]) ?_ 1 _ rfl; (with_reducible repeat (first | refine blk_drewN ?_ _ | refine blk_drew ?_ | refine blk_alloc ?_ _)); refine blk_put (cs := #[.int .i64 0, .int .i64 0, .slice none 0 0]) ?_ 0 _ rfl; (with_reducible repeat (first | refine blk_drewN ?_ _ | refine blk_drew ?_ | refine blk_alloc ?_ _)); exact BK944.out⟩
          have n2_ : Aside0 (Below w.heap.size w (((w11.setCell ⟨gb944, 0, none⟩ (.int .i64 ((rd_T111 l1 x11_1).f0))).setCell ⟨gb944, 1, none⟩ (.int .i64 ((rd_T111 l1 x11_1).f1))).setCell ⟨gb944, 2, none⟩ (.slice A943_2 ((rd_T111 l1 x11_1).f2).length c943_2))) := ⟨by repeat (first | (with_reducible first | exact HB.out | apply below_alloc | apply pw_below_drewN | apply below_drew1 | refine below_set ?_ GE944.out) | exact HB.out)⟩
          (try clear HO_5)
          (try clear BK944)
          (try clear HB)
          (try simp only [show ∀ (w_ : World) (n_ : Nat) (p_ : Addr) (v_ : Value), (w_.drewN n_).setCell p_ v_ = (w_.setCell p_ v_).drewN n_ from fun _ _ _ _ => rfl])
          generalize (((w11.setCell ⟨gb944, 0, none⟩ (.int .i64 ((rd_T111 l1 x11_1).f0))).setCell ⟨gb944, 1, none⟩ (.int .i64 ((rd_T111 l1 x11_1).f1))).setCell ⟨gb944, 2, none⟩ (.slice A943_2 ((rd_T111 l1 x11_1).f2).length c943_2)) = w13 at n0_ n1_ n2_ ⊢
          have HO_5 := n0_
          have BK944 := n1_
          have HB := n2_
          clear n0_ n1_ n2_
          have n0_ := Aside0.mk (Kd.S_drew HO_5.out)
          have n1_ := Aside0.mk (blk_drew BK944.out)
          have n2_ := Aside0.mk (below_drew1 HB.out)
          clear HO_5
          clear BK944
          clear HB
          have HO_5 := n0_
          have BK944 := n1_
          have HB := n2_
          clear n0_ n1_ n2_
          obtain ⟨i015, hi015, _, hsz15, _⟩ := info_parts info9
          obtain ⟨A15, hcut15, hA15, hC15⟩ := print_mid_of (P := Try.prog) Value.string (⟨#[]⟩ : ByteArray) 22 9 .i64 .i64 Try.underlying22 hi015 hsz15 A0 c0 l0 ((rd_T111 l1 x11_1).f0) (wrap64 (((rd_T111 l1 x11_1).f0) + ((rd_T111 l1 x11_1).f1))) oa (by first | omega | exact oa) oa HC0.out
          have HR945 := Aside0.mk (Kd.C_of_reads (h1 := fun _ => rfl) (hA15 _ (Kd.reads_of_C HR0.out)))
          have HC945 := Aside0.mk hC15
          clear hA15 hC15 hi015 hsz15
          refine start_ (n := 22) (S := fun w' => w'.cell? ⟨gb944, 0, none⟩ = some (.int .i64 ((rd_T111 l1 x11_1).f0)) ∧ w'.cell? ⟨gb944, 1, none⟩ = some (.int .i64 ((rd_T111 l1 x11_1).f1)) ∧ w'.cell? ⟨gb944, 2, none⟩ = some (.slice A943_2 ((rd_T111 l1 x11_1).f2).length c943_2)) (ds := []) #[O,O,O,O,O,O,O,O,O,O,O,O,O,O,O,O,O,O,O,O,O,O] (by kernel_rfl) rfl rfl ⟨(blk_cell BK944.out 0).trans rfl, (blk_cell BK944.out 1).trans rfl, (blk_cell BK944.out 2).trans rfl⟩ (fun hHeld => ?_); refine with_tabW spec_l2Back.tab6 spec_l2Back.bits6 (fun HT_ HW_ => ?_)
          generalize w13.drew = w14 at HO_5 BK944 HB HR945 hHeld ⊢
          refine pure_ (i := 0) (N := some 15) (v := ?_) (a' := ?_) #[Y,O,O,O,O,O,O,O,O,O,O,O,O,O,O,O,O,O,O,O,O,O] rfl rfl zx (fun _ _ _ h => h) (Or.inl ⟨by rfl, ?_⟩) ?_ ?_
          rotate_left; (intro w'; go_simp; with_reducible rfl); rotate_left; (simp only [Act.put,qa,qb,qc,i64_w,i32_w]; rfl)
          refine pure_ (i := 1) (N := some 16) (v := ?_) (a' := ?_) #[Y,Y,O,O,O,O,O,O,O,O,O,O,O,O,O,O,O,O,O,O,O,O] rfl rfl zx (fun _ _ _ h => h) (Or.inl ⟨by rfl, ?_⟩) ?_ ?_
          rotate_left; (intro w'; go_simp; with_reducible rfl); rotate_left; (simp only [Act.put,qa,qb,qc,i64_w,i32_w]; rfl)
          refine pure_ (i := 3) (N := some 18) (v := ?_) (a' := ?_) #[Y,Y,O,Y,O,O,O,O,O,O,O,O,O,O,O,O,O,O,O,O,O,O] rfl rfl zx (fun _ _ _ h => h) (Or.inl ⟨by rfl, ?_⟩) ?_ ?_
          rotate_left; (intro w'; go_simp; with_reducible rfl); rotate_left; (simp only [Act.put,qa,qb,qc,i64_w,i32_w]; rfl)
          refine pure_ (i := 5) (N := some 20) (v := ?_) (a' := ?_) #[Y,Y,O,Y,O,Y,O,O,O,O,O,O,O,O,O,O,O,O,O,O,O,O] rfl rfl zx (fun _ _ _ h => h) (Or.inl ⟨by rfl, ?_⟩) ?_ ?_
          rotate_left; (intro w'; go_simp; with_reducible rfl); rotate_left; (simp only [Act.put,qa,qb,qc,i64_w,i32_w]; rfl)
          refine pure_ (i := 8) (N := some 23) (v := ?_) (a' := ?_) #[Y,Y,O,Y,O,Y,O,O,Y,O,O,O,O,O,O,O,O,O,O,O,O,O] rfl rfl zx (fun _ _ _ h => h) (Or.inl ⟨by rfl, ?_⟩) ?_ ?_
          rotate_left; (intro w'; go_simp; with_reducible rfl); rotate_left; (simp only [Act.put,qa,qb,qc,i64_w,i32_w]; rfl)
          refine pure_ (i := 9) (N := some 24) (v := ?_) (a' := ?_) #[Y,Y,O,Y,O,Y,O,O,Y,Y,O,O,O,O,O,O,O,O,O,O,O,O] rfl rfl zx (fun _ _ _ h => h) (Or.inl ⟨by rfl, ?_⟩) ?_ ?_
          rotate_left; (intro w'; go_simp; with_reducible rfl); rotate_left; (simp only [Act.put,qa,qb,qc,i64_w,i32_w]; rfl)
          refine pure_ (i := 11) (N := some 26) (v := ?_) (a' := ?_) #[Y,Y,O,Y,O,Y,O,O,Y,Y,O,Y,O,O,O,O,O,O,O,O,O,O] rfl rfl zx (fun _ _ _ h => h) (Or.inl ⟨by rfl, ?_⟩) ?_ ?_
          rotate_left; (intro w'; go_simp; with_reducible rfl); rotate_left; (simp only [Act.put,qa,qb,qc,i64_w,i32_w]; rfl)
          refine pure_ (i := 13) (N := some 28) (v := ?_) (a' := ?_) #[Y,Y,O,Y,O,Y,O,O,Y,Y,O,Y,O,Y,O,O,O,O,O,O,O,O] rfl rfl zx (fun _ _ _ h => h) (Or.inl ⟨by rfl, ?_⟩) ?_ ?_
          rotate_left; (intro w'; go_simp; with_reducible rfl); rotate_left; (simp only [Act.put,qa,qb,qc,i64_w,i32_w]; rfl)
          refine take_ (i := 2) (N := some 17) (v := ?_) (a' := ?_) #[Y,Y,Y,Y,O,Y,O,O,Y,Y,O,Y,O,Y,O,O,O,O,O,O,O,O] rfl rfl (take_ofW HT_.out HW_.out (by kernel_rfl)) (fun _ _ _ h => h) (Or.inl ⟨by rfl, ?_⟩) hHeld ?_ ?_
          rotate_left; (rintro w' ⟨s0, s1, s2⟩; go_simp; with_reducible rfl); rotate_left; (simp only [Act.put,qa,qb,qc,i64_w,i32_w]; rfl)
          refine pure_ (i := 4) (N := some 19) (v := ?_) (a' := ?_) #[Y,Y,Y,Y,Y,Y,O,O,Y,Y,O,Y,O,Y,O,O,O,O,O,O,O,O] rfl rfl zx (fun _ _ _ h => h) (Or.inl ⟨by rfl, ?_⟩) ?_ ?_
          rotate_left; (intro w'; go_simp; with_reducible rfl); rotate_left; (simp only [Act.put,qa,qb,qc,i64_w,i32_w]; rfl)
          refine take_ (i := 6) (N := some 21) (v := ?_) (a' := ?_) #[Y,Y,Y,Y,Y,Y,Y,O,Y,Y,O,Y,O,Y,O,O,O,O,O,O,O,O] rfl rfl (take_ofW HT_.out HW_.out (by kernel_rfl)) (fun _ _ _ h => h) (Or.inl ⟨by rfl, ?_⟩) hHeld ?_ ?_
          rotate_left; (rintro w' ⟨s0, s1, s2⟩; go_simp; with_reducible rfl); rotate_left; (simp only [Act.put,qa,qb,qc,i64_w,i32_w]; rfl)
          refine pure_ (i := 7) (N := some 22) (v := ?_) (a' := ?_) #[Y,Y,Y,Y,Y,Y,Y,Y,Y,Y,O,Y,O,Y,O,O,O,O,O,O,O,O] rfl rfl zx (fun _ _ _ h => h) (Or.inl ⟨by rfl, ?_⟩) ?_ ?_
          rotate_left; (intro w'; go_simp; with_reducible rfl); rotate_left; (simp only [Act.put,qa,qb,qc,i64_w,i32_w]; rfl)
          refine take_ (i := 10) (N := some 25) (v := ?_) (a' := ?_) #[Y,Y,Y,Y,Y,Y,Y,Y,Y,Y,Y,Y,O,Y,O,O,O,O,O,O,O,O] rfl rfl (take_ofW HT_.out HW_.out (by kernel_rfl)) (fun _ _ _ h => h) (Or.inl ⟨by rfl, ?_⟩) hHeld ?_ ?_
          rotate_left; (rintro w' ⟨s0, s1, s2⟩; go_simp; with_reducible rfl); rotate_left; (simp only [Act.put,qa,qb,qc,i64_w,i32_w]; rfl)
          refine take_ (i := 12) (N := some 27) (v := ?_) (a' := ?_) #[Y,Y,Y,Y,Y,Y,Y,Y,Y,Y,Y,Y,Y,Y,O,O,O,O,O,O,O,O] rfl rfl (take_ofW HT_.out HW_.out (by kernel_rfl)) (fun _ _ _ h => h) (Or.inl ⟨by rfl, ?_⟩) hHeld ?_ ?_
          rotate_left; (rintro w' ⟨s0, s1, s2⟩; go_simp; with_reducible rfl); rotate_left; (simp only [Act.put,qa,qb,qc,i64_w,i32_w]; rfl)
          refine take_ (i := 14) (N := some 29) (v := ?_) (a' := ?_) #[Y,Y,Y,Y,Y,Y,Y,Y,Y,Y,Y,Y,Y,Y,Y,O,O,O,O,O,O,O] rfl rfl (take_ofW HT_.out HW_.out (by kernel_rfl)) (fun _ _ _ h => h) (Or.inl ⟨by rfl, ?_⟩) hHeld ?_ ?_
          rotate_left; (rintro w' ⟨s0, s1, s2⟩; go_simp; with_reducible rfl); rotate_left; (simp only [Act.put,qa,qb,qc,i64_w,i32_w]; rfl)
          refine pure_ (i := 15) (N := some 30) (v := ?_) (a' := ?_) #[Y,Y,Y,Y,Y,Y,Y,Y,Y,Y,Y,Y,Y,Y,Y,Y,O,O,O,O,O,O] rfl rfl zx (fun _ _ _ h => h) (Or.inl ⟨by rfl, ?_⟩) ?_ ?_
          rotate_left; (intro w'; go_simp; with_reducible rfl); rotate_left; (simp only [Act.put,qa,qb,qc,i64_w,i32_w]; rfl)
          refine pure_ (i := 16) (N := some 31) (v := ?_) (a' := ?_) #[Y,Y,Y,Y,Y,Y,Y,Y,Y,Y,Y,Y,Y,Y,Y,Y,Y,O,O,O,O,O] rfl rfl zx (fun _ _ _ h => h) (Or.inl ⟨by rfl, ?_⟩) ?_ ?_
          rotate_left; (intro w'; go_simp; with_reducible rfl); rotate_left; (simp only [Act.put,qa,qb,qc,i64_w,i32_w]; rfl)
          refine one_ (i := 17) (N := some 32) #[Y,Y,Y,Y,Y,Y,Y,Y,Y,Y,Y,Y,Y,Y,Y,Y,Y,Y,O,O,O,O] rfl rfl (one_of HT_.out (by kernel_rfl)) (by decide) (fun K hK => ?_)
          refine goes_ Try.func155 (by kernel_rfl) rfl #[.slice A15 ((l0.take ((wrap64 (((rd_T111 l1 x11_1).f0) + ((rd_T111 l1 x11_1).f1))) : Int).toNat).drop (((rd_T111 l1 x11_1).f0) : Int).toNat).length (c0 - ((rd_T111 l1 x11_1).f0).toNat)] (by rfl) rfl rfl (by (try simp only [List.map_toArray, List.map_cons, List.map_nil]); first | done | (rw [show ((l0.take ((wrap64 (((rd_T111 l1 x11_1).f0) + ((rd_T111 l1 x11_1).f1))) : Int).toNat).drop (((rd_T111 l1 x11_1).f0) : Int).toNat).length = ((wrap64 (((rd_T111 l1 x11_1).f0) + ((rd_T111 l1 x11_1).f1))).toNat - ((rd_T111 l1 x11_1).f0).toNat) from (by rw [List.length_drop, List.length_take]; have h_ : ((wrap64 (((rd_T111 l1 x11_1).f0) + ((rd_T111 l1 x11_1).f1))) : Int) ≤ (l0.length : Int) := oa; omega)] <;> rfl) | rfl | (simp only [List.length_drop, List.length_take]; rfl)) ?_
          with_reducible refine (spec_l1OwnT.calls _ _ ((l0.take ((wrap64 (((rd_T111 l1 x11_1).f0) + ((rd_T111 l1 x11_1).f1))) : Int).toNat).drop (((rd_T111 l1 x11_1).f0) : Int).toNat) t946 _ ?side1 ?side2 A9.out).mono ?_
          (case side1 => exact zq (Kd.C_below HR945.out HB.out))
          (case side2 => exact HC945.out)
          rintro e w16 ⟨v947, rfl, ho0, hb⟩
          refine ⟨_, rfl, ?_⟩
          have n0_ := Aside0.mk (Kd.S_elder' (zs HO_5.out) (Kd.R_base ho0) hb)
          have n1_ := Aside0.mk (Kd.R_lower ho0 (below_size (by repeat (first | (with_reducible first | exact HB.out | apply below_alloc | apply pw_below_drewN | apply below_drew1 | refine below_set ?_ GE944.out) | exact HB.out))))
          have n2_ := Aside0.mk (blk_below (g := gb944) (o := .cells #[.int .i64 ((rd_T111 l1 x11_1).f0), .int .i64 ((rd_T111 l1 x11_1).f1), .slice A943_2 ((rd_T111 l1 x11_1).f2).length c943_2] 111 (0, 0)) (zk BK944.out) hb)
          have n3_ := Aside0.mk (below_step (by repeat (first | (with_reducible first | exact HB.out | apply below_alloc | apply pw_below_drewN | apply below_drew1 | refine below_set ?_ GE944.out) | exact HB.out)) hb)
          clear HO_5
          clear BK944
          clear HB
          have HO_5 := n0_
          have HO948 := n1_
          have BK944 := n2_
          have HB := n3_
          clear n0_ n1_ n2_ n3_
          (try clear hb)
          (try clear hb2)
          (try clear hk)
          (try clear hi)
          (try clear ho0)
          obtain ⟨Ao17, co17, eo17⟩ := Kd.R_slice HO948.out
          (first | subst eo17 | (injection eo17 with f1_ f2_ f3_; have f4_ := f1_.symm; have f5_ := f3_.symm; clear f1_ f2_ f3_; subst f4_; subst f5_))
          refine hK.out _ _ ⟨(blk_cell BK944.out 0).trans rfl, (blk_cell BK944.out 1).trans rfl, (blk_cell BK944.out 2).trans rfl⟩ (fun hHeld => ?_)
          clear hK K
          refine norm_ (a' := ?_) ?_ ?_
          rotate_left
          ·show Act.put _ (some 32) _ = _
           simp only [Act.put,qa,qb,qc,i64_w,i32_w]
           rfl
          refine pure_ (i := 18) (N := some 33) (v := ?_) (a' := ?_) #[Y,Y,Y,Y,Y,Y,Y,Y,Y,Y,Y,Y,Y,Y,Y,Y,Y,Y,Y,O,O,O] rfl rfl zx (fun _ _ _ h => h) (Or.inl ⟨by rfl, ?_⟩) ?_ ?_
          rotate_left; (intro w'; go_simp; with_reducible rfl); rotate_left; (simp only [Act.put,qa,qb,qc,i64_w,i32_w]; rfl)
          refine one_ (i := 19) (N := some 34) #[Y,Y,Y,Y,Y,Y,Y,Y,Y,Y,Y,Y,Y,Y,Y,Y,Y,Y,Y,Y,O,O] rfl rfl (one_of HT_.out (by kernel_rfl)) (by decide) (fun K hK => ?_)
          refine value_ (w1 := ?_) (v := ?_) (by rfl) rfl ?_ ?_
          rotate_left 2
          ·go_simp
           constructor
           ·rfl
           ·rfl
          refine hK.out _ _ ⟨(blk_cell (blk_alloc BK944.out _) 0).trans rfl, (blk_cell (blk_alloc BK944.out _) 1).trans rfl, (blk_cell (blk_alloc BK944.out _) 2).trans rfl⟩ (fun hHeld => ?_)
          clear hK K
          refine norm_ (a' := ?_) ?_ ?_
          rotate_left
          ·show Act.put _ (some 34) _ = _
           simp only [Act.put,qa,qb,qc,i64_w,i32_w]
           rfl
          refine one_ (i := 20) (N := some 35) #[Y,Y,Y,Y,Y,Y,Y,Y,Y,Y,Y,Y,Y,Y,Y,Y,Y,Y,Y,Y,Y,O] rfl rfl (one_of HT_.out (by kernel_rfl)) (by decide) (fun K hK => ?_)
          refine Kd.S_append_step k111 (w0 := w) w.heap.size (by rfl) (.tmp 15) (.tmp 34) 39 111 (.agg #[(.int .i64 0), (.int .i64 0), (.slice none 0 0)]) 40 rfl Try.underlying39 info111 rfl (by decide) (by omega) u5 x5_1 (⟨wrap64 (((rd_T111 l1 x11_1).f0) + x6_1), (((rd_T111 l1 x11_1).f2).length : Int), t946⟩ : S111) [.int .i64 (wrap64 (((rd_T111 l1 x11_1).f0) + x6_1)), .int .i64 (((rd_T111 l1 x11_1).f2).length : Int), .slice Ao17 t946.length co17] (fun k_ => k_ ≠ gb944) (fun k_ => some k_ = (.slice Ao17 t946.length co17 : Value).ownBlock) rfl rfl ?aP (fun k_ hk_ => ((Kd.R_mono (ok' := fun k_ => ((fun k_ => k_ ≠ gb944)) k_ ∧ some k_ ≠ (u5 : Value).ownBlock) (Kd.R_types (Kd.R_apart' (HO948.out) (Kd.S_typed HO_5.out) (by decide)) BK944.out (by decide)) (fun k_ hk => ⟨hk.2, hk.1.2⟩))).1 k_ hk_.symm) ?aF ?aO ?aB ?aS ?aL ?_
          (case aP => exact k111_mkM _ _ _ (⟨wrap64 (((rd_T111 l1 x11_1).f0) + x6_1), (((rd_T111 l1 x11_1).f2).length : Int), t946⟩ : S111) (Kd.R_mono (Kd.R_tight rfl (Kd.R_mono (ok' := fun k_ => ((fun k_ => k_ ≠ gb944)) k_ ∧ some k_ ≠ (u5 : Value).ownBlock) (Kd.R_types (Kd.R_apart' (HO948.out) (Kd.S_typed HO_5.out) (by decide)) BK944.out (by decide)) (fun k_ hk => ⟨hk.2, hk.1.2⟩))) (fun _ h_ => h_)))
          (case aB => exact (by repeat (first | (with_reducible first | exact HB.out | apply below_alloc | apply pw_below_drewN | apply below_drew1 | refine below_set ?_ GE944.out) | exact HB.out)))
          (case aF => exact (fun k_ hk => Kd.freshB (g := gb944) (o := .cells #[.int .i64 ((rd_T111 l1 x11_1).f0), .int .i64 ((rd_T111 l1 x11_1).f1), .slice A943_2 ((rd_T111 l1 x11_1).f2).length c943_2] 111 (0, 0)) (zk BK944.out) k_ hk))
          (case aO => exact (by (with_reducible repeat (first | apply Kd.S_alloc | apply Kd.S_drewN | apply Kd.S_drew)); exact Kd.S_mono HO_5.out (fun k_ hk => ⟨hk.1, fun e_ => hk.2 e_⟩)))
          (case aS => exact (below_size (by repeat (first | (with_reducible first | exact HB.out | apply below_alloc | apply pw_below_drewN | apply below_drew1 | refine below_set ?_ GE944.out) | exact HB.out))))
          (case aL => have := LMc10.out; omega)
          intro v950 w18 ho hb hg hat
          rw [← Ny949.out] at ho
          have n0_ := Aside0.mk (blk_grown (g := gb944) (o := .cells #[.int .i64 ((rd_T111 l1 x11_1).f0), .int .i64 ((rd_T111 l1 x11_1).f1), .slice A943_2 ((rd_T111 l1 x11_1).f2).length c943_2] 111 (0, 0)) (zk BK944.out) hg (Kd.S_away HO_5.out (fun _ hk => hk.1)))
          have n1_ := Aside0.mk (hb)
          have n2_ := Aside0.mk (ho)
          clear BK944
          clear HB
          clear HO_5
          clear HO948
          have BK944 := n0_
          have HB := n1_
          have HO951 := n2_
          clear n0_ n1_ n2_
          clear ho hb hg hat
          refine hK.out _ _ ⟨(blk_cell BK944.out 0).trans rfl, (blk_cell BK944.out 1).trans rfl, (blk_cell BK944.out 2).trans rfl⟩ (fun hHeld => ?_)
          clear hK K
          refine norm_ (a' := ?_) ?_ ?_
          rotate_left
          ·show Act.put _ (some 35) _ = _
           simp only [Act.put,qa,qb,qc,i64_w,i32_w]
           rfl
          refine pure_ (i := 21) (N := some 5) (v := ?_) (a' := ?_) #[Y,Y,Y,Y,Y,Y,Y,Y,Y,Y,Y,Y,Y,Y,Y,Y,Y,Y,Y,Y,Y,Y] rfl rfl zx (fun _ _ _ h => h) (Or.inl ⟨by rfl, ?_⟩) ?_ ?_
          rotate_left; (intro w'; go_simp; with_reducible rfl); rotate_left; (simp only [Act.put,qa,qb,qc,i64_w,i32_w]; rfl)
          refine done_ (done_of HT_.out (by kernel_rfl)) ?_
          have hcz19_0 : w18.cell? ⟨gb944, 0, none⟩ = some (.int .i64 ((rd_T111 l1 x11_1).f0)) := (blk_cell BK944.out 0).trans rfl
          have hcz19_1 : w18.cell? ⟨gb944, 1, none⟩ = some (.int .i64 ((rd_T111 l1 x11_1).f1)) := (blk_cell BK944.out 1).trans rfl
          have hcz19_2 : w18.cell? ⟨gb944, 2, none⟩ = some (.slice A943_2 ((rd_T111 l1 x11_1).f2).length c943_2) := (blk_cell BK944.out 2).trans rfl
          have hfz19_0 := blk_frozen BK944.out 0
          have hfz19_1 := blk_frozen BK944.out 1
          have hfz19_2 := blk_frozen BK944.out 2
          try go_wp2
          go_roundg k1
          case measure => have := HK1.out; omega
          case rel => exact ⟨(y949), (wrap64 (x6_1 + (wrap64 ((((rd_T111 l1 x11_1).f2).length : Int) - ((rd_T111 l1 x11_1).f1))))), (wrap64 (x11_1 + 1)), zf, zf, H', ⟨by have := HK1.out; omega⟩, ⟨by (with_reducible repeat (first | apply Kd.S_alloc | apply Kd.S_drewN | apply Kd.S_drew)); exact Kd.S_mono HO951.out (fun _ hk => trivial)⟩, ⟨by repeat (first | (with_reducible first | exact HB.out | apply below_alloc | apply pw_below_drewN | apply below_drew1 | refine below_set ?_ GE944.out) | exact HB.out)⟩⟩
         ·rw [if_neg c10] at H
          exact absurd H (by simp)
        ·rw [if_neg c8] at H
         exact absurd H (by simp)
       ·rw [if_neg c7] at H
        exact absurd H (by simp)
      ·rw [if_neg c6] at H
       exact absurd H (by simp)
     ·rw [if_neg c5] at H
      exact absurd H (by simp)
    ·rw [if_neg c4] at H
     exact absurd H (by simp)
   ·rw [if_neg c3] at H
    have c3b0 : decide (x11_1 < (l1.length : Int)) = false := decide_eq_false c3
    clear c3
    obtain rfl := Option.some.inj H
    go_wp2
    go_ret
    exact ⟨_, by first | rfl | (simp [errW_none, errW_some] <;> rfl) | (simp [*, errW_none, errW_some] <;> rfl), by (with_reducible repeat (first | apply Kd.S_alloc | apply Kd.S_drewN | apply Kd.S_drew)); exact HO_5.out, by repeat (first | (with_reducible first | exact HB.out | apply below_alloc | apply pw_below_drewN | apply below_drew1) | exact HB.out)⟩

end Go.Proofs.Ytcefenlblnediaa.My

/- Written by this session's program (wip/gen): a plain function with the same answers as the Go function, and the proof that the Go code comes to them. Asked: that the plain function has an answer. -/
namespace Go.Proofs.Ytcefenlblnediaa.My
open Go.RowKit Go.Proofs.YtcefenlblnediaaW.PrintWords Go.Proofs.YtcefenlblnediaaW.PrintLast Go.Proofs.YtcefenlblnediaaW.PrintMore
attribute [local go_sem] max2_int min2_int max_two min_two max_three min_three max_four min_four
set_option linter.unusedVariables false
set_option linter.unusedSimpArgs false

/-! ### spec_BackHunks: function 48 -/
def spec_BackHunks.f (k : Nat) (l0 : List ByteArray) (l1 : List (S111)) : Option ((List (S111)) × Bool) := (spec_Patch.f k l0 l1).bind fun bt952 => (if bt952.2 = true then ((spec_l2Back.f k l0 l1).bind fun t956 => (some (t956, true))) else (some (([] : List (S111)), false)))
set_option maxHeartbeats 8000000 in
set_option maxRecDepth 100000 in
theorem spec_BackHunks.calls (k : Nat) (A0 : Option Addr) (c0 : Nat) (l0 : List ByteArray) (A1 : Option Addr) (c1 : Nat) (l1 : List (S111)) (r1 : List (S111)) (r2 : Bool) (w : World) (hr0 : Kd.C Kd.string w A0 l0.length l0) (hc0 : l0.length ≤ c0) (hr1 : Kd.C k111 w A1 l1.length l1) (hc1 : l1.length ≤ c1) (h : spec_BackHunks.f k l0 l1 = some (r1, r2)) :
  Calls Try.prog 48 #[.slice A0 l0.length c0, .slice A1 l1.length c1] w fun e w' => ∃ v0_ : Value, e = .returned (.tuple #[v0_, .bool r2]) ∧ Kd.S k111 111 w' w.heap.size (fun _ => True) v0_ r1 ∧ Below w.heap.size w w' := by
 have HR0 := Aside0.mk hr0
 have HC0 := Aside0.mk hc0
 clear hr0 hc0
 have HR1 := Aside0.mk hr1
 have HC1 := Aside0.mk hc1
 clear hr1 hc1
 have HB := Aside0.mk (Below.refl w.heap.size w)
 have H : ((spec_Patch.f k l0 l1).bind fun bt952 => (if bt952.2 = true then ((spec_l2Back.f k l0 l1).bind fun t956 => (some (t956, true))) else (some (([] : List (S111)), false)))) = some (r1, r2) := h
 clear h
 replace H := Option.bind_eq_some_iff.mp H
 obtain ⟨⟨t952, t953⟩, A30, H⟩ := H
 replace H : (if t953 = true then ((spec_l2Back.f k l0 l1).bind fun t956 => (some (t956, true))) else (some (([] : List (S111)), false))) = some (r1, r2) := H
 have A3 := Aside0.mk A30
 clear A30
 by_cases c4 : t953 = true
 ·subst c4
  have H1 : ((spec_l2Back.f k l0 l1).bind fun t956 => (some (t956, true))) = some (r1, r2) := by rw [if_pos rfl] at H; exact H
  clear H
  have H := H1
  clear H1
  replace H := Option.bind_eq_some_iff.mp H
  obtain ⟨t956, A50, H⟩ := H
  replace H : (some (t956, true)) = some (r1, r2) := H
  have A5 := Aside0.mk A50
  clear A50
  simp only [Option.some.injEq, Prod.mk.injEq] at H
  obtain ⟨rfl, rfl⟩ := H
  go_enter Try.func48, Try.ntmps48
  go_wp2_with (first | ((with_reducible refine gateC (f := 39) rfl ?_); refine goesL_ (some 11) rfl rfl Try.func39 (by kernel_rfl) rfl #[.slice A0 l0.length c0, .slice A1 l1.length c1] rfl zm ?_; (with_reducible refine (spec_Patch.calls k _ _ l0 _ _ l1 t952 true _ ?side1 ?side2 ?side3 ?side4 A3.out).mono ?_); (case side1 => exact zq HR0.out); (case side2 => exact HC0.out); (case side3 => exact zq HR1.out); (case side4 => exact HC1.out); rintro e w6 ⟨v954, rfl, ho0, hb⟩; refine ⟨_, rfl, ?_⟩; have n0_ := Aside0.mk (Kd.R_lower ho0 (below_size zb)); have n1_ := Aside0.mk (below_step zb hb); clear HB; have HO955 := n0_; have HB := n1_; clear n0_ n1_; (try clear hb); (try clear hb2); (try clear hk); (try clear hi); (try clear ho0)) | ((with_reducible refine gateC (f := 115) rfl ?_); refine goesL_ (some 18) rfl rfl Try.func115 (by kernel_rfl) rfl #[.slice A0 l0.length c0, .slice A1 l1.length c1] rfl zm ?_; (with_reducible refine (spec_l2Back.calls k _ _ l0 _ _ l1 t956 _ ?side1 ?side2 ?side3 ?side4 A5.out).mono ?_); (case side1 => exact zq (Kd.C_below HR0.out HB.out)); (case side2 => exact HC0.out); (case side3 => exact zq (Kd.C_below HR1.out HB.out)); (case side4 => exact HC1.out); rintro e w7 ⟨v957, rfl, ho0, hb⟩; refine ⟨_, rfl, ?_⟩; have n0_ := Aside0.mk (Kd.R_below (zr HO955.out) hb); have n1_ := Aside0.mk (Kd.S_lower (Kd.S_new' ho0 (Kd.R_lt (zr HO955.out))) (below_size zb)); have n2_ := Aside0.mk (below_step zb hb); clear HO955; clear HB; have HO955 := n0_; have HO958 := n1_; have HB := n2_; clear n0_ n1_ n2_; (try clear hb); (try clear hb2); (try clear hk); (try clear hi); (try clear ho0)))
  go_ret2
  exact ⟨_, by first | rfl | (simp [errW_none, errW_some] <;> rfl) | (simp [*, errW_none, errW_some] <;> rfl), by (with_reducible repeat (first | apply Kd.S_alloc | apply Kd.S_drewN | apply Kd.S_drew)); exact Kd.S_mono HO958.out (fun _ hk => trivial), by repeat (first | (with_reducible first | exact HB.out | apply below_alloc | apply pw_below_drewN | apply below_drew1) | exact HB.out)⟩
 ·replace c4 := Bool.eq_false_iff.mpr c4
  subst c4
  have H1 : (some (([] : List (S111)), false)) = some (r1, r2) := by rw [if_neg (show ¬ (false = true) by decide)] at H; exact H
  clear H
  have H := H1
  clear H1
  simp only [Option.some.injEq, Prod.mk.injEq] at H
  obtain ⟨rfl, rfl⟩ := H
  go_enter Try.func48, Try.ntmps48
  go_wp2_with (first | ((with_reducible refine gateC (f := 39) rfl ?_); refine goesL_ (some 11) rfl rfl Try.func39 (by kernel_rfl) rfl #[.slice A0 l0.length c0, .slice A1 l1.length c1] rfl zm ?_; (with_reducible refine (spec_Patch.calls k _ _ l0 _ _ l1 t952 false _ ?side1 ?side2 ?side3 ?side4 A3.out).mono ?_); (case side1 => exact zq HR0.out); (case side2 => exact HC0.out); (case side3 => exact zq HR1.out); (case side4 => exact HC1.out); rintro e w8 ⟨v954, rfl, ho0, hb⟩; refine ⟨_, rfl, ?_⟩; have n0_ := Aside0.mk (Kd.R_lower ho0 (below_size zb)); have n1_ := Aside0.mk (below_step zb hb); clear HB; have HO955 := n0_; have HB := n1_; clear n0_ n1_; (try clear hb); (try clear hb2); (try clear hk); (try clear hi); (try clear ho0)))
  go_ret2
  exact ⟨_, by first | rfl | (simp [errW_none, errW_some] <;> rfl) | (simp [*, errW_none, errW_some] <;> rfl), by first | exact Kd.S_nil _ _ _ _ _ | exact Kd.Q_nil _ _ _ _ _ | exact Kd.R_nil _ _ _ _ _, by repeat (first | (with_reducible first | exact HB.out | apply below_alloc | apply pw_below_drewN | apply below_drew1) | exact HB.out)⟩

end Go.Proofs.Ytcefenlblnediaa.My
