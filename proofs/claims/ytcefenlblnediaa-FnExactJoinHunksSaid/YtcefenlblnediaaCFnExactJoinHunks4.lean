/- Part 4 of 5 of a proof of this sentence: The Go function loop.example/g00825/laws.FnExactJoinHunks returns true for every input, and each argument reads afterwards as it read before. No condition. -/
import Derived.Test.YtcefenlblnediaaCFnExactJoinHunks3
/- Written by this session's program (wip/gen): a plain function with the same answers as the Go function, and the proof that the Go code comes to them. Asked: that the plain function has an answer. -/
namespace Go.Proofs.Ytcefenlblnediaa.My
open Go.RowKit Go.Proofs.YtcefenlblnediaaW.PrintWords Go.Proofs.YtcefenlblnediaaW.PrintLast Go.Proofs.YtcefenlblnediaaW.PrintMore
attribute [local go_sem] max2_int min2_int max_two min_two max_three min_three max_four min_four
set_option linter.unusedVariables false
set_option linter.unusedSimpArgs false

/-! ### laws_toHunk: function 93 -/
def laws_toHunk.f (k : Nat) (a0_0 : Int) (a0_1 : Int) (l0_2 : List ByteArray) : Option (Int × Int × List ByteArray) := (laws_toStringS.f k l0_2).bind fun t418 => (some (a0_0, a0_1, t418))
set_option maxHeartbeats 8000000 in
set_option maxRecDepth 100000 in
theorem laws_toHunk.calls (k : Nat) (a0_0 : Int) (a0_1 : Int) (A0_2 : Option Addr) (c0_2 : Nat) (l0_2 : List ByteArray) (r1 : Int) (r2 : Int) (r3 : List ByteArray) (w : World) (hr0_2 : Kd.C Kd.string w A0_2 l0_2.length l0_2) (hc0_2 : l0_2.length ≤ c0_2) (h : laws_toHunk.f k a0_0 a0_1 l0_2 = some (r1, r2, r3)) :
  Calls Try.prog 93 #[.agg #[.int .i64 a0_0, .int .i64 a0_1, .slice A0_2 l0_2.length c0_2]] w fun e w' => ∃ v2_ : Value, e = .returned (.agg #[.int .i64 r1, .int .i64 r2, v2_]) ∧ Kd.R Kd.string 9 w' w.heap.size (fun _ => True) v2_ r3 ∧ Below w.heap.size w w' := by
 have hu107 := Try.underlying107
 have hu111 := Try.underlying111
 have HR0_2 := Aside0.mk hr0_2
 have HC0_2 := Aside0.mk hc0_2
 clear hr0_2 hc0_2
 have HB := Aside0.mk (Below.refl w.heap.size w)
 have H : ((laws_toStringS.f k l0_2).bind fun t418 => (some (a0_0, a0_1, t418))) = some (r1, r2, r3) := h
 clear h
 replace H := Option.bind_eq_some_iff.mp H
 obtain ⟨t418, A20, H⟩ := H
 replace H : (some (a0_0, a0_1, t418)) = some (r1, r2, r3) := H
 have A2 := Aside0.mk A20
 clear A20
 simp only [Option.some.injEq, Prod.mk.injEq] at H
 obtain ⟨rfl, rfl, rfl⟩ := H
 go_enter Try.func93, Try.ntmps93
 go_wp2_with (first | ((with_reducible refine gate_dst (N := 1) rfl ?_); refine box_event ?hg (N := 1) ?hd (cs := #[.int .i64 a0_0, .int .i64 a0_1, .slice A0_2 l0_2.length c0_2]) (t := 107) ?hr ?_; (case hd => rfl); (case hg => rfl); (case hr => first | (go_simp; done) | (go_simp; rfl)); intro gb415 hg w3 hbox hb; have n0_ := Aside0.mk (below_step zb hb); have n1_ := Aside0.mk (hbox); have n2_ := Aside0.mk ((by rw [hg]; exact (below_size zb) : w.heap.size ≤ gb415)); have n3_ := Aside0.mk ((by rw [hg]; exact (below_size zb) : w.heap.size ≤ gb415)); clear HB; have HB := n0_; have BK415 := n1_; have GW415 := n2_; have GE415 := n3_; clear n0_ n1_ n2_ n3_; clear hb hbox hg) | ((with_reducible refine gate_dst (N := 2) rfl ?_); refine box_event ?hg (N := 2) ?hd (cs := #[.int .i64 0, .int .i64 0, .slice none 0 0]) (t := 111) ?hr ?_; (case hd => rfl); (case hg => rfl); (case hr => first | (go_simp; done) | (go_simp; rfl)); intro gb416 hg w4 hbox hb; have n0_ := Aside0.mk (blk_below (g := gb415) (o := .cells #[.int .i64 a0_0, .int .i64 a0_1, .slice A0_2 l0_2.length c0_2] 107 (0, 0)) (zk BK415.out) hb); have n1_ := Aside0.mk (below_step (by repeat (first | (with_reducible first | exact HB.out | apply below_alloc | apply pw_below_drewN | apply below_drew1 | refine below_set ?_ GE415.out) | exact HB.out)) hb); have n2_ := Aside0.mk (hbox); have n3_ := Aside0.mk ((by rw [hg]; exact (below_size (by repeat (first | (with_reducible first | exact HB.out | apply below_alloc | apply pw_below_drewN | apply below_drew1 | refine below_set ?_ GE415.out) | exact HB.out))) : w.heap.size ≤ gb416)); have n4_ := Aside0.mk ((by rw [hg]; exact (below_size (by repeat (first | (with_reducible first | exact HB.out | apply below_alloc | apply pw_below_drewN | apply below_drew1 | refine below_set ?_ GE415.out) | exact HB.out))) : w.heap.size ≤ gb416)); have n5_ := Aside0.mk ((by rw [hg]; exact Nat.ne_of_lt (blk_lt (g := gb415) (o := .cells #[.int .i64 a0_0, .int .i64 a0_1, .slice A0_2 l0_2.length c0_2] 107 (0, 0)) (zk BK415.out)) : gb415 ≠ gb416)); have n6_ := Aside0.mk ((by rw [hg]; exact Nat.ne_of_gt (blk_lt (g := gb415) (o := .cells #[.int .i64 a0_0, .int .i64 a0_1, .slice A0_2 l0_2.length c0_2] 107 (0, 0)) (zk BK415.out)) : gb416 ≠ gb415)); clear BK415; clear HB; have BK415 := n0_; have HB := n1_; have BK416 := n2_; have GW416 := n3_; have GE416 := n4_; have NB415_416 := n5_; have NB416_415 := n6_; clear n0_ n1_ n2_ n3_ n4_ n5_ n6_; clear hb hbox hg) | ((with_reducible refine gate_dst (N := 3) rfl ?_); refine box_event ?hg (N := 3) ?hd (cs := #[.int .i64 0, .int .i64 0, .slice none 0 0]) (t := 111) ?hr ?_; (case hd => rfl); (case hg => rfl); (case hr => first | (go_simp; done) | (go_simp; rfl)); intro gb417 hg w5 hbox hb; have n0_ := Aside0.mk (blk_below (g := gb415) (o := .cells #[.int .i64 a0_0, .int .i64 a0_1, .slice A0_2 l0_2.length c0_2] 107 (0, 0)) (zk BK415.out) hb); have n1_ := Aside0.mk (blk_below (g := gb416) (o := .cells #[.int .i64 0, .int .i64 0, .slice none 0 0] 111 (0, 0)) (zk BK416.out) hb); have n2_ := Aside0.mk (below_step (by repeat (first | (with_reducible first | exact HB.out | apply below_alloc | apply pw_below_drewN | apply below_drew1 | refine below_set ?_ GE415.out | refine below_set ?_ GE416.out) | exact HB.out)) hb); have n3_ := Aside0.mk (hbox); have n4_ := Aside0.mk ((by rw [hg]; exact (below_size (by repeat (first | (with_reducible first | exact HB.out | apply below_alloc | apply pw_below_drewN | apply below_drew1 | refine below_set ?_ GE415.out | refine below_set ?_ GE416.out) | exact HB.out))) : w.heap.size ≤ gb417)); have n5_ := Aside0.mk ((by rw [hg]; exact (below_size (by repeat (first | (with_reducible first | exact HB.out | apply below_alloc | apply pw_below_drewN | apply below_drew1 | refine below_set ?_ GE415.out | refine below_set ?_ GE416.out) | exact HB.out))) : w.heap.size ≤ gb417)); have n6_ := Aside0.mk ((by rw [hg]; exact Nat.ne_of_lt (blk_lt (g := gb415) (o := .cells #[.int .i64 a0_0, .int .i64 a0_1, .slice A0_2 l0_2.length c0_2] 107 (0, 0)) (zk BK415.out)) : gb415 ≠ gb417)); have n7_ := Aside0.mk ((by rw [hg]; exact Nat.ne_of_gt (blk_lt (g := gb415) (o := .cells #[.int .i64 a0_0, .int .i64 a0_1, .slice A0_2 l0_2.length c0_2] 107 (0, 0)) (zk BK415.out)) : gb417 ≠ gb415)); have n8_ := Aside0.mk ((by rw [hg]; exact Nat.ne_of_lt (blk_lt (g := gb416) (o := .cells #[.int .i64 0, .int .i64 0, .slice none 0 0] 111 (0, 0)) (zk BK416.out)) : gb416 ≠ gb417)); have n9_ := Aside0.mk ((by rw [hg]; exact Nat.ne_of_gt (blk_lt (g := gb416) (o := .cells #[.int .i64 0, .int .i64 0, .slice none 0 0] 111 (0, 0)) (zk BK416.out)) : gb417 ≠ gb416)); clear BK415; clear BK416; clear HB; have BK415 := n0_; have BK416 := n1_; have HB := n2_; have BK417 := n3_; have GW417 := n4_; have GE417 := n5_; have NB415_417 := n6_; have NB417_415 := n7_; have NB416_417 := n8_; have NB417_416 := n9_; clear n0_ n1_ n2_ n3_ n4_ n5_ n6_ n7_ n8_ n9_; clear hb hbox hg; have hnb6 := NB415_416.out; have hnc6 := NB416_415.out; have hnb7 := NB415_417.out; have hnc7 := NB417_415.out; have hcz8_0 : w5.cell? ⟨gb415, 0, none⟩ = some (.int .i64 a0_0) := (blk_cell BK415.out 0).trans rfl; have hcz8_1 : w5.cell? ⟨gb415, 1, none⟩ = some (.int .i64 a0_1) := (blk_cell BK415.out 1).trans rfl; have hcz8_2 : w5.cell? ⟨gb415, 2, none⟩ = some (.slice A0_2 l0_2.length c0_2) := (blk_cell BK415.out 2).trans rfl; have hfz8_0 := blk_frozen BK415.out 0; have hfz8_1 := blk_frozen BK415.out 1; have hfz8_2 := blk_frozen BK415.out 2; have hnb9 := NB417_416.out; have hnc9 := NB416_417.out; have hcz10_0 : w5.cell? ⟨gb417, 0, none⟩ = some (.int .i64 0) := (blk_cell BK417.out 0).trans rfl; have hcz10_1 : w5.cell? ⟨gb417, 1, none⟩ = some (.int .i64 0) := (blk_cell BK417.out 1).trans rfl; have hcz10_2 : w5.cell? ⟨gb417, 2, none⟩ = some (.slice none 0 0) := (blk_cell BK417.out 2).trans rfl; have hfz10_0 := blk_frozen BK417.out 0; have hfz10_1 := blk_frozen BK417.out 1; have hfz10_2 := blk_frozen BK417.out 2) | ((with_reducible refine gateC (f := 16) rfl ?_); refine goesL_ (some 12) rfl rfl Try.func16 (by kernel_rfl) rfl #[.slice A0_2 l0_2.length c0_2] rfl zm ?_; (with_reducible refine (laws_toStringS.calls k _ _ l0_2 t418 _ ?side1 ?side2 A2.out).mono ?_); (case side1 => exact Kd.C_below HR0_2.out (by repeat (first | (with_reducible first | exact HB.out | apply below_alloc | apply pw_below_drewN | apply below_drew1 | refine below_set ?_ GE415.out | refine below_set ?_ GE416.out | refine below_set ?_ GE417.out) | exact HB.out))); (case side2 => exact HC0_2.out); rintro e w11 ⟨v419, rfl, ho0, hb⟩; refine ⟨_, rfl, ?_⟩; have n0_ := Aside0.mk (Kd.R_lower ho0 (below_size (by repeat (first | (with_reducible first | exact HB.out | apply below_alloc | apply pw_below_drewN | apply below_drew1 | refine below_set ?_ GE415.out | refine below_set ?_ GE416.out | refine below_set ?_ GE417.out) | exact HB.out)))); have n1_ := Aside0.mk (blk_below (g := gb415) (o := .cells #[.int .i64 a0_0, .int .i64 a0_1, .slice A0_2 l0_2.length c0_2] 107 (0, 0)) (by (with_reducible repeat (first | refine blk_drewN ?_ _ | refine blk_drew ?_ | refine blk_alloc ?_ _)); refine blk_far ?_ NB415_417.out _; (with_reducible repeat (first | refine blk_drewN ?_ _ | refine blk_drew ?_ | refine blk_alloc ?_ _)); refine blk_far ?_ NB415_417.out _; (with_reducible repeat (first | refine blk_drewN ?_ _ | refine blk_drew ?_ | refine blk_alloc ?_ _)); exact BK415.out) hb); have n2_ := Aside0.mk (blk_below (g := gb416) (o := .cells #[.int .i64 0, .int .i64 0, .slice none 0 0] 111 (0, 0)) (by (with_reducible repeat (first | refine blk_drewN ?_ _ | refine blk_drew ?_ | refine blk_alloc ?_ _)); refine blk_far ?_ NB416_417.out _; (with_reducible repeat (first | refine blk_drewN ?_ _ | refine blk_drew ?_ | refine blk_alloc ?_ _)); refine blk_far ?_ NB416_417.out _; (with_reducible repeat (first | refine blk_drewN ?_ _ | refine blk_drew ?_ | refine blk_alloc ?_ _)); exact BK416.out) hb); have n3_ := Aside0.mk (blk_below (g := gb417) (o := .cells #[.int .i64 a0_0, .int .i64 a0_1, .slice none 0 0] 111 (0, 0)) (by (with_reducible repeat (first | refine blk_drewN ?_ _ | refine blk_drew ?_ | refine blk_alloc ?_ _)); refine blk_put (cs := #[.int .i64 a0_0, .int .i64 0, .slice none 0 0]) ?_ 1 _ rfl; (with_reducible repeat (first | refine blk_drewN ?_ _ | refine blk_drew ?_ | refine blk_alloc ?_ _)); refine blk_put (cs := #[.int .i64 0, .int .i64 0, .slice none 0 0]) ?_ 0 _ rfl; (with_reducible repeat (first | refine blk_drewN ?_ _ | refine blk_drew ?_ | refine blk_alloc ?_ _)); exact BK417.out) hb); have n4_ := Aside0.mk (below_step (by repeat (first | (with_reducible first | exact HB.out | apply below_alloc | apply pw_below_drewN | apply below_drew1 | refine below_set ?_ GE415.out | refine below_set ?_ GE416.out | refine below_set ?_ GE417.out) | exact HB.out)) hb); clear BK415; clear BK416; clear BK417; clear HB; have HO420 := n0_; have BK415 := n1_; have BK416 := n2_; have BK417 := n3_; have HB := n4_; clear n0_ n1_ n2_ n3_ n4_; (try clear hb); (try clear hb2); (try clear hk); (try clear hi); (try clear ho0); obtain ⟨Ao12, co12, eo12⟩ := Kd.R_slice HO420.out; subst eo12; have hcz13_0 : w11.cell? ⟨gb417, 0, none⟩ = some (.int .i64 a0_0) := (blk_cell BK417.out 0).trans rfl; have hcz13_1 : w11.cell? ⟨gb417, 1, none⟩ = some (.int .i64 a0_1) := (blk_cell BK417.out 1).trans rfl; have hcz13_2 : w11.cell? ⟨gb417, 2, none⟩ = some (.slice none 0 0) := (blk_cell BK417.out 2).trans rfl; have hfz13_0 := blk_frozen BK417.out 0; have hfz13_1 := blk_frozen BK417.out 1; have hfz13_2 := blk_frozen BK417.out 2; have hcz14_0 : w11.cell? ⟨gb416, 0, none⟩ = some (.int .i64 0) := (blk_cell BK416.out 0).trans rfl; have hcz14_1 : w11.cell? ⟨gb416, 1, none⟩ = some (.int .i64 0) := (blk_cell BK416.out 1).trans rfl; have hcz14_2 : w11.cell? ⟨gb416, 2, none⟩ = some (.slice none 0 0) := (blk_cell BK416.out 2).trans rfl; have hfz14_0 := blk_frozen BK416.out 0; have hfz14_1 := blk_frozen BK416.out 1; have hfz14_2 := blk_frozen BK416.out 2))
 refine bodyPost_ret (results_cell_row rfl _ _ gb416 111 #[.int .i64 a0_0, .int .i64 a0_1, .slice Ao12 t418.length co12] (0, 0) _ rfl (by (with_reducible repeat (first | refine blk_drewN ?_ _ | refine blk_drew ?_ | refine blk_alloc ?_ _)); refine blk_put (cs := #[.int .i64 a0_0, .int .i64 a0_1, .slice none 0 0]) ?_ 2 _ rfl; (with_reducible repeat (first | refine blk_drewN ?_ _ | refine blk_drew ?_ | refine blk_alloc ?_ _)); refine blk_put (cs := #[.int .i64 a0_0, .int .i64 0, .slice none 0 0]) ?_ 1 _ rfl; (with_reducible repeat (first | refine blk_drewN ?_ _ | refine blk_drew ?_ | refine blk_alloc ?_ _)); refine blk_put (cs := #[.int .i64 0, .int .i64 0, .slice none 0 0]) ?_ 0 _ rfl; (with_reducible repeat (first | refine blk_drewN ?_ _ | refine blk_drew ?_ | refine blk_alloc ?_ _)); refine blk_far ?_ NB416_417.out _; (with_reducible repeat (first | refine blk_drewN ?_ _ | refine blk_drew ?_ | refine blk_alloc ?_ _)); exact BK416.out) Try.underlying111 rfl (by kernel_rfl)) rfl ?_
 exact ⟨_, by first | rfl | (simp [errW_none, errW_some] <;> rfl) | (simp [*, errW_none, errW_some] <;> rfl), by (with_reducible repeat (first | apply Kd.R_alloc | apply Kd.R_drewN | apply Kd.R_drew)); exact Kd.R_mono (Kd.R_far (p := ⟨gb416, 2, none⟩) (Kd.R_far (p := ⟨gb416, 1, none⟩) (Kd.R_far (p := ⟨gb416, 0, none⟩) (Kd.R_far (p := ⟨gb417, 2, none⟩) (Kd.R_types (Kd.R_types HO420.out BK417.out (by decide)) BK416.out (by decide)) (fun _ hk => hk.1.2) (.slice Ao12 t418.length co12)) (fun _ hk => hk.2) (.int .i64 a0_0)) (fun _ hk => hk.2) (.int .i64 a0_1)) (fun _ hk => hk.2) (.slice Ao12 t418.length co12)) (fun _ hk => trivial), by repeat (first | (with_reducible first | exact HB.out | apply below_alloc | apply pw_below_drewN | apply below_drew1 | refine below_set ?_ GE415.out | refine below_set ?_ GE416.out | refine below_set ?_ GE417.out) | exact HB.out)⟩

end Go.Proofs.Ytcefenlblnediaa.My

/- Written by this session's program (wip/gen): a plain function with the same answers as the Go function, and the proof that the Go code comes to them. Asked: that the plain function has an answer. -/
namespace Go.Proofs.Ytcefenlblnediaa.My
open Go.RowKit Go.Proofs.YtcefenlblnediaaW.PrintWords Go.Proofs.YtcefenlblnediaaW.PrintLast Go.Proofs.YtcefenlblnediaaW.PrintMore
attribute [local go_sem] max2_int min2_int max_two min_two max_three min_three max_four min_four
set_option linter.unusedVariables false
set_option linter.unusedSimpArgs false

/-! ### laws_toHunkS: function 26 -/
def laws_toHunkS.l0 : Nat → List (S107) → List (S111) → Int → Option ((List (S111)))
 | 0, _, _, _ => none
 | k + 1, x0, x3, x4 => if x4 < (x0.length : Int) then (if 0 ≤ x4 then ((laws_toHunk.f k ((rd_T107 x0 x4).f0) ((rd_T107 x0 x4).f1) ((rd_T107 x0 x4).f2)).bind fun bt425 => (if x4 < (x3.length : Int) then (laws_toHunkS.l0 k x0 (x3.set (x4 : Int).toNat (⟨bt425.1, bt425.2.1, bt425.2.2⟩ : S111)) (wrap64 (x4 + 1))) else (none))) else (none)) else (some x3)
def laws_toHunkS.f (k : Nat) (l0 : List (S107)) : Option ((List (S111))) := if 0 ≤ (l0.length : Int) then (if ((l0.length : Int) : Int).toNat ≤ 7036874417766 then (laws_toHunkS.l0 k l0 (List.replicate ((l0.length : Int) : Int).toNat z111) 0) else (none)) else (none)
set_option maxHeartbeats 8000000 in
set_option maxRecDepth 100000 in
theorem laws_toHunkS.calls (k : Nat) (A0 : Option Addr) (c0 : Nat) (l0 : List (S107)) (r : List (S111)) (w : World) (hr0 : Kd.C k107 w A0 l0.length l0) (hc0 : l0.length ≤ c0) (h : laws_toHunkS.f k l0 = some r) :
  Calls Try.prog 26 #[.slice A0 l0.length c0] w fun e w' => ∃ v0_ : Value, e = .returned (v0_) ∧ Kd.S k111 111 w' w.heap.size (fun _ => True) v0_ r ∧ Below w.heap.size w w' := by
 have hu107 := Try.underlying107
 have hu111 := Try.underlying111
 have HR0 := Aside0.mk hr0
 have HC0 := Aside0.mk hc0
 clear hr0 hc0
 have HB := Aside0.mk (Below.refl w.heap.size w)
 have H : (if 0 ≤ (l0.length : Int) then (if ((l0.length : Int) : Int).toNat ≤ 7036874417766 then (laws_toHunkS.l0 k l0 (List.replicate ((l0.length : Int) : Int).toNat z111) 0) else (none)) else (none)) = some r := h
 clear h
 by_cases c2 : 0 ≤ (l0.length : Int)
 ·rw [if_pos c2] at H
  have c2b0 := eq_true c2
  have c2b1 : decide (0 ≤ (l0.length : Int)) = true := decide_eq_true c2
  clear c2
  by_cases c3 : ((l0.length : Int) : Int).toNat ≤ 7036874417766
  ·rw [if_pos c3] at H
   have c3b0 := eq_true c3
   have c3b1 : decide (((l0.length : Int) : Int).toNat ≤ 7036874417766) = true := decide_eq_true c3
   clear c3
   obtain ⟨y421, hy421⟩ : ∃ y_ : List (S111), y_ = (List.replicate ((l0.length : Int) : Int).toNat z111) := ⟨_, rfl⟩
   replace H : (laws_toHunkS.l0 k l0 y421 0) = some r := by first | (rw [hy421]; with_reducible exact H) | (have H2_ := (Option.bind_some _ _).symm.trans H; rw [hy421]; with_reducible exact H2_) | (have H2_ := (Option.bind_some _ _).symm.trans H; with_reducible exact H2_) | with_reducible exact H | (rw [hy421]; exact H) | exact H
   have Ny421 := Aside0.mk hy421
   clear hy421
   have H' := Aside0.mk H
   clear H
   go_enter Try.func26, Try.ntmps26
   go_wp2_with (first | ((with_reducible refine gate_dst (N := 7) rfl ?_); refine Kd.S_make k111 _ 111 rfl (N := 7) rfl 39 _ _ rfl (l0.length : Int) rfl rfl Try.underlying39 (.agg #[(.int .i64 0), (.int .i64 0), (.slice none 0 0)]) 40 info111 rfl (by decide) (by omega) z111 (ok := fun _ => True) (okp := fun _ => True) (k111_mkM _ _ _ z111 (Kd.R_nil _ _ _ _ _)) (fun _ hk => hk) trivial oa (Nat.le_trans (Nat.mul_le_mul_right _ (oa : (l0.length : Int).toNat ≤ 7036874417766)) (by omega)) (Below.refl _ _) (Nat.le_refl _) ?_; intro v422 w4 ho5 hb hg_ hnew_; clear hg_ hnew_; (first | rw [← Ny421.out] at ho5 | (simp only [Int.reduceToNat] at ho5; rw [← Ny421.out] at ho5)); have n0_ := Aside0.mk (Kd.S_lower ho5 (below_size zb)); have n1_ := Aside0.mk (below_step zb hb); clear HB; have HO423 := n0_; have HB := n1_; clear n0_ n1_; clear hb ho5))
   go_loopg [4] k (fun kq v4 w' => ∃ (x3_1 : List (S111)) (x4_1 : Int), v4 = .int .i64 x4_1 ∧ Aside0 (laws_toHunkS.l0 kq l0 x3_1 x4_1 = some r) ∧ Aside0 (kq ≤ k) ∧ Aside0 (Kd.S k111 111 w' w.heap.size (fun _ => True) v422 x3_1) ∧ Aside0 (Below w.heap.size w w'))
   case atStart => exact ⟨(y421), (0), zf, H', ⟨Nat.le_refl _⟩, ⟨by (with_reducible repeat (first | apply Kd.S_alloc | apply Kd.S_drewN | apply Kd.S_drew)); exact HO423.out⟩, ⟨by repeat (first | (with_reducible first | exact HB.out | apply below_alloc | apply pw_below_drewN | apply below_drew1) | exact HB.out)⟩⟩
   case round =>
    clear H'
    try clear c2
    try clear c2b0
    try clear c2b1
    try clear p2
    try clear c3
    try clear c3b0
    try clear c3b1
    obtain ⟨x3_1, x4_1, rfl, HA, HK1, HO_3, HB⟩ := hrel
    cases gk with
    | zero => exact absurd HA.out (by simp [laws_toHunkS.l0])
    | succ k1 =>
     have H := HA.out
     clear HA
     simp only [laws_toHunkS.l0] at H
     by_cases c6 : x4_1 < (l0.length : Int)
     ·rw [if_pos c6] at H
      have c6b0 : decide (x4_1 < (l0.length : Int)) = true := decide_eq_true c6
      clear c6
      by_cases c7 : 0 ≤ x4_1
      ·rw [if_pos c7] at H
       have c7b0 : decide (0 ≤ x4_1) = true := decide_eq_true c7
       clear c7
       replace H := Option.bind_eq_some_iff.mp H
       obtain ⟨⟨t425, t426, t427⟩, A80, H⟩ := H
       replace H : (if x4_1 < (x3_1.length : Int) then (laws_toHunkS.l0 k1 l0 (x3_1.set (x4_1 : Int).toNat (⟨t425, t426, t427⟩ : S111)) (wrap64 (x4_1 + 1))) else (none)) = some r := H
       have A8 := Aside0.mk A80
       clear A80
       by_cases c9 : x4_1 < (x3_1.length : Int)
       ·rw [if_pos c9] at H
        have c9b0 : decide (x4_1 < (x3_1.length : Int)) = true := decide_eq_true c9
        clear c9
        obtain ⟨y430, hy430⟩ : ∃ y_ : List (S111), y_ = (x3_1.set (x4_1 : Int).toNat (⟨t425, t426, t427⟩ : S111)) := ⟨_, rfl⟩
        replace H : (laws_toHunkS.l0 k1 l0 y430 (wrap64 (x4_1 + 1))) = some r := by first | (rw [hy430]; with_reducible exact H) | (have H2_ := (Option.bind_some _ _).symm.trans H; rw [hy430]; with_reducible exact H2_) | (have H2_ := (Option.bind_some _ _).symm.trans H; with_reducible exact H2_) | with_reducible exact H | (rw [hy430]; exact H) | exact H
        have Ny430 := Aside0.mk hy430
        clear hy430
        have H' := Aside0.mk H
        clear H
        have p424 : 0 ≤ (x4_1 : Int) := oa
        have q424 : x4_1 < (l0.length : Int) := oa
        obtain ⟨ad424, A424_2, c424_2, e424, hx424_0, hx424_1, hx424_2, hl424_2, hi424_2⟩ := at_T107 HR0.out x4_1 p424 q424
        cases e424
        replace hx424_0 := (HB.out.cell (World.block_lt_of_cell? w _ hx424_0)).trans hx424_0
        replace hx424_1 := (HB.out.cell (World.block_lt_of_cell? w _ hx424_1)).trans hx424_1
        replace hx424_2 := (HB.out.cell (World.block_lt_of_cell? w _ hx424_2)).trans hx424_2
        have HR424_2 := Aside0.mk hi424_2
        have HC424_2 := Aside0.mk hl424_2
        clear hi424_2 hl424_2
        replace p424 := eq_true p424
        replace q424 := eq_true q424
        go_wp2_with (first | ((with_reducible refine gateC (f := 93) rfl ?_); refine goesL_ (some 20) rfl rfl Try.func93 (by kernel_rfl) rfl #[.agg #[.int .i64 ((rd_T107 l0 x4_1).f0), .int .i64 ((rd_T107 l0 x4_1).f1), .slice A424_2 ((rd_T107 l0 x4_1).f2).length c424_2]] rfl zm ?_; (with_reducible refine (laws_toHunk.calls k1 ((rd_T107 l0 x4_1).f0) ((rd_T107 l0 x4_1).f1) _ _ ((rd_T107 l0 x4_1).f2) t425 t426 t427 _ ?side1 ?side2 A8.out).mono ?_); (case side1 => exact zq (Kd.C_below HR424_2.out HB.out)); (case side2 => exact HC424_2.out); rintro e w11 ⟨v428, rfl, ho0, hb⟩; refine ⟨_, rfl, ?_⟩; have n0_ := Aside0.mk (Kd.S_elder' (zs HO_3.out) (Kd.R_base ho0) hb); have n1_ := Aside0.mk (Kd.R_lower ho0 (below_size zb)); have n2_ := Aside0.mk (below_step zb hb); clear HO_3; clear HB; have HO_3 := n0_; have HO429 := n1_; have HB := n2_; clear n0_ n1_ n2_; (try clear hb); (try clear hb2); (try clear hk); (try clear hi); (try clear ho0); have p10 : 0 ≤ (x4_1 : Int) := oa; have q10 : (x4_1 : Int) < ((x3_1.length : Int) : Int) := oa; obtain ⟨go10, co10, eo10, gb10, gl10, cl10, HG10⟩ := Kd.S_form HO_3.out (by omega); (first | cases eo10 | (injection eo10 with ea_ en_ ec_; (first | subst ea_ | (injection ea_ with ea_; subst ea_)); subst ec_; clear en_)); have GB10 := Aside0.mk gb10; have GG10 := Aside0.mk HG10; clear gb10 gl10 HG10; obtain ⟨_, ce10, hcl10, hM10, hcc10, hfr10, _, _⟩ := Kd.S_elem HO_3.out z111 (x4_1 : Int) p10 q10; obtain ⟨ve10_2, rfl, ge10_2⟩ := k111_openM hM10; have hx10_0 : w11.cell? ⟨go10, (x4_1 : Int).toNat * 3, none⟩ = some (.int .i64 ((rd_T111 x3_1 x4_1).f0)) := hcc10 0 _ rfl; have hx10_1 : w11.cell? ⟨go10, (x4_1 : Int).toNat * 3 + 1, none⟩ = some (.int .i64 ((rd_T111 x3_1 x4_1).f1)) := hcc10 1 _ rfl; have hx10_2 : w11.cell? ⟨go10, (x4_1 : Int).toNat * 3 + 2, none⟩ = some (ve10_2) := hcc10 2 _ rfl; have hf10_0 : w11.frozen? ⟨go10, (x4_1 : Int).toNat * 3, none⟩ = false := hfr10 0; have hf10_1 : w11.frozen? ⟨go10, (x4_1 : Int).toNat * 3 + 1, none⟩ = false := hfr10 1; have hf10_2 : w11.frozen? ⟨go10, (x4_1 : Int).toNat * 3 + 2, none⟩ = false := hfr10 2; clear hcl10 hcc10 hfr10; (try clear hM10); replace p10 := eq_true p10; replace q10 := eq_true q10; have n_ := Aside0.mk (Kd.S_mono (ok' := (fun k_ => some k_ ≠ (v428 : Value).ownBlock)) HO_3.out (fun k_ hk => hk.2)); clear HO_3; have HO_3 := n_; clear n_; have HX12 := Aside0.mk (show Kd.S k111 111 w11 w.heap.size (fun k_ => ((fun _ => True)) k_ ∧ ¬ ((fun k_ => some k_ = (v428 : Value).ownBlock)) k_) (.slice (some ⟨go10, 0, none⟩) x3_1.length co10) x3_1 from (by (with_reducible repeat (first | apply Kd.S_alloc | apply Kd.S_drewN | apply Kd.S_drew)); exact Kd.S_mono HO_3.out (fun k_ hk => ⟨trivial, fun e_ => hk e_⟩))); obtain ⟨oki12, ce12, hcl12, hM12, hcc12, hfr12, hoki12, hH12⟩ := Kd.S_elem HX12.out z111 (x4_1 : Int) oa (by have h_ : (x4_1 : Int) < ((x3_1.length : Int) : Int) := oa; first | exact h_ | (have e_ := (Kd.S_reads' HO_3.out).1; omega) | simpa using h_); obtain ⟨ve12_2, rfl, ge12_2⟩ := k111_openM hM12; have HP12 := Kd.S_seg hH12 oa (by have h_ : (x4_1 : Int) < ((x3_1.length : Int) : Int) := oa; first | exact h_ | (have e_ := (Kd.S_reads' HO_3.out).1; omega) | simpa using h_) (seg := [.int .i64 t425, .int .i64 t426, v428]) (j := 0) (show 3 ≤ 3 from by decide) (x' := (⟨t425, t426, t427⟩ : S111)) (k111_mkM _ _ _ (⟨t425, t426, t427⟩ : S111) (Kd.R_mono (Kd.R_tight rfl (Kd.R_mono (ok' := fun k_ => ((fun _ => True)) k_ ∧ k_ ≠ go10) (Kd.R_apart' (HO429.out) (Kd.S_typed HO_3.out) (by decide)) (fun k_ hk => ⟨trivial, fun e_ => (hk.2) (by rw [e_]; rfl)⟩))) (fun _ h_ => Or.inr (h_)))) (fun _ hk => hk) (fun k_ hk_ => ((Kd.R_mono (ok' := fun k_ => ((fun _ => True)) k_ ∧ k_ ≠ go10) (Kd.R_apart' (HO429.out) (Kd.S_typed HO_3.out) (by decide)) (fun k_ hk => ⟨trivial, fun e_ => (hk.2) (by rw [e_]; rfl)⟩))).1 k_ hk_.symm); have hx12_0 := hcc12 0 _ rfl; (try simp only [show (k111).sz = 3 from rfl, Nat.mul_one, Nat.add_zero] at hx12_0); have hf12_0 := hfr12 0; (try simp only [show (k111).sz = 3 from rfl, Nat.mul_one, Nat.add_zero] at hf12_0); have hx12_1 := hcc12 1 _ rfl; (try simp only [show (k111).sz = 3 from rfl, Nat.mul_one, Nat.add_zero] at hx12_1); have hf12_1 := hfr12 1; (try simp only [show (k111).sz = 3 from rfl, Nat.mul_one, Nat.add_zero] at hf12_1); have hx12_2 := hcc12 2 _ rfl; (try simp only [show (k111).sz = 3 from rfl, Nat.mul_one, Nat.add_zero] at hx12_2); have hf12_2 := hfr12 2; (try simp only [show (k111).sz = 3 from rfl, Nat.mul_one, Nat.add_zero] at hf12_2); clear hcl12 hcc12 hfr12 hoki12 hH12; (try clear hM12)) | ((with_reducible refine gate_store (t := 111) (p := 21) rfl ?_); refine store_event (t := 111) (p := 21) (v := ?vo_w13) (w1 := (((w11.setCell ⟨go10, (x4_1 : Int).toNat * 3, none⟩ (.int .i64 t425)).setCell ⟨go10, (x4_1 : Int).toNat * 3 + 1, none⟩ (.int .i64 t426)).setCell ⟨go10, (x4_1 : Int).toNat * 3 + 2, none⟩ (v428))) ?hg ?ho ?hn ?hr ?_; (case ho => rfl); (case hg => rfl); (case hn => rfl); (case hr => (obtain ⟨A2_, c2_, e2_⟩ := Kd.R_slice HO429.out); (subst e2_); first | (go_simp; done) | (go_simp; rfl)); intro w13 hw; have hg : w11.grownBy w13 (some go10) := (by rw [hw]; exact HP12.2); have hp_ : Kd.S k111 111 w13 w.heap.size (fun _ => True) (.slice (some ⟨go10, 0, none⟩) x3_1.length co10) y430 := (by rw [hw, Ny430.out]; exact HP12.1); clear HP12; have n0_ := Aside0.mk (hp_); have n1_ := Aside0.mk ((by rw [hw]; exact below_set (below_set (below_set (HB.out) GB10.out) GB10.out) GB10.out : Below w.heap.size w w13)); clear HO_3; clear HB; clear HO429; have HO_3 := n0_; have HB := n1_; clear n0_ n1_; clear hg hw hp_))
        go_roundg k1
        case measure => have := HK1.out; omega
        case rel => exact ⟨(y430), (wrap64 (x4_1 + 1)), zf, H', ⟨by have := HK1.out; omega⟩, ⟨by (with_reducible repeat (first | apply Kd.S_alloc | apply Kd.S_drewN | apply Kd.S_drew)); exact HO_3.out⟩, ⟨by repeat (first | (with_reducible first | exact HB.out | apply below_alloc | apply pw_below_drewN | apply below_drew1) | exact HB.out)⟩⟩
       ·rw [if_neg c9] at H
        exact absurd H (by simp)
      ·rw [if_neg c7] at H
       exact absurd H (by simp)
     ·rw [if_neg c6] at H
      have c6b0 : decide (x4_1 < (l0.length : Int)) = false := decide_eq_false c6
      clear c6
      obtain rfl := Option.some.inj H
      go_wp2
      go_ret
      exact ⟨_, by first | rfl | (simp [errW_none, errW_some] <;> rfl) | (simp [*, errW_none, errW_some] <;> rfl), by (with_reducible repeat (first | apply Kd.S_alloc | apply Kd.S_drewN | apply Kd.S_drew)); exact HO_3.out, by repeat (first | (with_reducible first | exact HB.out | apply below_alloc | apply pw_below_drewN | apply below_drew1) | exact HB.out)⟩
  ·rw [if_neg c3] at H
   exact absurd H (by simp)
 ·rw [if_neg c2] at H
  exact absurd H (by simp)

end Go.Proofs.Ytcefenlblnediaa.My

/- Written by this session's program (wip/gen): a plain function with the same answers as the Go function, and the proof that the Go code comes to them. Asked: that the plain function has an answer. -/
namespace Go.Proofs.Ytcefenlblnediaa.My
open Go.RowKit Go.Proofs.YtcefenlblnediaaW.PrintWords Go.Proofs.YtcefenlblnediaaW.PrintLast Go.Proofs.YtcefenlblnediaaW.PrintMore
attribute [local go_sem] max2_int min2_int max_two min_two max_three min_three max_four min_four
set_option linter.unusedVariables false
set_option linter.unusedSimpArgs false

/-! ### laws_eqHunk: function 97 -/
def laws_eqHunk.f (k : Nat) (a0_0 : Int) (a0_1 : Int) (l0_2 : List ByteArray) (a1_0 : Int) (a1_1 : Int) (l1_2 : List ByteArray) : Option (Bool) := if a0_0 = a1_0 then (if a0_1 = a1_1 then ((laws_eqStringS.f k l0_2 l1_2).bind fun t547 => (if t547 = true then (some true) else (some false))) else (some false)) else (some false)
set_option maxHeartbeats 8000000 in
set_option maxRecDepth 100000 in
theorem laws_eqHunk.calls (k : Nat) (a0_0 : Int) (a0_1 : Int) (A0_2 : Option Addr) (c0_2 : Nat) (l0_2 : List ByteArray) (a1_0 : Int) (a1_1 : Int) (A1_2 : Option Addr) (c1_2 : Nat) (l1_2 : List ByteArray) (r : Bool) (w : World) (hr0_2 : Kd.C Kd.string w A0_2 l0_2.length l0_2) (hc0_2 : l0_2.length ≤ c0_2) (hr1_2 : Kd.C Kd.string w A1_2 l1_2.length l1_2) (hc1_2 : l1_2.length ≤ c1_2) (h : laws_eqHunk.f k a0_0 a0_1 l0_2 a1_0 a1_1 l1_2 = some r) :
  Calls Try.prog 97 #[.agg #[.int .i64 a0_0, .int .i64 a0_1, .slice A0_2 l0_2.length c0_2], .agg #[.int .i64 a1_0, .int .i64 a1_1, .slice A1_2 l1_2.length c1_2]] w fun e w' => e = .returned (.bool r) ∧ Below w.heap.size w w' := by
 have hu111 := Try.underlying111
 have HR0_2 := Aside0.mk hr0_2
 have HC0_2 := Aside0.mk hc0_2
 clear hr0_2 hc0_2
 have HR1_2 := Aside0.mk hr1_2
 have HC1_2 := Aside0.mk hc1_2
 clear hr1_2 hc1_2
 have HB := Aside0.mk (Below.refl w.heap.size w)
 have H : (if a0_0 = a1_0 then (if a0_1 = a1_1 then ((laws_eqStringS.f k l0_2 l1_2).bind fun t547 => (if t547 = true then (some true) else (some false))) else (some false)) else (some false)) = some r := h
 clear h
 by_cases c3 : a0_0 = a1_0
 ·rw [if_pos c3] at H
  have c3b0 : (a0_0 == a1_0) = true := beq_iff_eq.mpr c3
  have c3b1 : (a0_0 != a1_0) = false := bne_eq_false_iff_eq.mpr c3
  clear c3
  by_cases c4 : a0_1 = a1_1
  ·rw [if_pos c4] at H
   have c4b0 : (a0_1 == a1_1) = true := beq_iff_eq.mpr c4
   have c4b1 : (a0_1 != a1_1) = false := bne_eq_false_iff_eq.mpr c4
   clear c4
   replace H := Option.bind_eq_some_iff.mp H
   obtain ⟨t547, A50, H⟩ := H
   replace H : (if t547 = true then (some true) else (some false)) = some r := H
   have A5 := Aside0.mk A50
   clear A50
   by_cases c6 : t547 = true
   ·subst c6
    have H1 : (some true) = some r := by rw [if_pos rfl] at H; exact H
    clear H
    have H := H1
    clear H1
    obtain rfl := Option.some.inj H
    go_enter Try.func97, Try.ntmps97
    go_wp2_with (first | ((with_reducible refine gate_dst (N := 2) rfl ?_); refine box_event ?hg (N := 2) ?hd (cs := #[.int .i64 a0_0, .int .i64 a0_1, .slice A0_2 l0_2.length c0_2]) (t := 111) ?hr ?_; (case hd => rfl); (case hg => rfl); (case hr => first | (go_simp; done) | (go_simp; rfl)); intro gb545 hg w7 hbox hb; have n0_ := Aside0.mk (below_step zb hb); have n1_ := Aside0.mk (hbox); have n2_ := Aside0.mk ((by rw [hg]; exact (below_size zb) : w.heap.size ≤ gb545)); have n3_ := Aside0.mk ((by rw [hg]; exact (below_size zb) : w.heap.size ≤ gb545)); clear HB; have HB := n0_; have BK545 := n1_; have GW545 := n2_; have GE545 := n3_; clear n0_ n1_ n2_ n3_; clear hb hbox hg) | ((with_reducible refine gate_dst (N := 3) rfl ?_); refine box_event ?hg (N := 3) ?hd (cs := #[.int .i64 a1_0, .int .i64 a1_1, .slice A1_2 l1_2.length c1_2]) (t := 111) ?hr ?_; (case hd => rfl); (case hg => rfl); (case hr => first | (go_simp; done) | (go_simp; rfl)); intro gb546 hg w8 hbox hb; have n0_ := Aside0.mk (blk_below (g := gb545) (o := .cells #[.int .i64 a0_0, .int .i64 a0_1, .slice A0_2 l0_2.length c0_2] 111 (0, 0)) (zk BK545.out) hb); have n1_ := Aside0.mk (below_step (by repeat (first | (with_reducible first | exact HB.out | apply below_alloc | apply pw_below_drewN | apply below_drew1 | refine below_set ?_ GE545.out) | exact HB.out)) hb); have n2_ := Aside0.mk (hbox); have n3_ := Aside0.mk ((by rw [hg]; exact (below_size (by repeat (first | (with_reducible first | exact HB.out | apply below_alloc | apply pw_below_drewN | apply below_drew1 | refine below_set ?_ GE545.out) | exact HB.out))) : w.heap.size ≤ gb546)); have n4_ := Aside0.mk ((by rw [hg]; exact (below_size (by repeat (first | (with_reducible first | exact HB.out | apply below_alloc | apply pw_below_drewN | apply below_drew1 | refine below_set ?_ GE545.out) | exact HB.out))) : w.heap.size ≤ gb546)); have n5_ := Aside0.mk ((by rw [hg]; exact Nat.ne_of_lt (blk_lt (g := gb545) (o := .cells #[.int .i64 a0_0, .int .i64 a0_1, .slice A0_2 l0_2.length c0_2] 111 (0, 0)) (zk BK545.out)) : gb545 ≠ gb546)); have n6_ := Aside0.mk ((by rw [hg]; exact Nat.ne_of_gt (blk_lt (g := gb545) (o := .cells #[.int .i64 a0_0, .int .i64 a0_1, .slice A0_2 l0_2.length c0_2] 111 (0, 0)) (zk BK545.out)) : gb546 ≠ gb545)); clear BK545; clear HB; have BK545 := n0_; have HB := n1_; have BK546 := n2_; have GW546 := n3_; have GE546 := n4_; have NB545_546 := n5_; have NB546_545 := n6_; clear n0_ n1_ n2_ n3_ n4_ n5_ n6_; clear hb hbox hg; have hnb9 := NB545_546.out; have hnc9 := NB546_545.out; have hcz10_0 : w8.cell? ⟨gb545, 0, none⟩ = some (.int .i64 a0_0) := (blk_cell BK545.out 0).trans rfl; have hcz10_1 : w8.cell? ⟨gb545, 1, none⟩ = some (.int .i64 a0_1) := (blk_cell BK545.out 1).trans rfl; have hcz10_2 : w8.cell? ⟨gb545, 2, none⟩ = some (.slice A0_2 l0_2.length c0_2) := (blk_cell BK545.out 2).trans rfl; have hfz10_0 := blk_frozen BK545.out 0; have hfz10_1 := blk_frozen BK545.out 1; have hfz10_2 := blk_frozen BK545.out 2; have hcz11_0 : w8.cell? ⟨gb546, 0, none⟩ = some (.int .i64 a1_0) := (blk_cell BK546.out 0).trans rfl; have hcz11_1 : w8.cell? ⟨gb546, 1, none⟩ = some (.int .i64 a1_1) := (blk_cell BK546.out 1).trans rfl; have hcz11_2 : w8.cell? ⟨gb546, 2, none⟩ = some (.slice A1_2 l1_2.length c1_2) := (blk_cell BK546.out 2).trans rfl; have hfz11_0 := blk_frozen BK546.out 0; have hfz11_1 := blk_frozen BK546.out 1; have hfz11_2 := blk_frozen BK546.out 2) | ((with_reducible refine gateC (f := 18) rfl ?_); refine goesL_ (some 19) rfl rfl Try.func18 (by kernel_rfl) rfl #[.slice A0_2 l0_2.length c0_2, .slice A1_2 l1_2.length c1_2] rfl zm ?_; (with_reducible refine (laws_eqStringS.calls k _ _ l0_2 _ _ l1_2 true _ ?side1 ?side2 ?side3 ?side4 A5.out).mono ?_); (case side1 => exact zq (Kd.C_below HR0_2.out HB.out)); (case side2 => exact HC0_2.out); (case side3 => exact zq (Kd.C_below HR1_2.out HB.out)); (case side4 => exact HC1_2.out); rintro e w' ⟨rfl, ⟨nd, rfl⟩⟩; refine ⟨_, rfl, ?_⟩))
    go_ret
    exact ⟨by first | rfl | (simp [errW_none, errW_some] <;> rfl) | (simp [*, errW_none, errW_some] <;> rfl), by repeat (first | (with_reducible first | exact HB.out | apply below_alloc | apply pw_below_drewN | apply below_drew1 | refine below_set ?_ GE545.out | refine below_set ?_ GE546.out) | exact HB.out)⟩
   ·replace c6 := Bool.eq_false_iff.mpr c6
    subst c6
    have H1 : (some false) = some r := by rw [if_neg (show ¬ (false = true) by decide)] at H; exact H
    clear H
    have H := H1
    clear H1
    obtain rfl := Option.some.inj H
    go_enter Try.func97, Try.ntmps97
    go_wp2_with (first | ((with_reducible refine gate_dst (N := 2) rfl ?_); refine box_event ?hg (N := 2) ?hd (cs := #[.int .i64 a0_0, .int .i64 a0_1, .slice A0_2 l0_2.length c0_2]) (t := 111) ?hr ?_; (case hd => rfl); (case hg => rfl); (case hr => first | (go_simp; done) | (go_simp; rfl)); intro gb545 hg w12 hbox hb; have n0_ := Aside0.mk (below_step zb hb); have n1_ := Aside0.mk (hbox); have n2_ := Aside0.mk ((by rw [hg]; exact (below_size zb) : w.heap.size ≤ gb545)); have n3_ := Aside0.mk ((by rw [hg]; exact (below_size zb) : w.heap.size ≤ gb545)); clear HB; have HB := n0_; have BK545 := n1_; have GW545 := n2_; have GE545 := n3_; clear n0_ n1_ n2_ n3_; clear hb hbox hg) | ((with_reducible refine gate_dst (N := 3) rfl ?_); refine box_event ?hg (N := 3) ?hd (cs := #[.int .i64 a1_0, .int .i64 a1_1, .slice A1_2 l1_2.length c1_2]) (t := 111) ?hr ?_; (case hd => rfl); (case hg => rfl); (case hr => first | (go_simp; done) | (go_simp; rfl)); intro gb546 hg w13 hbox hb; have n0_ := Aside0.mk (blk_below (g := gb545) (o := .cells #[.int .i64 a0_0, .int .i64 a0_1, .slice A0_2 l0_2.length c0_2] 111 (0, 0)) (zk BK545.out) hb); have n1_ := Aside0.mk (below_step (by repeat (first | (with_reducible first | exact HB.out | apply below_alloc | apply pw_below_drewN | apply below_drew1 | refine below_set ?_ GE545.out) | exact HB.out)) hb); have n2_ := Aside0.mk (hbox); have n3_ := Aside0.mk ((by rw [hg]; exact (below_size (by repeat (first | (with_reducible first | exact HB.out | apply below_alloc | apply pw_below_drewN | apply below_drew1 | refine below_set ?_ GE545.out) | exact HB.out))) : w.heap.size ≤ gb546)); have n4_ := Aside0.mk ((by rw [hg]; exact (below_size (by repeat (first | (with_reducible first | exact HB.out | apply below_alloc | apply pw_below_drewN | apply below_drew1 | refine below_set ?_ GE545.out) | exact HB.out))) : w.heap.size ≤ gb546)); have n5_ := Aside0.mk ((by rw [hg]; exact Nat.ne_of_lt (blk_lt (g := gb545) (o := .cells #[.int .i64 a0_0, .int .i64 a0_1, .slice A0_2 l0_2.length c0_2] 111 (0, 0)) (zk BK545.out)) : gb545 ≠ gb546)); have n6_ := Aside0.mk ((by rw [hg]; exact Nat.ne_of_gt (blk_lt (g := gb545) (o := .cells #[.int .i64 a0_0, .int .i64 a0_1, .slice A0_2 l0_2.length c0_2] 111 (0, 0)) (zk BK545.out)) : gb546 ≠ gb545)); clear BK545; clear HB; have BK545 := n0_; have HB := n1_; have BK546 := n2_; have GW546 := n3_; have GE546 := n4_; have NB545_546 := n5_; have NB546_545 := n6_; clear n0_ n1_ n2_ n3_ n4_ n5_ n6_; clear hb hbox hg; have hnb14 := NB545_546.out; have hnc14 := NB546_545.out; have hcz15_0 : w13.cell? ⟨gb545, 0, none⟩ = some (.int .i64 a0_0) := (blk_cell BK545.out 0).trans rfl; have hcz15_1 : w13.cell? ⟨gb545, 1, none⟩ = some (.int .i64 a0_1) := (blk_cell BK545.out 1).trans rfl; have hcz15_2 : w13.cell? ⟨gb545, 2, none⟩ = some (.slice A0_2 l0_2.length c0_2) := (blk_cell BK545.out 2).trans rfl; have hfz15_0 := blk_frozen BK545.out 0; have hfz15_1 := blk_frozen BK545.out 1; have hfz15_2 := blk_frozen BK545.out 2; have hcz16_0 : w13.cell? ⟨gb546, 0, none⟩ = some (.int .i64 a1_0) := (blk_cell BK546.out 0).trans rfl; have hcz16_1 : w13.cell? ⟨gb546, 1, none⟩ = some (.int .i64 a1_1) := (blk_cell BK546.out 1).trans rfl; have hcz16_2 : w13.cell? ⟨gb546, 2, none⟩ = some (.slice A1_2 l1_2.length c1_2) := (blk_cell BK546.out 2).trans rfl; have hfz16_0 := blk_frozen BK546.out 0; have hfz16_1 := blk_frozen BK546.out 1; have hfz16_2 := blk_frozen BK546.out 2) | ((with_reducible refine gateC (f := 18) rfl ?_); refine goesL_ (some 19) rfl rfl Try.func18 (by kernel_rfl) rfl #[.slice A0_2 l0_2.length c0_2, .slice A1_2 l1_2.length c1_2] rfl zm ?_; (with_reducible refine (laws_eqStringS.calls k _ _ l0_2 _ _ l1_2 false _ ?side1 ?side2 ?side3 ?side4 A5.out).mono ?_); (case side1 => exact zq (Kd.C_below HR0_2.out HB.out)); (case side2 => exact HC0_2.out); (case side3 => exact zq (Kd.C_below HR1_2.out HB.out)); (case side4 => exact HC1_2.out); rintro e w' ⟨rfl, ⟨nd, rfl⟩⟩; refine ⟨_, rfl, ?_⟩))
    go_ret
    exact ⟨by first | rfl | (simp [errW_none, errW_some] <;> rfl) | (simp [*, errW_none, errW_some] <;> rfl), by repeat (first | (with_reducible first | exact HB.out | apply below_alloc | apply pw_below_drewN | apply below_drew1 | refine below_set ?_ GE545.out | refine below_set ?_ GE546.out) | exact HB.out)⟩
  ·rw [if_neg c4] at H
   have c4b0 : (a0_1 == a1_1) = false := beq_eq_false_iff_ne.mpr c4
   have c4b1 : (a0_1 != a1_1) = true := bne_iff_ne.mpr c4
   obtain rfl := Option.some.inj H
   go_enter Try.func97, Try.ntmps97
   go_wp2_with (first | ((with_reducible refine gate_dst (N := 2) rfl ?_); refine box_event ?hg (N := 2) ?hd (cs := #[.int .i64 a0_0, .int .i64 a0_1, .slice A0_2 l0_2.length c0_2]) (t := 111) ?hr ?_; (case hd => rfl); (case hg => rfl); (case hr => first | (go_simp; done) | (go_simp; rfl)); intro gb545 hg w17 hbox hb; have n0_ := Aside0.mk (below_step zb hb); have n1_ := Aside0.mk (hbox); have n2_ := Aside0.mk ((by rw [hg]; exact (below_size zb) : w.heap.size ≤ gb545)); have n3_ := Aside0.mk ((by rw [hg]; exact (below_size zb) : w.heap.size ≤ gb545)); clear HB; have HB := n0_; have BK545 := n1_; have GW545 := n2_; have GE545 := n3_; clear n0_ n1_ n2_ n3_; clear hb hbox hg) | ((with_reducible refine gate_dst (N := 3) rfl ?_); refine box_event ?hg (N := 3) ?hd (cs := #[.int .i64 a1_0, .int .i64 a1_1, .slice A1_2 l1_2.length c1_2]) (t := 111) ?hr ?_; (case hd => rfl); (case hg => rfl); (case hr => first | (go_simp; done) | (go_simp; rfl)); intro gb546 hg w18 hbox hb; have n0_ := Aside0.mk (blk_below (g := gb545) (o := .cells #[.int .i64 a0_0, .int .i64 a0_1, .slice A0_2 l0_2.length c0_2] 111 (0, 0)) (zk BK545.out) hb); have n1_ := Aside0.mk (below_step (by repeat (first | (with_reducible first | exact HB.out | apply below_alloc | apply pw_below_drewN | apply below_drew1 | refine below_set ?_ GE545.out) | exact HB.out)) hb); have n2_ := Aside0.mk (hbox); have n3_ := Aside0.mk ((by rw [hg]; exact (below_size (by repeat (first | (with_reducible first | exact HB.out | apply below_alloc | apply pw_below_drewN | apply below_drew1 | refine below_set ?_ GE545.out) | exact HB.out))) : w.heap.size ≤ gb546)); have n4_ := Aside0.mk ((by rw [hg]; exact (below_size (by repeat (first | (with_reducible first | exact HB.out | apply below_alloc | apply pw_below_drewN | apply below_drew1 | refine below_set ?_ GE545.out) | exact HB.out))) : w.heap.size ≤ gb546)); have n5_ := Aside0.mk ((by rw [hg]; exact Nat.ne_of_lt (blk_lt (g := gb545) (o := .cells #[.int .i64 a0_0, .int .i64 a0_1, .slice A0_2 l0_2.length c0_2] 111 (0, 0)) (zk BK545.out)) : gb545 ≠ gb546)); have n6_ := Aside0.mk ((by rw [hg]; exact Nat.ne_of_gt (blk_lt (g := gb545) (o := .cells #[.int .i64 a0_0, .int .i64 a0_1, .slice A0_2 l0_2.length c0_2] 111 (0, 0)) (zk BK545.out)) : gb546 ≠ gb545)); clear BK545; clear HB; have BK545 := n0_; have HB := n1_; have BK546 := n2_; have GW546 := n3_; have GE546 := n4_; have NB545_546 := n5_; have NB546_545 := n6_; clear n0_ n1_ n2_ n3_ n4_ n5_ n6_; clear hb hbox hg; have hnb19 := NB545_546.out; have hnc19 := NB546_545.out; have hcz20_0 : w18.cell? ⟨gb545, 0, none⟩ = some (.int .i64 a0_0) := (blk_cell BK545.out 0).trans rfl; have hcz20_1 : w18.cell? ⟨gb545, 1, none⟩ = some (.int .i64 a0_1) := (blk_cell BK545.out 1).trans rfl; have hcz20_2 : w18.cell? ⟨gb545, 2, none⟩ = some (.slice A0_2 l0_2.length c0_2) := (blk_cell BK545.out 2).trans rfl; have hfz20_0 := blk_frozen BK545.out 0; have hfz20_1 := blk_frozen BK545.out 1; have hfz20_2 := blk_frozen BK545.out 2; have hcz21_0 : w18.cell? ⟨gb546, 0, none⟩ = some (.int .i64 a1_0) := (blk_cell BK546.out 0).trans rfl; have hcz21_1 : w18.cell? ⟨gb546, 1, none⟩ = some (.int .i64 a1_1) := (blk_cell BK546.out 1).trans rfl; have hcz21_2 : w18.cell? ⟨gb546, 2, none⟩ = some (.slice A1_2 l1_2.length c1_2) := (blk_cell BK546.out 2).trans rfl; have hfz21_0 := blk_frozen BK546.out 0; have hfz21_1 := blk_frozen BK546.out 1; have hfz21_2 := blk_frozen BK546.out 2))
   go_ret
   exact ⟨by first | rfl | (simp [errW_none, errW_some] <;> rfl) | (simp [*, errW_none, errW_some] <;> rfl), by repeat (first | (with_reducible first | exact HB.out | apply below_alloc | apply pw_below_drewN | apply below_drew1 | refine below_set ?_ GE545.out | refine below_set ?_ GE546.out) | exact HB.out)⟩
 ·rw [if_neg c3] at H
  have c3b0 : (a0_0 == a1_0) = false := beq_eq_false_iff_ne.mpr c3
  have c3b1 : (a0_0 != a1_0) = true := bne_iff_ne.mpr c3
  obtain rfl := Option.some.inj H
  go_enter Try.func97, Try.ntmps97
  go_wp2_with (first | ((with_reducible refine gate_dst (N := 2) rfl ?_); refine box_event ?hg (N := 2) ?hd (cs := #[.int .i64 a0_0, .int .i64 a0_1, .slice A0_2 l0_2.length c0_2]) (t := 111) ?hr ?_; (case hd => rfl); (case hg => rfl); (case hr => first | (go_simp; done) | (go_simp; rfl)); intro gb545 hg w22 hbox hb; have n0_ := Aside0.mk (below_step zb hb); have n1_ := Aside0.mk (hbox); have n2_ := Aside0.mk ((by rw [hg]; exact (below_size zb) : w.heap.size ≤ gb545)); have n3_ := Aside0.mk ((by rw [hg]; exact (below_size zb) : w.heap.size ≤ gb545)); clear HB; have HB := n0_; have BK545 := n1_; have GW545 := n2_; have GE545 := n3_; clear n0_ n1_ n2_ n3_; clear hb hbox hg) | ((with_reducible refine gate_dst (N := 3) rfl ?_); refine box_event ?hg (N := 3) ?hd (cs := #[.int .i64 a1_0, .int .i64 a1_1, .slice A1_2 l1_2.length c1_2]) (t := 111) ?hr ?_; (case hd => rfl); (case hg => rfl); (case hr => first | (go_simp; done) | (go_simp; rfl)); intro gb546 hg w23 hbox hb; have n0_ := Aside0.mk (blk_below (g := gb545) (o := .cells #[.int .i64 a0_0, .int .i64 a0_1, .slice A0_2 l0_2.length c0_2] 111 (0, 0)) (zk BK545.out) hb); have n1_ := Aside0.mk (below_step (by repeat (first | (with_reducible first | exact HB.out | apply below_alloc | apply pw_below_drewN | apply below_drew1 | refine below_set ?_ GE545.out) | exact HB.out)) hb); have n2_ := Aside0.mk (hbox); have n3_ := Aside0.mk ((by rw [hg]; exact (below_size (by repeat (first | (with_reducible first | exact HB.out | apply below_alloc | apply pw_below_drewN | apply below_drew1 | refine below_set ?_ GE545.out) | exact HB.out))) : w.heap.size ≤ gb546)); have n4_ := Aside0.mk ((by rw [hg]; exact (below_size (by repeat (first | (with_reducible first | exact HB.out | apply below_alloc | apply pw_below_drewN | apply below_drew1 | refine below_set ?_ GE545.out) | exact HB.out))) : w.heap.size ≤ gb546)); have n5_ := Aside0.mk ((by rw [hg]; exact Nat.ne_of_lt (blk_lt (g := gb545) (o := .cells #[.int .i64 a0_0, .int .i64 a0_1, .slice A0_2 l0_2.length c0_2] 111 (0, 0)) (zk BK545.out)) : gb545 ≠ gb546)); have n6_ := Aside0.mk ((by rw [hg]; exact Nat.ne_of_gt (blk_lt (g := gb545) (o := .cells #[.int .i64 a0_0, .int .i64 a0_1, .slice A0_2 l0_2.length c0_2] 111 (0, 0)) (zk BK545.out)) : gb546 ≠ gb545)); clear BK545; clear HB; have BK545 := n0_; have HB := n1_; have BK546 := n2_; have GW546 := n3_; have GE546 := n4_; have NB545_546 := n5_; have NB546_545 := n6_; clear n0_ n1_ n2_ n3_ n4_ n5_ n6_; clear hb hbox hg; have hnb24 := NB545_546.out; have hnc24 := NB546_545.out; have hcz25_0 : w23.cell? ⟨gb545, 0, none⟩ = some (.int .i64 a0_0) := (blk_cell BK545.out 0).trans rfl; have hcz25_1 : w23.cell? ⟨gb545, 1, none⟩ = some (.int .i64 a0_1) := (blk_cell BK545.out 1).trans rfl; have hcz25_2 : w23.cell? ⟨gb545, 2, none⟩ = some (.slice A0_2 l0_2.length c0_2) := (blk_cell BK545.out 2).trans rfl; have hfz25_0 := blk_frozen BK545.out 0; have hfz25_1 := blk_frozen BK545.out 1; have hfz25_2 := blk_frozen BK545.out 2; have hcz26_0 : w23.cell? ⟨gb546, 0, none⟩ = some (.int .i64 a1_0) := (blk_cell BK546.out 0).trans rfl; have hcz26_1 : w23.cell? ⟨gb546, 1, none⟩ = some (.int .i64 a1_1) := (blk_cell BK546.out 1).trans rfl; have hcz26_2 : w23.cell? ⟨gb546, 2, none⟩ = some (.slice A1_2 l1_2.length c1_2) := (blk_cell BK546.out 2).trans rfl; have hfz26_0 := blk_frozen BK546.out 0; have hfz26_1 := blk_frozen BK546.out 1; have hfz26_2 := blk_frozen BK546.out 2))
  go_ret
  exact ⟨by first | rfl | (simp [errW_none, errW_some] <;> rfl) | (simp [*, errW_none, errW_some] <;> rfl), by repeat (first | (with_reducible first | exact HB.out | apply below_alloc | apply pw_below_drewN | apply below_drew1 | refine below_set ?_ GE545.out | refine below_set ?_ GE546.out) | exact HB.out)⟩

end Go.Proofs.Ytcefenlblnediaa.My

/- Written by this session's program (wip/gen): a plain function with the same answers as the Go function, and the proof that the Go code comes to them. Asked: that the plain function has an answer. -/
namespace Go.Proofs.Ytcefenlblnediaa.My
open Go.RowKit Go.Proofs.YtcefenlblnediaaW.PrintWords Go.Proofs.YtcefenlblnediaaW.PrintLast Go.Proofs.YtcefenlblnediaaW.PrintMore
attribute [local go_sem] max2_int min2_int max_two min_two max_three min_three max_four min_four
set_option linter.unusedVariables false
set_option linter.unusedSimpArgs false

/-! ### laws_eqHunkS: function 28 -/
def laws_eqHunkS.l0 : Nat → List (S111) → List (S111) → Int → Option (Bool)
 | 0, _, _, _ => none
 | k + 1, x0, x1, x5 => if x5 < (x0.length : Int) then (if 0 ≤ x5 then (if x5 < (x1.length : Int) then ((laws_eqHunk.f k ((rd_T111 x0 x5).f0) ((rd_T111 x0 x5).f1) ((rd_T111 x0 x5).f2) ((rd_T111 x1 x5).f0) ((rd_T111 x1 x5).f1) ((rd_T111 x1 x5).f2)).bind fun t550 => (if t550 = true then (laws_eqHunkS.l0 k x0 x1 (wrap64 (x5 + 1))) else (some false))) else (none)) else (none)) else (some true)
def laws_eqHunkS.f (k : Nat) (l0 : List (S111)) (l1 : List (S111)) : Option (Bool) := if (l0.length : Int) = (l1.length : Int) then (laws_eqHunkS.l0 k l0 l1 0) else (some false)
def laws_eqHunkS.T6 : Bool × List (List Nat × List Nat) := (true, [([], []), ([], []), ([0, 1], [0, 1]), ([2], [2]), ([], []), ([], []), ([4, 5], [4, 5]), ([6], [6]), ([3, 7], [3, 7]), ([8], [8])])
def laws_eqHunkS.B6 : List Nat := [0, 0, 3, 7, 0, 0, 48, 112, 255, 511]
theorem laws_eqHunkS.tab6 : rtab .any (opsOf Try.f28 6) = laws_eqHunkS.T6 := by kernel_rfl
theorem laws_eqHunkS.bits6 : waitsOk laws_eqHunkS.T6.2 laws_eqHunkS.B6 = true := by kernel_rfl
set_option maxHeartbeats 8000000 in
set_option maxRecDepth 100000 in
theorem laws_eqHunkS.calls (k : Nat) (A0 : Option Addr) (c0 : Nat) (l0 : List (S111)) (A1 : Option Addr) (c1 : Nat) (l1 : List (S111)) (r : Bool) (w : World) (hr0 : Kd.C k111 w A0 l0.length l0) (hc0 : l0.length ≤ c0) (hr1 : Kd.C k111 w A1 l1.length l1) (hc1 : l1.length ≤ c1) (h : laws_eqHunkS.f k l0 l1 = some r) :
  Calls Try.prog 28 #[.slice A0 l0.length c0, .slice A1 l1.length c1] w fun e w' => e = .returned (.bool r) ∧ Below w.heap.size w w' := by
 have hu111 := Try.underlying111
 have HR0 := Aside0.mk hr0
 have HC0 := Aside0.mk hc0
 clear hr0 hc0
 have HR1 := Aside0.mk hr1
 have HC1 := Aside0.mk hc1
 clear hr1 hc1
 have HB := Aside0.mk (Below.refl w.heap.size w)
 have H : (if (l0.length : Int) = (l1.length : Int) then (laws_eqHunkS.l0 k l0 l1 0) else (some false)) = some r := h
 clear h
 by_cases c3 : (l0.length : Int) = (l1.length : Int)
 ·rw [if_pos c3] at H
  have c3b0 : ((l0.length : Int) == (l1.length : Int)) = true := beq_iff_eq.mpr c3
  have c3b1 : ((l0.length : Int) != (l1.length : Int)) = false := bne_eq_false_iff_eq.mpr c3
  have c3b2 : (l0.length == l1.length) = true := by first | simpa using c3 | (simp at c3 ⊢; omega)
  clear c3
  have H' := Aside0.mk H
  clear H
  go_enter Try.func28, Try.ntmps28
  go_wp2
  go_loopg [5] k (fun kq v5 w' => ∃ (x5_1 : Int), v5 = .int .i64 x5_1 ∧ Aside0 (laws_eqHunkS.l0 kq l0 l1 x5_1 = some r) ∧ Aside0 (kq ≤ k) ∧ Aside0 (Below w.heap.size w w'))
  case atStart => exact ⟨(0), zf, H', ⟨Nat.le_refl _⟩, ⟨by repeat (first | (with_reducible first | exact HB.out | apply below_alloc | apply pw_below_drewN | apply below_drew1) | exact HB.out)⟩⟩
  case round =>
   clear H'
   try clear c1
   try clear c2
   try clear p2
   try clear c3
   try clear c3b0
   try clear c3b1
   try clear c3b2
   obtain ⟨x5_1, rfl, HA, HK1, HB⟩ := hrel
   cases gk with
   | zero => exact absurd HA.out (by simp [laws_eqHunkS.l0])
   | succ k1 =>
    have H := HA.out
    clear HA
    simp only [laws_eqHunkS.l0] at H
    by_cases c4 : x5_1 < (l0.length : Int)
    ·rw [if_pos c4] at H
     have c4b0 : decide (x5_1 < (l0.length : Int)) = true := decide_eq_true c4
     clear c4
     by_cases c5 : 0 ≤ x5_1
     ·rw [if_pos c5] at H
      have c5b0 : decide (0 ≤ x5_1) = true := decide_eq_true c5
      clear c5
      by_cases c6 : x5_1 < (l1.length : Int)
      ·rw [if_pos c6] at H
       have c6b0 : decide (x5_1 < (l1.length : Int)) = true := decide_eq_true c6
       clear c6
       replace H := Option.bind_eq_some_iff.mp H
       obtain ⟨t550, A70, H⟩ := H
       replace H : (if t550 = true then (laws_eqHunkS.l0 k1 l0 l1 (wrap64 (x5_1 + 1))) else (some false)) = some r := H
       have A7 := Aside0.mk A70
       clear A70
       by_cases c8 : t550 = true
       ·subst c8
        have H1 : (laws_eqHunkS.l0 k1 l0 l1 (wrap64 (x5_1 + 1))) = some r := by rw [if_pos rfl] at H; exact H
        clear H
        have H := H1
        clear H1
        have H' := Aside0.mk H
        clear H
        try go_wp2
        have n0_ := Aside0.mk (below_drew1 HB.out)
        clear HB
        have HB := n0_
        clear n0_
        have p548 : 0 ≤ (x5_1 : Int) := oa
        have q548 : x5_1 < (l0.length : Int) := oa
        obtain ⟨ad548, A548_2, c548_2, e548, hx548_0, hx548_1, hx548_2, hl548_2, hi548_2⟩ := at_T111 HR0.out x5_1 p548 q548
        have hw548_2 := hx548_2
        have hw548_1 := hx548_1
        have hw548_0 := hx548_0
        cases e548
        replace hx548_0 := (HB.out.cell (World.block_lt_of_cell? w _ hx548_0)).trans hx548_0
        replace hx548_1 := (HB.out.cell (World.block_lt_of_cell? w _ hx548_1)).trans hx548_1
        replace hx548_2 := (HB.out.cell (World.block_lt_of_cell? w _ hx548_2)).trans hx548_2
        have HR548_2 := Aside0.mk hi548_2
        have HC548_2 := Aside0.mk hl548_2
        clear hi548_2 hl548_2
        replace p548 := eq_true p548
        replace q548 := eq_true q548
        have p549 : 0 ≤ (x5_1 : Int) := oa
        have q549 : x5_1 < (l1.length : Int) := oa
        obtain ⟨ad549, A549_2, c549_2, e549, hx549_0, hx549_1, hx549_2, hl549_2, hi549_2⟩ := at_T111 HR1.out x5_1 p549 q549
        have hw549_2 := hx549_2
        have hw549_1 := hx549_1
        have hw549_0 := hx549_0
        cases e549
        replace hx549_0 := (HB.out.cell (World.block_lt_of_cell? w _ hx549_0)).trans hx549_0
        replace hx549_1 := (HB.out.cell (World.block_lt_of_cell? w _ hx549_1)).trans hx549_1
        replace hx549_2 := (HB.out.cell (World.block_lt_of_cell? w _ hx549_2)).trans hx549_2
        have HR549_2 := Aside0.mk hi549_2
        have HC549_2 := Aside0.mk hl549_2
        clear hi549_2 hl549_2
        replace p549 := eq_true p549
        replace q549 := eq_true q549
        refine start_ (n := 10) (S := fun w' => w'.cell? (ad548.add ((x5_1).toNat * 3)) = some (.int .i64 ((rd_T111 l0 x5_1).f0)) ∧ w'.cell? ⟨(ad548.add ((x5_1).toNat * 3)).block, (ad548.add ((x5_1).toNat * 3)).off + 1, none⟩ = some (.int .i64 ((rd_T111 l0 x5_1).f1)) ∧ w'.cell? ⟨(ad548.add ((x5_1).toNat * 3)).block, (ad548.add ((x5_1).toNat * 3)).off + 2, none⟩ = some (.slice A548_2 ((rd_T111 l0 x5_1).f2).length c548_2) ∧ w'.cell? (ad549.add ((x5_1).toNat * 3)) = some (.int .i64 ((rd_T111 l1 x5_1).f0)) ∧ w'.cell? ⟨(ad549.add ((x5_1).toNat * 3)).block, (ad549.add ((x5_1).toNat * 3)).off + 1, none⟩ = some (.int .i64 ((rd_T111 l1 x5_1).f1)) ∧ w'.cell? ⟨(ad549.add ((x5_1).toNat * 3)).block, (ad549.add ((x5_1).toNat * 3)).off + 2, none⟩ = some (.slice A549_2 ((rd_T111 l1 x5_1).f2).length c549_2)) (ds := []) #[O,O,O,O,O,O,O,O,O,O] (by kernel_rfl) rfl rfl ⟨((HB.out.cell (World.block_lt_of_cell? w _ hw548_0)).trans hw548_0), ((HB.out.cell (World.block_lt_of_cell? w _ hw548_1)).trans hw548_1), ((HB.out.cell (World.block_lt_of_cell? w _ hw548_2)).trans hw548_2), ((HB.out.cell (World.block_lt_of_cell? w _ hw549_0)).trans hw549_0), ((HB.out.cell (World.block_lt_of_cell? w _ hw549_1)).trans hw549_1), ((HB.out.cell (World.block_lt_of_cell? w _ hw549_2)).trans hw549_2)⟩ (fun hHeld => ?_); refine with_tabW laws_eqHunkS.tab6 laws_eqHunkS.bits6 (fun HT_ HW_ => ?_)
        generalize wr.drew = w9 at HB HR548_2 HR549_2 hx548_0 hx548_1 hx548_2 hx549_0 hx549_1 hx549_2 hHeld ⊢
        refine pure_ (i := 0) (N := some 17) (v := ?_) (a' := ?_) #[Y,O,O,O,O,O,O,O,O,O] rfl rfl zx (fun _ _ _ h => h) (Or.inl ⟨by rfl, ?_⟩) ?_ ?_
        rotate_left; (intro w'; go_simp; with_reducible rfl); rotate_left; (simp only [Act.put,qa,qb,qc,i64_w,i32_w]; rfl)
        refine pure_ (i := 1) (N := some 18) (v := ?_) (a' := ?_) #[Y,Y,O,O,O,O,O,O,O,O] rfl rfl zx (fun _ _ _ h => h) (Or.inl ⟨by rfl, ?_⟩) ?_ ?_
        rotate_left; (intro w'; go_simp; with_reducible rfl); rotate_left; (simp only [Act.put,qa,qb,qc,i64_w,i32_w]; rfl)
        refine pure_ (i := 2) (N := some 19) (v := ?_) (a' := ?_) #[Y,Y,Y,O,O,O,O,O,O,O] rfl rfl zx (fun _ _ _ h => h) (Or.inl ⟨by rfl, ?_⟩) ?_ ?_
        rotate_left; (intro w'; go_simp; with_reducible rfl); rotate_left; (simp only [Act.put,qa,qb,qc,i64_w,i32_w]; rfl)
        refine pure_ (i := 4) (N := some 21) (v := ?_) (a' := ?_) #[Y,Y,Y,O,Y,O,O,O,O,O] rfl rfl zx (fun _ _ _ h => h) (Or.inl ⟨by rfl, ?_⟩) ?_ ?_
        rotate_left; (intro w'; go_simp; with_reducible rfl); rotate_left; (simp only [Act.put,qa,qb,qc,i64_w,i32_w]; rfl)
        refine pure_ (i := 5) (N := some 22) (v := ?_) (a' := ?_) #[Y,Y,Y,O,Y,Y,O,O,O,O] rfl rfl zx (fun _ _ _ h => h) (Or.inl ⟨by rfl, ?_⟩) ?_ ?_
        rotate_left; (intro w'; go_simp; with_reducible rfl); rotate_left; (simp only [Act.put,qa,qb,qc,i64_w,i32_w]; rfl)
        refine pure_ (i := 6) (N := some 23) (v := ?_) (a' := ?_) #[Y,Y,Y,O,Y,Y,Y,O,O,O] rfl rfl zx (fun _ _ _ h => h) (Or.inl ⟨by rfl, ?_⟩) ?_ ?_
        rotate_left; (intro w'; go_simp; with_reducible rfl); rotate_left; (simp only [Act.put,qa,qb,qc,i64_w,i32_w]; rfl)
        refine take_ (i := 3) (N := some 20) (v := ?_) (a' := ?_) #[Y,Y,Y,Y,Y,Y,Y,O,O,O] rfl rfl (take_ofW HT_.out HW_.out (by kernel_rfl)) (fun _ _ _ h => h) (Or.inl ⟨by rfl, ?_⟩) hHeld ?_ ?_
        rotate_left; (rintro w' ⟨s0, s1, s2, s3, s4, s5⟩; go_simp; with_reducible rfl); rotate_left; (simp only [Act.put,qa,qb,qc,i64_w,i32_w]; rfl)
        refine take_ (i := 7) (N := some 24) (v := ?_) (a' := ?_) #[Y,Y,Y,Y,Y,Y,Y,Y,O,O] rfl rfl (take_ofW HT_.out HW_.out (by kernel_rfl)) (fun _ _ _ h => h) (Or.inl ⟨by rfl, ?_⟩) hHeld ?_ ?_
        rotate_left; (rintro w' ⟨s0, s1, s2, s3, s4, s5⟩; go_simp; with_reducible rfl); rotate_left; (simp only [Act.put,qa,qb,qc,i64_w,i32_w]; rfl)
        refine one_ (i := 8) (N := some 25) #[Y,Y,Y,Y,Y,Y,Y,Y,Y,O] rfl rfl (one_of HT_.out (by kernel_rfl)) (by decide) (fun K hK => ?_)
        refine goes_ Try.func97 (by kernel_rfl) rfl #[.agg #[.int .i64 ((rd_T111 l0 x5_1).f0), .int .i64 ((rd_T111 l0 x5_1).f1), .slice A548_2 ((rd_T111 l0 x5_1).f2).length c548_2], .agg #[.int .i64 ((rd_T111 l1 x5_1).f0), .int .i64 ((rd_T111 l1 x5_1).f1), .slice A549_2 ((rd_T111 l1 x5_1).f2).length c549_2]] (by rfl) rfl rfl zm ?_
        with_reducible refine (laws_eqHunk.calls k1 ((rd_T111 l0 x5_1).f0) ((rd_T111 l0 x5_1).f1) _ _ ((rd_T111 l0 x5_1).f2) ((rd_T111 l1 x5_1).f0) ((rd_T111 l1 x5_1).f1) _ _ ((rd_T111 l1 x5_1).f2) true _ ?side1 ?side2 ?side3 ?side4 A7.out).mono ?_
        (case side1 => exact zq (Kd.C_below HR548_2.out HB.out))
        (case side2 => exact HC548_2.out)
        (case side3 => exact zq (Kd.C_below HR549_2.out HB.out))
        (case side4 => exact HC549_2.out)
        rintro e w10 ⟨rfl, hb⟩
        refine ⟨_, rfl, ?_⟩
        have n0_ := Aside0.mk (below_step zb hb)
        clear HB
        have HB := n0_
        clear n0_
        (try clear hb)
        (try clear hb2)
        (try clear hk)
        (try clear hi)
        refine hK.out _ _ ⟨((HB.out.cell (World.block_lt_of_cell? w _ hw548_0)).trans hw548_0), ((HB.out.cell (World.block_lt_of_cell? w _ hw548_1)).trans hw548_1), ((HB.out.cell (World.block_lt_of_cell? w _ hw548_2)).trans hw548_2), ((HB.out.cell (World.block_lt_of_cell? w _ hw549_0)).trans hw549_0), ((HB.out.cell (World.block_lt_of_cell? w _ hw549_1)).trans hw549_1), ((HB.out.cell (World.block_lt_of_cell? w _ hw549_2)).trans hw549_2)⟩ (fun hHeld => ?_)
        clear hK K
        refine norm_ (a' := ?_) ?_ ?_
        rotate_left
        ·show Act.put _ (some 25) _ = _
         simp only [Act.put,qa,qb,qc,i64_w,i32_w]
         rfl
        refine pure_ (i := 9) (N := some 26) (v := ?_) (a' := ?_) #[Y,Y,Y,Y,Y,Y,Y,Y,Y,Y] rfl rfl zx (fun _ _ _ h => h) (Or.inl ⟨by rfl, ?_⟩) ?_ ?_
        rotate_left; (intro w'; go_simp; with_reducible rfl); rotate_left; (simp only [Act.put,qa,qb,qc,i64_w,i32_w]; rfl)
        refine done_ (done_of HT_.out (by kernel_rfl)) ?_
        try go_wp2
        go_roundg k1
        case measure => have := HK1.out; omega
        case rel => exact ⟨(wrap64 (x5_1 + 1)), zf, H', ⟨by have := HK1.out; omega⟩, ⟨by repeat (first | (with_reducible first | exact HB.out | apply below_alloc | apply pw_below_drewN | apply below_drew1) | exact HB.out)⟩⟩
       ·replace c8 := Bool.eq_false_iff.mpr c8
        subst c8
        have H1 : (some false) = some r := by rw [if_neg (show ¬ (false = true) by decide)] at H; exact H
        clear H
        have H := H1
        clear H1
        obtain rfl := Option.some.inj H
        try go_wp2
        have n0_ := Aside0.mk (below_drew1 HB.out)
        clear HB
        have HB := n0_
        clear n0_
        have p548 : 0 ≤ (x5_1 : Int) := oa
        have q548 : x5_1 < (l0.length : Int) := oa
        obtain ⟨ad548, A548_2, c548_2, e548, hx548_0, hx548_1, hx548_2, hl548_2, hi548_2⟩ := at_T111 HR0.out x5_1 p548 q548
        have hw548_2 := hx548_2
        have hw548_1 := hx548_1
        have hw548_0 := hx548_0
        cases e548
        replace hx548_0 := (HB.out.cell (World.block_lt_of_cell? w _ hx548_0)).trans hx548_0
        replace hx548_1 := (HB.out.cell (World.block_lt_of_cell? w _ hx548_1)).trans hx548_1
        replace hx548_2 := (HB.out.cell (World.block_lt_of_cell? w _ hx548_2)).trans hx548_2
        have HR548_2 := Aside0.mk hi548_2
        have HC548_2 := Aside0.mk hl548_2
        clear hi548_2 hl548_2
        replace p548 := eq_true p548
        replace q548 := eq_true q548
        have p549 : 0 ≤ (x5_1 : Int) := oa
        have q549 : x5_1 < (l1.length : Int) := oa
        obtain ⟨ad549, A549_2, c549_2, e549, hx549_0, hx549_1, hx549_2, hl549_2, hi549_2⟩ := at_T111 HR1.out x5_1 p549 q549
        have hw549_2 := hx549_2
        have hw549_1 := hx549_1
        have hw549_0 := hx549_0
        cases e549
        replace hx549_0 := (HB.out.cell (World.block_lt_of_cell? w _ hx549_0)).trans hx549_0
        replace hx549_1 := (HB.out.cell (World.block_lt_of_cell? w _ hx549_1)).trans hx549_1
        replace hx549_2 := (HB.out.cell (World.block_lt_of_cell? w _ hx549_2)).trans hx549_2
        have HR549_2 := Aside0.mk hi549_2
        have HC549_2 := Aside0.mk hl549_2
        clear hi549_2 hl549_2
        replace p549 := eq_true p549
        replace q549 := eq_true q549
        refine start_ (n := 10) (S := fun w' => w'.cell? (ad548.add ((x5_1).toNat * 3)) = some (.int .i64 ((rd_T111 l0 x5_1).f0)) ∧ w'.cell? ⟨(ad548.add ((x5_1).toNat * 3)).block, (ad548.add ((x5_1).toNat * 3)).off + 1, none⟩ = some (.int .i64 ((rd_T111 l0 x5_1).f1)) ∧ w'.cell? ⟨(ad548.add ((x5_1).toNat * 3)).block, (ad548.add ((x5_1).toNat * 3)).off + 2, none⟩ = some (.slice A548_2 ((rd_T111 l0 x5_1).f2).length c548_2) ∧ w'.cell? (ad549.add ((x5_1).toNat * 3)) = some (.int .i64 ((rd_T111 l1 x5_1).f0)) ∧ w'.cell? ⟨(ad549.add ((x5_1).toNat * 3)).block, (ad549.add ((x5_1).toNat * 3)).off + 1, none⟩ = some (.int .i64 ((rd_T111 l1 x5_1).f1)) ∧ w'.cell? ⟨(ad549.add ((x5_1).toNat * 3)).block, (ad549.add ((x5_1).toNat * 3)).off + 2, none⟩ = some (.slice A549_2 ((rd_T111 l1 x5_1).f2).length c549_2)) (ds := []) #[O,O,O,O,O,O,O,O,O,O] (by kernel_rfl) rfl rfl ⟨((HB.out.cell (World.block_lt_of_cell? w _ hw548_0)).trans hw548_0), ((HB.out.cell (World.block_lt_of_cell? w _ hw548_1)).trans hw548_1), ((HB.out.cell (World.block_lt_of_cell? w _ hw548_2)).trans hw548_2), ((HB.out.cell (World.block_lt_of_cell? w _ hw549_0)).trans hw549_0), ((HB.out.cell (World.block_lt_of_cell? w _ hw549_1)).trans hw549_1), ((HB.out.cell (World.block_lt_of_cell? w _ hw549_2)).trans hw549_2)⟩ (fun hHeld => ?_); refine with_tabW laws_eqHunkS.tab6 laws_eqHunkS.bits6 (fun HT_ HW_ => ?_)
        generalize wr.drew = w11 at HB HR548_2 HR549_2 hx548_0 hx548_1 hx548_2 hx549_0 hx549_1 hx549_2 hHeld ⊢
        refine pure_ (i := 0) (N := some 17) (v := ?_) (a' := ?_) #[Y,O,O,O,O,O,O,O,O,O] rfl rfl zx (fun _ _ _ h => h) (Or.inl ⟨by rfl, ?_⟩) ?_ ?_
        rotate_left; (intro w'; go_simp; with_reducible rfl); rotate_left; (simp only [Act.put,qa,qb,qc,i64_w,i32_w]; rfl)
        refine pure_ (i := 1) (N := some 18) (v := ?_) (a' := ?_) #[Y,Y,O,O,O,O,O,O,O,O] rfl rfl zx (fun _ _ _ h => h) (Or.inl ⟨by rfl, ?_⟩) ?_ ?_
        rotate_left; (intro w'; go_simp; with_reducible rfl); rotate_left; (simp only [Act.put,qa,qb,qc,i64_w,i32_w]; rfl)
        refine pure_ (i := 2) (N := some 19) (v := ?_) (a' := ?_) #[Y,Y,Y,O,O,O,O,O,O,O] rfl rfl zx (fun _ _ _ h => h) (Or.inl ⟨by rfl, ?_⟩) ?_ ?_
        rotate_left; (intro w'; go_simp; with_reducible rfl); rotate_left; (simp only [Act.put,qa,qb,qc,i64_w,i32_w]; rfl)
        refine pure_ (i := 4) (N := some 21) (v := ?_) (a' := ?_) #[Y,Y,Y,O,Y,O,O,O,O,O] rfl rfl zx (fun _ _ _ h => h) (Or.inl ⟨by rfl, ?_⟩) ?_ ?_
        rotate_left; (intro w'; go_simp; with_reducible rfl); rotate_left; (simp only [Act.put,qa,qb,qc,i64_w,i32_w]; rfl)
        refine pure_ (i := 5) (N := some 22) (v := ?_) (a' := ?_) #[Y,Y,Y,O,Y,Y,O,O,O,O] rfl rfl zx (fun _ _ _ h => h) (Or.inl ⟨by rfl, ?_⟩) ?_ ?_
        rotate_left; (intro w'; go_simp; with_reducible rfl); rotate_left; (simp only [Act.put,qa,qb,qc,i64_w,i32_w]; rfl)
        refine pure_ (i := 6) (N := some 23) (v := ?_) (a' := ?_) #[Y,Y,Y,O,Y,Y,Y,O,O,O] rfl rfl zx (fun _ _ _ h => h) (Or.inl ⟨by rfl, ?_⟩) ?_ ?_
        rotate_left; (intro w'; go_simp; with_reducible rfl); rotate_left; (simp only [Act.put,qa,qb,qc,i64_w,i32_w]; rfl)
        refine take_ (i := 3) (N := some 20) (v := ?_) (a' := ?_) #[Y,Y,Y,Y,Y,Y,Y,O,O,O] rfl rfl (take_ofW HT_.out HW_.out (by kernel_rfl)) (fun _ _ _ h => h) (Or.inl ⟨by rfl, ?_⟩) hHeld ?_ ?_
        rotate_left; (rintro w' ⟨s0, s1, s2, s3, s4, s5⟩; go_simp; with_reducible rfl); rotate_left; (simp only [Act.put,qa,qb,qc,i64_w,i32_w]; rfl)
        refine take_ (i := 7) (N := some 24) (v := ?_) (a' := ?_) #[Y,Y,Y,Y,Y,Y,Y,Y,O,O] rfl rfl (take_ofW HT_.out HW_.out (by kernel_rfl)) (fun _ _ _ h => h) (Or.inl ⟨by rfl, ?_⟩) hHeld ?_ ?_
        rotate_left; (rintro w' ⟨s0, s1, s2, s3, s4, s5⟩; go_simp; with_reducible rfl); rotate_left; (simp only [Act.put,qa,qb,qc,i64_w,i32_w]; rfl)
        refine one_ (i := 8) (N := some 25) #[Y,Y,Y,Y,Y,Y,Y,Y,Y,O] rfl rfl (one_of HT_.out (by kernel_rfl)) (by decide) (fun K hK => ?_)
        refine goes_ Try.func97 (by kernel_rfl) rfl #[.agg #[.int .i64 ((rd_T111 l0 x5_1).f0), .int .i64 ((rd_T111 l0 x5_1).f1), .slice A548_2 ((rd_T111 l0 x5_1).f2).length c548_2], .agg #[.int .i64 ((rd_T111 l1 x5_1).f0), .int .i64 ((rd_T111 l1 x5_1).f1), .slice A549_2 ((rd_T111 l1 x5_1).f2).length c549_2]] (by rfl) rfl rfl zm ?_
        with_reducible refine (laws_eqHunk.calls k1 ((rd_T111 l0 x5_1).f0) ((rd_T111 l0 x5_1).f1) _ _ ((rd_T111 l0 x5_1).f2) ((rd_T111 l1 x5_1).f0) ((rd_T111 l1 x5_1).f1) _ _ ((rd_T111 l1 x5_1).f2) false _ ?side1 ?side2 ?side3 ?side4 A7.out).mono ?_
        (case side1 => exact zq (Kd.C_below HR548_2.out HB.out))
        (case side2 => exact HC548_2.out)
        (case side3 => exact zq (Kd.C_below HR549_2.out HB.out))
        (case side4 => exact HC549_2.out)
        rintro e w12 ⟨rfl, hb⟩
        refine ⟨_, rfl, ?_⟩
        have n0_ := Aside0.mk (below_step zb hb)
        clear HB
        have HB := n0_
        clear n0_
        (try clear hb)
        (try clear hb2)
        (try clear hk)
        (try clear hi)
        refine hK.out _ _ ⟨((HB.out.cell (World.block_lt_of_cell? w _ hw548_0)).trans hw548_0), ((HB.out.cell (World.block_lt_of_cell? w _ hw548_1)).trans hw548_1), ((HB.out.cell (World.block_lt_of_cell? w _ hw548_2)).trans hw548_2), ((HB.out.cell (World.block_lt_of_cell? w _ hw549_0)).trans hw549_0), ((HB.out.cell (World.block_lt_of_cell? w _ hw549_1)).trans hw549_1), ((HB.out.cell (World.block_lt_of_cell? w _ hw549_2)).trans hw549_2)⟩ (fun hHeld => ?_)
        clear hK K
        refine norm_ (a' := ?_) ?_ ?_
        rotate_left
        ·show Act.put _ (some 25) _ = _
         simp only [Act.put,qa,qb,qc,i64_w,i32_w]
         rfl
        refine pure_ (i := 9) (N := some 26) (v := ?_) (a' := ?_) #[Y,Y,Y,Y,Y,Y,Y,Y,Y,Y] rfl rfl zx (fun _ _ _ h => h) (Or.inl ⟨by rfl, ?_⟩) ?_ ?_
        rotate_left; (intro w'; go_simp; with_reducible rfl); rotate_left; (simp only [Act.put,qa,qb,qc,i64_w,i32_w]; rfl)
        refine done_ (done_of HT_.out (by kernel_rfl)) ?_
        try go_wp2
        go_ret
        exact ⟨by first | rfl | (simp [errW_none, errW_some] <;> rfl) | (simp [*, errW_none, errW_some] <;> rfl), by repeat (first | (with_reducible first | exact HB.out | apply below_alloc | apply pw_below_drewN | apply below_drew1) | exact HB.out)⟩
      ·rw [if_neg c6] at H
       exact absurd H (by simp)
     ·rw [if_neg c5] at H
      exact absurd H (by simp)
    ·rw [if_neg c4] at H
     have c4b0 : decide (x5_1 < (l0.length : Int)) = false := decide_eq_false c4
     clear c4
     obtain rfl := Option.some.inj H
     go_wp2
     go_ret
     exact ⟨by first | rfl | (simp [errW_none, errW_some] <;> rfl) | (simp [*, errW_none, errW_some] <;> rfl), by repeat (first | (with_reducible first | exact HB.out | apply below_alloc | apply pw_below_drewN | apply below_drew1) | exact HB.out)⟩
 ·rw [if_neg c3] at H
  have c3b0 : ((l0.length : Int) == (l1.length : Int)) = false := beq_eq_false_iff_ne.mpr c3
  have c3b1 : ((l0.length : Int) != (l1.length : Int)) = true := bne_iff_ne.mpr c3
  have c3b2 : (l0.length == l1.length) = false := by first | simpa using c3 | (simp at c3 ⊢; omega)
  obtain rfl := Option.some.inj H
  go_enter Try.func28, Try.ntmps28
  go_wp2
  go_ret
  exact ⟨by first | rfl | (simp [errW_none, errW_some] <;> rfl) | (simp [*, errW_none, errW_some] <;> rfl), by repeat (first | (with_reducible first | exact HB.out | apply below_alloc | apply pw_below_drewN | apply below_drew1) | exact HB.out)⟩

end Go.Proofs.Ytcefenlblnediaa.My

/- Plain Lean: what the laws' helpers on hunks come to, and whether hunks are the same. Conditions: lengths and sizes below 2^63. -/
namespace Go.Proofs.Ytcefenlblnediaa.Pl
open Go.RowKit Go.Proofs.YtcefenlblnediaaW.PrintWords Go.Proofs.YtcefenlblnediaaW.PrintLast Go.Proofs.Ytcefenlblnediaa.My
set_option linter.unusedVariables false
set_option linter.unusedSimpArgs false

abbrev LH := S107
abbrev IH := S111
def toH (x : LH) : IH := ⟨x.f0, x.f1, x.f2⟩
def FitH (l : List LH) : Prop := l.length ≤ 9223372036854775807 ∧ ∀ x ∈ l, Wint x.f0 ∧ Wint x.f1 ∧ FitS x.f2
def szH (l : List LH) : Nat := l.length + (l.map fun x => szS x.f2).sum

theorem fitH_of_wl {l : List LH} (h : WL W107 l) : FitH l := by
  refine ⟨h.1, fun x hx => ?_⟩
  obtain ⟨h0, h1, h2⟩ := h.2 x hx
  exact ⟨h0, h1, fitS_of_wl h2⟩

theorem sumH_drop (l : List LH) (i : Nat) (h : i < l.length) : ((l.drop i).map fun x => szS x.f2).sum = szS l[i].f2 + ((l.drop (i + 1)).map fun x => szS x.f2).sum := by
  rw [List.drop_eq_getElem_cons h, List.map_cons, List.sum_cons]

theorem sumH_mem (l : List LH) (x : LH) (h : x ∈ l) : szS x.f2 ≤ szH l := by
  unfold szH
  induction l with
  | nil => simp at h
  | cons a l ih =>
    simp only [List.map_cons, List.sum_cons, List.length_cons]
    rcases List.mem_cons.1 h with rfl | h
    · omega
    · have := ih h
      omega

theorem rdLH (l : List LH) (i : Nat) (h : i < l.length) : rd_T107 l (i : Int) = l[i] := getD_lt l _ i h
theorem rdIH (l : List IH) (i : Nat) (h : i < l.length) : rd_T111 l (i : Int) = l[i] := getD_lt l _ i h

theorem szHunkS_l0 (l : List LH) (hf : FitH l) : ∀ d i (a : Int), i + d = l.length → 0 ≤ a → a ≤ 1048576 → ∃ r, Ev (fun k => laws_szHunkS.l0 k l a (i : Int)) r ∧ leftOf a (((l.drop i).map fun x => szS x.f2).sum) r := by
  intro d
  have hL := hf.1
  induction d with
  | zero =>
    intro i a hi h0 h1
    refine ⟨a, Ev.step (fun k => laws_szHunkS.l0.eq_2 ..) (ev_neg (by omega) (ev_some rfl)), .inr ⟨h0, ?_⟩⟩
    rw [List.drop_of_length_le (by omega)]
    simp
  | succ d ih =>
    intro i a hi h0 h1
    have hlt : i < l.length := by omega
    obtain ⟨q, hq, hm⟩ := szStringS_ev l[i].f2 (hf.2 _ (List.getElem_mem hlt)).2.2 a h0 h1
    rw [sumH_drop l i hlt]
    have hz : Ev (fun k => laws_szHunk.f k (rd_T107 l (i : Int)).f0 (rd_T107 l (i : Int)).f1 (rd_T107 l (i : Int)).f2 a) (if q < 0 then -1 else q) := by
      rw [rdLH l i hlt]
      simp only [laws_szHunk.f]
      refine ev_bind hq (ev_ite (fun h => ev_some (by rw [if_pos h])) (fun h => ev_some (by rw [if_neg h])))
    by_cases h : q < 0
    · rw [if_pos h] at hz
      exact ⟨-1, Ev.step (fun k => laws_szHunkS.l0.eq_2 ..) (ev_pos (by omega) (ev_pos (by omega) (ev_bind hz (ev_pos (by omega) (ev_some rfl))))), .inl (by omega)⟩
    · rw [if_neg h] at hz
      obtain ⟨r, hr, hl⟩ := ih (i + 1) q (by omega) (by omega) (by rcases hm with hm | hm <;> omega)
      refine ⟨r, Ev.step (fun k => laws_szHunkS.l0.eq_2 ..) (ev_pos (by omega) (ev_pos (by omega) (ev_bind hz (ev_neg h ?_)))), ?_⟩
      · rw [wrap_succ i (by omega)]
        exact hr
      · rcases hl with hl | hl
        · exact .inl hl
        · rcases hm with hm | hm
          · omega
          · exact .inr (by omega)

theorem szHunkS_ev (l : List LH) (hf : FitH l) (a : Int) (h0 : 0 ≤ a) (h1 : a ≤ 1048576) : ∃ r, Ev (fun k => laws_szHunkS.f k l a) r ∧ leftOf a (szH l) r := by
  have hL := hf.1
  simp only [laws_szHunkS.f]
  rw [wrap64_id (by omega) (by omega)]
  by_cases h : a - (l.length : Int) < 0
  · exact ⟨-1, ev_pos h (ev_some rfl), .inl (by omega)⟩
  · obtain ⟨r, hr, hl⟩ := szHunkS_l0 l hf l.length 0 (a - (l.length : Int)) (by omega) (by omega) (by omega)
    refine ⟨r, ev_neg h hr, ?_⟩
    rcases hl with hl | hl
    · exact .inl hl
    · rw [List.drop_zero] at hl
      exact .inr (by unfold szH; omega)

/-- Small enough to be copied. -/
def SmallH (l : List LH) : Prop := l.length ≤ 1048576 ∧ ∀ x ∈ l, x.f2.length ≤ 1048576
theorem smallH {l : List LH} (h : szH l ≤ 1048576) : SmallH l := by
  refine ⟨by unfold szH at h; omega, fun x hx => ?_⟩
  have := sumH_mem l x hx
  unfold szS at this
  omega

theorem toHunkS_l0 (l : List LH) (hs : SmallH l) : ∀ d i (o : List IH), i + d = l.length → o.length = l.length → o.take i = (l.map toH).take i → Ev (fun k => laws_toHunkS.l0 k l o (i : Int)) (l.map toH) := by
  intro d
  have hL := hs.1
  induction d with
  | zero =>
    intro i o hi hl ht
    refine Ev.step (fun k => laws_toHunkS.l0.eq_2 ..) (ev_neg (by omega) (ev_some ?_))
    rw [List.take_of_length_le (by omega), List.take_of_length_le (by rw [List.length_map]; omega)] at ht
    exact ht
  | succ d ih =>
    intro i o hi hl ht
    have hlt : i < l.length := by omega
    have hx : Ev (fun k => laws_toHunk.f k (rd_T107 l (i : Int)).f0 (rd_T107 l (i : Int)).f1 (rd_T107 l (i : Int)).f2) (l[i].f0, l[i].f1, l[i].f2) := by
      rw [rdLH l i hlt]
      simp only [laws_toHunk.f]
      exact ev_bind (toStringS_ev _ (by have := hs.2 _ (List.getElem_mem hlt); omega)) (ev_some rfl)
    refine Ev.step (fun k => laws_toHunkS.l0.eq_2 ..) (ev_pos (by omega) (ev_pos (by omega) (ev_bind hx (ev_pos (by omega) ?_))))
    rw [wrap_succ i (by omega), Int.toNat_natCast]
    refine ih (i + 1) _ (by omega) (by rw [List.length_set]; exact hl) ?_
    rw [List.take_succ_eq_append_getElem (by rw [List.length_set]; omega), List.take_succ_eq_append_getElem (by rw [List.length_map]; exact hlt), List.getElem_set_self, List.take_set_of_le (Nat.le_refl i), ht, List.getElem_map]
    rfl

theorem toHunkS_ev (l : List LH) (hs : SmallH l) : Ev (fun k => laws_toHunkS.f k l) (l.map toH) := by
  have hL := hs.1
  simp only [laws_toHunkS.f]
  refine ev_pos (by omega) (ev_pos (by omega) ?_)
  exact toHunkS_l0 l hs l.length 0 _ (by omega) (by simp) rfl

theorem ih_ext {x y : IH} (h0 : x.f0 = y.f0) (h1 : x.f1 = y.f1) (h2 : x.f2 = y.f2) : x = y := by
  cases x; cases y; simp_all

/-- Hunks that came in fit. -/
def FitI (l : List IH) : Prop := l.length ≤ 9223372036854775807 ∧ ∀ x ∈ l, (-9223372036854775808 ≤ x.f0 ∧ x.f0 ≤ 9223372036854775807) ∧ (-9223372036854775808 ≤ x.f1 ∧ x.f1 ≤ 9223372036854775807) ∧ FitS x.f2

theorem fitI_of {l : List LH} (h : FitH l) : FitI (l.map toH) := by
  refine ⟨by rw [List.length_map]; exact h.1, fun x hx => ?_⟩
  obtain ⟨y, hy, rfl⟩ := List.mem_map.1 hx
  obtain ⟨h0, h1, h2⟩ := h.2 y hy
  exact ⟨wint_bounds h0, wint_bounds h1, h2⟩

instance : DecidableEq IH := fun x y => decidable_of_iff (x.f0 = y.f0 ∧ x.f1 = y.f1 ∧ x.f2 = y.f2) ⟨fun ⟨a, b, c⟩ => ih_ext a b c, fun h => by rw [h]; exact ⟨rfl, rfl, rfl⟩⟩

theorem eqHunk_ev (x y : IH) (h : FitS x.f2) : Ev (fun k => laws_eqHunk.f k x.f0 x.f1 x.f2 y.f0 y.f1 y.f2) (decide (x = y)) := by
  simp only [laws_eqHunk.f]
  refine ev_ite (fun h0 => ev_ite (fun h1 => ev_bind (eqStringS_ev _ _ h.1) ?_) (fun h1 => ev_some ?_)) (fun h0 => ev_some ?_)
  · refine ev_ite (fun h2 => ev_some ?_) (fun h2 => ev_some ?_)
    · rw [ih_ext h0 h1 (of_decide_eq_true h2)]
      simp
    · have : ¬ x = y := fun e => h2 (by rw [e]; simp)
      simp [this]
  · have : ¬ x = y := fun e => h1 (by rw [e])
    simp [this]
  · have : ¬ x = y := fun e => h0 (by rw [e])
    simp [this]

theorem eqHunkS_l0 (a b : List IH) (hab : a.length = b.length) (hf : FitI a) : ∀ d i, i + d = a.length → Ev (fun k => laws_eqHunkS.l0 k a b (i : Int)) (decide (a.drop i = b.drop i)) := by
  intro d
  have hL := hf.1
  induction d with
  | zero =>
    intro i hi
    refine Ev.step (fun k => laws_eqHunkS.l0.eq_2 ..) (ev_neg (by omega) (ev_some ?_))
    rw [List.drop_of_length_le (by omega), List.drop_of_length_le (by omega)]
    simp
  | succ d ih =>
    intro i hi
    have h1 : i < a.length := by omega
    have h2 : i < b.length := by omega
    refine Ev.step (fun k => laws_eqHunkS.l0.eq_2 ..) (ev_pos (by omega) (ev_pos (by omega) (ev_pos (by omega) ?_)))
    simp only [rdIH _ _ h1, rdIH _ _ h2, drop_cons a i h1, drop_cons b i h2]
    refine ev_bind (eqHunk_ev _ _ (hf.2 _ (List.getElem_mem h1)).2.2) (ev_ite (fun h => ?_) (fun h => ev_some ?_))
    · rw [wrap_succ i (by omega)]
      refine ev_to (ih (i + 1) (by omega)) ?_
      rw [of_decide_eq_true h]
      simp only [List.cons.injEq, true_and]
    · have : ¬ a[i] = b[i] := fun e => h (decide_eq_true e)
      simp only [List.cons.injEq, this, false_and, decide_false]

theorem eqHunkS_ev (a b : List IH) (hf : FitI a) : Ev (fun k => laws_eqHunkS.f k a b) (decide (a = b)) := by
  simp only [laws_eqHunkS.f]
  refine ev_ite (fun h => ?_) (fun h => ev_some ?_)
  · exact eqHunkS_l0 a b (by omega) hf a.length 0 (by omega)
  · have : ¬ a = b := fun e => h (by rw [e])
    simp [this]
end Go.Proofs.Ytcefenlblnediaa.Pl

/- Plain Lean: chapter 2: when hunks are good, for the program and the reference. Conditions: lengths and sizes below 2^63. -/
namespace Go.Proofs.Ytcefenlblnediaa.Pl
open Go.RowKit Go.Proofs.YtcefenlblnediaaW.PrintWords Go.Proofs.YtcefenlblnediaaW.PrintLast Go.Proofs.Ytcefenlblnediaa.My
set_option linter.unusedVariables false
set_option linter.unusedSimpArgs false

/-- What one hunk must be, the last one having ended at p. -/
def hNum (n p : Int) (x : IH) : Prop := 0 ≤ x.f0 ∧ 0 ≤ x.f1 ∧ x.f0 + x.f1 ≤ n ∧ ¬ (x.f1 = 0 ∧ x.f2.length = 0) ∧ x.f2.length ≤ 40 ∧ p < x.f0
instance (n p : Int) (x : IH) : Decidable (hNum n p x) := by unfold hNum; infer_instance
def hOK (n p : Int) (x : IH) : Bool := decide (hNum n p x) && x.f2.all isLn
/-- Each starts past the last one's end. -/
def chain (n : Int) : Int → List IH → Bool
  | _, [] => true
  | p, x :: t => hOK n p x && chain n (x.f0 + x.f1) t
def goodH (n : Int) (h : List IH) : Bool := inB n 0 40 && (decide (h.length ≤ 20) && chain n (-1) h)

/-- Where the last one before place i ended. -/
def before (n : Int) (h : List IH) (i : Nat) (p : Int) : Prop := (i = 0 ∧ p = -1) ∨ ∃ (j : Nat) (hj : j < h.length), i = j + 1 ∧ p = h[j].f0 + h[j].f1 ∧ 0 ≤ h[j].f0 ∧ 0 ≤ h[j].f1 ∧ p ≤ n

theorem chain_cons (n p : Int) (h : List IH) (i : Nat) (hi : i < h.length) : chain n p (h.drop i) = (hOK n p h[i] && chain n (h[i].f0 + h[i].f1) (h.drop (i + 1))) := by
  rw [List.drop_eq_getElem_cons hi]
  rfl

theorem goodHunks_l0 (n : Int) (h : List IH) (hf : FitI h) (h0 : 0 ≤ n) (h1 : n ≤ 40) : ∀ d i p, i + d = h.length → before n h i p → Ev (fun k => impl_goodHunks.l0 k n h h (h.length : Int) (i : Int)) (chain n p (h.drop i)) := by
  intro d
  have hL := hf.1
  induction d with
  | zero =>
    intro i p hi hp
    refine Ev.step (fun k => impl_goodHunks.l0.eq_2 ..) (ev_neg (by omega) (ev_some ?_))
    rw [List.drop_of_length_le (by omega)]
    rfl
  | succ d ih =>
    intro i p hi hp
    have hlt : i < h.length := by omega
    obtain ⟨b0, b1, b2⟩ := hf.2 _ (List.getElem_mem hlt)
    refine Ev.step (fun k => impl_goodHunks.l0.eq_2 ..) ?_
    simp only [rdIH h i hlt, impl_in_eq, Option.bind_some, chain_cons n p h i hlt]
    generalize hx : h[i] = x at *
    have bad : ¬ (hNum n (-1) x ∧ x.f2.all isLn = true) → Ev (fun k => impl_goodHunks.j2 k n h (i : Int) h (h.length : Int) (i : Int) true x.f0 x.f1 x.f2) (hOK n p x && chain n (x.f0 + x.f1) (h.drop (i + 1))) := by
      intro hb
      refine Ev.step (fun k => impl_goodHunks.j2.eq_2 ..) (ev_pos rfl (ev_some ?_))
      have : hOK n p x = false := by
        rw [Bool.eq_false_iff]
        intro ht
        unfold hOK at ht
        rw [Bool.and_eq_true, decide_eq_true_eq] at ht
        obtain ⟨⟨q0, q1, q2, q3, q4, q5⟩, q6⟩ := ht
        exact hb ⟨⟨q0, q1, q2, q3, q4, by omega⟩, q6⟩
      rw [this]
      rfl
    have ok : hNum n (-1) x → x.f2.all isLn = true → Ev (fun k => impl_goodHunks.j2 k n h (i : Int) h (h.length : Int) (i : Int) false x.f0 x.f1 x.f2) (hOK n p x && chain n (x.f0 + x.f1) (h.drop (i + 1))) := by
      intro hb hl
      obtain ⟨q0, q1, q2, q3, q4, q5⟩ := hb
      have nx : before n h (i + 1) (x.f0 + x.f1) := .inr ⟨i, hlt, rfl, by rw [hx], by rw [hx]; exact q0, by rw [hx]; exact q1, q2⟩
      have go : p < x.f0 → Ev (fun k => impl_goodHunks.l0 k n h h (h.length : Int) (wrap64 ((i : Int) + 1))) (hOK n p x && chain n (x.f0 + x.f1) (h.drop (i + 1))) := by
        intro hp
        rw [wrap_succ i (by omega)]
        refine ev_to (ih (i + 1) _ (by omega) nx) ?_
        have : hOK n p x = true := by
          unfold hOK
          rw [Bool.and_eq_true, decide_eq_true_eq]
          exact ⟨⟨q0, q1, q2, q3, q4, hp⟩, hl⟩
        rw [this, Bool.true_and]
      refine Ev.step (fun k => impl_goodHunks.j2.eq_2 ..) (ev_neg (by simp) (ev_ite (fun hi0 => ?_) (fun hi0 => go ?_)))
      · rcases hp with ⟨e, _⟩ | ⟨j, hj, rfl, rfl, r0, r1, r2⟩
        · omega
        · have ew : wrap64 (((j + 1 : Nat) : Int) - 1) = (j : Int) := by rw [wrap64_id (by omega) (by omega)]; omega
          simp only [ew, rdIH h j hj]
          rw [wrap64_id (by omega) (by omega)]
          refine ev_pos (by omega) (ev_pos (by omega) (ev_ite (fun hc => ev_some ?_) (fun hc => go (by omega))))
          have : hOK n (h[j].f0 + h[j].f1) x = false := by
            rw [Bool.eq_false_iff]
            intro ht
            unfold hOK at ht
            rw [Bool.and_eq_true, decide_eq_true_eq] at ht
            have := ht.1.2.2.2.2.2
            omega
          rw [this]
          rfl
      · rcases hp with ⟨_, e⟩ | ⟨j, hj, e, _⟩ <;> omega
    refine ev_pos (by omega) (ev_pos (by omega) (ev_pos (by omega) (ev_ite (fun c0 => ?_) (fun c0 => bad (fun hb => c0 ?_)))))
    · rw [inB_iff] at c0
      rw [wrap64_id (by omega) (by omega)]
      refine ev_ite (fun c1 => ?_) (fun c1 => bad (fun hb => c1 ?_))
      · rw [inB_iff] at c1
        refine ev_bind (areLines_ev x.f2 b2) (ev_ite (fun c2 => ?_) (fun c2 => bad (fun hb => c2 ?_)))
        · rw [Bool.and_eq_true, decide_eq_true_eq] at c2
          refine ev_ite (fun c3 => ?_) (fun c3 => ok ⟨c0.1, c1.1, by omega, fun e => c3 e.1, c2.1, by omega⟩ c2.2)
          by_cases c4 : x.f2.length = 0
          · rw [show (((x.f2.length : Int) == 0) = true) from by rw [c4]; rfl]
            exact bad (fun hb => hb.1.2.2.2.1 ⟨c3, c4⟩)
          · rw [show (((x.f2.length : Int) == 0) = false) from by rw [beq_eq_false_iff_ne]; omega]
            exact ok ⟨c0.1, c1.1, by omega, fun e => c4 e.2, c2.1, by omega⟩ c2.2
        · rw [Bool.and_eq_true, decide_eq_true_eq]
          exact ⟨hb.1.2.2.2.2.1, hb.2⟩
      · rw [inB_iff]
        obtain ⟨⟨q0, q1, q2, q3, q4, q5⟩, q6⟩ := hb
        omega
    · rw [inB_iff]
      obtain ⟨⟨q0, q1, q2, q3, q4, q5⟩, q6⟩ := hb
      omega

theorem goodHunks_ev (n : Int) (h : List IH) (hf : FitI h) : Ev (fun k => impl_goodHunks.f k n h) (goodH n h) := by
  simp only [impl_goodHunks.f, impl_in_eq, Option.bind_some]
  unfold goodH
  refine ev_ite (fun c => ?_) (fun c => ?_)
  · rw [c, Bool.true_and]
    rw [inB_iff] at c
    refine Ev.step (fun k => impl_goodHunks.j0.eq_2 ..) (ev_ite (fun e => ev_some ?_) (fun e => ?_))
    · rw [decide_eq_true_eq] at e
      rw [decide_eq_false (by omega), Bool.false_and]
    · rw [decide_eq_true_eq] at e
      rw [decide_eq_true (by omega), Bool.true_and]
      exact goodHunks_l0 n h hf c.1 c.2 h.length 0 (-1) (by omega) (.inl ⟨rfl, rfl⟩)
  · refine Ev.step (fun k => impl_goodHunks.j0.eq_2 ..) (ev_pos rfl (ev_some ?_))
    rw [Bool.not_eq_true] at c
    rw [c, Bool.false_and]
end Go.Proofs.Ytcefenlblnediaa.Pl

/- Plain Lean: chapter 2: when hunks are good for the reference: as for the program. Conditions: lengths and sizes below 2^63. -/
namespace Go.Proofs.Ytcefenlblnediaa.Pl
open Go.RowKit Go.Proofs.YtcefenlblnediaaW.PrintWords Go.Proofs.YtcefenlblnediaaW.PrintLast Go.Proofs.Ytcefenlblnediaa.My
set_option linter.unusedVariables false
set_option linter.unusedSimpArgs false

theorem wrap_zero (a : Int) (m : Nat) (h0 : 0 ≤ a) (h1 : a ≤ 9223372036854775807) (h2 : m ≤ 9223372036854775807) : wrap64 (a + (m : Int)) = 0 ↔ a = 0 ∧ m = 0 := by
  unfold wrap64
  omega

theorem l2Hunks_l0 (n : Int) (h : List IH) (hf : FitI h) (hn0 : -9223372036854775808 ≤ n) (hn : n ≤ 9223372036854775807) : ∀ d i p, i + d = h.length → before n h i p → Ev (fun k => spec_l2Hunks.l0 k n h h (h.length : Int) (i : Int)) (chain n p (h.drop i) && (decide (h.length ≤ 20) && inB n 0 40)) := by
  intro d
  have hL := hf.1
  induction d with
  | zero =>
    intro i p hi hp
    refine Ev.step (fun k => spec_l2Hunks.l0.eq_2 ..) (ev_neg (by omega) ?_)
    rw [List.drop_of_length_le (by omega)]
    simp only [spec_l1In_eq, Option.bind_some]
    refine ev_ite (fun c => ev_some ?_) (fun c => ev_some ?_)
    · rw [decide_eq_true (by omega)]
      rfl
    · rw [decide_eq_false (by omega)]
      rfl
  | succ d ih =>
    intro i p hi hp
    have hlt : i < h.length := by omega
    obtain ⟨b0, b1, b2⟩ := hf.2 _ (List.getElem_mem hlt)
    refine Ev.step (fun k => spec_l2Hunks.l0.eq_2 ..) ?_
    simp only [rdIH h i hlt, chain_cons n p h i hlt]
    generalize hx : h[i] = x at *
    have no : ¬ (hNum n p x ∧ x.f2.all isLn = true) → hOK n p x = false := by
      intro hb
      rw [Bool.eq_false_iff]
      intro ht
      unfold hOK at ht
      rw [Bool.and_eq_true, decide_eq_true_eq] at ht
      exact hb ht
    have bad : ¬ hNum n p x → Ev (fun k => spec_l2Hunks.j1 k n h h (h.length : Int) (i : Int) true x.f0 x.f1 x.f2) (hOK n p x && chain n (x.f0 + x.f1) (h.drop (i + 1)) && (decide (h.length ≤ 20) && inB n 0 40)) := by
      intro hb
      refine Ev.step (fun k => spec_l2Hunks.j1.eq_2 ..) (ev_pos rfl (ev_some ?_))
      rw [no (fun c => hb c.1)]
      rfl
    have ok : hNum n p x → Ev (fun k => spec_l2Hunks.j1 k n h h (h.length : Int) (i : Int) false x.f0 x.f1 x.f2) (hOK n p x && chain n (x.f0 + x.f1) (h.drop (i + 1)) && (decide (h.length ≤ 20) && inB n 0 40)) := by
      intro hb
      have nx : before n h (i + 1) (x.f0 + x.f1) := .inr ⟨i, hlt, rfl, by rw [hx], by rw [hx]; exact hb.1, by rw [hx]; exact hb.2.1, hb.2.2.1⟩
      have lp : ∀ e r, r + e = x.f2.length → Ev (fun k => spec_l2Hunks.l1 k n h h (h.length : Int) (i : Int) x.f2 (x.f2.length : Int) (r : Int)) (((x.f2.drop r).all isLn && chain n (x.f0 + x.f1) (h.drop (i + 1))) && (decide (h.length ≤ 20) && inB n 0 40)) := by
        intro e
        have hT := b2.1
        induction e with
        | zero =>
          intro r hr
          refine Ev.step (fun k => spec_l2Hunks.l1.eq_2 ..) (ev_neg (by omega) ?_)
          rw [List.drop_of_length_le (l := x.f2) (by omega), wrap_succ i (by omega), List.all_nil, Bool.true_and]
          exact ih (i + 1) _ (by omega) nx
        | succ e ihe =>
          intro r hr
          have hrt : r < x.f2.length := by omega
          refine Ev.step (fun k => spec_l2Hunks.l1.eq_2 ..) (ev_pos (by omega) (ev_pos (by omega) (ev_pos (by omega) ?_)))
          rw [rdOf_lt _ _ _ hrt, drop_cons x.f2 r hrt, List.all_cons]
          refine ev_bind (l1Line_ev _ (b2.2 _ (List.getElem_mem hrt))) (ev_ite (fun c => ?_) (fun c => ev_some ?_))
          · rw [wrap_succ r (by omega), c, Bool.true_and]
            exact ihe (r + 1) (by omega)
          · rw [Bool.not_eq_true] at c
            rw [c]
            rfl
      refine Ev.step (fun k => spec_l2Hunks.j1.eq_2 ..) (ev_neg (by simp) (ev_to (lp x.f2.length 0 (by omega)) ?_))
      unfold hOK
      rw [decide_eq_true hb, Bool.true_and, List.drop_zero]
    refine ev_pos (by omega) (ev_pos (by omega) (ev_pos (by omega) (ev_ite (fun c => bad (fun hb => ?_)) (fun c0 => ev_ite (fun c => bad (fun hb => ?_)) (fun c1 => ev_ite (fun c => bad (fun hb => ?_)) (fun c2 => ?_))))))
    · have := hb.1
      omega
    · have := hb.2.1
      omega
    · obtain ⟨q0, q1, q2, q3, q4, q5⟩ := hb
      omega
    rw [wrap64_id (x := n - x.f1) (by omega) (by omega)]
    refine ev_ite (fun c => bad (fun hb => ?_)) (fun c3 => ev_ite (fun c => bad (fun hb => ?_)) (fun c4 => ev_ite (fun c => bad (fun hb => ?_)) (fun c5 => ?_)))
    · have := hb.2.2.1
      omega
    · rw [wrap_zero _ _ (by omega) (by omega) b2.1] at c
      exact hb.2.2.2.1 c
    · have := hb.2.2.2.2.1
      omega
    rw [wrap_zero _ _ (by omega) (by omega) b2.1] at c4
    rcases hp with ⟨rfl, rfl⟩ | ⟨j, hj, rfl, rfl, r0, r1, r2⟩
    · refine ev_neg (by omega) (ok ⟨by omega, by omega, by omega, c4, by omega, by omega⟩)
    · have ew : wrap64 (((j + 1 : Nat) : Int) - 1) = (j : Int) := by rw [wrap64_id (by omega) (by omega)]; omega
      simp only [ew, rdIH h j hj]
      rw [wrap64_id (x := h[j].f0 + h[j].f1) (by omega) (by omega)]
      refine ev_pos (by omega) (ev_pos (by omega) (ev_pos (by omega) ?_))
      by_cases c : x.f0 ≤ h[j].f0 + h[j].f1
      · rw [decide_eq_true c]
        refine bad (fun hb => ?_)
        have := hb.2.2.2.2.2
        omega
      · rw [decide_eq_false c]
        exact ok ⟨by omega, by omega, by omega, c4, by omega, by omega⟩

theorem l2Hunks_ev (n : Int) (h : List IH) (hf : FitI h) (hn0 : -9223372036854775808 ≤ n) (hn : n ≤ 9223372036854775807) : Ev (fun k => spec_l2Hunks.f k n h) (goodH n h) := by
  simp only [spec_l2Hunks.f]
  refine ev_to (l2Hunks_l0 n h hf hn0 hn h.length 0 (-1) (by omega) (.inl ⟨rfl, rfl⟩)) ?_
  unfold goodH
  rw [List.drop_zero]
  cases inB n 0 40 <;> cases chain n (-1) h <;> cases decide (h.length ≤ 20) <;> rfl
end Go.Proofs.Ytcefenlblnediaa.Pl

/- Plain Lean: chapter 2: good hunks' numbers are small. No condition. -/
namespace Go.Proofs.Ytcefenlblnediaa.Pl
open Go.RowKit Go.Proofs.YtcefenlblnediaaW.PrintWords Go.Proofs.YtcefenlblnediaaW.PrintLast Go.Proofs.Ytcefenlblnediaa.My
set_option linter.unusedVariables false
set_option linter.unusedSimpArgs false

/-- All numbers small. -/
def near (h : List IH) : Prop := ∀ x ∈ h, 0 ≤ x.f0 ∧ x.f0 ≤ 40 ∧ 0 ≤ x.f1 ∧ x.f1 ≤ 40 ∧ x.f2.length ≤ 40

theorem near_of_chain {n : Int} (hn : n ≤ 40) : ∀ (h : List IH) (p : Int), chain n p h = true → near h := by
  intro h
  induction h with
  | nil => intro p _ x hx; simp at hx
  | cons y t ih =>
    intro p hc x hx
    simp only [chain, Bool.and_eq_true, hOK, decide_eq_true_eq] at hc
    rcases List.mem_cons.1 hx with rfl | hx
    · obtain ⟨⟨⟨q0, q1, q2, q3, q4, q5⟩, _⟩, _⟩ := hc
      omega
    · exact ih _ hc.2 x hx
theorem near_of_good {n : Int} {h : List IH} (g : goodH n h = true) : near h ∧ h.length ≤ 20 ∧ 0 ≤ n ∧ n ≤ 40 := by
  unfold goodH at g
  rw [Bool.and_eq_true, Bool.and_eq_true, inB_iff, decide_eq_true_eq] at g
  exact ⟨near_of_chain g.1.2 h _ g.2.2, g.2.1, g.1.1, g.1.2⟩

end Go.Proofs.Ytcefenlblnediaa.Pl

/- Plain Lean: chapter 2: how far a line is moved. No condition. -/
namespace Go.Proofs.Ytcefenlblnediaa.Pl
open Go.RowKit Go.Proofs.YtcefenlblnediaaW.PrintWords Go.Proofs.YtcefenlblnediaaW.PrintLast Go.Proofs.Ytcefenlblnediaa.My
set_option linter.unusedVariables false
set_option linter.unusedSimpArgs false

/-- How far line i is moved by the hunks ahead of it; none where it is gone. -/
def moved (i : Int) : List IH → Option Int
  | [] => some 0
  | x :: t => if x.f0 + x.f1 ≤ i then (moved i t).map (fun m => ((x.f2.length : Int) - x.f1) + m) else if x.f0 ≤ i then none else moved i t
theorem moved_bounds (i : Int) : ∀ (h : List IH), near h → ∀ m, moved i h = some m → -40 * (h.length : Int) ≤ m ∧ m ≤ 40 * (h.length : Int) := by
  intro h
  induction h with
  | nil => intro _ m hm; simp only [moved, Option.some.injEq] at hm; simp only [List.length_nil]; omega
  | cons y t ih =>
    intro hn m hm
    obtain ⟨q0, q1, q2, q3, q4⟩ := hn y (List.mem_cons_self ..)
    have ht := ih (fun x hx => hn x (List.mem_cons_of_mem _ hx))
    simp only [moved] at hm
    simp only [List.length_cons]
    split at hm
    · obtain ⟨m', h1, h2⟩ := Option.map_eq_some_iff.1 hm
      have := ht m' h1
      omega
    · split at hm
      · simp at hm
      · have := ht m hm
        omega

end Go.Proofs.Ytcefenlblnediaa.Pl

/- Plain Lean: lines that stay, told by where they stood or by where they come to lie, are the same; two tellings in turn, too. Asked: hunks in order. -/
namespace Go.Proofs.Ytcefenlblnediaa.Pl
open Go.RowKit Go.Proofs.YtcefenlblnediaaW.PrintWords Go.Proofs.YtcefenlblnediaaW.PrintLast Go.Proofs.Ytcefenlblnediaa.My
set_option linter.unusedVariables false
set_option linter.unusedSimpArgs false

/-- Hunks in order, behind p. -/
def chain' (n : Int) : Int → List IH → Prop
  | _, [] => True
  | p, x :: t => (0 ≤ x.f0 ∧ 0 ≤ x.f1 ∧ x.f0 + x.f1 ≤ n ∧ p < x.f0) ∧ chain' n (x.f0 + x.f1) t
/-- Of each line behind hunks where it stood, -1 of a new one; from place p of so many on. -/
def keptFrom (n : Nat) : Nat → List IH → List Int
  | p, [] => (List.range' p (n - p)).map (fun k : Nat => (k : Int))
  | p, x :: t => (List.range' p (x.f0.toNat - p)).map (fun k : Nat => (k : Int)) ++ (List.replicate x.f2.length (-1) ++ keptFrom n (x.f0 + x.f1).toNat t)
/-- The lines that stay, with their places behind hunks, those being q on. -/
def staysK : Nat → List Int → List (Nat × Nat)
  | _, [] => []
  | q, k :: t => if 0 ≤ k then (k.toNat, q) :: staysK (q + 1) t else staysK (q + 1) t
def staysP (h : List IH) : List Nat → List (Nat × Nat)
  | [] => []
  | k :: t => match moved (k : Int) h with
    | some m => if 0 ≤ (k : Int) + m then (k, ((k : Int) + m).toNat) :: staysP h t else staysP h t
    | none => staysP h t
theorem staysK_append : ∀ (l l' : List Int) (q : Nat), staysK q (l ++ l') = staysK q l ++ staysK (q + l.length) l'
  | [], l', q => by simp [staysK]
  | k :: t, l', q => by
    simp only [List.cons_append, staysK, List.length_cons, staysK_append t l' (q + 1)]
    rw [show q + (t.length + 1) = q + 1 + t.length from by omega]
    split <;> simp
theorem staysP_append (h : List IH) : ∀ (l l' : List Nat), staysP h (l ++ l') = staysP h l ++ staysP h l'
  | [], l' => rfl
  | k :: t, l' => by
    simp only [List.cons_append, staysP, staysP_append h t l']
    cases moved (k : Int) h with
    | none => rfl
    | some m => simp only; split <;> simp
theorem staysK_new (q : Nat) : ∀ n, staysK q (List.replicate n (-1)) = []
  | 0 => rfl
  | n + 1 => by simp only [List.replicate_succ, staysK]; rw [if_neg (by omega)]; exact staysK_new (q + 1) n
theorem staysK_range : ∀ (d p q : Nat), staysK q ((List.range' p d).map (fun k : Nat => (k : Int))) = (List.range d).map fun i => (p + i, q + i)
  | 0, _, _ => rfl
  | d + 1, p, q => by
    rw [List.range'_succ, List.map_cons, staysK, if_pos (Int.natCast_nonneg _), staysK_range d (p + 1) (q + 1), List.range_succ_eq_map, List.map_cons, List.map_map]
    simp only [Int.toNat_natCast, Nat.add_zero, List.cons.injEq, true_and]
    refine List.map_congr_left (fun i _ => ?_)
    simp only [Function.comp_apply, Prod.mk.injEq]
    omega
theorem staysP_shift (h : List IH) (m : Int) : ∀ (d p q : Nat), (∀ k, p ≤ k → k < p + d → moved (k : Int) h = some m) → (p : Int) + m = (q : Int) → staysP h (List.range' p d) = (List.range d).map fun i => (p + i, q + i)
  | 0, _, _, _, _ => rfl
  | d + 1, p, q, hm, hq => by
    rw [List.range'_succ, staysP, hm p (Nat.le_refl _) (by omega)]
    simp only
    rw [if_pos (by omega), staysP_shift h m d (p + 1) (q + 1) (fun k h1 h2 => hm k (by omega) (by omega)) (by omega), List.range_succ_eq_map, List.map_cons, List.map_map]
    have e : ((p : Int) + m).toNat = q := by omega
    rw [e]
    simp only [Nat.add_zero, List.cons.injEq, true_and]
    refine List.map_congr_left (fun i _ => ?_)
    simp only [Function.comp_apply, Prod.mk.injEq]
    omega
theorem staysP_none (h : List IH) : ∀ (d p : Nat), (∀ k, p ≤ k → k < p + d → moved (k : Int) h = none) → staysP h (List.range' p d) = []
  | 0, _, _ => rfl
  | d + 1, p, hm => by
    rw [List.range'_succ, staysP, hm p (Nat.le_refl _) (by omega)]
    exact staysP_none h d (p + 1) (fun k h1 h2 => hm k (by omega) (by omega))
theorem moved_ahead {n : Int} (i : Int) : ∀ (h : List IH) (p : Int), chain' n p h → i ≤ p → moved i h = some 0
  | [], _, _, _ => rfl
  | x :: t, p, hc, hi => by
    simp only [chain'] at hc
    simp only [moved]
    rw [if_neg (by omega), if_neg (by omega)]
    exact moved_ahead i t _ hc.2 (by omega)
theorem moved_first {n : Int} (i : Int) (x : IH) (t : List IH) (hc : chain' n (x.f0 + x.f1) t) (h1 : 0 ≤ x.f1) (hi : i < x.f0) : moved i (x :: t) = some 0 := by
  simp only [moved]
  rw [if_neg (by omega), if_neg (by omega)]
  exact moved_ahead i t _ hc (by omega)
theorem staysP_tail (x : IH) (t : List IH) (s : Int) (hs : s = (x.f2.length : Int) - x.f1) : ∀ (l : List Nat), (∀ k ∈ l, x.f0 + x.f1 ≤ (k : Int)) → (∀ k ∈ l, ∀ m, moved (k : Int) t = some m → 0 ≤ (k : Int) + m ∧ 0 ≤ (k : Int) + m + s) →
    staysP (x :: t) l = (staysP t l).map fun z => (z.1, ((z.2 : Int) + s).toNat)
  | [], _, _ => rfl
  | k :: l, hk, hm => by
    have e : moved (k : Int) (x :: t) = (moved (k : Int) t).map (fun m => s + m) := by
      simp only [moved]
      rw [if_pos (hk k (List.mem_cons_self ..)), hs]
    have ih := staysP_tail x t s hs l (fun j hj => hk j (List.mem_cons_of_mem _ hj)) (fun j hj => hm j (List.mem_cons_of_mem _ hj))
    simp only [staysP, e]
    cases h : moved (k : Int) t with
    | none => exact ih
    | some m =>
      obtain ⟨h1, h2⟩ := hm k (List.mem_cons_self ..) m h
      simp only [Option.map_some]
      rw [if_pos (by omega), if_pos (by omega), ih]
      simp only [List.map_cons, List.cons.injEq, Prod.mk.injEq, true_and, and_true]
      omega
theorem staysK_shift : ∀ (l : List Int) (q : Nat) (q' : Nat) (s : Int), (q : Int) + s = (q' : Int) → staysK q' l = (staysK q l).map fun z => (z.1, ((z.2 : Int) + s).toNat)
  | [], _, _, _, _ => rfl
  | k :: t, q, q', s, h => by
    have ih := staysK_shift t (q + 1) (q' + 1) s (by omega)
    simp only [staysK]
    split
    · rw [ih]
      simp only [List.map_cons, List.cons.injEq, Prod.mk.injEq, true_and, and_true]
      omega
    · exact ih
/-- A line behind p doesn't come to lie ahead of p. -/
theorem moved_low {n : Int} (i : Int) : ∀ (h : List IH) (p : Int), chain' n p h → p ≤ i → -1 ≤ p → ∀ m, moved i h = some m → p ≤ i + m ∧ (0 ≤ i → 0 ≤ i + m)
  | [], p, _, hi, _, m, hm => by simp only [moved, Option.some.injEq] at hm; omega
  | x :: t, p, hc, hi, hp, m, hm => by
    simp only [chain'] at hc
    simp only [moved] at hm
    split at hm
    · rename_i c
      obtain ⟨m', h1, h2⟩ := Option.map_eq_some_iff.1 hm
      have := (moved_low i t _ hc.2 c (by omega) m' h1).1
      omega
    · split at hm
      · cases hm
      · rename_i c1 c2
        rw [moved_ahead i t _ hc.2 (by omega)] at hm
        injection hm with hm
        omega
theorem stays_eq (n : Nat) : ∀ (h : List IH) (p : Nat) (a : Int), chain' (n : Int) a h → a ≤ (p : Int) → -1 ≤ a → (∀ x ∈ h, (p : Int) ≤ x.f0) → staysK p (keptFrom n p h) = staysP h (List.range' p (n - p))
  | [], p, a, _, _, _, _ => by
    simp only [keptFrom]
    rw [staysK_range, staysP_shift [] 0 (n - p) p p (fun k _ _ => rfl) (by omega)]
  | x :: t, p, a, hc, ha, ha1, hf => by
    simp only [chain'] at hc
    obtain ⟨⟨c0, c1, c2, c3⟩, hc'⟩ := hc
    have hp : (p : Int) ≤ x.f0 := hf x (List.mem_cons_self ..)
    have hsp : List.range' p (n - p) = List.range' p (x.f0.toNat - p) ++ (List.range' x.f0.toNat x.f1.toNat ++ List.range' (x.f0 + x.f1).toNat (n - (x.f0 + x.f1).toNat)) := by
      have e1 : (x.f0 + x.f1).toNat = x.f0.toNat + x.f1.toNat := by omega
      have e2 : x.f0.toNat + x.f1.toNat ≤ n := by omega
      have e3 : p ≤ x.f0.toNat := by omega
      rw [e1]
      generalize x.f0.toNat = u at *
      generalize x.f1.toNat = v at *
      obtain ⟨g, rfl⟩ : ∃ g, u = p + g := ⟨u - p, by omega⟩
      obtain ⟨r, rfl⟩ : ∃ r, n = p + g + v + r := ⟨n - (p + g + v), by omega⟩
      rw [show p + g + v + r - (p + g + v) = r from by omega, show p + g - p = g from by omega, List.range'_append_1, List.range'_append_1]
      congr 1
      omega
    rw [hsp, staysP_append, staysP_append, keptFrom, staysK_append, staysK_append, staysK_new, List.nil_append]
    rw [staysK_range, staysP_shift (x :: t) 0 (x.f0.toNat - p) p p (fun k h1 h2 => moved_first k x t hc' c1 (by omega)) (by omega)]
    rw [staysP_none (x :: t) x.f1.toNat x.f0.toNat (fun k h1 h2 => by
      simp only [moved]
      rw [if_neg (by omega), if_pos (by omega)]), List.nil_append]
    congr 1
    have ht : ∀ y ∈ t, ((x.f0 + x.f1).toNat : Int) ≤ y.f0 := by
      intro y hy
      have : ∀ (l : List IH) (q : Int), chain' (n : Int) q l → ∀ z ∈ l, q ≤ z.f0 := by
        intro l
        induction l with
        | nil => intro q _ z hz; cases hz
        | cons u l ih =>
          intro q hq z hz
          simp only [chain'] at hq
          rcases List.mem_cons.1 hz with rfl | hz
          · omega
          · have := ih _ hq.2 z hz
            omega
      have := this t _ hc' y hy
      omega
    have ih := stays_eq n t (x.f0 + x.f1).toNat (x.f0 + x.f1) hc' (by omega) (by omega) ht
    rw [staysP_tail x t _ rfl _ (fun k hk => by have := (List.mem_range'_1.1 hk).1; omega) (fun k hk m hm => by
      have h1 := (List.mem_range'_1.1 hk).1
      have h2 := (moved_low (k : Int) t _ hc' (by omega) (by omega) m hm).1
      omega), ← ih]
    refine staysK_shift _ _ _ _ ?_
    simp only [List.length_map, List.length_range', List.length_replicate]
    omega
/-- Pairs that follow one another by way of a middle place. -/
def joinA (B : List (Nat × Nat)) : List (Nat × Nat) → List (Nat × Nat)
  | [] => []
  | z :: t => match B.find? (fun y => y.1 == z.2) with
    | some y => (z.1, y.2) :: joinA B t
    | none => joinA B t
def joinB (A : List (Nat × Nat)) : List (Nat × Nat) → List (Nat × Nat)
  | [] => []
  | y :: t => match A.find? (fun z => z.2 == y.1) with
    | some z => (z.1, y.2) :: joinB A t
    | none => joinB A t
theorem joinA_skip (y : Nat × Nat) (B : List (Nat × Nat)) : ∀ A : List (Nat × Nat), (∀ z ∈ A, y.1 ≠ z.2) → joinA (y :: B) A = joinA B A
  | [], _ => rfl
  | z :: t, h => by
    simp only [joinA, List.find?_cons]
    rw [show (y.1 == z.2) = false from by simp [h z (List.mem_cons_self ..)], joinA_skip y B t (fun w hw => h w (List.mem_cons_of_mem _ hw))]
theorem joinB_skip (z : Nat × Nat) (A : List (Nat × Nat)) : ∀ B : List (Nat × Nat), (∀ y ∈ B, z.2 ≠ y.1) → joinB (z :: A) B = joinB A B
  | [], _ => rfl
  | y :: t, h => by
    simp only [joinB, List.find?_cons]
    rw [show (z.2 == y.1) = false from by simp [h y (List.mem_cons_self ..)], joinB_skip z A t (fun w hw => h w (List.mem_cons_of_mem _ hw))]
theorem joinA_nil : ∀ A : List (Nat × Nat), joinA [] A = []
  | [] => rfl
  | z :: t => by simp only [joinA, List.find?_nil]; exact joinA_nil t
theorem joinB_nil : ∀ B : List (Nat × Nat), joinB [] B = []
  | [] => rfl
  | z :: t => by simp only [joinB, List.find?_nil]; exact joinB_nil t
theorem join_eq : ∀ (n : Nat) (A B : List (Nat × Nat)), A.length + B.length = n → A.Pairwise (fun u v => u.2 < v.2) → B.Pairwise (fun u v => u.1 < v.1) → joinA B A = joinB A B := by
  intro n
  induction n using Nat.strongRecOn with
  | _ n ih =>
    intro A B hn hA hB
    cases A with
    | nil => rw [joinB_nil]; rfl
    | cons z A =>
      cases B with
      | nil => rw [joinA_nil]; rfl
      | cons y B =>
        simp only [List.length_cons] at hn
        have hA' := List.pairwise_cons.1 hA
        have hB' := List.pairwise_cons.1 hB
        by_cases h1 : z.2 = y.1
        · have e1 : joinA (y :: B) (z :: A) = (z.1, y.2) :: joinA (y :: B) A := by
            simp only [joinA, List.find?_cons]
            rw [show (y.1 == z.2) = true from by simp [h1]]
          have e2 : joinB (z :: A) (y :: B) = (z.1, y.2) :: joinB (z :: A) B := by
            simp only [joinB, List.find?_cons]
            rw [show (z.2 == y.1) = true from by simp [h1]]
          rw [e1, e2, joinA_skip y B A (fun w hw => by have := hA'.1 w hw; omega), joinB_skip z A B (fun w hw => by have := hB'.1 w hw; omega), ih (A.length + B.length) (by omega) A B rfl hA'.2 hB'.2]
        · by_cases h2 : z.2 < y.1
          · have e1 : joinA (y :: B) (z :: A) = joinA (y :: B) A := by
              simp only [joinA]
              rw [List.find?_eq_none.2 (fun w hw => by
                rcases List.mem_cons.1 hw with rfl | hw
                · simp; omega
                · have := hB'.1 w hw; simp; omega)]
            rw [e1, joinB_skip z A (y :: B) (fun w hw => by
              rcases List.mem_cons.1 hw with rfl | hw
              · omega
              · have := hB'.1 w hw; omega)]
            exact ih (A.length + (B.length + 1)) (by omega) A (y :: B) (by simp only [List.length_cons]) hA'.2 hB
          · have e2 : joinB (z :: A) (y :: B) = joinB (z :: A) B := by
              simp only [joinB]
              rw [List.find?_eq_none.2 (fun w hw => by
                rcases List.mem_cons.1 hw with rfl | hw
                · simp; omega
                · have := hA'.1 w hw; simp; omega)]
            rw [e2, joinA_skip y B (z :: A) (fun w hw => by
              rcases List.mem_cons.1 hw with rfl | hw
              · omega
              · have := hA'.1 w hw; omega)]
            exact ih (A.length + 1 + B.length) (by omega) (z :: A) B (by simp only [List.length_cons]) hA hB'.2
end Go.Proofs.Ytcefenlblnediaa.Pl

/- The program's kept: for each line behind hunks where it stood. By hand, for it holds a function value that writes what it captures. Asked: good hunks' bounds. -/
namespace Go.Proofs.Ytcefenlblnediaa.My
open Go.RowKit Go.Proofs.YtcefenlblnediaaW.PrintWords Go.Proofs.YtcefenlblnediaaW.PrintLast Go.Proofs.YtcefenlblnediaaW.PrintMore Go.Proofs.Ytcefenlblnediaa.Pl
set_option linter.unusedVariables false
set_option linter.unusedSimpArgs false

/-- The two variables that the function value captures, and the list. -/
structure Caught (w0 w : World) (ga go q : Nat) (v : Value) (ys : List Int) : Prop where
  a : w.heap[ga]? = some (.cells #[.int .i64 (q : Int)] 3 (0, 0))
  o : w.heap[go]? = some (.cells #[v] 113 (0, 0))
  r : Kd.R (Kd.int .i64) 3 w w0.heap.size (fun k => k ≠ ga ∧ k ≠ go) v ys
  b : Below w0.heap.size w0 w
  ne : ga ≠ go
  ba : w0.heap.size ≤ ga
  bo : w0.heap.size ≤ go
/-- Blocks of other types stay. -/
def Stays (w w' : World) : Prop := w.heap.size ≤ w'.heap.size ∧ ∀ (g : Nat) (cells : Array Value) (t : TypeId), w.heap[g]? = some (.cells cells t (0, 0)) → t ≠ 3 → t ≠ 113 → w'.heap[g]? = some (.cells cells t (0, 0))
theorem Stays.refl (w : World) : Stays w w := ⟨Nat.le_refl _, fun _ _ _ h _ _ => h⟩
theorem Stays.trans {w w1 w2 : World} (h : Stays w w1) (h' : Stays w1 w2) : Stays w w2 := ⟨Nat.le_trans h.1 h'.1, fun g c t e h1 h2 => h'.2 g c t (h.2 g c t e h1 h2) h1 h2⟩
/-- What is written into the list and into the two variables. -/
theorem Caught.put {w0 W w1 : World} {ga go q : Nat} {v v1 : Value} {ys zs : List Int} (h : Caught w0 W ga go q v ys) (ho : Kd.R (Kd.int .i64) 3 w1 w0.heap.size (fun k => k ≠ ga ∧ k ≠ go) v1 zs) (hb : Below w0.heap.size w0 w1) (hg : W.grownBy w1 v.ownBlock) :
    Caught w0 (w1.setCell ⟨go, 0, none⟩ v1) ga go q v1 zs := by
  have n1 : some ga ≠ v.ownBlock := fun e => (h.r.1 ga e.symm).1 rfl
  have n2 : some go ≠ v.ownBlock := fun e => (h.r.1 go e.symm).2 rfl
  exact ⟨blk_far (blk_grown h.a hg n1) h.ne v1, blk_put (blk_grown h.o hg n2) 0 v1 rfl, Kd.R_far ho (p := ⟨go, 0, none⟩) (fun k hk => hk.2) v1, below_set hb h.bo, h.ne, h.ba, h.bo⟩
theorem Caught.move {w0 W : World} {ga go q : Nat} {v : Value} {ys : List Int} (h : Caught w0 W ga go q v ys) (q' : Nat) : Caught w0 (W.setCell ⟨ga, 0, none⟩ (.int .i64 (q' : Int))) ga go q' v ys :=
  ⟨blk_put h.a 0 _ rfl, blk_far h.o (fun e => h.ne e.symm) _, Kd.R_far h.r (p := ⟨ga, 0, none⟩) (fun k hk => hk.1) _, below_set h.b h.ba, h.ne, h.ba, h.bo⟩
theorem Stays.put {w0 w W w1 : World} {ga go q : Nat} {v v1 : Value} {ys : List Int} (h : Caught w0 W ga go q v ys) (hs : Stays w W) (hg : W.grownBy w1 v.ownBlock) : Stays w (w1.setCell ⟨go, 0, none⟩ v1) := by
  refine ⟨by have := hg.size; have := hs.1; simp only [World.size_setCell]; omega, fun g c t e h1 h2 => ?_⟩
  have e2 := hs.2 g c t e h1 h2
  have n1 : some g ≠ v.ownBlock := Kd.R_ne h.r e2 (fun e => h1 e.symm)
  exact blk_far (blk_grown e2 hg n1) (fun e3 => by
    have e4 : g = go := e3
    subst e4
    have := h.o
    rw [e2] at this
    injection this with this
    injection this with _ this
    exact h2 this) v1
theorem Stays.move {w0 w W : World} {ga go q : Nat} {v : Value} {ys : List Int} (h : Caught w0 W ga go q v ys) (hs : Stays w W) (u : Value) : Stays w (W.setCell ⟨ga, 0, none⟩ u) := by
  refine ⟨by have := hs.1; simp only [World.size_setCell]; omega, fun g c t e h1 h2 => ?_⟩
  have e2 := hs.2 g c t e h1 h2
  exact blk_far e2 (fun e3 => by
    have e4 : g = ga := e3
    subst e4
    have := h.a
    rw [e2] at this
    injection this with this
    injection this with _ this
    exact h1 this) u
theorem Caught.cells {w0 W : World} {ga go q : Nat} {v : Value} {ys : List Int} (h : Caught w0 W ga go q v ys) : W.cell? ⟨ga, 0, none⟩ = some (.int .i64 (q : Int)) ∧ W.cell? ⟨go, 0, none⟩ = some v ∧ W.frozen? ⟨ga, 0, none⟩ = false ∧ W.frozen? ⟨go, 0, none⟩ = false :=
  ⟨(blk_cell h.a 0).trans rfl, (blk_cell h.o 0).trans rfl, blk_frozen h.a 0, blk_frozen h.o 0⟩

/-- What the function value leaves. -/
def StayPost (w0 w : World) (ga go p t : Nat) (xs : List Int) (e : Ending) (w' : World) : Prop :=
  e = .returned (.tuple #[]) ∧ ∃ v', Caught w0 w' ga go (max p t) v' (xs ++ (List.range' p (t - p)).map (fun k : Nat => (k : Int))) ∧ Stays w w'
/-- At a round's begin. -/
def StayInv (w0 w : World) (ga go p t : Nat) (xs : List Int) (kq : Nat) (w' : World) : Prop :=
  ∃ (q : Nat) (v : Value), p ≤ q ∧ q ≤ max p t ∧ kq = t - q ∧ Caught w0 w' ga go q v (xs ++ (List.range' p (q - p)).map (fun k : Nat => (k : Int))) ∧ Stays w w'
theorem range_more (p q : Nat) (h : p ≤ q) (xs : List Int) : xs ++ (List.range' p (q - p)).map (fun k : Nat => (k : Int)) ++ [(q : Int)] = xs ++ (List.range' p (q + 1 - p)).map (fun k : Nat => (k : Int)) := by
  rw [show q + 1 - p = (q - p) + 1 from by omega, List.range'_1_concat, List.map_append, List.append_assoc, show p + (q - p) = q from by omega]
  rfl

set_option maxHeartbeats 8000000 in
set_option maxRecDepth 100000 in
theorem stay_made (w0 w : World) (ga go p t : Nat) (v : Value) (xs : List Int) (hc : Caught w0 w ga go p v xs) (hl : xs.length + (t - p) ≤ 1000000) (ht : t ≤ 1000000) (hp : p ≤ 1000000) :
    Calls Try.prog 156 #[.int .i64 (t : Int), .pointer (some ⟨ga, 0, none⟩), .pointer (some ⟨go, 0, none⟩)] w (StayPost w0 w ga go p t xs) := by
  have HC := Aside0.mk hc
  have HL := Aside0.mk hl
  clear hc hl
  go_enter Try.func156, Try.ntmps156
  go_wp2_with fail
  go_loopg [] (t - p) (fun kq w' => Aside0 (StayInv w0 w ga go p t xs kq w'))
  case atStart => exact ⟨p, v, Nat.le_refl _, by omega, rfl, by rw [Nat.sub_self]; simpa using HC.out, Stays.refl _⟩
  case round =>
    obtain ⟨q, v1, h1, h2, h3, hcc, hss⟩ := hrel.out
    obtain ⟨ys, hys⟩ : ∃ ys, ys = xs ++ (List.range' p (q - p)).map (fun k : Nat => (k : Int)) := ⟨_, rfl⟩
    have hyl : ys.length = xs.length + (q - p) := by rw [hys, List.length_append, List.length_map, List.length_range']
    rw [← hys] at hcc
    have HCC := Aside0.mk hcc
    have HSS := Aside0.mk hss
    have HQ := Aside0.mk h3
    have HY := Aside0.mk hys
    have HYL := Aside0.mk hyl
    clear hrel hcc hss h3 hys hyl
    obtain ⟨c1, c2, c3, c4⟩ := HCC.out.cells
    by_cases hi : q < t
    · have hd : decide ((q : Int) < (t : Int)) = true := decide_eq_true (by omega)
      have hd2 : decide (q < t) = true := decide_eq_true hi
      obtain ⟨zs, hzs⟩ : ∃ zs, zs = ys ++ [(q : Int)] := ⟨_, rfl⟩
      have HZ := Aside0.mk hzs
      clear hzs
      go_wp2_with (first | (at_builtin; refine Kd.R_append (Kd.int .i64) (w0 := w0) w0.heap.size rfl (.tmp 9) (.tmp 11) 113 3 (.int .i64 0) 8 rfl Try.underlying113 info3 rfl (by decide) (by omega) v1 ys (q : Int) [.int .i64 (q : Int)] (fun k => k ≠ ga ∧ k ≠ go) (fun _ => False) rfl (by first | (go_simp; done) | (go_simp; rfl)) rfl (fun _ hk => hk.elim) (fun k hk => ⟨by have := blk_lt HCC.out.a; omega, by have := blk_lt HCC.out.o; omega⟩) HCC.out.r HCC.out.b HCC.out.b.size (by have := HL.out; have := HYL.out; omega) ?_; intro v2 w2 ho hb hg hat; rw [← HZ.out] at ho; obtain ⟨A2, C2, rfl⟩ := Kd.R_slice ho; have HP := Aside0.mk (HCC.out.put ho hb hg); have HT := Aside0.mk (Stays.put HCC.out HSS.out hg (v1 := .slice A2 zs.length C2)); have d7 := blk_frozen (blk_grown HCC.out.o hg (fun e => (HCC.out.r.1 go e.symm).2 rfl)) 0; have d8 := (blk_cell (blk_grown HCC.out.o hg (fun e => (HCC.out.r.1 go e.symm).2 rfl)) 0).trans rfl; clear ho hb hat hg; obtain ⟨d1, d2, d3, d4⟩ := HP.out.cells))
      go_roundg (t - (q + 1))
      case measure => have := HQ.out; omega
      case rel => exact ⟨q + 1, .slice A2 zs.length C2, by omega, by omega, rfl, by
        have e := HP.out.move (q + 1)
        rw [show ((q + 1 : Nat) : Int) = (q : Int) + 1 from by omega, HZ.out, HY.out, range_more p q h1] at e
        rw [HZ.out, HY.out, range_more p q h1]
        exact e, Stays.move HP.out HT.out _⟩
    · have hd : decide ((q : Int) < (t : Int)) = false := decide_eq_false (by omega)
      have hd2 : decide (q < t) = false := decide_eq_false hi
      go_wp2
      refine bodyPost_end (results_none rfl _ _ _) rfl ?_
      refine ⟨rfl, v1, ?_, HSS.out⟩
      have e1 : max p t = q := by omega
      have e2 : t - p = q - p := by omega
      rw [e1, e2, ← HY.out]
      exact HCC.out

theorem Caught.below {w0 W w1 : World} {ga go q : Nat} {v : Value} {ys : List Int} (h : Caught w0 W ga go q v ys) (hb : Below W.heap.size W w1) : Caught w0 w1 ga go q v ys :=
  ⟨blk_below h.a hb, blk_below h.o hb, Kd.R_below h.r hb, below_step h.b hb, h.ne, h.ba, h.bo⟩
theorem Caught.far {w0 W : World} {ga go q g : Nat} {v : Value} {ys : List Int} {cells : Array Value} {t : TypeId} (h : Caught w0 W ga go q v ys) (hg : W.heap[g]? = some (.cells cells t (0, 0))) (h1 : t ≠ 3) (h2 : t ≠ 113) (hn : w0.heap.size ≤ g) (j : Nat) (u : Value) : Caught w0 (W.setCell ⟨g, j, none⟩ u) ga go q v ys :=
  ⟨blk_far h.a (fun e => by
    have e4 : ga = g := e
    subst e4
    have := h.a
    rw [hg] at this
    injection this with this
    injection this with _ this
    exact h1 this) u, blk_far h.o (fun e => by
    have e4 : go = g := e
    subst e4
    have := h.o
    rw [hg] at this
    injection this with this
    injection this with _ this
    exact h2 this) u, Kd.R_set h.r hg (fun q hq => by
      rcases List.mem_cons.1 hq with rfl | hq
      · exact fun e => h1 e.symm
      · cases hq) j u, below_set h.b hn, h.ne, h.ba, h.bo⟩
theorem chain_at {n : Int} : ∀ (h : List IH) (p : Int) (i : Nat) (hi : i < h.length), chain' n p h → p < h[i].f0 ∧ h[i].f0 + h[i].f1 ≤ n ∧ ∀ y ∈ h.drop (i + 1), h[i].f0 + h[i].f1 < y.f0
  | [], _, _, hi, _ => absurd hi (Nat.not_lt_zero _)
  | x :: t, p, 0, hi, hc => by
    simp only [chain'] at hc
    exact ⟨hc.1.2.2.2, hc.1.2.2.1, fun y hy => by
      obtain ⟨j, hj, e⟩ := List.getElem_of_mem (show y ∈ t from hy)
      have := (chain_at t _ j hj hc.2).1
      rw [e] at this
      exact this⟩
  | x :: t, p, i + 1, hi, hc => by
    simp only [chain'] at hc
    have := chain_at t _ i (Nat.lt_of_succ_lt_succ hi) hc.2
    exact ⟨by have h1 := this.1; have := hc.1; simp only [List.getElem_cons_succ]; omega, this.2.1, this.2.2⟩
/-- At a round's begin. -/
def KeptInv (w : World) (many : Nat) (h : List IH) (ga go i kq : Nat) (w' : World) : Prop :=
  ∃ (q : Nat) (v : Value) (acc : List Int), i + kq = h.length ∧ q ≤ 40 ∧ acc.length ≤ 100 * i ∧ (∀ x ∈ h.drop i, (q : Int) ≤ x.f0) ∧ acc ++ keptFrom many q (h.drop i) = keptFrom many 0 h ∧ Caught w w' ga go q v acc

set_option maxHeartbeats 8000000 in
set_option maxRecDepth 100000 in
theorem impl_kept_made (many : Nat) (A1 : Option Addr) (c1 : Nat) (h : List IH) (w : World) (hr1 : Kd.C k111 w A1 h.length h) (hc1 : h.length ≤ c1) (hm : many ≤ 40) (hl : h.length ≤ 20) (hn : near h) (hch : chain' (many : Int) (-1) h) :
    Calls Try.prog 94 #[.int .i64 (many : Int), .slice A1 h.length c1] w fun e w' => ∃ v, e = .returned v ∧ Kd.R (Kd.int .i64) 3 w' w.heap.size (fun _ => True) v (keptFrom many 0 h) ∧ Below w.heap.size w w' := by
  have HR1 := Aside0.mk hr1
  have HC1 := Aside0.mk hc1
  have HM := Aside0.mk hm
  have HL := Aside0.mk hl
  have HN := Aside0.mk hn
  have HCH := Aside0.mk hch
  have HB := Aside0.mk (Below.refl w.heap.size w)
  clear hr1 hc1 hm hl hn hch
  go_enter Try.func94, Try.ntmps94
  go_wp2_with (first | ((with_reducible refine gate_dst (N := 10) rfl ?_); refine Kd.R_lit (Kd.int .i64) _ 3 ?hg (N := 10) ?hd (xs := ([] : List Int)) (inner := []) (ok := fun _ => True) (okp := fun _ => True) ?hr ?hp (fun _ hk => hk) trivial (Below.refl _ _) (Nat.le_refl _) (by simp) ?_; (case hd => rfl); (case hg => rfl); (case hr => first | (go_simp; done) | (go_simp; rfl)); (case hp => exact (Reps.none _ _)); intro v0 w3 ho hb hg_ hnew_; obtain ⟨A0, C0, rfl⟩ := Kd.R_slice ho; have HO := Aside0.mk (Kd.R_lower ho (below_size HB.out)); have HB1 := Aside0.mk (below_step HB.out hb); clear hg_ hnew_ hb ho HB) | ((with_reducible refine gate_dst (N := 5) rfl ?_); refine box_event ?hg (N := 5) ?hd (cs := #[.slice none 0 0]) (t := 113) ?hr ?_; (case hd => rfl); (case hg => rfl); (case hr => first | (go_simp; done) | (go_simp; rfl)); intro go hgo w4 hbox hb; have HO2 := Aside0.mk (Kd.R_below HO.out hb); have HB2 := Aside0.mk (below_step HB1.out hb); have KO := Aside0.mk hbox; have GO := Aside0.mk (show w.heap.size ≤ go by rw [hgo]; exact below_size HB1.out); clear hbox hb hgo HO HB1) | ((with_reducible refine gate_dst (N := 6) rfl ?_); refine box_event ?hg (N := 6) ?hd (cs := #[.int .i64 0]) (t := 3) ?hr ?_; (case hd => rfl); (case hg => rfl); (case hr => first | (go_simp; done) | (go_simp; rfl)); intro ga hga w5 hbox hb; have HO3 := Aside0.mk (Kd.R_elderB HO2.out ga (Nat.le_of_eq hga.symm)); have HO4 := Aside0.mk (Kd.R_below HO3.out hb); have HB3 := Aside0.mk (below_step HB2.out hb); have KO2 := Aside0.mk (blk_below KO.out hb); have KA := Aside0.mk hbox; have GA := Aside0.mk (show w.heap.size ≤ ga by rw [hga]; exact below_size HB2.out); clear hbox hb hga HO2 HB2 KO; have hne := Aside0.mk (blk_ne KA.out KO2.out (by decide)); have q1 : w5.cell? ⟨go, 0, none⟩ = some (.slice none 0 0) := (blk_cell KO2.out 0).trans rfl; have q2 : w5.cell? ⟨ga, 0, none⟩ = some (.int .i64 0) := (blk_cell KA.out 0).trans rfl; have q3 := blk_frozen KO2.out 0; have q4 := blk_frozen KA.out 0; have q5 : (w5.setCell ⟨go, 0, none⟩ (.slice A0 0 C0)).cell? ⟨ga, 0, none⟩ = some (.int .i64 0) := (blk_cell (blk_far KA.out hne.out (.slice A0 0 C0)) 0).trans rfl; have q6 := blk_frozen (blk_far KA.out hne.out (p := ⟨go, 0, none⟩) (.slice A0 0 C0)) 0))
  have HS := Aside0.mk (show Caught w ((w5.setCell ⟨go, 0, none⟩ (.slice A0 0 C0)).setCell ⟨ga, 0, none⟩ (.int .i64 0)) ga go 0 (.slice A0 0 C0) [] from
    ⟨blk_put (blk_far KA.out hne.out _) 0 _ rfl, blk_far (blk_put KO2.out 0 _ rfl) (fun e => hne.out e.symm) _, Kd.R_far (p := ⟨ga, 0, none⟩) (Kd.R_far (p := ⟨go, 0, none⟩) (Kd.R_mono (Kd.R_types HO4.out KO2.out (by decide)) (fun k hk => ⟨hk.1.2, hk.2⟩)) (fun k hk => hk.2) _) (fun k hk => hk.1) _, below_set (below_set HB3.out GO.out) GA.out, hne.out, GA.out, GO.out⟩)
  clear HO3 HO4 HB3 KO2 KA q1 q2 q3 q4 q5 q6 hne
  go_loopg [14] h.length (fun kq v14 w' => ∃ i : Nat, v14 = .int .i64 (i : Int) ∧ Aside0 (KeptInv w many h ga go i kq w'))
  case atStart => exact ⟨0, rfl, ⟨0, _, [], by simp, by omega, by simp, fun x hx => by have := (HN.out x (by simpa using hx)).1; simpa using this, by simp, HS.out⟩⟩
  case round =>
    clear HS
    obtain ⟨i, rfl, HI⟩ := hrel
    obtain ⟨q, v, acc, e1, e2, e3, e4, e5, hc⟩ := HI.out
    have HC := Aside0.mk hc
    have E4 := Aside0.mk e4
    have E5 := Aside0.mk e5
    clear HI hc e4 e5
    by_cases hi : i < h.length
    · have hd : decide ((i : Int) < (h.length : Int)) = true := decide_eq_true (by omega)
      have hd2 : decide (i < h.length) = true := decide_eq_true hi
      obtain ⟨ad, A2, C2, eA, hx0, hx1, hx2, hl2, hr2⟩ := at_T111 HR1.out (i : Int) (by omega) (by omega)
      subst eA
      replace hx0 := (HC.out.b.cell (World.block_lt_of_cell? w _ hx0)).trans hx0
      replace hx1 := (HC.out.b.cell (World.block_lt_of_cell? w _ hx1)).trans hx1
      replace hx2 := (HC.out.b.cell (World.block_lt_of_cell? w _ hx2)).trans hx2
      simp only [Int.toNat_natCast] at hx0 hx1 hx2
      have HRD := Aside0.mk (rdIH h i hi)
      generalize rd_T111 h (i : Int) = x at *
      clear hl2 hr2
      have hmem : x ∈ h := by rw [HRD.out]; exact List.getElem_mem _
      have hxn := HN.out x hmem
      have hxd : x ∈ h.drop i := by rw [HRD.out]; rw [List.drop_eq_getElem_cons hi]; exact List.mem_cons_self ..
      have hq4 := E4.out x hxd
      have hdr : h.drop i = x :: h.drop (i + 1) := by rw [HRD.out]; exact List.drop_eq_getElem_cons hi
      obtain ⟨t, ht⟩ : ∃ t : Nat, x.f0 = (t : Int) := ⟨x.f0.toNat, by omega⟩
      obtain ⟨s, hs⟩ : ∃ s : Nat, x.f1 = (s : Int) := ⟨x.f1.toNat, by omega⟩
      rw [ht] at hx0
      rw [hs] at hx1
      have HXN := Aside0.mk hxn
      have HQ4 := Aside0.mk hq4
      have HDR := Aside0.mk hdr
      have HT := Aside0.mk ht
      have HS := Aside0.mk hs
      clear hxn hq4 hdr ht hs hmem hxd
      go_wp2_with (first | ((with_reducible refine gate_dst (N := 9) rfl ?_); refine box_event ?hg (N := 9) ?hd (cs := #[.int .i64 0, .int .i64 0, .slice none 0 0]) (t := 111) ?hr ?_; (case hd => rfl); (case hg => rfl); (case hr => first | (go_simp; done) | (go_simp; rfl)); intro gx hgx w6 hbox hb; have HC2 := Aside0.mk (HC.out.below hb); have BK := Aside0.mk hbox; have GX := Aside0.mk (show w.heap.size ≤ gx by rw [hgx]; exact below_size HC.out.b); have y0 : w6.cell? ⟨gx, 0, none⟩ = some (.int .i64 0) := (blk_cell BK.out 0).trans rfl; have y1 : w6.cell? ⟨gx, 1, none⟩ = some (.int .i64 0) := (blk_cell BK.out 1).trans rfl; have y2 : w6.cell? ⟨gx, 2, none⟩ = some (.slice none 0 0) := (blk_cell BK.out 2).trans rfl; have z0 := blk_frozen BK.out 0; have z1 := blk_frozen BK.out 1; have z2 := blk_frozen BK.out 2; clear hbox hb hgx))
      have HC3 := Aside0.mk (((HC2.out.far BK.out (by decide) (by decide) GX.out 0 (.int .i64 (t : Int))).far (blk_put BK.out 0 (.int .i64 (t : Int)) rfl) (by decide) (by decide) GX.out 1 (.int .i64 (s : Int))).far (blk_put (blk_put BK.out 0 (.int .i64 (t : Int)) rfl) 1 (.int .i64 (s : Int)) rfl) (by decide) (by decide) GX.out 2 (.slice A2 x.f2.length C2))
      have BK3 := Aside0.mk (blk_put (blk_put (blk_put BK.out 0 (.int .i64 (t : Int)) rfl) 1 (.int .i64 (s : Int)) rfl) 2 (.slice A2 x.f2.length C2) rfl)
      clear HC HC2 BK y0 y1 y2 z0 z1 z2
      refine Calls.mono (stay_made w _ ga go q t v acc HC3.out (by have := e3; have := HXN.out; have := HT.out; have := HL.out; omega) (by have := HXN.out; have := HT.out; omega) (by omega)) ?_
      rintro _ w8 ⟨rfl, v8, hc8, hs8⟩
      dsimp only
      obtain ⟨q2, hq2⟩ : ∃ q2, q2 = max q t := ⟨_, rfl⟩
      have hqt : q2 = t := by have := HQ4.out; have := HT.out; omega
      obtain ⟨ac2, hac2⟩ : ∃ ac2, ac2 = acc ++ (List.range' q (t - q)).map (fun k : Nat => (k : Int)) := ⟨_, rfl⟩
      rw [← hac2, ← hq2] at hc8
      have hl2 : ac2.length ≤ acc.length + 40 := by
        rw [hac2, List.length_append, List.length_map, List.length_range']
        have := HXN.out; have := HT.out
        omega
      have hs40 : s ≤ 40 := by have := HXN.out; have := HS.out; omega
      have ht40 : t ≤ 40 := by have := HXN.out; have := HT.out; omega
      have HC8 := Aside0.mk hc8
      have HA2 := Aside0.mk hac2
      have HQ2 := Aside0.mk hq2
      have B8 := Aside0.mk (hs8.2 gx _ _ BK3.out (by decide) (by decide))
      have c2 : w8.cell? ⟨gx, 2, none⟩ = some (.slice A2 x.f2.length C2) := (blk_cell B8.out 2).trans rfl
      clear hc8 hac2 hq2 hs8
      go_wp2_with fail
      clear c2
      go_loopg [25] x.f2.length (fun kq v25 w' => ∃ j : Nat, v25 = .int .i64 (j : Int) ∧ j + kq = x.f2.length ∧ Aside0 (∃ v, Caught w w' ga go q2 v (ac2 ++ List.replicate j (-1)) ∧ w'.heap[gx]? = some (.cells #[.int .i64 (t : Int), .int .i64 (s : Int), .slice A2 x.f2.length C2] 111 (0, 0))))
      case atStart => exact ⟨0, rfl, by omega, ⟨v8, by rw [List.replicate_zero, List.append_nil]; exact HC8.out, B8.out⟩⟩
      case round =>
        obtain ⟨j, rfl, ej, hv⟩ := hrel
        obtain ⟨v9, hc9, hb9⟩ := hv.out
        have HC9 := Aside0.mk hc9
        have HB9 := Aside0.mk hb9
        clear hc9 hb9 hv HC8 B8
        by_cases hj : j < x.f2.length
        · have hd3 : decide ((j : Int) < (x.f2.length : Int)) = true := decide_eq_true (by omega)
          have hd4 : decide (j < x.f2.length) = true := decide_eq_true hj
          obtain ⟨c1, c2, c3, c4⟩ := HC9.out.cells
          obtain ⟨ys, hys⟩ : ∃ ys, ys = ac2 ++ List.replicate j (-1) := ⟨_, rfl⟩
          have hyl : ys.length = ac2.length + j := by rw [hys, List.length_append, List.length_replicate]
          rw [← hys] at HC9
          have HY := Aside0.mk hys
          have HYL := Aside0.mk hyl
          clear hys hyl
          obtain ⟨zs, hzs⟩ : ∃ zs, zs = ys ++ [(-1 : Int)] := ⟨_, rfl⟩
          have HZ := Aside0.mk hzs
          clear hzs
          go_wp2_with (first | (at_builtin; refine Kd.R_append (Kd.int .i64) (w0 := w) w.heap.size rfl (.tmp 27) (.tmp 28) 113 3 (.int .i64 0) 8 rfl Try.underlying113 info3 rfl (by decide) (by omega) v9 ys (-1 : Int) [.int .i64 (-1 : Int)] (fun k => k ≠ ga ∧ k ≠ go) (fun _ => False) rfl (by first | (go_simp; done) | (go_simp; rfl)) rfl (fun _ hk => hk.elim) (fun k hk => ⟨by have := blk_lt HC9.out.a; omega, by have := blk_lt HC9.out.o; omega⟩) HC9.out.r HC9.out.b HC9.out.b.size (by have := HYL.out; have := HXN.out; have := HL.out; omega) ?_; intro v2 w2 ho hb hg hat; rw [← HZ.out] at ho; obtain ⟨A5, C5, rfl⟩ := Kd.R_slice ho; have HP := Aside0.mk (HC9.out.put ho hb hg); have d7 := blk_frozen (blk_grown HC9.out.o hg (fun e => (HC9.out.r.1 go e.symm).2 rfl)) 0; have d8 := (blk_cell (blk_grown HC9.out.o hg (fun e => (HC9.out.r.1 go e.symm).2 rfl)) 0).trans rfl; have hB2 := Aside0.mk (Stays.put (v1 := .slice A5 zs.length C5) HC9.out (Stays.refl _) hg); clear ho hb hat hg))
          go_roundg (x.f2.length - (j + 1))
          case measure => omega
          case rel => exact ⟨j + 1, by rw [wrap_succ j (by have := HXN.out; omega)], by omega, ⟨.slice A5 zs.length C5, by
            have e := HP.out
            rw [HZ.out, HY.out, List.append_assoc, show List.replicate j (-1 : Int) ++ [-1] = List.replicate (j + 1) (-1) from List.replicate_succ'.symm] at e
            rw [HZ.out, HY.out, List.append_assoc, show List.replicate j (-1 : Int) ++ [-1] = List.replicate (j + 1) (-1) from List.replicate_succ'.symm]
            exact e, hB2.out.2 _ _ _ HB9.out (by decide) (by decide)⟩⟩
        · have hd3 : decide ((j : Int) < (x.f2.length : Int)) = false := decide_eq_false (by omega)
          have hd4 : decide (j < x.f2.length) = false := decide_eq_false hj
          obtain ⟨c1, c2, c3, c4⟩ := HC9.out.cells
          have ej2 : j = x.f2.length := by omega
          have c6 : wr.cell? ⟨gx, 1, none⟩ = some (.int .i64 (s : Int)) := (blk_cell HB9.out 1).trans rfl
          go_wp2_with fail
          have hbnd := chain_at h (-1) i hi HCH.out
          have hxe := HRD.out
          rw [← hxe] at hbnd
          have ht := HT.out
          have hss := HS.out
          have hm40 := HM.out
          subst ej2
          have hk9 := HC9.out.move (q2 + s)
          rw [hqt] at hk9
          rw [show ((t + s : Nat) : Int) = (t : Int) + (s : Int) from by omega] at hk9
          go_roundg (h.length - (i + 1))
          case measure => omega
          case rel => exact ⟨i + 1, by rw [wrap_succ i (by have := HL.out; omega)], ⟨t + s, v9, _, by omega, by omega, by
            rw [List.length_append, List.length_replicate]
            have := HXN.out; have := e3
            omega, fun y hy => by have := hbnd.2.2 y hy; omega, by
            rw [HA2.out]
            have e := E5.out
            rw [HDR.out] at e
            simp only [keptFrom] at e
            rw [ht, hss, Int.toNat_natCast, show (((t : Int) + (s : Int)).toNat) = t + s from by omega] at e
            rw [List.append_assoc, List.append_assoc]
            exact e, hk9⟩⟩
    · have hd : decide ((i : Int) < (h.length : Int)) = false := decide_eq_false (by omega)
      have hd2 : decide (i < h.length) = false := decide_eq_false hi
      go_wp2_with fail
      refine Calls.mono (stay_made w _ ga go q many v acc HC.out (by have := HL.out; have := HM.out; omega) (by have := HM.out; omega) (by omega)) ?_
      rintro _ w8 ⟨rfl, v8, hc8, hs8⟩
      dsimp only
      have HC8 := Aside0.mk hc8
      obtain ⟨ac2, hac2⟩ : ∃ ac2, ac2 = acc ++ (List.range' q (many - q)).map (fun k : Nat => (k : Int)) := ⟨_, rfl⟩
      rw [← hac2] at hc8
      have HC8 := Aside0.mk hc8
      have HA2 := Aside0.mk hac2
      have c2 : w8.cell? ⟨go, 0, none⟩ = some v8 := (blk_cell HC8.out.o 0).trans rfl
      clear hc8 hs8 hac2
      go_wp2_with fail
      (try simp only [Exit.inBlock, Exit.then])
      refine bodyPost_ret (results_tmp rfl _ _ _) rfl ?_
      refine ⟨v8, rfl, ?_, HC8.out.b⟩
      have e5 := E5.out
      rw [List.drop_eq_nil_of_le (by omega)] at e5
      rw [← e5]
      rw [HA2.out] at HC8
      exact Kd.R_mono HC8.out.r (fun k hk => trivial)
end Go.Proofs.Ytcefenlblnediaa.My

/- The program's kept as the other texts name it: its plain form, and its contract. Asked: good hunks. -/
namespace Go.Proofs.Ytcefenlblnediaa.My
open Go.RowKit Go.Proofs.YtcefenlblnediaaW.PrintWords Go.Proofs.YtcefenlblnediaaW.PrintLast Go.Proofs.YtcefenlblnediaaW.PrintMore Go.Proofs.Ytcefenlblnediaa.Pl

def impl_kept.f (a0 : Int) (l1 : List IH) : Option (List Int) := if 0 ≤ a0 ∧ goodH a0 l1 = true then some (keptFrom a0.toNat 0 l1) else none
theorem chain_chain' {n : Int} : ∀ (h : List IH) (p : Int), chain n p h = true → chain' n p h
  | [], _, _ => trivial
  | x :: t, p, hc => by
    simp only [chain, Bool.and_eq_true] at hc
    have h1 := hc.1
    simp only [hOK, Bool.and_eq_true] at h1
    have h2 := of_decide_eq_true h1.1
    unfold hNum at h2
    exact ⟨⟨by omega, by omega, by omega, by omega⟩, chain_chain' t _ hc.2⟩
theorem impl_kept.calls (a0 : Int) (A1 : Option Addr) (c1 : Nat) (l1 : List IH) (r : List Int) (w : World) (hr1 : Kd.C k111 w A1 l1.length l1) (hc1 : l1.length ≤ c1) (h : impl_kept.f a0 l1 = some r) :
  Calls Try.prog 94 #[.int .i64 a0, .slice A1 l1.length c1] w fun e w' => ∃ v0_ : Value, e = .returned (v0_) ∧ Kd.R (Kd.int .i64) 3 w' w.heap.size (fun _ => True) v0_ r ∧ Below w.heap.size w w' := by
  simp only [impl_kept.f] at h
  split at h
  · rename_i c
    injection h with h
    subst h
    simp only [goodH, Bool.and_eq_true, decide_eq_true_eq] at c
    obtain ⟨n, rfl⟩ : ∃ n : Nat, a0 = (n : Int) := ⟨a0.toNat, by omega⟩
    have h40 := (inB_iff _ _ _).1 c.2.1
    rw [Int.toNat_natCast]
    exact impl_kept_made n A1 c1 l1 w hr1 hc1 (by omega) (by omega) (near_of_chain (by omega) l1 _ c.2.2.2) (chain_chain' l1 _ c.2.2.2)
  · cases h
end Go.Proofs.Ytcefenlblnediaa.My

/- Written by this session's program (wip/gen): a plain function with the same answers as the Go function, and the proof that the Go code comes to them. Asked: that the plain function has an answer. -/
namespace Go.Proofs.Ytcefenlblnediaa.My
open Go.RowKit Go.Proofs.YtcefenlblnediaaW.PrintWords Go.Proofs.YtcefenlblnediaaW.PrintLast Go.Proofs.YtcefenlblnediaaW.PrintMore
attribute [local go_sem] max2_int min2_int max_two min_two max_three min_three max_four min_four
set_option linter.unusedVariables false
set_option linter.unusedSimpArgs false

/-! ### impl_JoinHunks: function 27 -/
mutual
def impl_JoinHunks.j0 : Nat → List ByteArray → List (S111) → List (S111) → List ByteArray → List ByteArray → Bool → Option ((List (S111)) × Bool)
 | 0, _, _, _, _, _, _ => none
 | k + 1, x0, x1, x2, x8, x10, x34 => if x34 = true then (some (([] : List (S111)), false)) else ((impl_kept.f (x0.length : Int) x1).bind fun t520 => ((impl_kept.f (x8.length : Int) x2).bind fun t526 => (impl_JoinHunks.l0 k x0 x10 t520 (([] : List (List Int))) t526 (t526.length : Int) 0)))
def impl_JoinHunks.l0 : Nat → List ByteArray → List ByteArray → List Int → List (List Int) → List Int → Int → Int → Option ((List (S111)) × Bool)
 | 0, _, _, _, _, _, _, _ => none
 | k + 1, x0, x10, x12, x13, x43, x44, x45 => if x45 < x44 then (if 0 ≤ x45 then (if x45 < (x43.length : Int) then (if (rd x43 x45) ≥ 0 then (if 0 ≤ (rd x43 x45) then (if (rd x43 x45) < (x12.length : Int) then (if (rd x12 (rd x43 x45)) ≥ 0 then (if x13.length < 5864062014805 then (impl_JoinHunks.l0 k x0 x10 x12 (x13 ++ [(([rd x12 (rd x43 x45), x45] : List Int))]) x43 x44 (wrap64 (x45 + 1))) else (none)) else (impl_JoinHunks.l0 k x0 x10 x12 x13 x43 x44 (wrap64 (x45 + 1)))) else (none)) else (none)) else (impl_JoinHunks.l0 k x0 x10 x12 x13 x43 x44 (wrap64 (x45 + 1)))) else (none)) else (none)) else ((impl_between.f k x0 x10 x13).bind fun t538 => ((impl_goodHunks.f k (x0.length : Int) t538).bind fun t541 => (if t541 = true then (some (t538, true)) else (some (([] : List (S111)), false)))))
end
def impl_JoinHunks.f (k : Nat) (l0 : List ByteArray) (l1 : List (S111)) (l2 : List (S111)) : Option ((List (S111)) × Bool) := (impl_Patch.f k l0 l1).bind fun bt512 => ((impl_Patch.f k bt512.1 l2).bind fun bt516 => (if bt512.2 = true then (impl_JoinHunks.j0 k l0 l1 l2 bt512.1 bt516.1 (!bt516.2)) else (impl_JoinHunks.j0 k l0 l1 l2 bt512.1 bt516.1 true)))
set_option maxHeartbeats 8000000 in
set_option maxRecDepth 100000 in
theorem impl_JoinHunks.calls (k : Nat) (A0 : Option Addr) (c0 : Nat) (l0 : List ByteArray) (A1 : Option Addr) (c1 : Nat) (l1 : List (S111)) (A2 : Option Addr) (c2 : Nat) (l2 : List (S111)) (r1 : List (S111)) (r2 : Bool) (w : World) (hr0 : Kd.C Kd.string w A0 l0.length l0) (hc0 : l0.length ≤ c0) (hr1 : Kd.C k111 w A1 l1.length l1) (hc1 : l1.length ≤ c1) (hr2 : Kd.C k111 w A2 l2.length l2) (hc2 : l2.length ≤ c2) (h : impl_JoinHunks.f k l0 l1 l2 = some (r1, r2)) :
  Calls Try.prog 27 #[.slice A0 l0.length c0, .slice A1 l1.length c1, .slice A2 l2.length c2] w fun e w' => ∃ v0_ : Value, e = .returned (.tuple #[v0_, .bool r2]) ∧ Kd.S k111 111 w' w.heap.size (fun _ => True) v0_ r1 ∧ Below w.heap.size w w' := by
 have HR0 := Aside0.mk hr0
 have HC0 := Aside0.mk hc0
 clear hr0 hc0
 have HR1 := Aside0.mk hr1
 have HC1 := Aside0.mk hc1
 clear hr1 hc1
 have HR2 := Aside0.mk hr2
 have HC2 := Aside0.mk hc2
 clear hr2 hc2
 have HB := Aside0.mk (Below.refl w.heap.size w)
 have H : ((impl_Patch.f k l0 l1).bind fun bt512 => ((impl_Patch.f k bt512.1 l2).bind fun bt516 => (if bt512.2 = true then (impl_JoinHunks.j0 k l0 l1 l2 bt512.1 bt516.1 (!bt516.2)) else (impl_JoinHunks.j0 k l0 l1 l2 bt512.1 bt516.1 true)))) = some (r1, r2) := h
 clear h
 replace H := Option.bind_eq_some_iff.mp H
 obtain ⟨⟨t512, t513⟩, A40, H⟩ := H
 replace H : ((impl_Patch.f k t512 l2).bind fun bt516 => (if t513 = true then (impl_JoinHunks.j0 k l0 l1 l2 t512 bt516.1 (!bt516.2)) else (impl_JoinHunks.j0 k l0 l1 l2 t512 bt516.1 true))) = some (r1, r2) := H
 have A4 := Aside0.mk A40
 clear A40
 replace H := Option.bind_eq_some_iff.mp H
 obtain ⟨⟨t516, t517⟩, A50, H⟩ := H
 replace H : (if t513 = true then (impl_JoinHunks.j0 k l0 l1 l2 t512 t516 (!t517)) else (impl_JoinHunks.j0 k l0 l1 l2 t512 t516 true)) = some (r1, r2) := H
 have A5 := Aside0.mk A50
 clear A50
 have HC6 := Aside0.mk H
 clear H
 go_enter Try.func27, Try.ntmps27
 go_upto_region 3 with (first | ((with_reducible refine gateC (f := 35) rfl ?_); refine goesL_ (some 20) rfl rfl Try.func35 (by kernel_rfl) rfl #[.slice A0 l0.length c0, .slice A1 l1.length c1] rfl zm ?_; (with_reducible refine (impl_Patch.calls k _ _ l0 _ _ l1 t512 t513 _ ?side1 ?side2 ?side3 ?side4 A4.out).mono ?_); (case side1 => exact zq HR0.out); (case side2 => exact HC0.out); (case side3 => exact zq HR1.out); (case side4 => exact HC1.out); rintro e w7 ⟨v514, rfl, ho0, hb⟩; refine ⟨_, rfl, ?_⟩; have n0_ := Aside0.mk (Kd.R_lower ho0 (below_size zb)); have n1_ := Aside0.mk (below_step zb hb); clear HB; have HO515 := n0_; have HB := n1_; clear n0_ n1_; (try clear hb); (try clear hb2); (try clear hk); (try clear hi); (try clear ho0); obtain ⟨Ao8, co8, eo8⟩ := Kd.R_slice HO515.out; subst eo8) | ((with_reducible refine gateC (f := 35) rfl ?_); refine goesL_ (some 26) rfl rfl Try.func35 (by kernel_rfl) rfl #[.slice Ao8 t512.length co8, .slice A2 l2.length c2] rfl zm ?_; (with_reducible refine (impl_Patch.calls k _ _ t512 _ _ l2 t516 t517 _ ?side1 ?side2 ?side3 ?side4 A5.out).mono ?_); (case side1 => repeat (first | exact (Kd.R_reads' HO515.out).2.2 | (with_reducible refine Kd.C_alloc ?_ _) | (with_reducible refine Kd.C_drewN ?_ _) | (with_reducible refine Kd.C_drew ?_))); (case side2 => exact (Kd.R_reads' HO515.out).2.1); (case side3 => exact zq (Kd.C_below HR2.out HB.out)); (case side4 => exact HC2.out); rintro e w9 ⟨v518, rfl, ho0, hb⟩; refine ⟨_, rfl, ?_⟩; have n0_ := Aside0.mk (Kd.R_elder' (zr HO515.out) (Kd.R_base ho0) hb); have n1_ := Aside0.mk (Kd.R_lower (Kd.R_new' ho0 (Kd.R_lt (zr HO515.out))) (below_size zb)); have n2_ := Aside0.mk (below_step zb hb); clear HO515; clear HB; have HO515 := n0_; have HO519 := n1_; have HB := n2_; clear n0_ n1_ n2_; (try clear hb); (try clear hb2); (try clear hk); (try clear hi); (try clear ho0)))
 (try simp only [Act.put, List.setIfInBounds_toArray, List.set_cons_zero, List.set_cons_succ])
 go_cut [34] (fun v34 wc => ∃ (kq : Nat) (x34_5 : Bool), v34 = .bool x34_5 ∧ Aside0 (impl_JoinHunks.j0 kq l0 l1 l2 t512 t516 x34_5 = some (r1, r2)) ∧ Aside0 (kq ≤ k) ∧ Aside0 (Kd.R Kd.string 9 wc w.heap.size (fun k_ => some k_ ≠ (v518 : Value).ownBlock) (.slice Ao8 t512.length co8) t512) ∧ Aside0 (Kd.R Kd.string 9 wc w.heap.size (fun k_ => some k_ ≠ ((.slice Ao8 t512.length co8) : Value).ownBlock) v518 t516) ∧ Aside0 (Below w.heap.size w wc))
 case first =>
  have H := HC6.out
  clear HC6
  by_cases c10 : t513 = true
  ·subst c10
   have H1 : (impl_JoinHunks.j0 k l0 l1 l2 t512 t516 (!t517)) = some (r1, r2) := by rw [if_pos rfl] at H; exact H
   clear H
   have H := H1
   clear H1
   have H' := Aside0.mk H
   clear H
   go_wp2
   go_meet
   case rel => exact ⟨_, (!t517), zf, H', ⟨by first | omega | exact Nat.le_refl _⟩, ⟨by (with_reducible repeat (first | apply Kd.R_alloc | apply Kd.R_drewN | apply Kd.R_drew)); exact Kd.R_mono HO515.out (fun _ hk => hk.2)⟩, ⟨by (with_reducible repeat (first | apply Kd.R_alloc | apply Kd.R_drewN | apply Kd.R_drew)); exact Kd.R_mono HO519.out (fun _ hk => hk.2)⟩, ⟨by repeat (first | (with_reducible first | exact HB.out | apply below_alloc | apply pw_below_drewN | apply below_drew1) | exact HB.out)⟩⟩
  ·replace c10 := Bool.eq_false_iff.mpr c10
   subst c10
   have H1 : (impl_JoinHunks.j0 k l0 l1 l2 t512 t516 true) = some (r1, r2) := by rw [if_neg (show ¬ (false = true) by decide)] at H; exact H
   clear H
   have H := H1
   clear H1
   have H' := Aside0.mk H
   clear H
   go_wp2
   go_meet
   case rel => exact ⟨_, (true), zf, H', ⟨by first | omega | exact Nat.le_refl _⟩, ⟨by (with_reducible repeat (first | apply Kd.R_alloc | apply Kd.R_drewN | apply Kd.R_drew)); exact Kd.R_mono HO515.out (fun _ hk => hk.2)⟩, ⟨by (with_reducible repeat (first | apply Kd.R_alloc | apply Kd.R_drewN | apply Kd.R_drew)); exact Kd.R_mono HO519.out (fun _ hk => hk.2)⟩, ⟨by repeat (first | (with_reducible first | exact HB.out | apply below_alloc | apply pw_below_drewN | apply below_drew1) | exact HB.out)⟩⟩
 case rest =>
  clear HC6
  try clear c1
  try clear c2
  try clear p2
  try clear c3
  try clear c10
  obtain ⟨kq, x34_5, rfl, HA, HJ5, HO_8, HO_10, HB⟩ := hcut
  cases kq with
  | zero => exact absurd HA.out (by simp [impl_JoinHunks.j0])
  | succ kj5 =>
   have H := HA.out
   clear HA
   simp only [impl_JoinHunks.j0] at H
   by_cases c11 : x34_5 = true
   ·subst c11
    have H1 : (some (([] : List (S111)), false)) = some (r1, r2) := by rw [if_pos rfl] at H; exact H
    clear H
    have H := H1
    clear H1
    simp only [Option.some.injEq, Prod.mk.injEq] at H
    obtain ⟨rfl, rfl⟩ := H
    go_wp2
    go_ret2
    exact ⟨_, by first | rfl | (simp [errW_none, errW_some] <;> rfl) | (simp [*, errW_none, errW_some] <;> rfl), by first | exact Kd.S_nil _ _ _ _ _ | exact Kd.Q_nil _ _ _ _ _ | exact Kd.R_nil _ _ _ _ _, by repeat (first | (with_reducible first | exact HB.out | apply below_alloc | apply pw_below_drewN | apply below_drew1) | exact HB.out)⟩
   ·replace c11 := Bool.eq_false_iff.mpr c11
    subst c11
    have H1 : ((impl_kept.f (l0.length : Int) l1).bind fun t520 => ((impl_kept.f (t512.length : Int) l2).bind fun t526 => (impl_JoinHunks.l0 kj5 l0 t516 t520 (([] : List (List Int))) t526 (t526.length : Int) 0))) = some (r1, r2) := by rw [if_neg (show ¬ (false = true) by decide)] at H; exact H
    clear H
    have H := H1
    clear H1
    replace H := Option.bind_eq_some_iff.mp H
    obtain ⟨t520, A120, H⟩ := H
    replace H : ((impl_kept.f (t512.length : Int) l2).bind fun t526 => (impl_JoinHunks.l0 kj5 l0 t516 t520 (([] : List (List Int))) t526 (t526.length : Int) 0)) = some (r1, r2) := H
    have A12 := Aside0.mk A120
    clear A120
    obtain ⟨y523, hy523⟩ : ∃ y_ : List (List Int), y_ = (([] : List (List Int))) := ⟨_, rfl⟩
    replace H : ((impl_kept.f (t512.length : Int) l2).bind fun t526 => (impl_JoinHunks.l0 kj5 l0 t516 t520 y523 t526 (t526.length : Int) 0)) = some (r1, r2) := by first | (rw [hy523]; with_reducible exact H) | (have H2_ := (Option.bind_some _ _).symm.trans H; rw [hy523]; with_reducible exact H2_) | (have H2_ := (Option.bind_some _ _).symm.trans H; with_reducible exact H2_) | with_reducible exact H | (rw [hy523]; exact H) | exact H
    have Ny523 := Aside0.mk hy523
    clear hy523
    replace H := Option.bind_eq_some_iff.mp H
    obtain ⟨t526, A130, H⟩ := H
    replace H : (impl_JoinHunks.l0 kj5 l0 t516 t520 y523 t526 (t526.length : Int) 0) = some (r1, r2) := H
    have A13 := Aside0.mk A130
    clear A130
    have H' := Aside0.mk H
    clear H
    go_wp2_with (first | ((with_reducible refine gateC (f := 94) rfl ?_); refine goesL_ (some 38) rfl rfl Try.func94 (by kernel_rfl) rfl #[.int .i64 (l0.length : Int), .slice A1 l1.length c1] rfl zm ?_; (with_reducible refine (impl_kept.calls (l0.length : Int) _ _ l1 t520 _ ?side1 ?side2 A12.out).mono ?_); (case side1 => exact zq (Kd.C_below HR1.out HB.out)); (case side2 => exact HC1.out); rintro e w14 ⟨v521, rfl, ho0, hb⟩; refine ⟨_, rfl, ?_⟩; have n0_ := Aside0.mk (Kd.R_below (zr HO_8.out) hb); have n1_ := Aside0.mk (Kd.R_below (zr HO_10.out) hb); have n2_ := Aside0.mk (Kd.R_lower ho0 (below_size zb)); have n3_ := Aside0.mk (below_step zb hb); clear HO_8; clear HO_10; clear HB; have HO_8 := n0_; have HO_10 := n1_; have HO522 := n2_; have HB := n3_; clear n0_ n1_ n2_ n3_; (try clear hb); (try clear hb2); (try clear hk); (try clear hi); (try clear ho0)) | ((with_reducible refine gate_dst (N := 39) rfl ?_); refine Kd.S_lit (Kd.slice 3 (Kd.int .i64)) _ 113 ?hg (N := 39) ?hd (xs := ([] : List (List Int))) (inner := []) (ok := fun _ => True) (okp := fun _ => True) ?hr ?hp (fun _ hk => hk) trivial (Below.refl _ _) (Nat.le_refl _) (by simp) ?_; (case hd => rfl); (case hg => rfl); (case hr => first | (go_simp; done) | (go_simp; rfl)); (case hp => exact (Reps.none _ _)); intro v524 w15 ho16 hb hg_ hnew_; clear hg_ hnew_; (first | rw [← Ny523.out] at ho16 | (simp only [Int.reduceToNat] at ho16; rw [← Ny523.out] at ho16)); have n0_ := Aside0.mk (Kd.R_below (zr HO_8.out) hb); have n1_ := Aside0.mk (Kd.R_below (zr HO_10.out) hb); have n2_ := Aside0.mk (Kd.R_below (zr HO522.out) hb); have n3_ := Aside0.mk (Kd.S_lower (Kd.S_new' ho16 (Kd.R_lt (zr HO522.out))) (below_size zb)); have n4_ := Aside0.mk (below_step zb hb); clear HO_8; clear HO_10; clear HO522; clear HB; have HO_8 := n0_; have HO_10 := n1_; have HO522 := n2_; have HO525 := n3_; have HB := n4_; clear n0_ n1_ n2_ n3_ n4_; clear hb ho16) | ((with_reducible refine gateC (f := 94) rfl ?_); refine goesL_ (some 43) rfl rfl Try.func94 (by kernel_rfl) rfl #[.int .i64 (t512.length : Int), .slice A2 l2.length c2] rfl zm ?_; (with_reducible refine (impl_kept.calls (t512.length : Int) _ _ l2 t526 _ ?side1 ?side2 A13.out).mono ?_); (case side1 => exact zq (Kd.C_below HR2.out HB.out)); (case side2 => exact HC2.out); rintro e w17 ⟨v527, rfl, ho0, hb⟩; refine ⟨_, rfl, ?_⟩; have n0_ := Aside0.mk (Kd.R_below (zr HO_8.out) hb); have n1_ := Aside0.mk (Kd.R_below (zr HO_10.out) hb); have n2_ := Aside0.mk (Kd.R_elder' (zr HO522.out) (Kd.R_base ho0) hb); have n3_ := Aside0.mk (Kd.S_elder' (zs HO525.out) (Kd.R_base ho0) hb); have n4_ := Aside0.mk (Kd.R_lower (Kd.R_new' ho0 (Kd.R_lt (zr HO522.out))) (below_size zb)); have n5_ := Aside0.mk (below_step zb hb); clear HO_8; clear HO_10; clear HO522; clear HO525; clear HB; have HO_8 := n0_; have HO_10 := n1_; have HO522 := n2_; have HO525 := n3_; have HO528 := n4_; have HB := n5_; clear n0_ n1_ n2_ n3_ n4_ n5_; (try clear hb); (try clear hb2); (try clear hk); (try clear hi); (try clear ho0); obtain ⟨Ao18, co18, eo18⟩ := Kd.R_slice HO528.out; subst eo18))
    go_loopg [13, 45] kj5 (fun kq v13 v45 w' => ∃ (x13_2 : List (List Int)) (x45_2 : Int), v45 = .int .i64 x45_2 ∧ Aside0 (impl_JoinHunks.l0 kq l0 t516 t520 x13_2 t526 (t526.length : Int) x45_2 = some (r1, r2)) ∧ Aside0 (kq ≤ kj5) ∧ Aside0 (Kd.R Kd.string 9 w' w.heap.size (fun _ => True) v518 t516) ∧ Aside0 (Kd.R (Kd.int .i64) 3 w' w.heap.size (fun k_ => some k_ ≠ ((.slice Ao18 t526.length co18) : Value).ownBlock) v521 t520) ∧ Aside0 (Kd.S (Kd.slice 3 (Kd.int .i64)) 113 w' w.heap.size (fun k_ => some k_ ≠ (v521 : Value).ownBlock ∧ some k_ ≠ ((.slice Ao18 t526.length co18) : Value).ownBlock) v13 x13_2) ∧ Aside0 (Kd.R (Kd.int .i64) 3 w' w.heap.size (fun k_ => some k_ ≠ (v521 : Value).ownBlock) (.slice Ao18 t526.length co18) t526) ∧ Aside0 (Below w.heap.size w w'))
    case atStart => exact ⟨(y523), (0), zf, H', ⟨Nat.le_refl _⟩, ⟨by (with_reducible repeat (first | apply Kd.R_alloc | apply Kd.R_drewN | apply Kd.R_drew)); exact Kd.R_mono HO_10.out (fun _ hk => trivial)⟩, ⟨by (with_reducible repeat (first | apply Kd.R_alloc | apply Kd.R_drewN | apply Kd.R_drew)); exact Kd.R_mono HO522.out (fun _ hk => hk.2)⟩, ⟨by (with_reducible repeat (first | apply Kd.S_alloc | apply Kd.S_drewN | apply Kd.S_drew)); exact Kd.S_mono HO525.out (fun _ hk => ⟨hk.1.2, hk.2⟩)⟩, ⟨by (with_reducible repeat (first | apply Kd.R_alloc | apply Kd.R_drewN | apply Kd.R_drew)); exact Kd.R_mono HO528.out (fun _ hk => hk.2)⟩, ⟨by repeat (first | (with_reducible first | exact HB.out | apply below_alloc | apply pw_below_drewN | apply below_drew1) | exact HB.out)⟩⟩
    case round =>
     clear H'
     try clear c1
     try clear c2
     try clear p2
     try clear c3
     try clear c9
     try clear c10
     try clear c11
     try clear p2
     obtain ⟨x13_2, x45_2, rfl, HA, HK2, HO_10, HO_12, HO_13, HO_43, HB⟩ := hrel
     cases gk with
     | zero => exact absurd HA.out (by simp [impl_JoinHunks.l0])
     | succ k2 =>
      have H := HA.out
      clear HA
      simp only [impl_JoinHunks.l0] at H
      by_cases c19 : x45_2 < (t526.length : Int)
      ·rw [if_pos c19] at H
       have c19b0 : decide (x45_2 < (t526.length : Int)) = true := decide_eq_true c19
       clear c19
       by_cases c20 : 0 ≤ x45_2
       ·rw [if_pos c20] at H
        have c20b0 : decide (0 ≤ x45_2) = true := decide_eq_true c20
        clear c20
        by_cases c21 : x45_2 < (t526.length : Int)
        ·rw [if_pos c21] at H
         have c21b0 : decide (x45_2 < (t526.length : Int)) = true := decide_eq_true c21
         clear c21
         by_cases c22 : (rd t526 x45_2) ≥ 0
         ·rw [if_pos c22] at H
          have c22b0 : decide (0 ≤ (rd t526 x45_2)) = true := decide_eq_true c22
          clear c22
          by_cases c23 : 0 ≤ (rd t526 x45_2)
          ·rw [if_pos c23] at H
           have c23b0 : decide (0 ≤ (rd t526 x45_2)) = true := decide_eq_true c23
           clear c23
           by_cases c24 : (rd t526 x45_2) < (t520.length : Int)
           ·rw [if_pos c24] at H
            have c24b0 : decide ((rd t526 x45_2) < (t520.length : Int)) = true := decide_eq_true c24
            clear c24
            by_cases c25 : (rd t520 (rd t526 x45_2)) ≥ 0
            ·rw [if_pos c25] at H
             have c25b0 : decide (0 ≤ (rd t520 (rd t526 x45_2))) = true := decide_eq_true c25
             clear c25
             obtain ⟨y532, hy532⟩ : ∃ y_ : List Int, y_ = (([rd t520 (rd t526 x45_2), x45_2] : List Int)) := ⟨_, rfl⟩
             replace H : (if x13_2.length < 5864062014805 then (impl_JoinHunks.l0 k2 l0 t516 t520 (x13_2 ++ [y532]) t526 (t526.length : Int) (wrap64 (x45_2 + 1))) else (none)) = some (r1, r2) := by first | (rw [hy532]; with_reducible exact H) | (have H2_ := (Option.bind_some _ _).symm.trans H; rw [hy532]; with_reducible exact H2_) | (have H2_ := (Option.bind_some _ _).symm.trans H; with_reducible exact H2_) | with_reducible exact H | (rw [hy532]; exact H) | exact H
             have Ny532 := Aside0.mk hy532
             clear hy532
             by_cases c26 : x13_2.length < 5864062014805
             ·rw [if_pos c26] at H
              have LMc26 := Aside0.mk c26
              clear c26
              obtain ⟨y535, hy535⟩ : ∃ y_ : List (List Int), y_ = (x13_2 ++ [y532]) := ⟨_, rfl⟩
              replace H : (impl_JoinHunks.l0 k2 l0 t516 t520 y535 t526 (t526.length : Int) (wrap64 (x45_2 + 1))) = some (r1, r2) := by first | (rw [hy535]; with_reducible exact H) | (have H2_ := (Option.bind_some _ _).symm.trans H; rw [hy535]; with_reducible exact H2_) | (have H2_ := (Option.bind_some _ _).symm.trans H; with_reducible exact H2_) | with_reducible exact H | (rw [hy535]; exact H) | exact H
              have Ny535 := Aside0.mk hy535
              clear hy535
              have H' := Aside0.mk H
              clear H
              have p529 : 0 ≤ (x45_2 : Int) := oa
              have q529 : x45_2 < (t526.length : Int) := oa
              obtain ⟨ad529, e529, hx529_0⟩ := Kd.at_int (Kd.R_reads' HO_43.out).2.2 x45_2 p529 q529
              cases e529
              replace p529 := eq_true p529
              replace q529 := eq_true q529
              obtain ⟨Ao27, co27, eo27⟩ := Kd.R_slice HO_12.out
              subst eo27
              have p530 : 0 ≤ ((rd t526 x45_2) : Int) := oa
              have q530 : (rd t526 x45_2) < (t520.length : Int) := oa
              obtain ⟨ad530, e530, hx530_0⟩ := Kd.at_int (Kd.R_reads' HO_12.out).2.2 (rd t526 x45_2) p530 q530
              cases e530
              replace p530 := eq_true p530
              replace q530 := eq_true q530
              have p531 : 0 ≤ ((rd t526 x45_2) : Int) := oa
              have q531 : (rd t526 x45_2) < (t520.length : Int) := oa
              obtain ⟨ad531, e531, hx531_0⟩ := Kd.at_int (Kd.R_reads' HO_12.out).2.2 (rd t526 x45_2) p531 q531
              obtain rfl : ad530 = ad531 := (by injection e531)
              replace p531 := eq_true p531
              replace q531 := eq_true q531
              go_wp2_with (first | ((with_reducible refine gate_dst (N := 65) rfl ?_); refine Kd.R_lit (Kd.int .i64) _ 3 ?hg (N := 65) ?hd (xs := ([rd t520 (rd t526 x45_2), x45_2] : List Int)) (inner := [.int .i64 (rd t520 (rd t526 x45_2)), .int .i64 x45_2]) (ok := fun _ => True) (okp := fun _ => True) ?hr ?hp (fun _ hk => hk) trivial (Below.refl _ _) (Nat.le_refl _) (by simp) ?_; (case hd => rfl); (case hg => rfl); (case hr => first | (go_simp; done) | (go_simp; rfl)); (case hp => exact (Reps.one (show Kd.M (Kd.int .i64) _ _ _ (rd t520 (rd t526 x45_2)) [.int .i64 (rd t520 (rd t526 x45_2))] from rfl) (Reps.one (show Kd.M (Kd.int .i64) _ _ _ x45_2 [.int .i64 x45_2] from rfl) (Reps.none _ _)))); intro v533 w28 ho29 hb hg_ hnew_; clear hg_ hnew_; (first | rw [← Ny532.out] at ho29 | (simp only [Int.reduceToNat] at ho29; rw [← Ny532.out] at ho29)); have n0_ := Aside0.mk (Kd.R_below (zr HO_10.out) hb); have n1_ := Aside0.mk (Kd.R_elder' (zr HO_12.out) (Kd.R_base ho29) hb); have n2_ := Aside0.mk (Kd.S_elder' (zs HO_13.out) (Kd.R_base ho29) hb); have n3_ := Aside0.mk (Kd.R_elder' (zr HO_43.out) (Kd.R_base ho29) hb); have n4_ := Aside0.mk (Kd.R_lower (Kd.R_new' (Kd.R_new' ho29 (Kd.R_lt (zr HO_12.out))) (Kd.R_lt (zr HO_43.out))) (below_size zb)); have n5_ := Aside0.mk (below_step zb hb); clear HO_10; clear HO_12; clear HO_13; clear HO_43; clear HB; have HO_10 := n0_; have HO_12 := n1_; have HO_13 := n2_; have HO_43 := n3_; have HO534 := n4_; have HB := n5_; clear n0_ n1_ n2_ n3_ n4_ n5_; clear hb ho29; obtain ⟨Ao31, co31, eo31⟩ := Kd.R_slice HO534.out; subst eo31) | ((with_reducible refine gateB (b := .append) (xs := #[.tmp 59, .tmp 66]) rfl ?_); at_builtin; refine Kd.S_append (Kd.slice 3 (Kd.int .i64)) (w0 := w) w.heap.size rfl (.tmp 59) (.tmp 66) 115 113 (.slice none 0 0) 24 rfl Try.underlying115 info113 rfl (by decide) (by omega) u13 x13_2 y532 [.slice Ao31 y532.length co31] (fun k_ => some k_ ≠ (.slice (some ad530) t520.length co27 : Value).ownBlock ∧ some k_ ≠ (.slice (some ad529) t526.length co18 : Value).ownBlock) (fun k_ => some k_ = (.slice Ao31 y532.length co31 : Value).ownBlock) rfl rfl ?aP (fun k_ hk_ => ((Kd.R_mono (ok' := fun k_ => ((fun k_ => some k_ ≠ (.slice (some ad530) t520.length co27 : Value).ownBlock ∧ some k_ ≠ (.slice (some ad529) t526.length co18 : Value).ownBlock)) k_ ∧ some k_ ≠ (u13 : Value).ownBlock) (Kd.R_apart' (HO534.out) (Kd.S_typed HO_13.out) (by decide)) (fun k_ hk => ⟨⟨hk.1.1.2, hk.1.2⟩, hk.2⟩))).1 k_ hk_.symm) ?aF ?aO ?aB ?aS ?aL ?_; (case aP => exact Kd.M_row (Kd.R_mono (Kd.R_tight rfl (Kd.R_mono (ok' := fun k_ => ((fun k_ => some k_ ≠ (.slice (some ad530) t520.length co27 : Value).ownBlock ∧ some k_ ≠ (.slice (some ad529) t526.length co18 : Value).ownBlock)) k_ ∧ some k_ ≠ (u13 : Value).ownBlock) (Kd.R_apart' (HO534.out) (Kd.S_typed HO_13.out) (by decide)) (fun k_ hk => ⟨⟨hk.1.1.2, hk.1.2⟩, hk.2⟩))) (fun _ h_ => h_))); (case aB => exact zb); (case aF => exact (fun k_ hk => ⟨Kd.fresh' (Kd.R_lt (zr HO_12.out)) k_ hk, Kd.fresh' (Kd.R_lt (zr HO_43.out)) k_ hk⟩)); (case aO => exact (by (with_reducible repeat (first | apply Kd.S_alloc | apply Kd.S_drewN | apply Kd.S_drew)); exact Kd.S_mono HO_13.out (fun k_ hk => ⟨⟨hk.1.1, hk.1.2⟩, fun e_ => hk.2 e_⟩))); (case aS => exact (below_size zb)); (case aL => have := LMc26.out; omega); intro v536 w30 ho hb hg hat; rw [← Ny535.out] at ho; have n0_ := Aside0.mk (Kd.R_over' (zr HO_10.out) (Kd.S_typed (zs HO_13.out)) (by decide) hg); have n1_ := Aside0.mk (Kd.R_over' (zr HO_12.out) (Kd.S_typed (zs HO_13.out)) (by decide) hg); have n2_ := Aside0.mk (Kd.R_over' (zr HO_43.out) (Kd.S_typed (zs HO_13.out)) (by decide) hg); have n3_ := Aside0.mk (hb); have n4_ := Aside0.mk (ho); clear HO_10; clear HO_12; clear HO_43; clear HB; clear HO_13; clear HO534; have HO_10 := n0_; have HO_12 := n1_; have HO_43 := n2_; have HB := n3_; have HO537 := n4_; clear n0_ n1_ n2_ n3_ n4_; clear ho hb hg hat))
              go_roundg k2
              case measure => have := HJ5.out; have := HK2.out; omega
              case rel => exact ⟨(y535), (wrap64 (x45_2 + 1)), zf, H', ⟨by have := HJ5.out; have := HK2.out; omega⟩, ⟨by (with_reducible repeat (first | apply Kd.R_alloc | apply Kd.R_drewN | apply Kd.R_drew)); exact HO_10.out⟩, ⟨by (with_reducible repeat (first | apply Kd.R_alloc | apply Kd.R_drewN | apply Kd.R_drew)); exact Kd.R_mono HO_12.out (fun _ hk => hk.1)⟩, ⟨by (with_reducible repeat (first | apply Kd.S_alloc | apply Kd.S_drewN | apply Kd.S_drew)); exact HO537.out⟩, ⟨by (with_reducible repeat (first | apply Kd.R_alloc | apply Kd.R_drewN | apply Kd.R_drew)); exact Kd.R_mono HO_43.out (fun _ hk => hk.1)⟩, ⟨by repeat (first | (with_reducible first | exact HB.out | apply below_alloc | apply pw_below_drewN | apply below_drew1) | exact HB.out)⟩⟩
             ·rw [if_neg c26] at H
              exact absurd H (by simp)
            ·rw [if_neg c25] at H
             have c25b0 : decide (0 ≤ (rd t520 (rd t526 x45_2))) = false := decide_eq_false c25
             clear c25
             have H' := Aside0.mk H
             clear H
             have p529 : 0 ≤ (x45_2 : Int) := oa
             have q529 : x45_2 < (t526.length : Int) := oa
             obtain ⟨ad529, e529, hx529_0⟩ := Kd.at_int (Kd.R_reads' HO_43.out).2.2 x45_2 p529 q529
             cases e529
             replace p529 := eq_true p529
             replace q529 := eq_true q529
             obtain ⟨Ao32, co32, eo32⟩ := Kd.R_slice HO_12.out
             subst eo32
             have p530 : 0 ≤ ((rd t526 x45_2) : Int) := oa
             have q530 : (rd t526 x45_2) < (t520.length : Int) := oa
             obtain ⟨ad530, e530, hx530_0⟩ := Kd.at_int (Kd.R_reads' HO_12.out).2.2 (rd t526 x45_2) p530 q530
             cases e530
             replace p530 := eq_true p530
             replace q530 := eq_true q530
             go_wp2
             go_roundg k2
             case measure => have := HJ5.out; have := HK2.out; omega
             case rel => exact ⟨(x13_2), (wrap64 (x45_2 + 1)), zf, H', ⟨by have := HJ5.out; have := HK2.out; omega⟩, ⟨by (with_reducible repeat (first | apply Kd.R_alloc | apply Kd.R_drewN | apply Kd.R_drew)); exact HO_10.out⟩, ⟨by (with_reducible repeat (first | apply Kd.R_alloc | apply Kd.R_drewN | apply Kd.R_drew)); exact HO_12.out⟩, ⟨by (with_reducible repeat (first | apply Kd.S_alloc | apply Kd.S_drewN | apply Kd.S_drew)); exact HO_13.out⟩, ⟨by (with_reducible repeat (first | apply Kd.R_alloc | apply Kd.R_drewN | apply Kd.R_drew)); exact HO_43.out⟩, ⟨by repeat (first | (with_reducible first | exact HB.out | apply below_alloc | apply pw_below_drewN | apply below_drew1) | exact HB.out)⟩⟩
           ·rw [if_neg c24] at H
            exact absurd H (by simp)
          ·rw [if_neg c23] at H
           exact absurd H (by simp)
         ·rw [if_neg c22] at H
          have c22b0 : decide (0 ≤ (rd t526 x45_2)) = false := decide_eq_false c22
          clear c22
          have H' := Aside0.mk H
          clear H
          have p529 : 0 ≤ (x45_2 : Int) := oa
          have q529 : x45_2 < (t526.length : Int) := oa
          obtain ⟨ad529, e529, hx529_0⟩ := Kd.at_int (Kd.R_reads' HO_43.out).2.2 x45_2 p529 q529
          cases e529
          replace p529 := eq_true p529
          replace q529 := eq_true q529
          go_wp2
          go_roundg k2
          case measure => have := HJ5.out; have := HK2.out; omega
          case rel => exact ⟨(x13_2), (wrap64 (x45_2 + 1)), zf, H', ⟨by have := HJ5.out; have := HK2.out; omega⟩, ⟨by (with_reducible repeat (first | apply Kd.R_alloc | apply Kd.R_drewN | apply Kd.R_drew)); exact HO_10.out⟩, ⟨by (with_reducible repeat (first | apply Kd.R_alloc | apply Kd.R_drewN | apply Kd.R_drew)); exact HO_12.out⟩, ⟨by (with_reducible repeat (first | apply Kd.S_alloc | apply Kd.S_drewN | apply Kd.S_drew)); exact HO_13.out⟩, ⟨by (with_reducible repeat (first | apply Kd.R_alloc | apply Kd.R_drewN | apply Kd.R_drew)); exact HO_43.out⟩, ⟨by repeat (first | (with_reducible first | exact HB.out | apply below_alloc | apply pw_below_drewN | apply below_drew1) | exact HB.out)⟩⟩
        ·rw [if_neg c21] at H
         exact absurd H (by simp)
       ·rw [if_neg c20] at H
        exact absurd H (by simp)
      ·rw [if_neg c19] at H
       have c19b0 : decide (x45_2 < (t526.length : Int)) = false := decide_eq_false c19
       clear c19
       replace H := Option.bind_eq_some_iff.mp H
       obtain ⟨t538, A330, H⟩ := H
       replace H : ((impl_goodHunks.f k2 (l0.length : Int) t538).bind fun t541 => (if t541 = true then (some (t538, true)) else (some (([] : List (S111)), false)))) = some (r1, r2) := H
       have A33 := Aside0.mk A330
       clear A330
       replace H := Option.bind_eq_some_iff.mp H
       obtain ⟨t541, A340, H⟩ := H
       replace H : (if t541 = true then (some (t538, true)) else (some (([] : List (S111)), false))) = some (r1, r2) := H
       have A34 := Aside0.mk A340
       clear A340
       by_cases c35 : t541 = true
       ·subst c35
        have H1 : (some (t538, true)) = some (r1, r2) := by rw [if_pos rfl] at H; exact H
        clear H
        have H := H1
        clear H1
        simp only [Option.some.injEq, Prod.mk.injEq] at H
        obtain ⟨rfl, rfl⟩ := H
        obtain ⟨Ao36, co36, eo36⟩ := Kd.R_slice HO_10.out
        subst eo36
        obtain ⟨Aq, cq, eq_⟩ := Kd.S_slice HO_13.out
        subst eq_
        go_wp2_with (first | ((with_reducible refine gateC (f := 95) rfl ?_); refine goesL_ (some 72) rfl rfl Try.func95 (by kernel_rfl) rfl #[.slice A0 l0.length c0, .slice Ao36 t516.length co36, .slice Aq x13_2.length cq] rfl zm ?_; (with_reducible refine (impl_between.calls k2 _ _ l0 _ _ t516 _ _ x13_2 t538 w _ ?side1 ?side2 ?side3 A33.out).mono ?_); (case side1 => exact zr HO_10.out); (case side2 => exact zs (Kd.S_mono HO_13.out (fun _ _ => trivial))); (case side3 => exact zb); rintro e w37 ⟨v539, rfl, ho0, hb⟩; refine ⟨_, rfl, ?_⟩; have n4_ := Aside0.mk ho0; have n5_ := Aside0.mk hb; clear HO_10; clear HO_12; clear HO_13; clear HO_43; clear HB; have HO540 := n4_; have HB := n5_; clear n4_ n5_; (try clear hb); (try clear hb2); (try clear hk); (try clear hi); (try clear ho0); obtain ⟨Ao38, co38, eo38⟩ := Kd.S_slice HO540.out; subst eo38) | ((with_reducible refine gateC (f := 96) rfl ?_); refine goesL_ (some 76) rfl rfl Try.func96 (by kernel_rfl) rfl #[.int .i64 (l0.length : Int), .slice Ao38 t538.length co38] rfl zm ?_; (with_reducible refine (impl_goodHunks.calls k2 (l0.length : Int) _ _ t538 true _ ?side1 ?side2 A34.out).mono ?_); (case side1 => repeat (first | exact (Kd.S_reads' HO540.out).2.2 | (with_reducible refine Kd.C_alloc ?_ _) | (with_reducible refine Kd.C_drewN ?_ _) | (with_reducible refine Kd.C_drew ?_))); (case side2 => exact (Kd.S_reads' HO540.out).2.1); rintro e w39 ⟨rfl, hb⟩; refine ⟨_, rfl, ?_⟩; have n4_ := Aside0.mk (Kd.S_below (zs HO540.out) hb); have n5_ := Aside0.mk (below_step zb hb); clear HO540; clear HB; have HO540 := n4_; have HB := n5_; clear n4_ n5_; (try clear hb); (try clear hb2); (try clear hk); (try clear hi)))
        go_ret2
        exact ⟨_, by first | rfl | (simp [errW_none, errW_some] <;> rfl) | (simp [*, errW_none, errW_some] <;> rfl), by (with_reducible repeat (first | apply Kd.S_alloc | apply Kd.S_drewN | apply Kd.S_drew)); exact Kd.S_mono HO540.out (fun _ hk => trivial), by repeat (first | (with_reducible first | exact HB.out | apply below_alloc | apply pw_below_drewN | apply below_drew1) | exact HB.out)⟩
       ·replace c35 := Bool.eq_false_iff.mpr c35
        subst c35
        have H1 : (some (([] : List (S111)), false)) = some (r1, r2) := by rw [if_neg (show ¬ (false = true) by decide)] at H; exact H
        clear H
        have H := H1
        clear H1
        simp only [Option.some.injEq, Prod.mk.injEq] at H
        obtain ⟨rfl, rfl⟩ := H
        obtain ⟨Ao40, co40, eo40⟩ := Kd.R_slice HO_10.out
        subst eo40
        obtain ⟨Aq, cq, eq_⟩ := Kd.S_slice HO_13.out
        subst eq_
        go_wp2_with (first | ((with_reducible refine gateC (f := 95) rfl ?_); refine goesL_ (some 72) rfl rfl Try.func95 (by kernel_rfl) rfl #[.slice A0 l0.length c0, .slice Ao40 t516.length co40, .slice Aq x13_2.length cq] rfl zm ?_; (with_reducible refine (impl_between.calls k2 _ _ l0 _ _ t516 _ _ x13_2 t538 w _ ?side1 ?side2 ?side3 A33.out).mono ?_); (case side1 => exact zr HO_10.out); (case side2 => exact zs (Kd.S_mono HO_13.out (fun _ _ => trivial))); (case side3 => exact zb); rintro e w41 ⟨v539, rfl, ho0, hb⟩; refine ⟨_, rfl, ?_⟩; have n4_ := Aside0.mk ho0; have n5_ := Aside0.mk hb; clear HO_10; clear HO_12; clear HO_13; clear HO_43; clear HB; have HO540 := n4_; have HB := n5_; clear n4_ n5_; (try clear hb); (try clear hb2); (try clear hk); (try clear hi); (try clear ho0); obtain ⟨Ao42, co42, eo42⟩ := Kd.S_slice HO540.out; subst eo42) | ((with_reducible refine gateC (f := 96) rfl ?_); refine goesL_ (some 76) rfl rfl Try.func96 (by kernel_rfl) rfl #[.int .i64 (l0.length : Int), .slice Ao42 t538.length co42] rfl zm ?_; (with_reducible refine (impl_goodHunks.calls k2 (l0.length : Int) _ _ t538 false _ ?side1 ?side2 A34.out).mono ?_); (case side1 => repeat (first | exact (Kd.S_reads' HO540.out).2.2 | (with_reducible refine Kd.C_alloc ?_ _) | (with_reducible refine Kd.C_drewN ?_ _) | (with_reducible refine Kd.C_drew ?_))); (case side2 => exact (Kd.S_reads' HO540.out).2.1); rintro e w43 ⟨rfl, hb⟩; refine ⟨_, rfl, ?_⟩; have n4_ := Aside0.mk (Kd.S_below (zs HO540.out) hb); have n5_ := Aside0.mk (below_step zb hb); clear HO540; clear HB; have HO540 := n4_; have HB := n5_; clear n4_ n5_; (try clear hb); (try clear hb2); (try clear hk); (try clear hi)))
        go_ret2
        exact ⟨_, by first | rfl | (simp [errW_none, errW_some] <;> rfl) | (simp [*, errW_none, errW_some] <;> rfl), by first | exact Kd.S_nil _ _ _ _ _ | exact Kd.Q_nil _ _ _ _ _ | exact Kd.R_nil _ _ _ _ _, by repeat (first | (with_reducible first | exact HB.out | apply below_alloc | apply pw_below_drewN | apply below_drew1) | exact HB.out)⟩

end Go.Proofs.Ytcefenlblnediaa.My

/- Written by this session's program (wip/gen): a plain function with the same answers as the Go function, and the proof that the Go code comes to them. Asked: that the plain function has an answer. -/
namespace Go.Proofs.Ytcefenlblnediaa.My
open Go.RowKit Go.Proofs.YtcefenlblnediaaW.PrintWords Go.Proofs.YtcefenlblnediaaW.PrintLast Go.Proofs.YtcefenlblnediaaW.PrintMore
attribute [local go_sem] max2_int min2_int max_two min_two max_three min_three max_four min_four
set_option linter.unusedVariables false
set_option linter.unusedSimpArgs false

/-! ### laws_markText: function 98 -/
def laws_markText.l0 : Nat → Int → ByteArray → Option (ByteArray)
 | 0, _, _ => none
 | k + 1, x0, x3 => if x0 > 0 then ((some (([(wrap64 (48 + (Int.tmod x0 10))) % 256] : List Int) : List Int)).bind fun y551 => (if (strOfNums y551).size + x3.size ≤ 9223372036854775807 then (laws_markText.l0 k (wrap64 (Int.tdiv x0 10)) ((strOfNums y551) ++ x3)) else (none))) else (if 1 + x3.size ≤ 9223372036854775807 then (some ((⟨#[109]⟩ : ByteArray) ++ x3)) else (none))
def laws_markText.f (k : Nat) (a0 : Int) : Option (ByteArray) := if a0 ≤ 0 then (some (⟨#[109, 48]⟩ : ByteArray)) else (laws_markText.l0 k a0 (⟨#[]⟩ : ByteArray))
set_option maxHeartbeats 8000000 in
set_option maxRecDepth 100000 in
theorem laws_markText.calls (k : Nat) (a0 : Int) (r : ByteArray) (w : World) (h : laws_markText.f k a0 = some r) :
  Calls Try.prog 98 #[.int .i64 a0] w fun e w' => e = .returned (.string r) ∧ Below w.heap.size w w' := by
 have HB := Aside0.mk (Below.refl w.heap.size w)
 have H : (if a0 ≤ 0 then (some (⟨#[109, 48]⟩ : ByteArray)) else (laws_markText.l0 k a0 (⟨#[]⟩ : ByteArray))) = some r := h
 clear h
 by_cases c2 : a0 ≤ 0
 ·rw [if_pos c2] at H
  have c2b0 : decide (a0 ≤ 0) = true := decide_eq_true c2
  clear c2
  obtain rfl := Option.some.inj H
  go_enter Try.func98, Try.ntmps98
  go_wp2
  go_ret
  exact ⟨by first | rfl | (simp [errW_none, errW_some] <;> rfl) | (simp [*, errW_none, errW_some] <;> rfl), by repeat (first | (with_reducible first | exact HB.out | apply below_alloc | apply pw_below_drewN | apply below_drew1) | exact HB.out)⟩
 ·rw [if_neg c2] at H
  have c2b0 : decide (a0 ≤ 0) = false := decide_eq_false c2
  clear c2
  have H' := Aside0.mk H
  clear H
  go_enter Try.func98, Try.ntmps98
  go_wp2
  go_loopg [0, 3] k (fun kq v0 v3 w' => ∃ (x0_1 : Int) (x3_1 : ByteArray), v0 = .int .i64 x0_1 ∧ v3 = .string x3_1 ∧ Aside0 (laws_markText.l0 kq x0_1 x3_1 = some r) ∧ Aside0 (kq ≤ k) ∧ Aside0 (Below w.heap.size w w'))
  case atStart => exact ⟨(a0), ((⟨#[]⟩ : ByteArray)), zf, zf, H', ⟨Nat.le_refl _⟩, ⟨by repeat (first | (with_reducible first | exact HB.out | apply below_alloc | apply pw_below_drewN | apply below_drew1) | exact HB.out)⟩⟩
  case round =>
   clear H'
   try clear c2
   try clear c2b0
   try clear p2
   obtain ⟨x0_1, x3_1, rfl, rfl, HA, HK1, HB⟩ := hrel
   cases gk with
   | zero => exact absurd HA.out (by simp [laws_markText.l0])
   | succ k1 =>
    have H := HA.out
    clear HA
    simp only [laws_markText.l0] at H
    by_cases c3 : x0_1 > 0
    ·rw [if_pos c3] at H
     have c3b0 : decide (0 < x0_1) = true := decide_eq_true c3
     clear c3
     obtain ⟨y551, hy551⟩ : ∃ y_ : List Int, y_ = (([(wrap64 (48 + (Int.tmod x0_1 10))) % 256] : List Int)) := ⟨_, rfl⟩
     replace H : (if (strOfNums y551).size + x3_1.size ≤ 9223372036854775807 then (laws_markText.l0 k1 (wrap64 (Int.tdiv x0_1 10)) ((strOfNums y551) ++ x3_1)) else (none)) = some r := by first | (rw [hy551]; with_reducible exact H) | (have H2_ := (Option.bind_some _ _).symm.trans H; rw [hy551]; with_reducible exact H2_) | (have H2_ := (Option.bind_some _ _).symm.trans H; with_reducible exact H2_) | with_reducible exact H | (rw [hy551]; exact H) | exact H
     have Ny551 := Aside0.mk hy551
     clear hy551
     by_cases c4 : (strOfNums y551).size + x3_1.size ≤ 9223372036854775807
     ·rw [if_pos c4] at H
      have c4b0 := eq_true c4
      have c4b1 : decide ((strOfNums y551).size + x3_1.size ≤ 9223372036854775807) = true := decide_eq_true c4
      try have c4b2 : (9223372036854775807 < (strOfNums y551).size + x3_1.size) = False := eq_false (Nat.not_lt.2 c4)
      have H' := Aside0.mk H
      clear H
      go_wp2_with (first | ((with_reducible refine gate_dst (N := 12) rfl ?_); refine Kd.R_lit (Kd.int .u8) _ 5 ?hg (N := 12) ?hd (xs := ([(wrap64 (48 + (Int.tmod x0_1 10))) % 256] : List Int)) (inner := [.int .u8 ((wrap64 (48 + (Int.tmod x0_1 10))) % 256)]) (ok := fun _ => True) (okp := fun _ => True) ?hr ?hp (fun _ hk => hk) trivial (Below.refl _ _) (Nat.le_refl _) (by simp) ?_; (case hd => rfl); (case hg => rfl); (case hr => first | (go_simp; done) | (go_simp; rfl)); (case hp => exact (Reps.one (show Kd.M (Kd.int .u8) _ _ _ ((wrap64 (48 + (Int.tmod x0_1 10))) % 256) [.int .u8 ((wrap64 (48 + (Int.tmod x0_1 10))) % 256)] from rfl) (Reps.none _ _))); intro v552 w5 ho6 hb hg_ hnew_; clear hg_ hnew_; (first | rw [← Ny551.out] at ho6 | (simp only [Int.reduceToNat] at ho6; rw [← Ny551.out] at ho6)); have n0_ := Aside0.mk (Kd.R_lower ho6 (below_size zb)); have n1_ := Aside0.mk (below_step zb hb); clear HB; have HO553 := n0_; have HB := n1_; clear n0_ n1_; clear hb ho6; have hcv7 := own_string (P := Try.prog) Try.underlying46 Try.underlying5 Try.underlying9 (Kd.own_of_R HO553.out)))
      go_roundg k1
      case measure => have := HK1.out; omega
      case rel => exact ⟨(wrap64 (Int.tdiv x0_1 10)), ((strOfNums y551) ++ x3_1), zf, zf, H', ⟨by have := HK1.out; omega⟩, ⟨by repeat (first | (with_reducible first | exact HB.out | apply below_alloc | apply pw_below_drewN | apply below_drew1) | exact HB.out)⟩⟩
     ·rw [if_neg c4] at H
      exact absurd H (by simp)
    ·rw [if_neg c3] at H
     have c3b0 : decide (0 < x0_1) = false := decide_eq_false c3
     clear c3
     by_cases c8 : 1 + x3_1.size ≤ 9223372036854775807
     ·rw [if_pos c8] at H
      have c8b0 := eq_true c8
      have c8b1 : decide (1 + x3_1.size ≤ 9223372036854775807) = true := decide_eq_true c8
      try have c8b2 : (9223372036854775807 < 1 + x3_1.size) = False := eq_false (Nat.not_lt.2 c8)
      obtain rfl := Option.some.inj H
      go_wp2
      go_ret
      exact ⟨by first | rfl | (simp [errW_none, errW_some] <;> rfl) | (simp [*, errW_none, errW_some] <;> rfl), by repeat (first | (with_reducible first | exact HB.out | apply below_alloc | apply pw_below_drewN | apply below_drew1) | exact HB.out)⟩
     ·rw [if_neg c8] at H
      exact absurd H (by simp)

end Go.Proofs.Ytcefenlblnediaa.My

/- Written by this session's program (wip/gen): a plain function with the same answers as the Go function, and the proof that the Go code comes to them. Asked: that the plain function has an answer. -/
namespace Go.Proofs.Ytcefenlblnediaa.My
open Go.RowKit Go.Proofs.YtcefenlblnediaaW.PrintWords Go.Proofs.YtcefenlblnediaaW.PrintLast Go.Proofs.YtcefenlblnediaaW.PrintMore
attribute [local go_sem] max2_int min2_int max_two min_two max_three min_three max_four min_four
set_option linter.unusedVariables false
set_option linter.unusedSimpArgs false

/-! ### laws_heldStringS: function 69 -/
def laws_heldStringS.l0 : Nat → List ByteArray → Int → Int → Option (Int)
 | 0, _, _, _ => none
 | k + 1, x0, x1, x5 => if x5 < (x0.length : Int) then (if 0 ≤ x5 then ((laws_markText.f k x1).bind fun t557 => (if (rdOf ByteArray.empty x0 x5).toList = t557.toList then (laws_heldStringS.l0 k x0 (wrap64 (x1 + 1)) (wrap64 (x5 + 1))) else (some (-1)))) else (none)) else (some x1)
def laws_heldStringS.f (k : Nat) (l0 : List ByteArray) (a1 : Int) : Option (Int) := laws_heldStringS.l0 k l0 a1 0
set_option maxHeartbeats 8000000 in
set_option maxRecDepth 100000 in
theorem laws_heldStringS.calls (k : Nat) (A0 : Option Addr) (c0 : Nat) (l0 : List ByteArray) (a1 : Int) (r : Int) (w : World) (hr0 : Kd.C Kd.string w A0 l0.length l0) (hc0 : l0.length ≤ c0) (h : laws_heldStringS.f k l0 a1 = some r) :
  Calls Try.prog 69 #[.slice A0 l0.length c0, .int .i64 a1] w fun e w' => e = .returned (.int .i64 r) ∧ Below w.heap.size w w' := by
 have HR0 := Aside0.mk hr0
 have HC0 := Aside0.mk hc0
 clear hr0 hc0
 have HB := Aside0.mk (Below.refl w.heap.size w)
 have H : (laws_heldStringS.l0 k l0 a1 0) = some r := h
 clear h
 have H' := Aside0.mk H
 clear H
 go_enter Try.func69, Try.ntmps69
 go_wp2
 go_loopg [1, 5] k (fun kq v1 v5 w' => ∃ (x1_1 : Int) (x5_1 : Int), v1 = .int .i64 x1_1 ∧ v5 = .int .i64 x5_1 ∧ Aside0 (laws_heldStringS.l0 kq l0 x1_1 x5_1 = some r) ∧ Aside0 (kq ≤ k) ∧ Aside0 (Below w.heap.size w w'))
 case atStart => exact ⟨(a1), (0), zf, zf, H', ⟨Nat.le_refl _⟩, ⟨by repeat (first | (with_reducible first | exact HB.out | apply below_alloc | apply pw_below_drewN | apply below_drew1) | exact HB.out)⟩⟩
 case round =>
  clear H'
  try clear p2
  obtain ⟨x1_1, x5_1, rfl, rfl, HA, HK1, HB⟩ := hrel
  cases gk with
  | zero => exact absurd HA.out (by simp [laws_heldStringS.l0])
  | succ k1 =>
   have H := HA.out
   clear HA
   simp only [laws_heldStringS.l0] at H
   by_cases c3 : x5_1 < (l0.length : Int)
   ·rw [if_pos c3] at H
    have c3b0 : decide (x5_1 < (l0.length : Int)) = true := decide_eq_true c3
    clear c3
    by_cases c4 : 0 ≤ x5_1
    ·rw [if_pos c4] at H
     have c4b0 : decide (0 ≤ x5_1) = true := decide_eq_true c4
     clear c4
     replace H := Option.bind_eq_some_iff.mp H
     obtain ⟨t557, A50, H⟩ := H
     replace H : (if (rdOf ByteArray.empty l0 x5_1).toList = t557.toList then (laws_heldStringS.l0 k1 l0 (wrap64 (x1_1 + 1)) (wrap64 (x5_1 + 1))) else (some (-1))) = some r := H
     have A5 := Aside0.mk A50
     clear A50
     by_cases c6 : (rdOf ByteArray.empty l0 x5_1).toList = t557.toList
     ·rw [if_pos c6] at H
      have c6b0 : ((rdOf ByteArray.empty l0 x5_1).toList == t557.toList) = true := beq_iff_eq.mpr c6
      have c6b1 : ((rdOf ByteArray.empty l0 x5_1).toList != t557.toList) = false := bne_eq_false_iff_eq.mpr c6
      clear c6
      have H' := Aside0.mk H
      clear H
      try go_wp2
      have n0_ := Aside0.mk (below_drew1 HB.out)
      clear HB
      have HB := n0_
      clear n0_
      have p556 : 0 ≤ (x5_1 : Int) := oa
      have q556 : x5_1 < (l0.length : Int) := oa
      obtain ⟨ad556, e556, hx556_0⟩ := Kd.at_string HR0.out x5_1 p556 q556
      have hw556_0 := hx556_0
      cases e556
      replace hx556_0 := (HB.out.cell (World.block_lt_of_cell? w _ hx556_0)).trans hx556_0
      replace p556 := eq_true p556
      replace q556 := eq_true q556
      refine start_ (n := 7) (S := fun w' => w'.cell? (ad556.add (x5_1).toNat) = some (.string (rdOf ByteArray.empty l0 x5_1))) (ds := []) #[O,O,O,O,O,O,O] (by kernel_rfl) rfl rfl (((HB.out.cell (World.block_lt_of_cell? w _ hw556_0)).trans hw556_0)) (fun hHeld => ?_)
      generalize wr.drew = w7 at HB hx556_0 hHeld ⊢
      refine pure_ (i := 0) (N := some 12) (v := ?_) (a' := ?_) #[Y,O,O,O,O,O,O] rfl rfl (by kernel_rfl) (fun _ _ _ h => h) (Or.inl ⟨by rfl, ?_⟩) ?_ ?_
      rotate_left; (intro w'; go_simp; with_reducible rfl); rotate_left; (simp only [Act.put,qa,qb,qc,i64_w,i32_w]; rfl)
      refine pure_ (i := 1) (N := some 13) (v := ?_) (a' := ?_) #[Y,Y,O,O,O,O,O] rfl rfl (by kernel_rfl) (fun _ _ _ h => h) (Or.inl ⟨by rfl, ?_⟩) ?_ ?_
      rotate_left; (intro w'; go_simp; with_reducible rfl); rotate_left; (simp only [Act.put,qa,qb,qc,i64_w,i32_w]; rfl)
      refine pure_ (i := 2) (N := some 14) (v := ?_) (a' := ?_) #[Y,Y,Y,O,O,O,O] rfl rfl (by kernel_rfl) (fun _ _ _ h => h) (Or.inl ⟨by rfl, ?_⟩) ?_ ?_
      rotate_left; (intro w'; go_simp; with_reducible rfl); rotate_left; (simp only [Act.put,qa,qb,qc,i64_w,i32_w]; rfl)
      refine pure_ (i := 4) (N := some 16) (v := ?_) (a' := ?_) #[Y,Y,Y,O,Y,O,O] rfl rfl (by kernel_rfl) (fun _ _ _ h => h) (Or.inl ⟨by rfl, ?_⟩) ?_ ?_
      rotate_left; (intro w'; go_simp; with_reducible rfl); rotate_left; (simp only [Act.put,qa,qb,qc,i64_w,i32_w]; rfl)
      refine take_ (i := 3) (N := some 15) (v := ?_) (a' := ?_) #[Y,Y,Y,Y,Y,O,O] rfl rfl (by kernel_rfl) (fun _ _ _ h => h) (Or.inl ⟨by rfl, ?_⟩) hHeld ?_ ?_
      rotate_left
      ·intro w' s0
       go_simp
       with_reducible rfl
      rotate_left
      ·simp only [Act.put,qa,qb,qc,i64_w,i32_w]
       rfl
      refine one_ (i := 5) (N := some 17) #[Y,Y,Y,Y,Y,Y,O] rfl rfl (by kernel_rfl) (by decide) (fun K hK => ?_)
      refine goes_ Try.func98 (by kernel_rfl) rfl #[.int .i64 x1_1] (by rfl) rfl rfl zm ?_
      with_reducible refine (laws_markText.calls k1 x1_1 t557 _ A5.out).mono ?_
      rintro e w8 ⟨rfl, hb⟩
      refine ⟨_, rfl, ?_⟩
      have n0_ := Aside0.mk (below_step zb hb)
      clear HB
      have HB := n0_
      clear n0_
      (try clear hb)
      (try clear hb2)
      (try clear hk)
      (try clear hi)
      refine hK.out _ _ (((HB.out.cell (World.block_lt_of_cell? w _ hw556_0)).trans hw556_0)) (fun hHeld => ?_)
      clear hK K
      refine norm_ (a' := ?_) ?_ ?_
      rotate_left
      ·show Act.put _ (some 17) _ = _
       simp only [Act.put,qa,qb,qc,i64_w,i32_w]
       rfl
      refine pure_ (i := 6) (N := some 18) (v := ?_) (a' := ?_) #[Y,Y,Y,Y,Y,Y,Y] rfl rfl (by kernel_rfl) (fun _ _ _ h => h) (Or.inl ⟨by rfl, ?_⟩) ?_ ?_
      rotate_left; (intro w'; go_simp; with_reducible rfl); rotate_left; (simp only [Act.put,qa,qb,qc,i64_w,i32_w]; rfl)
      refine done_ (by kernel_rfl) ?_
      try go_wp2
      go_roundg k1
      case measure => have := HK1.out; omega
      case rel => exact ⟨(wrap64 (x1_1 + 1)), (wrap64 (x5_1 + 1)), zf, zf, H', ⟨by have := HK1.out; omega⟩, ⟨by repeat (first | (with_reducible first | exact HB.out | apply below_alloc | apply pw_below_drewN | apply below_drew1) | exact HB.out)⟩⟩
     ·rw [if_neg c6] at H
      have c6b0 : ((rdOf ByteArray.empty l0 x5_1).toList == t557.toList) = false := beq_eq_false_iff_ne.mpr c6
      have c6b1 : ((rdOf ByteArray.empty l0 x5_1).toList != t557.toList) = true := bne_iff_ne.mpr c6
      obtain rfl := Option.some.inj H
      try go_wp2
      have n0_ := Aside0.mk (below_drew1 HB.out)
      clear HB
      have HB := n0_
      clear n0_
      have p556 : 0 ≤ (x5_1 : Int) := oa
      have q556 : x5_1 < (l0.length : Int) := oa
      obtain ⟨ad556, e556, hx556_0⟩ := Kd.at_string HR0.out x5_1 p556 q556
      have hw556_0 := hx556_0
      cases e556
      replace hx556_0 := (HB.out.cell (World.block_lt_of_cell? w _ hx556_0)).trans hx556_0
      replace p556 := eq_true p556
      replace q556 := eq_true q556
      refine start_ (n := 7) (S := fun w' => w'.cell? (ad556.add (x5_1).toNat) = some (.string (rdOf ByteArray.empty l0 x5_1))) (ds := []) #[O,O,O,O,O,O,O] (by kernel_rfl) rfl rfl (((HB.out.cell (World.block_lt_of_cell? w _ hw556_0)).trans hw556_0)) (fun hHeld => ?_)
      generalize wr.drew = w9 at HB hx556_0 hHeld ⊢
      refine pure_ (i := 0) (N := some 12) (v := ?_) (a' := ?_) #[Y,O,O,O,O,O,O] rfl rfl (by kernel_rfl) (fun _ _ _ h => h) (Or.inl ⟨by rfl, ?_⟩) ?_ ?_
      rotate_left; (intro w'; go_simp; with_reducible rfl); rotate_left; (simp only [Act.put,qa,qb,qc,i64_w,i32_w]; rfl)
      refine pure_ (i := 1) (N := some 13) (v := ?_) (a' := ?_) #[Y,Y,O,O,O,O,O] rfl rfl (by kernel_rfl) (fun _ _ _ h => h) (Or.inl ⟨by rfl, ?_⟩) ?_ ?_
      rotate_left; (intro w'; go_simp; with_reducible rfl); rotate_left; (simp only [Act.put,qa,qb,qc,i64_w,i32_w]; rfl)
      refine pure_ (i := 2) (N := some 14) (v := ?_) (a' := ?_) #[Y,Y,Y,O,O,O,O] rfl rfl (by kernel_rfl) (fun _ _ _ h => h) (Or.inl ⟨by rfl, ?_⟩) ?_ ?_
      rotate_left; (intro w'; go_simp; with_reducible rfl); rotate_left; (simp only [Act.put,qa,qb,qc,i64_w,i32_w]; rfl)
      refine pure_ (i := 4) (N := some 16) (v := ?_) (a' := ?_) #[Y,Y,Y,O,Y,O,O] rfl rfl (by kernel_rfl) (fun _ _ _ h => h) (Or.inl ⟨by rfl, ?_⟩) ?_ ?_
      rotate_left; (intro w'; go_simp; with_reducible rfl); rotate_left; (simp only [Act.put,qa,qb,qc,i64_w,i32_w]; rfl)
      refine take_ (i := 3) (N := some 15) (v := ?_) (a' := ?_) #[Y,Y,Y,Y,Y,O,O] rfl rfl (by kernel_rfl) (fun _ _ _ h => h) (Or.inl ⟨by rfl, ?_⟩) hHeld ?_ ?_
      rotate_left
      ·intro w' s0
       go_simp
       with_reducible rfl
      rotate_left
      ·simp only [Act.put,qa,qb,qc,i64_w,i32_w]
       rfl
      refine one_ (i := 5) (N := some 17) #[Y,Y,Y,Y,Y,Y,O] rfl rfl (by kernel_rfl) (by decide) (fun K hK => ?_)
      refine goes_ Try.func98 (by kernel_rfl) rfl #[.int .i64 x1_1] (by rfl) rfl rfl zm ?_
      with_reducible refine (laws_markText.calls k1 x1_1 t557 _ A5.out).mono ?_
      rintro e w10 ⟨rfl, hb⟩
      refine ⟨_, rfl, ?_⟩
      have n0_ := Aside0.mk (below_step zb hb)
      clear HB
      have HB := n0_
      clear n0_
      (try clear hb)
      (try clear hb2)
      (try clear hk)
      (try clear hi)
      refine hK.out _ _ (((HB.out.cell (World.block_lt_of_cell? w _ hw556_0)).trans hw556_0)) (fun hHeld => ?_)
      clear hK K
      refine norm_ (a' := ?_) ?_ ?_
      rotate_left
      ·show Act.put _ (some 17) _ = _
       simp only [Act.put,qa,qb,qc,i64_w,i32_w]
       rfl
      refine pure_ (i := 6) (N := some 18) (v := ?_) (a' := ?_) #[Y,Y,Y,Y,Y,Y,Y] rfl rfl (by kernel_rfl) (fun _ _ _ h => h) (Or.inl ⟨by rfl, ?_⟩) ?_ ?_
      rotate_left; (intro w'; go_simp; with_reducible rfl); rotate_left; (simp only [Act.put,qa,qb,qc,i64_w,i32_w]; rfl)
      refine done_ (by kernel_rfl) ?_
      try go_wp2
      go_ret
      exact ⟨by first | rfl | (simp [errW_none, errW_some] <;> rfl) | (simp [*, errW_none, errW_some] <;> rfl), by repeat (first | (with_reducible first | exact HB.out | apply below_alloc | apply pw_below_drewN | apply below_drew1) | exact HB.out)⟩
    ·rw [if_neg c4] at H
     exact absurd H (by simp)
   ·rw [if_neg c3] at H
    have c3b0 : decide (x5_1 < (l0.length : Int)) = false := decide_eq_false c3
    clear c3
    obtain rfl := Option.some.inj H
    go_wp2
    go_ret
    exact ⟨by first | rfl | (simp [errW_none, errW_some] <;> rfl) | (simp [*, errW_none, errW_some] <;> rfl), by repeat (first | (with_reducible first | exact HB.out | apply below_alloc | apply pw_below_drewN | apply below_drew1) | exact HB.out)⟩

end Go.Proofs.Ytcefenlblnediaa.My

/- Written by this session's program (wip/gen): a plain function with the same answers as the Go function, and the proof that the Go code comes to them. Asked: that the plain function has an answer. -/
namespace Go.Proofs.Ytcefenlblnediaa.My
open Go.RowKit Go.Proofs.YtcefenlblnediaaW.PrintWords Go.Proofs.YtcefenlblnediaaW.PrintLast Go.Proofs.YtcefenlblnediaaW.PrintMore
attribute [local go_sem] max2_int min2_int max_two min_two max_three min_three max_four min_four
set_option linter.unusedVariables false
set_option linter.unusedSimpArgs false

/-! ### laws_heldHunkS: function 31 -/
def laws_heldHunkS.l0 : Nat → List (S111) → Int → Int → Option (Int)
 | 0, _, _, _ => none
 | k + 1, x0, x1, x5 => if x5 < (x0.length : Int) then (if 0 ≤ x5 then (if ((rd_T111 x0 x5).f0) = x1 then (if ((rd_T111 x0 x5).f1) = (wrap64 (x1 + 1)) then ((laws_heldStringS.f k ((rd_T111 x0 x5).f2) (wrap64 ((wrap64 (x1 + 1)) + 1))).bind fun t561 => (if t561 < 0 then (some (-1)) else (laws_heldHunkS.l0 k x0 t561 (wrap64 (x5 + 1))))) else (some (-1))) else (some (-1))) else (none)) else (some x1)
def laws_heldHunkS.f (k : Nat) (l0 : List (S111)) (a1 : Int) : Option (Int) := laws_heldHunkS.l0 k l0 a1 0
set_option maxHeartbeats 8000000 in
set_option maxRecDepth 100000 in
theorem laws_heldHunkS.calls (k : Nat) (A0 : Option Addr) (c0 : Nat) (l0 : List (S111)) (a1 : Int) (r : Int) (w : World) (hr0 : Kd.C k111 w A0 l0.length l0) (hc0 : l0.length ≤ c0) (h : laws_heldHunkS.f k l0 a1 = some r) :
  Calls Try.prog 31 #[.slice A0 l0.length c0, .int .i64 a1] w fun e w' => e = .returned (.int .i64 r) ∧ Below w.heap.size w w' := by
 have HR0 := Aside0.mk hr0
 have HC0 := Aside0.mk hc0
 clear hr0 hc0
 have HB := Aside0.mk (Below.refl w.heap.size w)
 have H : (laws_heldHunkS.l0 k l0 a1 0) = some r := h
 clear h
 have H' := Aside0.mk H
 clear H
 go_enter Try.func31, Try.ntmps31
 go_wp2
 go_loopg [1, 5] k (fun kq v1 v5 w' => ∃ (x1_1 : Int) (x5_1 : Int), v1 = .int .i64 x1_1 ∧ v5 = .int .i64 x5_1 ∧ Aside0 (laws_heldHunkS.l0 kq l0 x1_1 x5_1 = some r) ∧ Aside0 (kq ≤ k) ∧ Aside0 (Below w.heap.size w w'))
 case atStart => exact ⟨(a1), (0), zf, zf, H', ⟨Nat.le_refl _⟩, ⟨by repeat (first | (with_reducible first | exact HB.out | apply below_alloc | apply pw_below_drewN | apply below_drew1) | exact HB.out)⟩⟩
 case round =>
  clear H'
  try clear p2
  obtain ⟨x1_1, x5_1, rfl, rfl, HA, HK1, HB⟩ := hrel
  cases gk with
  | zero => exact absurd HA.out (by simp [laws_heldHunkS.l0])
  | succ k1 =>
   have H := HA.out
   clear HA
   simp only [laws_heldHunkS.l0] at H
   by_cases c3 : x5_1 < (l0.length : Int)
   ·rw [if_pos c3] at H
    have c3b0 : decide (x5_1 < (l0.length : Int)) = true := decide_eq_true c3
    clear c3
    by_cases c4 : 0 ≤ x5_1
    ·rw [if_pos c4] at H
     have c4b0 : decide (0 ≤ x5_1) = true := decide_eq_true c4
     clear c4
     by_cases c5 : ((rd_T111 l0 x5_1).f0) = x1_1
     ·rw [if_pos c5] at H
      have c5b0 : (((rd_T111 l0 x5_1).f0) == x1_1) = true := beq_iff_eq.mpr c5
      have c5b1 : (((rd_T111 l0 x5_1).f0) != x1_1) = false := bne_eq_false_iff_eq.mpr c5
      clear c5
      by_cases c6 : ((rd_T111 l0 x5_1).f1) = (wrap64 (x1_1 + 1))
      ·rw [if_pos c6] at H
       have c6b0 : (((rd_T111 l0 x5_1).f1) == (wrap64 (x1_1 + 1))) = true := beq_iff_eq.mpr c6
       have c6b1 : (((rd_T111 l0 x5_1).f1) != (wrap64 (x1_1 + 1))) = false := bne_eq_false_iff_eq.mpr c6
       clear c6
       replace H := Option.bind_eq_some_iff.mp H
       obtain ⟨t561, A70, H⟩ := H
       replace H : (if t561 < 0 then (some (-1)) else (laws_heldHunkS.l0 k1 l0 t561 (wrap64 (x5_1 + 1)))) = some r := H
       have A7 := Aside0.mk A70
       clear A70
       by_cases c8 : t561 < 0
       ·rw [if_pos c8] at H
        have c8b0 : decide (t561 < 0) = true := decide_eq_true c8
        clear c8
        obtain rfl := Option.some.inj H
        have p558 : 0 ≤ (x5_1 : Int) := oa
        have q558 : x5_1 < (l0.length : Int) := oa
        obtain ⟨ad558, A558_2, c558_2, e558, hx558_0, hx558_1, hx558_2, hl558_2, hi558_2⟩ := at_T111 HR0.out x5_1 p558 q558
        cases e558
        replace hx558_0 := (HB.out.cell (World.block_lt_of_cell? w _ hx558_0)).trans hx558_0
        replace hx558_1 := (HB.out.cell (World.block_lt_of_cell? w _ hx558_1)).trans hx558_1
        replace hx558_2 := (HB.out.cell (World.block_lt_of_cell? w _ hx558_2)).trans hx558_2
        have HR558_2 := Aside0.mk hi558_2
        have HC558_2 := Aside0.mk hl558_2
        clear hi558_2 hl558_2
        replace p558 := eq_true p558
        replace q558 := eq_true q558
        have p559 : 0 ≤ (x5_1 : Int) := oa
        have q559 : x5_1 < (l0.length : Int) := oa
        obtain ⟨ad559, A559_2, c559_2, e559, hx559_0, hx559_1, hx559_2, hl559_2, hi559_2⟩ := at_T111 HR0.out x5_1 p559 q559
        obtain rfl : ad558 = ad559 := (by injection e559)
        replace hx559_0 := (HB.out.cell (World.block_lt_of_cell? w _ hx559_0)).trans hx559_0
        replace hx559_1 := (HB.out.cell (World.block_lt_of_cell? w _ hx559_1)).trans hx559_1
        replace hx559_2 := (HB.out.cell (World.block_lt_of_cell? w _ hx559_2)).trans hx559_2
        have HR559_2 := Aside0.mk hi559_2
        have HC559_2 := Aside0.mk hl559_2
        clear hi559_2 hl559_2
        replace p559 := eq_true p559
        replace q559 := eq_true q559
        have ea_ := Option.some.inj (hx558_2.symm.trans hx559_2)
        injection ea_ with ea_ en_ ec_
        subst ea_
        subst ec_
        clear en_
        have p560 : 0 ≤ (x5_1 : Int) := oa
        have q560 : x5_1 < (l0.length : Int) := oa
        obtain ⟨ad560, A560_2, c560_2, e560, hx560_0, hx560_1, hx560_2, hl560_2, hi560_2⟩ := at_T111 HR0.out x5_1 p560 q560
        obtain rfl : ad558 = ad560 := (by injection e560)
        replace hx560_0 := (HB.out.cell (World.block_lt_of_cell? w _ hx560_0)).trans hx560_0
        replace hx560_1 := (HB.out.cell (World.block_lt_of_cell? w _ hx560_1)).trans hx560_1
        replace hx560_2 := (HB.out.cell (World.block_lt_of_cell? w _ hx560_2)).trans hx560_2
        have HR560_2 := Aside0.mk hi560_2
        have HC560_2 := Aside0.mk hl560_2
        clear hi560_2 hl560_2
        replace p560 := eq_true p560
        replace q560 := eq_true q560
        have ea_ := Option.some.inj (hx558_2.symm.trans hx560_2)
        injection ea_ with ea_ en_ ec_
        subst ea_
        subst ec_
        clear en_
        go_wp2_with (first | ((with_reducible refine gateC (f := 69) rfl ?_); refine goesL_ (some 36) rfl rfl Try.func69 (by kernel_rfl) rfl #[.slice A558_2 ((rd_T111 l0 x5_1).f2).length c558_2, .int .i64 (wrap64 ((wrap64 (x1_1 + 1)) + 1))] rfl zm ?_; (with_reducible refine (laws_heldStringS.calls k1 _ _ ((rd_T111 l0 x5_1).f2) (wrap64 ((wrap64 (x1_1 + 1)) + 1)) t561 _ ?side1 ?side2 A7.out).mono ?_); (case side1 => exact zq (Kd.C_below HR560_2.out HB.out)); (case side2 => exact HC560_2.out); rintro e w9 ⟨rfl, hb⟩; refine ⟨_, rfl, ?_⟩; have n0_ := Aside0.mk (below_step zb hb); clear HB; have HB := n0_; clear n0_; (try clear hb); (try clear hb2); (try clear hk); (try clear hi)))
        go_ret
        exact ⟨by first | rfl | (simp [errW_none, errW_some] <;> rfl) | (simp [*, errW_none, errW_some] <;> rfl), by repeat (first | (with_reducible first | exact HB.out | apply below_alloc | apply pw_below_drewN | apply below_drew1) | exact HB.out)⟩
       ·rw [if_neg c8] at H
        have c8b0 : decide (t561 < 0) = false := decide_eq_false c8
        clear c8
        have H' := Aside0.mk H
        clear H
        have p558 : 0 ≤ (x5_1 : Int) := oa
        have q558 : x5_1 < (l0.length : Int) := oa
        obtain ⟨ad558, A558_2, c558_2, e558, hx558_0, hx558_1, hx558_2, hl558_2, hi558_2⟩ := at_T111 HR0.out x5_1 p558 q558
        cases e558
        replace hx558_0 := (HB.out.cell (World.block_lt_of_cell? w _ hx558_0)).trans hx558_0
        replace hx558_1 := (HB.out.cell (World.block_lt_of_cell? w _ hx558_1)).trans hx558_1
        replace hx558_2 := (HB.out.cell (World.block_lt_of_cell? w _ hx558_2)).trans hx558_2
        have HR558_2 := Aside0.mk hi558_2
        have HC558_2 := Aside0.mk hl558_2
        clear hi558_2 hl558_2
        replace p558 := eq_true p558
        replace q558 := eq_true q558
        have p559 : 0 ≤ (x5_1 : Int) := oa
        have q559 : x5_1 < (l0.length : Int) := oa
        obtain ⟨ad559, A559_2, c559_2, e559, hx559_0, hx559_1, hx559_2, hl559_2, hi559_2⟩ := at_T111 HR0.out x5_1 p559 q559
        obtain rfl : ad558 = ad559 := (by injection e559)
        replace hx559_0 := (HB.out.cell (World.block_lt_of_cell? w _ hx559_0)).trans hx559_0
        replace hx559_1 := (HB.out.cell (World.block_lt_of_cell? w _ hx559_1)).trans hx559_1
        replace hx559_2 := (HB.out.cell (World.block_lt_of_cell? w _ hx559_2)).trans hx559_2
        have HR559_2 := Aside0.mk hi559_2
        have HC559_2 := Aside0.mk hl559_2
        clear hi559_2 hl559_2
        replace p559 := eq_true p559
        replace q559 := eq_true q559
        have ea_ := Option.some.inj (hx558_2.symm.trans hx559_2)
        injection ea_ with ea_ en_ ec_
        subst ea_
        subst ec_
        clear en_
        have p560 : 0 ≤ (x5_1 : Int) := oa
        have q560 : x5_1 < (l0.length : Int) := oa
        obtain ⟨ad560, A560_2, c560_2, e560, hx560_0, hx560_1, hx560_2, hl560_2, hi560_2⟩ := at_T111 HR0.out x5_1 p560 q560
        obtain rfl : ad558 = ad560 := (by injection e560)
        replace hx560_0 := (HB.out.cell (World.block_lt_of_cell? w _ hx560_0)).trans hx560_0
        replace hx560_1 := (HB.out.cell (World.block_lt_of_cell? w _ hx560_1)).trans hx560_1
        replace hx560_2 := (HB.out.cell (World.block_lt_of_cell? w _ hx560_2)).trans hx560_2
        have HR560_2 := Aside0.mk hi560_2
        have HC560_2 := Aside0.mk hl560_2
        clear hi560_2 hl560_2
        replace p560 := eq_true p560
        replace q560 := eq_true q560
        have ea_ := Option.some.inj (hx558_2.symm.trans hx560_2)
        injection ea_ with ea_ en_ ec_
        subst ea_
        subst ec_
        clear en_
        go_wp2_with (first | ((with_reducible refine gateC (f := 69) rfl ?_); refine goesL_ (some 36) rfl rfl Try.func69 (by kernel_rfl) rfl #[.slice A558_2 ((rd_T111 l0 x5_1).f2).length c558_2, .int .i64 (wrap64 ((wrap64 (x1_1 + 1)) + 1))] rfl zm ?_; (with_reducible refine (laws_heldStringS.calls k1 _ _ ((rd_T111 l0 x5_1).f2) (wrap64 ((wrap64 (x1_1 + 1)) + 1)) t561 _ ?side1 ?side2 A7.out).mono ?_); (case side1 => exact zq (Kd.C_below HR560_2.out HB.out)); (case side2 => exact HC560_2.out); rintro e w10 ⟨rfl, hb⟩; refine ⟨_, rfl, ?_⟩; have n0_ := Aside0.mk (below_step zb hb); clear HB; have HB := n0_; clear n0_; (try clear hb); (try clear hb2); (try clear hk); (try clear hi)))
        go_roundg k1
        case measure => have := HK1.out; omega
        case rel => exact ⟨(t561), (wrap64 (x5_1 + 1)), zf, zf, H', ⟨by have := HK1.out; omega⟩, ⟨by repeat (first | (with_reducible first | exact HB.out | apply below_alloc | apply pw_below_drewN | apply below_drew1) | exact HB.out)⟩⟩
      ·rw [if_neg c6] at H
       have c6b0 : (((rd_T111 l0 x5_1).f1) == (wrap64 (x1_1 + 1))) = false := beq_eq_false_iff_ne.mpr c6
       have c6b1 : (((rd_T111 l0 x5_1).f1) != (wrap64 (x1_1 + 1))) = true := bne_iff_ne.mpr c6
       obtain rfl := Option.some.inj H
       have p558 : 0 ≤ (x5_1 : Int) := oa
       have q558 : x5_1 < (l0.length : Int) := oa
       obtain ⟨ad558, A558_2, c558_2, e558, hx558_0, hx558_1, hx558_2, hl558_2, hi558_2⟩ := at_T111 HR0.out x5_1 p558 q558
       cases e558
       replace hx558_0 := (HB.out.cell (World.block_lt_of_cell? w _ hx558_0)).trans hx558_0
       replace hx558_1 := (HB.out.cell (World.block_lt_of_cell? w _ hx558_1)).trans hx558_1
       replace hx558_2 := (HB.out.cell (World.block_lt_of_cell? w _ hx558_2)).trans hx558_2
       have HR558_2 := Aside0.mk hi558_2
       have HC558_2 := Aside0.mk hl558_2
       clear hi558_2 hl558_2
       replace p558 := eq_true p558
       replace q558 := eq_true q558
       have p559 : 0 ≤ (x5_1 : Int) := oa
       have q559 : x5_1 < (l0.length : Int) := oa
       obtain ⟨ad559, A559_2, c559_2, e559, hx559_0, hx559_1, hx559_2, hl559_2, hi559_2⟩ := at_T111 HR0.out x5_1 p559 q559
       obtain rfl : ad558 = ad559 := (by injection e559)
       replace hx559_0 := (HB.out.cell (World.block_lt_of_cell? w _ hx559_0)).trans hx559_0
       replace hx559_1 := (HB.out.cell (World.block_lt_of_cell? w _ hx559_1)).trans hx559_1
       replace hx559_2 := (HB.out.cell (World.block_lt_of_cell? w _ hx559_2)).trans hx559_2
       have HR559_2 := Aside0.mk hi559_2
       have HC559_2 := Aside0.mk hl559_2
       clear hi559_2 hl559_2
       replace p559 := eq_true p559
       replace q559 := eq_true q559
       have ea_ := Option.some.inj (hx558_2.symm.trans hx559_2)
       injection ea_ with ea_ en_ ec_
       subst ea_
       subst ec_
       clear en_
       go_wp2
       go_ret
       exact ⟨by first | rfl | (simp [errW_none, errW_some] <;> rfl) | (simp [*, errW_none, errW_some] <;> rfl), by repeat (first | (with_reducible first | exact HB.out | apply below_alloc | apply pw_below_drewN | apply below_drew1) | exact HB.out)⟩
     ·rw [if_neg c5] at H
      have c5b0 : (((rd_T111 l0 x5_1).f0) == x1_1) = false := beq_eq_false_iff_ne.mpr c5
      have c5b1 : (((rd_T111 l0 x5_1).f0) != x1_1) = true := bne_iff_ne.mpr c5
      obtain rfl := Option.some.inj H
      have p558 : 0 ≤ (x5_1 : Int) := oa
      have q558 : x5_1 < (l0.length : Int) := oa
      obtain ⟨ad558, A558_2, c558_2, e558, hx558_0, hx558_1, hx558_2, hl558_2, hi558_2⟩ := at_T111 HR0.out x5_1 p558 q558
      cases e558
      replace hx558_0 := (HB.out.cell (World.block_lt_of_cell? w _ hx558_0)).trans hx558_0
      replace hx558_1 := (HB.out.cell (World.block_lt_of_cell? w _ hx558_1)).trans hx558_1
      replace hx558_2 := (HB.out.cell (World.block_lt_of_cell? w _ hx558_2)).trans hx558_2
      have HR558_2 := Aside0.mk hi558_2
      have HC558_2 := Aside0.mk hl558_2
      clear hi558_2 hl558_2
      replace p558 := eq_true p558
      replace q558 := eq_true q558
      go_wp2
      go_ret
      exact ⟨by first | rfl | (simp [errW_none, errW_some] <;> rfl) | (simp [*, errW_none, errW_some] <;> rfl), by repeat (first | (with_reducible first | exact HB.out | apply below_alloc | apply pw_below_drewN | apply below_drew1) | exact HB.out)⟩
    ·rw [if_neg c4] at H
     exact absurd H (by simp)
   ·rw [if_neg c3] at H
    have c3b0 : decide (x5_1 < (l0.length : Int)) = false := decide_eq_false c3
    clear c3
    obtain rfl := Option.some.inj H
    go_wp2
    go_ret
    exact ⟨by first | rfl | (simp [errW_none, errW_some] <;> rfl) | (simp [*, errW_none, errW_some] <;> rfl), by repeat (first | (with_reducible first | exact HB.out | apply below_alloc | apply pw_below_drewN | apply below_drew1) | exact HB.out)⟩

end Go.Proofs.Ytcefenlblnediaa.My

/- Written by this session's program (wip/gen): a plain function with the same answers as the Go function, and the proof that the Go code comes to them. Asked: that the plain function has an answer. -/
namespace Go.Proofs.Ytcefenlblnediaa.My
open Go.RowKit Go.Proofs.YtcefenlblnediaaW.PrintWords Go.Proofs.YtcefenlblnediaaW.PrintLast Go.Proofs.YtcefenlblnediaaW.PrintMore
attribute [local go_sem] max2_int min2_int max_two min_two max_three min_three max_four min_four
set_option linter.unusedVariables false
set_option linter.unusedSimpArgs false

/-! ### laws_markStringS: function 29 -/
def laws_markStringS.l0 : Nat → List ByteArray → Int → Int → Option (Int × List ByteArray)
 | 0, _, _, _ => none
 | k + 1, x0, x1, x5 => if x5 < (x0.length : Int) then ((laws_markText.f k x1).bind fun t554 => (if 0 ≤ x5 then (laws_markStringS.l0 k (x0.set (x5 : Int).toNat t554) (wrap64 (x1 + 1)) (wrap64 (x5 + 1))) else (none))) else (some (x1, x0))
def laws_markStringS.f (k : Nat) (l0 : List ByteArray) (a1 : Int) : Option (Int × List ByteArray) := laws_markStringS.l0 k l0 a1 0
set_option maxHeartbeats 8000000 in
set_option maxRecDepth 100000 in
theorem laws_markStringS.calls (k : Nat) (P0_ : Nat → Prop) (u9000_ : Value) (l0 : List ByteArray) (a1 : Int) (r1 : Int) (r2 : List ByteArray) (w0 w : World) (hB : Below w0.heap.size w0 w) (ho0 : Kd.R Kd.string 9 w w0.heap.size P0_ u9000_ l0) (h : laws_markStringS.f k l0 a1 = some (r1, r2)) :
  Calls Try.prog 29 #[u9000_, .int .i64 a1] w fun e w' => e = .returned (.int .i64 r1) ∧ Kd.R Kd.string 9 w' w0.heap.size (fun k_ => (P0_ k_ ∨ w.heap.size ≤ k_)) u9000_ r2 ∧ Below w0.heap.size w0 w' ∧ Kept w w' (fun k_ => P0_ k_) := by
 have HO0 := Aside0.mk (show Kd.R Kd.string 9 w w0.heap.size (fun k_ => (P0_ k_ ∨ w.heap.size ≤ k_)) u9000_ l0 from Kd.R_mono ho0 (fun k_ hk => (.inl hk)))
 have HK := Aside0.mk (Kept.refl w (fun k_ => P0_ k_))
 have HW0 := Aside0.mk hB.size
 have HB := Aside0.mk hB
 clear hB
 have H : (laws_markStringS.l0 k l0 a1 0) = some (r1, r2) := h
 clear h
 have H' := Aside0.mk H
 clear H
 go_enter Try.func29, Try.ntmps29
 go_wp2
 go_loopg [1, 5] k (fun kq v1 v5 w' => ∃ (x0_1 : List ByteArray) (x1_1 : Int) (x5_1 : Int), v1 = .int .i64 x1_1 ∧ v5 = .int .i64 x5_1 ∧ Aside0 (laws_markStringS.l0 kq x0_1 x1_1 x5_1 = some (r1, r2)) ∧ Aside0 (kq ≤ k) ∧ Aside0 (Kd.R Kd.string 9 w' w0.heap.size (fun k_ => (P0_ k_ ∨ w.heap.size ≤ k_)) u9000_ x0_1) ∧ Aside0 (Kept w w' (fun k_ => P0_ k_)) ∧ Aside0 (Below w0.heap.size w0 w'))
 case atStart => exact ⟨(l0), (a1), (0), zf, zf, H', ⟨Nat.le_refl _⟩, ⟨by (with_reducible repeat (first | apply Kd.R_alloc | apply Kd.R_drewN | apply Kd.R_drew)); exact HO0.out⟩, ⟨by repeat (first | (with_reducible first | exact HK.out | apply Kept.alloc | apply Kept.drewN | apply Kept.drew) | exact HK.out)⟩, ⟨by repeat (first | (with_reducible first | exact HB.out | apply below_alloc | apply pw_below_drewN | apply below_drew1) | exact HB.out)⟩⟩
 case round =>
  clear H'
  try clear c2
  try clear p2
  obtain ⟨x0_1, x1_1, x5_1, rfl, rfl, HA, HK1, HO_0, HK, HB⟩ := hrel
  cases gk with
  | zero => exact absurd HA.out (by simp [laws_markStringS.l0])
  | succ k1 =>
   have H := HA.out
   clear HA
   simp only [laws_markStringS.l0] at H
   by_cases c3 : x5_1 < (x0_1.length : Int)
   ·rw [if_pos c3] at H
    have c3b0 : decide (x5_1 < (x0_1.length : Int)) = true := decide_eq_true c3
    clear c3
    replace H := Option.bind_eq_some_iff.mp H
    obtain ⟨t554, A40, H⟩ := H
    replace H : (if 0 ≤ x5_1 then (laws_markStringS.l0 k1 (x0_1.set (x5_1 : Int).toNat t554) (wrap64 (x1_1 + 1)) (wrap64 (x5_1 + 1))) else (none)) = some (r1, r2) := H
    have A4 := Aside0.mk A40
    clear A40
    by_cases c5 : 0 ≤ x5_1
    ·rw [if_pos c5] at H
     have c5b0 : decide (0 ≤ x5_1) = true := decide_eq_true c5
     clear c5
     obtain ⟨y555, hy555⟩ : ∃ y_ : List ByteArray, y_ = (x0_1.set (x5_1 : Int).toNat t554) := ⟨_, rfl⟩
     replace H : (laws_markStringS.l0 k1 y555 (wrap64 (x1_1 + 1)) (wrap64 (x5_1 + 1))) = some (r1, r2) := by first | (rw [hy555]; with_reducible exact H) | (have H2_ := (Option.bind_some _ _).symm.trans H; rw [hy555]; with_reducible exact H2_) | (have H2_ := (Option.bind_some _ _).symm.trans H; with_reducible exact H2_) | with_reducible exact H | (rw [hy555]; exact H) | exact H
     have Ny555 := Aside0.mk hy555
     clear hy555
     have H' := Aside0.mk H
     clear H
     obtain ⟨Ao7, co7, eo7⟩ := Kd.R_slice HO_0.out
     subst eo7
     go_wp2_with (first | ((with_reducible refine gateC (f := 98) rfl ?_); refine goesL_ (some 15) rfl rfl Try.func98 (by kernel_rfl) rfl #[.int .i64 x1_1] rfl zm ?_; (with_reducible refine (laws_markText.calls k1 x1_1 t554 _ A4.out).mono ?_); rintro e w8 ⟨rfl, hb⟩; refine ⟨_, rfl, ?_⟩; have n0_ := Aside0.mk (Kd.R_below (zr HO_0.out) hb); have n1_ := Aside0.mk (Kept.below (S := (fun k_ => P0_ k_)) (by repeat (first | (with_reducible first | exact HK.out | apply Kept.alloc | apply Kept.drewN | apply Kept.drew) | exact HK.out)) hb); have n2_ := Aside0.mk (below_step zb hb); clear HO_0; clear HK; clear HB; have HO_0 := n0_; have HK := n1_; have HB := n2_; clear n0_ n1_ n2_; (try clear hb); (try clear hb2); (try clear hk); (try clear hi); have p6 : 0 ≤ (x5_1 : Int) := oa; have q6 : (x5_1 : Int) < ((x0_1.length : Int) : Int) := oa; obtain ⟨go6, co6, eo6, gb6, gl6, cl6, HG6⟩ := Kd.R_form HO_0.out (by omega); (first | cases eo6 | (injection eo6 with ea_ en_ ec_; (first | subst ea_ | (injection ea_ with ea_; subst ea_)); subst ec_; clear en_)); have GB6 := Aside0.mk gb6; have GG6 := Aside0.mk HG6; clear gb6 gl6 HG6; have HMgo6 := Aside0.mk (show (P0_ go6 ∨ w.heap.size ≤ go6) from (HO_0.out.1 _ rfl)); obtain ⟨hx6_0, hf6_0⟩ := Kd.R_celln (⟨#[]⟩ : ByteArray) HO_0.out (x5_1 : Int) p6 q6; replace p6 := eq_true p6; replace q6 := eq_true q6; obtain ⟨hy9_, hz9_⟩ := Kd.R_celln (⟨#[]⟩ : ByteArray) HO_0.out (x5_1 : Int) oa oa; have HP9 := Kd.R_putg HO_0.out (x5_1 : Int) t554) | ((with_reducible refine gate_store (t := 9) (p := 16) rfl ?_); refine store_event (t := 9) (p := 16) (v := ?vo_w10) (w1 := (w8.setCell ⟨go6, (x5_1 : Int).toNat, none⟩ (.string t554))) ?hg ?ho ?hn ?hr ?_; (case ho => rfl); (case hg => rfl); (case hn => rfl); (case hr => first | (go_simp; done) | (go_simp; rfl)); intro w10 hw; have hg : w8.grownBy w10 (some go6) := (by rw [hw]; exact HP9.2); have hp_ : Kd.R Kd.string 9 w10 w0.heap.size (fun k_ => (P0_ k_ ∨ w.heap.size ≤ k_)) (.slice (some ⟨go6, 0, none⟩) x0_1.length co7) y555 := (by rw [hw, Ny555.out]; exact HP9.1); clear HP9; have n0_ := Aside0.mk (hp_); have n1_ := Aside0.mk ((by rw [hw]; exact below_set (HB.out) GB6.out : Below w0.heap.size w0 w10)); have n2_ := Aside0.mk (Kept.of_grown (S := (fun k_ => P0_ k_)) hg (by repeat (first | (with_reducible first | exact HK.out | apply Kept.alloc | apply Kept.drewN | apply Kept.drew) | exact HK.out)) (fun k_ e_ => (HO_0.out.1 k_ e_))); clear HO_0; clear HB; clear HK; have HO_0 := n0_; have HB := n1_; have HK := n2_; clear n0_ n1_ n2_; clear hg hw hp_))
     go_roundg k1
     case measure => have := HK1.out; omega
     case rel => exact ⟨(y555), (wrap64 (x1_1 + 1)), (wrap64 (x5_1 + 1)), zf, zf, H', ⟨by have := HK1.out; omega⟩, ⟨by (with_reducible repeat (first | apply Kd.R_alloc | apply Kd.R_drewN | apply Kd.R_drew)); exact HO_0.out⟩, ⟨by repeat (first | (with_reducible first | exact HK.out | apply Kept.alloc | apply Kept.drewN | apply Kept.drew) | exact HK.out)⟩, ⟨by repeat (first | (with_reducible first | exact HB.out | apply below_alloc | apply pw_below_drewN | apply below_drew1) | exact HB.out)⟩⟩
    ·rw [if_neg c5] at H
     exact absurd H (by simp)
   ·rw [if_neg c3] at H
    have c3b0 : decide (x5_1 < (x0_1.length : Int)) = false := decide_eq_false c3
    clear c3
    simp only [Option.some.injEq, Prod.mk.injEq] at H
    obtain ⟨rfl, rfl⟩ := H
    obtain ⟨Ao11, co11, eo11⟩ := Kd.R_slice HO_0.out
    subst eo11
    go_wp2
    go_ret
    exact ⟨by first | rfl | (simp [errW_none, errW_some] <;> rfl) | (simp [*, errW_none, errW_some] <;> rfl), by (with_reducible repeat (first | apply Kd.R_alloc | apply Kd.R_drewN | apply Kd.R_drew)); exact HO_0.out, by repeat (first | (with_reducible first | exact HB.out | apply below_alloc | apply pw_below_drewN | apply below_drew1) | exact HB.out), by repeat (first | (with_reducible first | exact HK.out | apply Kept.alloc | apply Kept.drewN | apply Kept.drew) | exact HK.out)⟩

end Go.Proofs.Ytcefenlblnediaa.My

/- Plain Lean: the marks by which the laws see whether memory is shared. Conditions: lengths below 2^40. -/
namespace Go.Proofs.Ytcefenlblnediaa.Pl
open Go.RowKit Go.Proofs.YtcefenlblnediaaW.PrintWords Go.Proofs.YtcefenlblnediaaW.PrintLast Go.Proofs.Ytcefenlblnediaa.My
set_option linter.unusedVariables false
set_option linter.unusedSimpArgs false

theorem strOfNums_size (l : List Int) : (strOfNums l).size = l.length := by
  unfold strOfNums
  rw [← data_length]
  simp

theorem tdiv10 (n : Int) (h : 0 ≤ n) : Int.tdiv n 10 = n / 10 := by
  rw [Int.tdiv_eq_ediv_of_nonneg h]

theorem markText_l0 : ∀ (d : Nat) (n : Int) (t : ByteArray), 0 ≤ n → n.toNat ≤ d → n ≤ 4611686018427387904 → t.size + n.toNat ≤ 4611686018427387905 → ∃ r, Ev (fun k => laws_markText.l0 k n t) r := by
  intro d
  induction d with
  | zero =>
    intro n t h0 hd h1 h2
    exact ⟨_, Ev.step (fun k => laws_markText.l0.eq_2 ..) (ev_neg (by omega) (ev_pos (by omega) (ev_some rfl)))⟩
  | succ d ih =>
    intro n t h0 hd h1 h2
    by_cases h : 0 < n
    · have e : wrap64 (Int.tdiv n 10) = n / 10 := by rw [tdiv10 n h0, wrap64_id (by omega) (by omega)]
      obtain ⟨r, hr⟩ := ih (n / 10) (strOfNums [(wrap64 (48 + (Int.tmod n 10))) % 256] ++ t) (by omega) (by omega) (by omega) (by
        rw [ByteArray.size_append, strOfNums_size, List.length_singleton]
        omega)
      refine ⟨r, Ev.step (fun k => laws_markText.l0.eq_2 ..) (ev_pos h ?_)⟩
      simp only [Option.bind_some]
      refine ev_pos ?_ ?_
      · rw [strOfNums_size, List.length_singleton]
        omega
      · rw [e]
        exact hr
    · exact ⟨_, Ev.step (fun k => laws_markText.l0.eq_2 ..) (ev_neg (by omega) (ev_pos (by omega) (ev_some rfl)))⟩

theorem markText_some (n : Int) (h0 : 0 ≤ n) (h1 : n ≤ 4611686018427387904) : ∃ r, Ev (fun k => laws_markText.f k n) r := by
  simp only [laws_markText.f]
  by_cases h : n ≤ 0
  · exact ⟨_, ev_pos h (ev_some rfl)⟩
  · obtain ⟨r, hr⟩ := markText_l0 n.toNat n ⟨#[]⟩ h0 (Nat.le_refl _) h1 (by
      show (0 : Nat) + n.toNat ≤ _
      omega)
    exact ⟨r, ev_neg h hr⟩

/-- The mark of a number. -/
noncomputable def mark (n : Nat) : ByteArray := open Classical in if h : ∃ r, Ev (fun k => laws_markText.f k (n : Int)) r then h.choose else ⟨#[]⟩
theorem mark_ev (n : Nat) (h : n ≤ 4611686018427387904) : Ev (fun k => laws_markText.f k (n : Int)) (mark n) := by
  have hs := markText_some (n : Int) (by omega) (by omega)
  unfold mark
  rw [dif_pos hs]
  exact hs.choose_spec

/-- So many marks from one on. -/
noncomputable def marks (m n : Nat) : List ByteArray := (List.range n).map fun i => mark (m + i)
theorem marks_length (m n : Nat) : (marks m n).length = n := by simp [marks]
theorem marks_get (m n i : Nat) (h : i < n) : (marks m n)[i]'(by rw [marks_length]; exact h) = mark (m + i) := by simp [marks]

theorem markStringS_l0 (n m : Nat) (hn : n ≤ 1099511627776) (hm : m ≤ 1099511627776) : ∀ d i (o : List ByteArray), i + d = n → o.length = n → o.take i = (marks m n).take i →
    Ev (fun k => laws_markStringS.l0 k o ((m + i : Nat) : Int) (i : Int)) (((m + n : Nat) : Int), marks m n) := by
  intro d
  induction d with
  | zero =>
    intro i o hi hl ht
    refine Ev.step (fun k => laws_markStringS.l0.eq_2 ..) (ev_neg (by omega) (ev_some ?_))
    rw [List.take_of_length_le (by omega), List.take_of_length_le (by rw [marks_length]; omega)] at ht
    rw [ht, show i = n from by omega]
  | succ d ih =>
    intro i o hi hl ht
    refine Ev.step (fun k => laws_markStringS.l0.eq_2 ..) (ev_pos (by omega) (ev_bind (mark_ev (m + i) (by omega)) (ev_pos (by omega) ?_)))
    rw [wrap_succ i (by omega), wrap_succ (m + i) (by omega), Int.toNat_natCast]
    refine ih (i + 1) _ (by omega) (by rw [List.length_set]; exact hl) ?_
    rw [List.take_succ_eq_append_getElem (by rw [List.length_set]; omega), List.take_succ_eq_append_getElem (by rw [marks_length]; omega), List.getElem_set_self, List.take_set_of_le (Nat.le_refl i), ht, marks_get m n i (by omega)]

theorem markStringS_ev (l : List ByteArray) (m : Nat) (hn : l.length ≤ 1099511627776) (hm : m ≤ 1099511627776) : Ev (fun k => laws_markStringS.f k l (m : Int)) (((m + l.length : Nat) : Int), marks m l.length) := by
  simp only [laws_markStringS.f]
  exact markStringS_l0 l.length m hn hm l.length 0 l (by omega) rfl rfl

theorem heldStringS_l0 (n m : Nat) (hn : n ≤ 1099511627776) (hm : m ≤ 1099511627776) : ∀ d i, i + d = n → Ev (fun k => laws_heldStringS.l0 k (marks m n) ((m + i : Nat) : Int) (i : Int)) ((m + n : Nat) : Int) := by
  intro d
  induction d with
  | zero =>
    intro i hi
    refine Ev.step (fun k => laws_heldStringS.l0.eq_2 ..) (ev_neg (by rw [marks_length]; omega) (ev_some ?_))
    rw [show i = n from by omega]
  | succ d ih =>
    intro i hi
    refine Ev.step (fun k => laws_heldStringS.l0.eq_2 ..) (ev_pos (by rw [marks_length]; omega) (ev_pos (by omega) (ev_bind (mark_ev (m + i) (by omega)) (ev_pos ?_ ?_))))
    · rw [rdOf_lt _ _ _ (by rw [marks_length]; omega), marks_get m n i (by omega)]
    · rw [wrap_succ i (by omega), wrap_succ (m + i) (by omega)]
      exact ih (i + 1) (by omega)

theorem heldStringS_ev (m n : Nat) (hn : n ≤ 1099511627776) (hm : m ≤ 1099511627776) : Ev (fun k => laws_heldStringS.f k (marks m n) (m : Int)) ((m + n : Nat) : Int) := by
  simp only [laws_heldStringS.f]
  exact heldStringS_l0 n m hn hm n 0 (by omega)
end Go.Proofs.Ytcefenlblnediaa.Pl

/- The marking of hunks: what it writes, and that it writes nothing else. Asked: that the hunks are made rows, few enough. -/
namespace Go.Proofs.Ytcefenlblnediaa.My
open Go.RowKit Go.Proofs.YtcefenlblnediaaW.PrintWords Go.Proofs.YtcefenlblnediaaW.PrintLast Go.Proofs.YtcefenlblnediaaW.PrintMore Go.Proofs.Ytcefenlblnediaa.Pl
set_option linter.unusedVariables false
set_option linter.unusedSimpArgs false

noncomputable def mkH (x : IH) (m : Nat) : IH := ⟨(m : Int), wrap64 ((m : Int) + 1), marks (m + 2) x.f2.length⟩
noncomputable def mkHs : List IH → Nat → List IH
  | [], _ => []
  | x :: t, m => mkH x m :: mkHs t (m + 2 + x.f2.length)
def endH : List IH → Nat → Nat
  | [], m => m
  | x :: t, m => endH t (m + 2 + x.f2.length)
theorem endH_ge : ∀ (l : List IH) (m : Nat), m ≤ endH l m
  | [], _ => Nat.le_refl _
  | x :: t, m => by have := endH_ge t (m + 2 + x.f2.length); simp only [endH]; omega
theorem mk_step {l xs : List IH} {m mm i : Nat} (h : i < xs.length) (h1 : endH (xs.drop i) mm = endH l m) (h2 : xs.take i ++ mkHs (xs.drop i) mm = mkHs l m) :
    mm + 2 + xs[i].f2.length ≤ endH l m ∧ endH ((xs.set i (mkH xs[i] mm)).drop (i + 1)) (mm + 2 + xs[i].f2.length) = endH l m ∧ (xs.set i (mkH xs[i] mm)).take (i + 1) ++ mkHs ((xs.set i (mkH xs[i] mm)).drop (i + 1)) (mm + 2 + xs[i].f2.length) = mkHs l m := by
  rw [List.drop_eq_getElem_cons h] at h1 h2
  simp only [endH, mkHs] at h1 h2
  have := endH_ge (xs.drop (i + 1)) (mm + 2 + xs[i].f2.length)
  rw [List.drop_set_of_lt (by omega), List.take_succ_eq_append_getElem (by rw [List.length_set]; exact h), List.getElem_set_self, List.take_set_of_le (Nat.le_refl i), List.append_assoc]
  exact ⟨by omega, h1, h2⟩

/-- At a round's begin. -/
def MkInv (l : List IH) (m : Nat) (xs : List IH) (x5 : Int) (mm kq : Nat) : Prop := 0 ≤ x5 ∧ x5.toNat + kq = l.length ∧ xs.length = l.length ∧ endH (xs.drop x5.toNat) mm = endH l m ∧ xs.take x5.toNat ++ mkHs (xs.drop x5.toNat) mm = mkHs l m
theorem MkInv.start (l : List IH) (m : Nat) : MkInv l m l 0 m l.length := ⟨by omega, by simp, rfl, rfl, rfl⟩
theorem wr2 (mm n E : Nat) (h : mm + 2 + n ≤ E) (hE : E ≤ 1099511627776) : wrap64 (wrap64 ((mm : Int) + 1) + 1) = ((mm + 2 : Nat) : Int) := by rw [wrap_succ mm (by omega), wrap_succ (mm + 1) (by omega)]
theorem le_a (a n E : Nat) (h : a + n ≤ E) (hE : E ≤ 1099511627776) : n ≤ 1099511627776 := by omega
theorem le_b (a n E : Nat) (h : a + n ≤ E) (hE : E ≤ 1099511627776) : a ≤ 1099511627776 := by omega
theorem MkInv.step {l xs : List IH} {m mm kq : Nat} {x5 : Int} (h : MkInv l m xs x5 mm kq) (hm : endH l m ≤ 1099511627776) (hL : l.length ≤ 1099511627776) (hi : x5 < (l.length : Int)) :
    ∃ k1, kq = k1 + 1 ∧ ∃ kk mm2, laws_markStringS.f kk (xs.getD x5.toNat z111).f2 (wrap64 (wrap64 ((mm : Int) + 1) + 1)) = some (((mm2 : Nat) : Int), marks (mm + 2) (xs.getD x5.toNat z111).f2.length) ∧ MkInv l m (xs.set x5.toNat (mkH (xs.getD x5.toNat z111) mm)) (wrap64 (x5 + 1)) mm2 k1 := by
  obtain ⟨h0, h1, h2, h3, h4⟩ := h
  have hxi : x5.toNat < xs.length := by omega
  have hgx : xs.getD x5.toNat z111 = xs[x5.toNat] := by rw [List.getD_eq_getElem?_getD, List.getElem?_eq_getElem hxi]; rfl
  obtain ⟨q1, q2, q3⟩ := mk_step hxi h3 h4
  have ew := wr2 mm _ _ q1 hm
  obtain ⟨kk, hkk⟩ := markStringS_ev xs[x5.toNat].f2 (mm + 2) (le_a _ _ _ q1 hm) (le_b _ _ _ q1 hm)
  rw [hgx, ew]
  refine ⟨kq - 1, by omega, kk, _, hkk kk (Nat.le_refl _), ?_⟩
  have e5 : wrap64 (x5 + 1) = x5 + 1 := wrap64_id (by omega) (by omega)
  have e6 : (x5 + 1).toNat = x5.toNat + 1 := by omega
  rw [e5]
  refine ⟨by omega, by omega, by rw [List.length_set]; exact h2, ?_, ?_⟩
  · rw [e6]; exact q2
  · rw [e6]; exact q3
theorem MkInv.last {l xs : List IH} {m mm kq : Nat} {x5 : Int} (h : MkInv l m xs x5 mm kq) (hi : ¬ x5 < (l.length : Int)) : mm = endH l m ∧ xs = mkHs l m := by
  obtain ⟨h0, h1, h2, h3, h4⟩ := h
  rw [List.drop_of_length_le (by omega)] at h3 h4
  rw [List.take_of_length_le (by omega)] at h4
  simp only [mkHs, endH, List.append_nil] at h3 h4
  exact ⟨h3, h4⟩
theorem MkInv.len {l xs : List IH} {m mm kq : Nat} {x5 : Int} (h : MkInv l m xs x5 mm kq) : 0 ≤ x5 ∧ xs.length = l.length := ⟨h.1, h.2.2.1⟩

set_option maxHeartbeats 8000000 in
set_option maxRecDepth 100000 in
theorem laws_markHunkS_made (P : Nat → Prop) (u : Value) (l : List IH) (m : Nat) (w0 w : World) (hm : endH l m ≤ 1099511627776) (hL : l.length ≤ 1099511627776) (hB : Below w0.heap.size w0 w) (ho : Kd.S k111 111 w w0.heap.size P u l) :
    Calls Try.prog 30 #[u, .int .i64 (m : Int)] w fun e w' => e = .returned (.int .i64 ((endH l m : Nat) : Int)) ∧ Kd.S k111 111 w' w0.heap.size P u (mkHs l m) ∧ Below w0.heap.size w0 w' ∧ Kept w w' P := by
  obtain ⟨A, c, rfl⟩ := Kd.S_slice ho
  have HM := Aside0.mk hm
  have HL := Aside0.mk hL
  have HO := Aside0.mk ho
  have HB := Aside0.mk hB
  clear hm hL ho hB
  go_enter Try.func30, Try.ntmps30
  go_wp2
  go_loopg [1, 5] l.length (fun kq v1 v5 w' => ∃ (xs : List IH) (x5 : Int) (mm : Nat), v1 = .int .i64 (mm : Int) ∧ v5 = .int .i64 x5 ∧ Aside0 (MkInv l m xs x5 mm kq) ∧ Aside0 (Kd.S k111 111 w' w0.heap.size P (.slice A l.length c) xs) ∧ Aside0 (Kept w w' P) ∧ Aside0 (Below w0.heap.size w0 w'))
  case atStart => exact ⟨l, 0, m, rfl, rfl, ⟨MkInv.start l m⟩, HO, ⟨Kept.refl _ _⟩, HB⟩
  case round =>
    clear HO HB
    obtain ⟨xs, x5, mm, rfl, rfl, HF, HO, HK, HB⟩ := hrel
    by_cases hi : x5 < (l.length : Int)
    · obtain ⟨k1, rfl, kk, mm2, hkk, hnext⟩ := HF.out.step HM.out HL.out hi
      have HN := Aside0.mk hnext
      have hlen := HF.out.len
      clear HF hnext
      have hc : decide (x5 < (l.length : Int)) = true := decide_eq_true hi
      have hp := hlen.1
      have hxp : 0 < xs.length := by omega
      obtain ⟨g, cap, eg, hgb, hgl, hgc⟩ := Kd.S_form HO.out hxp
      injection eg with ea en ec
      clear en
      subst ea
      subst ec
      obtain ⟨oki, ce, hcl, hM, hcc, hfr, hoki, hH⟩ := Kd.S_elem HO.out z111 x5 hp hi
      obtain ⟨v2, rfl, ge2⟩ := k111_openM hM
      have hx0 := hcc 0 _ rfl
      have hx1 := hcc 1 _ rfl
      have hx2 := hcc 2 _ rfl
      have hf0 := hfr 0
      have hf1 := hfr 1
      simp only [show (k111).sz = 3 from rfl, Nat.add_zero] at hx0 hx1 hx2 hf0 hf1
      have hsg := Aside0.mk (Kd.H_seg hH hp hi (seg := [.int .i64 (mm : Int), .int .i64 (wrap64 ((mm : Int) + 1))]) (j := 0) (show 2 ≤ 3 from by decide) (by intro q hq; simp only [List.mem_cons, List.not_mem_nil, or_false] at hq; rcases hq with rfl | rfl <;> rfl)).1
      have hR2 := Aside0.mk (Kd.R_far (p := ⟨g, x5.toNat * 3 + 1, none⟩) (Kd.R_far (p := ⟨g, x5.toNat * 3, none⟩) ge2 (fun k hk => (hoki k hk).2) (.int .i64 (mm : Int))) (fun k hk => (hoki k hk).2) (.int .i64 (wrap64 ((mm : Int) + 1))))
      have hPg : P g := (Kd.S_R HO.out).1 g (by simp [Value.ownBlock])
      have hK2 := Aside0.mk (Kept.setCell (Kept.setCell HK.out (p := ⟨g, x5.toNat * 3, none⟩) (.inl hPg) (.int .i64 (mm : Int))) (p := ⟨g, x5.toNat * 3 + 1, none⟩) (.inl hPg) (.int .i64 (wrap64 ((mm : Int) + 1))))
      have hB2 := Aside0.mk (show Below w0.heap.size w0 ((wr.setCell ⟨g, x5.toNat * 3, none⟩ (.int .i64 (mm : Int))).setCell ⟨g, x5.toNat * 3 + 1, none⟩ (.int .i64 (wrap64 ((mm : Int) + 1)))) from below_set (below_set HB.out hgb) hgb)
      have hOK := Aside0.mk hoki
      have HKK := Aside0.mk hkk
      clear hcl hcc hfr hH hM ge2 hoki hkk hlen hgc hPg
      replace hp := eq_true hp
      replace hi := eq_true hi
      go_wp2_with fail
      refine (laws_markStringS.calls kk oki v2 (xs.getD x5.toNat z111).f2 _ _ _ w0 _ hB2.out hR2.out HKK.out).mono ?_
      rintro e w4 ⟨rfl, hR4, hB4, hK4⟩
      have HS4 := Aside0.mk (show Kd.S k111 111 w4 w0.heap.size P (.slice (some ⟨g, 0, none⟩) l.length c) (xs.set x5.toNat (mkH (xs.getD x5.toNat z111) mm)) from
        Kd.H_back (okp := oki) (Kd.H_step hsg.out (fun k hk hn hlt => hK4.2 k hlt hn)) (k111_mkM w4 w0.heap.size oki (mkH (xs.getD x5.toNat z111) mm) (Kd.R_flat (fun h => h) hR4 (fun k hk _ => hR2.out.1 k hk))) (fun _ h => h))
      have HK4 := Aside0.mk (Kept.then_ hK2.out hK4 (fun k hk => .inl (hOK.out k hk).1))
      have HB4 := Aside0.mk hB4
      clear hR4 hB4 hK4 hsg hR2 hK2 hB2 HO HK HB hx0 hx1 hx2 hf0 hf1
      go_wp2
      go_roundg k1
      case measure => omega
      case rel => exact ⟨_, _, mm2, rfl, rfl, HN, HS4, HK4, HB4⟩
    · have hc : decide (x5 < (l.length : Int)) = false := decide_eq_false hi
      obtain ⟨rfl, rfl⟩ := HF.out.last hi
      go_wp2
      trace_state
      go_ret
      exact ⟨rfl, HO.out, HB.out, HK.out⟩
end Go.Proofs.Ytcefenlblnediaa.My

/- The walk through FnExactJoinHunks where the helpers answer as they should, and where a size is too large. Asked: their answers. -/
namespace Go.Proofs.Ytcefenlblnediaa.My
open Go.RowKit Go.Proofs.YtcefenlblnediaaW.PrintWords Go.Proofs.YtcefenlblnediaaW.PrintLast Go.Proofs.YtcefenlblnediaaW.PrintMore Go.Proofs.Ytcefenlblnediaa.Pl
set_option linter.unusedVariables false
set_option linter.unusedSimpArgs false

set_option maxHeartbeats 4000000 in
set_option maxRecDepth 100000 in
theorem laws_FnExactJoinHunks_early0 (k : Nat) (A0 : Option Addr) (c0 : Nat) (l0 : List ByteArray) (A1 : Option Addr) (c1 : Nat) (l1 : List LH) (A2 : Option Addr) (c2 : Nat) (l2 : List LH) (w : World) (hr0 : Kd.C Kd.string w A0 l0.length l0) (hc0 : l0.length ≤ c0) (hr1 : Kd.C k107 w A1 l1.length l1) (hc1 : l1.length ≤ c1) (hr2 : Kd.C k107 w A2 l2.length l2) (hc2 : l2.length ≤ c2)
    (s0 : Int) (es0 : laws_szStringS.f k l0 1048576 = some s0) (ns0 : s0 < 0) :
    Calls Try.prog 5 #[.slice A0 l0.length c0, .slice A1 l1.length c1, .slice A2 l2.length c2] w fun e w' => e = .returned (.bool true) ∧ Below w.heap.size w w' := by
 have hr0_ := Aside0.mk hr0
 clear hr0
 have hr0 := hr0_
 clear hr0_
 have hc0_ := Aside0.mk hc0
 clear hc0
 have hc0 := hc0_
 clear hc0_
 have hr1_ := Aside0.mk hr1
 clear hr1
 have hr1 := hr1_
 clear hr1_
 have hc1_ := Aside0.mk hc1
 clear hc1
 have hc1 := hc1_
 clear hc1_
 have hr2_ := Aside0.mk hr2
 clear hr2
 have hr2 := hr2_
 clear hr2_
 have hc2_ := Aside0.mk hc2
 clear hc2
 have hc2 := hc2_
 clear hc2_
 have n0 : decide (s0 < 0) = true := decide_eq_true ns0
 clear ns0
 have es0_ := Aside0.mk es0
 clear es0
 have es0 := es0_
 clear es0_
 have HB := Aside0.mk (Below.refl w.heap.size w)
 go_enter Try.func5, Try.ntmps5
 go_wp2_with fail
 refine (laws_szStringS.calls k A0 c0 l0 1048576 s0 _ (Kd.C_below hr0.out HB.out) hc0.out es0.out).mono ?_
 rintro e w1 ⟨rfl, hb0⟩
 have hb : Below w.heap.size w w1 := by first | exact hb0 | (obtain ⟨nd_, e_⟩ := hb0; rw [e_]; exact pw_below_drewN (Below.refl _ _) nd_)
 clear hb0
 have HB_ := Aside0.mk (below_step HB.out hb)
 have Zw1 := Aside0.mk hb.size
 clear HB hb
 have HB := HB_
 clear HB_
 go_wp2
 go_ret
 exact ⟨rfl, HB.out⟩

set_option maxHeartbeats 4000000 in
set_option maxRecDepth 100000 in
theorem laws_FnExactJoinHunks_early1 (k : Nat) (A0 : Option Addr) (c0 : Nat) (l0 : List ByteArray) (A1 : Option Addr) (c1 : Nat) (l1 : List LH) (A2 : Option Addr) (c2 : Nat) (l2 : List LH) (w : World) (hr0 : Kd.C Kd.string w A0 l0.length l0) (hc0 : l0.length ≤ c0) (hr1 : Kd.C k107 w A1 l1.length l1) (hc1 : l1.length ≤ c1) (hr2 : Kd.C k107 w A2 l2.length l2) (hc2 : l2.length ≤ c2)
    (s0 : Int) (es0 : laws_szStringS.f k l0 1048576 = some s0) (ns0 : ¬ s0 < 0)
    (s1 : Int) (es1 : laws_szHunkS.f k l1 s0 = some s1) (ns1 : s1 < 0) :
    Calls Try.prog 5 #[.slice A0 l0.length c0, .slice A1 l1.length c1, .slice A2 l2.length c2] w fun e w' => e = .returned (.bool true) ∧ Below w.heap.size w w' := by
 have hr0_ := Aside0.mk hr0
 clear hr0
 have hr0 := hr0_
 clear hr0_
 have hc0_ := Aside0.mk hc0
 clear hc0
 have hc0 := hc0_
 clear hc0_
 have hr1_ := Aside0.mk hr1
 clear hr1
 have hr1 := hr1_
 clear hr1_
 have hc1_ := Aside0.mk hc1
 clear hc1
 have hc1 := hc1_
 clear hc1_
 have hr2_ := Aside0.mk hr2
 clear hr2
 have hr2 := hr2_
 clear hr2_
 have hc2_ := Aside0.mk hc2
 clear hc2
 have hc2 := hc2_
 clear hc2_
 have n0 : decide (s0 < 0) = false := decide_eq_false ns0
 clear ns0
 have es0_ := Aside0.mk es0
 clear es0
 have es0 := es0_
 clear es0_
 have n1 : decide (s1 < 0) = true := decide_eq_true ns1
 clear ns1
 have es1_ := Aside0.mk es1
 clear es1
 have es1 := es1_
 clear es1_
 have HB := Aside0.mk (Below.refl w.heap.size w)
 go_enter Try.func5, Try.ntmps5
 go_wp2_with fail
 refine (laws_szStringS.calls k A0 c0 l0 1048576 s0 _ (Kd.C_below hr0.out HB.out) hc0.out es0.out).mono ?_
 rintro e w1 ⟨rfl, hb0⟩
 have hb : Below w.heap.size w w1 := by first | exact hb0 | (obtain ⟨nd_, e_⟩ := hb0; rw [e_]; exact pw_below_drewN (Below.refl _ _) nd_)
 clear hb0
 have HB_ := Aside0.mk (below_step HB.out hb)
 have Zw1 := Aside0.mk hb.size
 clear HB hb
 have HB := HB_
 clear HB_
 go_wp2_with fail
 refine (laws_szHunkS.calls k A1 c1 l1 s0 s1 _ (Kd.C_below hr1.out HB.out) hc1.out es1.out).mono ?_
 rintro e w2 ⟨rfl, hb0⟩
 have hb : Below w1.heap.size w1 w2 := by first | exact hb0 | (obtain ⟨nd_, e_⟩ := hb0; rw [e_]; exact pw_below_drewN (Below.refl _ _) nd_)
 clear hb0
 have HB_ := Aside0.mk (below_step HB.out hb)
 have Zw2 := Aside0.mk hb.size
 clear HB hb
 have HB := HB_
 clear HB_
 go_wp2
 go_ret
 exact ⟨rfl, HB.out⟩

set_option maxHeartbeats 4000000 in
set_option maxRecDepth 100000 in
theorem laws_FnExactJoinHunks_early2 (k : Nat) (A0 : Option Addr) (c0 : Nat) (l0 : List ByteArray) (A1 : Option Addr) (c1 : Nat) (l1 : List LH) (A2 : Option Addr) (c2 : Nat) (l2 : List LH) (w : World) (hr0 : Kd.C Kd.string w A0 l0.length l0) (hc0 : l0.length ≤ c0) (hr1 : Kd.C k107 w A1 l1.length l1) (hc1 : l1.length ≤ c1) (hr2 : Kd.C k107 w A2 l2.length l2) (hc2 : l2.length ≤ c2)
    (s0 : Int) (es0 : laws_szStringS.f k l0 1048576 = some s0) (ns0 : ¬ s0 < 0)
    (s1 : Int) (es1 : laws_szHunkS.f k l1 s0 = some s1) (ns1 : ¬ s1 < 0)
    (s2 : Int) (es2 : laws_szHunkS.f k l2 s1 = some s2) (ns2 : s2 < 0) :
    Calls Try.prog 5 #[.slice A0 l0.length c0, .slice A1 l1.length c1, .slice A2 l2.length c2] w fun e w' => e = .returned (.bool true) ∧ Below w.heap.size w w' := by
 have hr0_ := Aside0.mk hr0
 clear hr0
 have hr0 := hr0_
 clear hr0_
 have hc0_ := Aside0.mk hc0
 clear hc0
 have hc0 := hc0_
 clear hc0_
 have hr1_ := Aside0.mk hr1
 clear hr1
 have hr1 := hr1_
 clear hr1_
 have hc1_ := Aside0.mk hc1
 clear hc1
 have hc1 := hc1_
 clear hc1_
 have hr2_ := Aside0.mk hr2
 clear hr2
 have hr2 := hr2_
 clear hr2_
 have hc2_ := Aside0.mk hc2
 clear hc2
 have hc2 := hc2_
 clear hc2_
 have n0 : decide (s0 < 0) = false := decide_eq_false ns0
 clear ns0
 have es0_ := Aside0.mk es0
 clear es0
 have es0 := es0_
 clear es0_
 have n1 : decide (s1 < 0) = false := decide_eq_false ns1
 clear ns1
 have es1_ := Aside0.mk es1
 clear es1
 have es1 := es1_
 clear es1_
 have n2 : decide (s2 < 0) = true := decide_eq_true ns2
 clear ns2
 have es2_ := Aside0.mk es2
 clear es2
 have es2 := es2_
 clear es2_
 have HB := Aside0.mk (Below.refl w.heap.size w)
 go_enter Try.func5, Try.ntmps5
 go_wp2_with fail
 refine (laws_szStringS.calls k A0 c0 l0 1048576 s0 _ (Kd.C_below hr0.out HB.out) hc0.out es0.out).mono ?_
 rintro e w1 ⟨rfl, hb0⟩
 have hb : Below w.heap.size w w1 := by first | exact hb0 | (obtain ⟨nd_, e_⟩ := hb0; rw [e_]; exact pw_below_drewN (Below.refl _ _) nd_)
 clear hb0
 have HB_ := Aside0.mk (below_step HB.out hb)
 have Zw1 := Aside0.mk hb.size
 clear HB hb
 have HB := HB_
 clear HB_
 go_wp2_with fail
 refine (laws_szHunkS.calls k A1 c1 l1 s0 s1 _ (Kd.C_below hr1.out HB.out) hc1.out es1.out).mono ?_
 rintro e w2 ⟨rfl, hb0⟩
 have hb : Below w1.heap.size w1 w2 := by first | exact hb0 | (obtain ⟨nd_, e_⟩ := hb0; rw [e_]; exact pw_below_drewN (Below.refl _ _) nd_)
 clear hb0
 have HB_ := Aside0.mk (below_step HB.out hb)
 have Zw2 := Aside0.mk hb.size
 clear HB hb
 have HB := HB_
 clear HB_
 go_wp2_with fail
 refine (laws_szHunkS.calls k A2 c2 l2 s1 s2 _ (Kd.C_below hr2.out HB.out) hc2.out es2.out).mono ?_
 rintro e w3 ⟨rfl, hb0⟩
 have hb : Below w2.heap.size w2 w3 := by first | exact hb0 | (obtain ⟨nd_, e_⟩ := hb0; rw [e_]; exact pw_below_drewN (Below.refl _ _) nd_)
 clear hb0
 have HB_ := Aside0.mk (below_step HB.out hb)
 have Zw3 := Aside0.mk hb.size
 clear HB hb
 have HB := HB_
 clear HB_
 go_wp2
 go_ret
 exact ⟨rfl, HB.out⟩

set_option maxHeartbeats 16000000 in
set_option maxRecDepth 100000 in
theorem laws_FnExactJoinHunks_true (k : Nat) (A0 : Option Addr) (c0 : Nat) (l0 : List ByteArray) (A1 : Option Addr) (c1 : Nat) (l1 : List LH) (A2 : Option Addr) (c2 : Nat) (l2 : List LH) (w : World) (hr0 : Kd.C Kd.string w A0 l0.length l0) (hc0 : l0.length ≤ c0) (hr1 : Kd.C k107 w A1 l1.length l1) (hc1 : l1.length ≤ c1) (hr2 : Kd.C k107 w A2 l2.length l2) (hc2 : l2.length ≤ c2)
    (s0 : Int) (es0 : laws_szStringS.f k l0 1048576 = some s0) (ns0 : ¬ s0 < 0)
    (s1 : Int) (es1 : laws_szHunkS.f k l1 s0 = some s1) (ns1 : ¬ s1 < 0)
    (s2 : Int) (es2 : laws_szHunkS.f k l2 s1 = some s2) (ns2 : ¬ s2 < 0)
    (x0 : List ByteArray) (et0 : laws_toStringS.f k l0 = some x0) (ee0 : laws_eqStringS.f k x0 x0 = some true)
    (x1 : List IH) (et1 : laws_toHunkS.f k l1 = some x1) (ee1 : laws_eqHunkS.f k x1 x1 = some true)
    (x2 : List IH) (et2 : laws_toHunkS.f k l2 = some x2) (ee2 : laws_eqHunkS.f k x2 x2 = some true)
    (v : List IH) (r0 : Bool) (esp : spec_JoinHunks.f k x0 x1 x2 = some (v, r0)) (eim : impl_JoinHunks.f k x0 x1 x2 = some (v, r0)) (eev : laws_eqHunkS.f k v v = some true)
    (em0 : laws_markStringS.f k x0 ((1 : Nat) : Int) = some ((((1 + x0.length) : Nat) : Int), marks 1 x0.length))
    (hm1 : (endH x1 (1 + x0.length)) ≤ 1099511627776) (hL1 : x1.length ≤ 1099511627776)
    (hm2 : (endH x2 (endH x1 (1 + x0.length))) ≤ 1099511627776) (hL2 : x2.length ≤ 1099511627776)
    (hmv : (endH v 1) ≤ 1099511627776) (hLv : v.length ≤ 1099511627776) (ehv : laws_heldHunkS.f k (mkHs v 1) 1 = some (((endH v 1) : Nat) : Int)) :
    Calls Try.prog 5 #[.slice A0 l0.length c0, .slice A1 l1.length c1, .slice A2 l2.length c2] w fun e w' => e = .returned (.bool true) ∧ Below w.heap.size w w' := by
 have n0 : decide (s0 < 0) = false := decide_eq_false ns0
 clear ns0
 have hr0_ := Aside0.mk hr0
 clear hr0
 have hr0 := hr0_
 clear hr0_
 have hc0_ := Aside0.mk hc0
 clear hc0
 have hc0 := hc0_
 clear hc0_
 have es0_ := Aside0.mk es0
 clear es0
 have es0 := es0_
 clear es0_
 have et0_ := Aside0.mk et0
 clear et0
 have et0 := et0_
 clear et0_
 have ee0_ := Aside0.mk ee0
 clear ee0
 have ee0 := ee0_
 clear ee0_
 have em0_ := Aside0.mk em0
 clear em0
 have em0 := em0_
 clear em0_
 have n1 : decide (s1 < 0) = false := decide_eq_false ns1
 clear ns1
 have hr1_ := Aside0.mk hr1
 clear hr1
 have hr1 := hr1_
 clear hr1_
 have hc1_ := Aside0.mk hc1
 clear hc1
 have hc1 := hc1_
 clear hc1_
 have es1_ := Aside0.mk es1
 clear es1
 have es1 := es1_
 clear es1_
 have et1_ := Aside0.mk et1
 clear et1
 have et1 := et1_
 clear et1_
 have ee1_ := Aside0.mk ee1
 clear ee1
 have ee1 := ee1_
 clear ee1_
 have hm1_ := Aside0.mk hm1
 clear hm1
 have hm1 := hm1_
 clear hm1_
 have hL1_ := Aside0.mk hL1
 clear hL1
 have hL1 := hL1_
 clear hL1_
 have n2 : decide (s2 < 0) = false := decide_eq_false ns2
 clear ns2
 have hr2_ := Aside0.mk hr2
 clear hr2
 have hr2 := hr2_
 clear hr2_
 have hc2_ := Aside0.mk hc2
 clear hc2
 have hc2 := hc2_
 clear hc2_
 have es2_ := Aside0.mk es2
 clear es2
 have es2 := es2_
 clear es2_
 have et2_ := Aside0.mk et2
 clear et2
 have et2 := et2_
 clear et2_
 have ee2_ := Aside0.mk ee2
 clear ee2
 have ee2 := ee2_
 clear ee2_
 have hm2_ := Aside0.mk hm2
 clear hm2
 have hm2 := hm2_
 clear hm2_
 have hL2_ := Aside0.mk hL2
 clear hL2
 have hL2 := hL2_
 clear hL2_
 have esp_ := Aside0.mk esp
 clear esp
 have esp := esp_
 clear esp_
 have eim_ := Aside0.mk eim
 clear eim
 have eim := eim_
 clear eim_
 have eev_ := Aside0.mk eev
 clear eev
 have eev := eev_
 clear eev_
 have ehv_ := Aside0.mk ehv
 clear ehv
 have ehv := ehv_
 clear ehv_
 have hmv_ := Aside0.mk hmv
 clear hmv
 have hmv := hmv_
 clear hmv_
 have hLv_ := Aside0.mk hLv
 clear hLv
 have hLv := hLv_
 clear hLv_
 have nm0 : decide (((((1 + x0.length) : Nat) : Int)) < 0) = false := decide_eq_false (Int.not_lt.2 (Int.natCast_nonneg _))
 have nm1 : decide (((((endH x1 (1 + x0.length)) : Nat) : Int)) < 0) = false := decide_eq_false (Int.not_lt.2 (Int.natCast_nonneg _))
 have nm2 : decide (((((endH x2 (endH x1 (1 + x0.length))) : Nat) : Int)) < 0) = false := decide_eq_false (Int.not_lt.2 (Int.natCast_nonneg _))
 have nv : decide (((((endH v 1) : Nat) : Int)) < 0) = false := decide_eq_false (Int.not_lt.2 (Int.natCast_nonneg _))
 have HB := Aside0.mk (Below.refl w.heap.size w)
 go_enter Try.func5, Try.ntmps5
 go_wp2_with fail
 refine (laws_szStringS.calls k A0 c0 l0 1048576 s0 _ (Kd.C_below hr0.out HB.out) hc0.out es0.out).mono ?_
 rintro e w1 ⟨rfl, hb0⟩
 have hb : Below w.heap.size w w1 := by first | exact hb0 | (obtain ⟨nd_, e_⟩ := hb0; rw [e_]; exact pw_below_drewN (Below.refl _ _) nd_)
 clear hb0
 have HB_ := Aside0.mk (below_step HB.out hb)
 have Zw1 := Aside0.mk hb.size
 clear HB hb
 have HB := HB_
 clear HB_
 go_wp2_with fail
 refine (laws_szHunkS.calls k A1 c1 l1 s0 s1 _ (Kd.C_below hr1.out HB.out) hc1.out es1.out).mono ?_
 rintro e w2 ⟨rfl, hb0⟩
 have hb : Below w1.heap.size w1 w2 := by first | exact hb0 | (obtain ⟨nd_, e_⟩ := hb0; rw [e_]; exact pw_below_drewN (Below.refl _ _) nd_)
 clear hb0
 have HB_ := Aside0.mk (below_step HB.out hb)
 have Zw2 := Aside0.mk hb.size
 clear HB hb
 have HB := HB_
 clear HB_
 go_wp2_with fail
 refine (laws_szHunkS.calls k A2 c2 l2 s1 s2 _ (Kd.C_below hr2.out HB.out) hc2.out es2.out).mono ?_
 rintro e w3 ⟨rfl, hb0⟩
 have hb : Below w2.heap.size w2 w3 := by first | exact hb0 | (obtain ⟨nd_, e_⟩ := hb0; rw [e_]; exact pw_below_drewN (Below.refl _ _) nd_)
 clear hb0
 have HB_ := Aside0.mk (below_step HB.out hb)
 have Zw3 := Aside0.mk hb.size
 clear HB hb
 have HB := HB_
 clear HB_
 go_wp2_with fail
 refine (laws_toStringS.calls k A0 c0 l0 x0 _ (Kd.C_below hr0.out HB.out) hc0.out et0.out).mono ?_
 rintro e w4 ⟨vv, rfl, ho, hb⟩
 obtain ⟨AY0, cY0, rfl⟩ := Kd.R_slice ho
 have Y0 := Aside0.mk (Kd.R_mono (ok' := fun k_ => w3.heap.size ≤ k_ ∧ k_ < w4.heap.size) (Kd.R_lower (Kd.R_bound ho) HB.out.size) (fun k_ h_ => ⟨h_.2.1, h_.2.2.1⟩))
 clear ho
 have HB_ := Aside0.mk (below_step HB.out hb)
 have Zw4 := Aside0.mk hb.size
 clear HB hb
 have HB := HB_
 clear HB_
 go_wp2_with fail
 refine (laws_toHunkS.calls k A1 c1 l1 x1 _ (Kd.C_below hr1.out HB.out) hc1.out et1.out).mono ?_
 rintro e w5 ⟨vv, rfl, ho, hb⟩
 obtain ⟨AY1, cY1, rfl⟩ := Kd.S_slice ho
 have Y0_ := Aside0.mk (Kd.R_below Y0.out hb)
 clear Y0
 have Y0 := Y0_
 clear Y0_
 have Y1 := Aside0.mk (Kd.S_mono (ok' := fun k_ => w4.heap.size ≤ k_ ∧ k_ < w5.heap.size) (Kd.S_lower (Kd.S_bound ho) HB.out.size) (fun k_ h_ => ⟨h_.2.1, h_.2.2.1⟩))
 clear ho
 have HB_ := Aside0.mk (below_step HB.out hb)
 have Zw5 := Aside0.mk hb.size
 clear HB hb
 have HB := HB_
 clear HB_
 go_wp2_with fail
 refine (laws_toHunkS.calls k A2 c2 l2 x2 _ (Kd.C_below hr2.out HB.out) hc2.out et2.out).mono ?_
 rintro e w6 ⟨vv, rfl, ho, hb⟩
 obtain ⟨AY2, cY2, rfl⟩ := Kd.S_slice ho
 have Y0_ := Aside0.mk (Kd.R_below Y0.out hb)
 clear Y0
 have Y0 := Y0_
 clear Y0_
 have Y1_ := Aside0.mk (Kd.S_below Y1.out hb)
 clear Y1
 have Y1 := Y1_
 clear Y1_
 have Y2 := Aside0.mk (Kd.S_mono (ok' := fun k_ => w5.heap.size ≤ k_ ∧ k_ < w6.heap.size) (Kd.S_lower (Kd.S_bound ho) HB.out.size) (fun k_ h_ => ⟨h_.2.1, h_.2.2.1⟩))
 clear ho
 have HB_ := Aside0.mk (below_step HB.out hb)
 have Zw6 := Aside0.mk hb.size
 clear HB hb
 have HB := HB_
 clear HB_
 go_wp2_with fail
 refine (spec_JoinHunks.calls k AY0 cY0 x0 AY1 cY1 x1 AY2 cY2 x2 v r0 _ (Kd.R_reads' Y0.out).2.2 (Kd.R_reads' Y0.out).2.1 (Kd.S_reads' Y1.out).2.2 (Kd.S_reads' Y1.out).2.1 (Kd.S_reads' Y2.out).2.2 (Kd.S_reads' Y2.out).2.1 esp.out).mono ?_
 rintro e w7 ⟨vv, rfl, ho, hb⟩
 obtain ⟨AVW, cVW, rfl⟩ := Kd.S_slice ho
 have Y0_ := Aside0.mk (Kd.R_below Y0.out hb)
 clear Y0
 have Y0 := Y0_
 clear Y0_
 have Y1_ := Aside0.mk (Kd.S_below Y1.out hb)
 clear Y1
 have Y1 := Y1_
 clear Y1_
 have Y2_ := Aside0.mk (Kd.S_below Y2.out hb)
 clear Y2
 have Y2 := Y2_
 clear Y2_
 have VW := Aside0.mk (Kd.S_mono (ok' := fun k_ => w6.heap.size ≤ k_ ∧ k_ < w7.heap.size) (Kd.S_lower (Kd.S_bound ho) HB.out.size) (fun k_ h_ => ⟨h_.2.1, h_.2.2.1⟩))
 clear ho
 have HB_ := Aside0.mk (below_step HB.out hb)
 have Zw7 := Aside0.mk hb.size
 clear HB hb
 have HB := HB_
 clear HB_
 clear Y0
 clear Y1
 clear Y2
 go_wp2_with fail
 refine (laws_toStringS.calls k A0 c0 l0 x0 _ (Kd.C_below hr0.out HB.out) hc0.out et0.out).mono ?_
 rintro e w8 ⟨vv, rfl, ho, hb⟩
 obtain ⟨AX0, cX0, rfl⟩ := Kd.R_slice ho
 have VW_ := Aside0.mk (Kd.S_below VW.out hb)
 clear VW
 have VW := VW_
 clear VW_
 have X0 := Aside0.mk (Kd.R_mono (ok' := fun k_ => w7.heap.size ≤ k_ ∧ k_ < w8.heap.size) (Kd.R_lower (Kd.R_bound ho) HB.out.size) (fun k_ h_ => ⟨h_.2.1, h_.2.2.1⟩))
 clear ho
 have HB_ := Aside0.mk (below_step HB.out hb)
 have Zw8 := Aside0.mk hb.size
 clear HB hb
 have HB := HB_
 clear HB_
 go_wp2_with fail
 refine (laws_toHunkS.calls k A1 c1 l1 x1 _ (Kd.C_below hr1.out HB.out) hc1.out et1.out).mono ?_
 rintro e w9 ⟨vv, rfl, ho, hb⟩
 obtain ⟨AX1, cX1, rfl⟩ := Kd.S_slice ho
 have VW_ := Aside0.mk (Kd.S_below VW.out hb)
 clear VW
 have VW := VW_
 clear VW_
 have X0_ := Aside0.mk (Kd.R_below X0.out hb)
 clear X0
 have X0 := X0_
 clear X0_
 have X1 := Aside0.mk (Kd.S_mono (ok' := fun k_ => w8.heap.size ≤ k_ ∧ k_ < w9.heap.size) (Kd.S_lower (Kd.S_bound ho) HB.out.size) (fun k_ h_ => ⟨h_.2.1, h_.2.2.1⟩))
 clear ho
 have HB_ := Aside0.mk (below_step HB.out hb)
 have Zw9 := Aside0.mk hb.size
 clear HB hb
 have HB := HB_
 clear HB_
 go_wp2_with fail
 refine (laws_toHunkS.calls k A2 c2 l2 x2 _ (Kd.C_below hr2.out HB.out) hc2.out et2.out).mono ?_
 rintro e w10 ⟨vv, rfl, ho, hb⟩
 obtain ⟨AX2, cX2, rfl⟩ := Kd.S_slice ho
 have VW_ := Aside0.mk (Kd.S_below VW.out hb)
 clear VW
 have VW := VW_
 clear VW_
 have X0_ := Aside0.mk (Kd.R_below X0.out hb)
 clear X0
 have X0 := X0_
 clear X0_
 have X1_ := Aside0.mk (Kd.S_below X1.out hb)
 clear X1
 have X1 := X1_
 clear X1_
 have X2 := Aside0.mk (Kd.S_mono (ok' := fun k_ => w9.heap.size ≤ k_ ∧ k_ < w10.heap.size) (Kd.S_lower (Kd.S_bound ho) HB.out.size) (fun k_ h_ => ⟨h_.2.1, h_.2.2.1⟩))
 clear ho
 have HB_ := Aside0.mk (below_step HB.out hb)
 have Zw10 := Aside0.mk hb.size
 clear HB hb
 have HB := HB_
 clear HB_
 go_wp2_with fail
 refine (impl_JoinHunks.calls k AX0 cX0 x0 AX1 cX1 x1 AX2 cX2 x2 v r0 _ (Kd.R_reads' X0.out).2.2 (Kd.R_reads' X0.out).2.1 (Kd.S_reads' X1.out).2.2 (Kd.S_reads' X1.out).2.1 (Kd.S_reads' X2.out).2.2 (Kd.S_reads' X2.out).2.1 eim.out).mono ?_
 rintro e w11 ⟨vv, rfl, ho, hb⟩
 obtain ⟨AVG, cVG, rfl⟩ := Kd.S_slice ho
 have VW_ := Aside0.mk (Kd.S_below VW.out hb)
 clear VW
 have VW := VW_
 clear VW_
 have X0_ := Aside0.mk (Kd.R_below X0.out hb)
 clear X0
 have X0 := X0_
 clear X0_
 have X1_ := Aside0.mk (Kd.S_below X1.out hb)
 clear X1
 have X1 := X1_
 clear X1_
 have X2_ := Aside0.mk (Kd.S_below X2.out hb)
 clear X2
 have X2 := X2_
 clear X2_
 have VG := Aside0.mk (Kd.S_mono (ok' := fun k_ => w10.heap.size ≤ k_ ∧ k_ < w11.heap.size) (Kd.S_lower (Kd.S_bound ho) HB.out.size) (fun k_ h_ => ⟨h_.2.1, h_.2.2.1⟩))
 clear ho
 have HB_ := Aside0.mk (below_step HB.out hb)
 have Zw11 := Aside0.mk hb.size
 clear HB hb
 have HB := HB_
 clear HB_
 go_wp2_with fail
 refine (laws_eqHunkS.calls k AVG cVG v AVW cVW v true _ (Kd.S_reads' VG.out).2.2 (Kd.S_reads' VG.out).2.1 (Kd.S_reads' VW.out).2.2 (Kd.S_reads' VW.out).2.1 eev.out).mono ?_
 rintro e w12 ⟨rfl, hb0⟩
 have hb : Below w11.heap.size w11 w12 := by first | exact hb0 | (obtain ⟨nd_, e_⟩ := hb0; rw [e_]; exact pw_below_drewN (Below.refl _ _) nd_)
 clear hb0
 have VW_ := Aside0.mk (Kd.S_below VW.out hb)
 clear VW
 have VW := VW_
 clear VW_
 have X0_ := Aside0.mk (Kd.R_below X0.out hb)
 clear X0
 have X0 := X0_
 clear X0_
 have X1_ := Aside0.mk (Kd.S_below X1.out hb)
 clear X1
 have X1 := X1_
 clear X1_
 have X2_ := Aside0.mk (Kd.S_below X2.out hb)
 clear X2
 have X2 := X2_
 clear X2_
 have VG_ := Aside0.mk (Kd.S_below VG.out hb)
 clear VG
 have VG := VG_
 clear VG_
 have HB_ := Aside0.mk (below_step HB.out hb)
 have Zw12 := Aside0.mk hb.size
 clear HB hb
 have HB := HB_
 clear HB_
 go_wp2_with fail
 refine (laws_toStringS.calls k A0 c0 l0 x0 _ (Kd.C_below hr0.out HB.out) hc0.out et0.out).mono ?_
 rintro e w13 ⟨vv, rfl, ho, hb⟩
 obtain ⟨AQ0, cQ0, rfl⟩ := Kd.R_slice ho
 have VW_ := Aside0.mk (Kd.S_below VW.out hb)
 clear VW
 have VW := VW_
 clear VW_
 have X0_ := Aside0.mk (Kd.R_below X0.out hb)
 clear X0
 have X0 := X0_
 clear X0_
 have X1_ := Aside0.mk (Kd.S_below X1.out hb)
 clear X1
 have X1 := X1_
 clear X1_
 have X2_ := Aside0.mk (Kd.S_below X2.out hb)
 clear X2
 have X2 := X2_
 clear X2_
 have VG_ := Aside0.mk (Kd.S_below VG.out hb)
 clear VG
 have VG := VG_
 clear VG_
 have Q0 := Aside0.mk (Kd.R_mono (ok' := fun k_ => w12.heap.size ≤ k_ ∧ k_ < w13.heap.size) (Kd.R_lower (Kd.R_bound ho) HB.out.size) (fun k_ h_ => ⟨h_.2.1, h_.2.2.1⟩))
 clear ho
 have HB_ := Aside0.mk (below_step HB.out hb)
 have Zw13 := Aside0.mk hb.size
 clear HB hb
 have HB := HB_
 clear HB_
 go_wp2_with fail
 refine (laws_eqStringS.calls k AX0 cX0 x0 AQ0 cQ0 x0 true _ (Kd.R_reads' X0.out).2.2 (Kd.R_reads' X0.out).2.1 (Kd.R_reads' Q0.out).2.2 (Kd.R_reads' Q0.out).2.1 ee0.out).mono ?_
 rintro e w14 ⟨rfl, hb0⟩
 have hb : Below w13.heap.size w13 w14 := by first | exact hb0 | (obtain ⟨nd_, e_⟩ := hb0; rw [e_]; exact pw_below_drewN (Below.refl _ _) nd_)
 clear hb0
 have VW_ := Aside0.mk (Kd.S_below VW.out hb)
 clear VW
 have VW := VW_
 clear VW_
 have X0_ := Aside0.mk (Kd.R_below X0.out hb)
 clear X0
 have X0 := X0_
 clear X0_
 have X1_ := Aside0.mk (Kd.S_below X1.out hb)
 clear X1
 have X1 := X1_
 clear X1_
 have X2_ := Aside0.mk (Kd.S_below X2.out hb)
 clear X2
 have X2 := X2_
 clear X2_
 have VG_ := Aside0.mk (Kd.S_below VG.out hb)
 clear VG
 have VG := VG_
 clear VG_
 have Q0_ := Aside0.mk (Kd.R_below Q0.out hb)
 clear Q0
 have Q0 := Q0_
 clear Q0_
 have HB_ := Aside0.mk (below_step HB.out hb)
 have Zw14 := Aside0.mk hb.size
 clear HB hb
 have HB := HB_
 clear HB_
 clear Q0
 go_wp2_with fail
 refine (laws_toHunkS.calls k A1 c1 l1 x1 _ (Kd.C_below hr1.out HB.out) hc1.out et1.out).mono ?_
 rintro e w15 ⟨vv, rfl, ho, hb⟩
 obtain ⟨AQ1, cQ1, rfl⟩ := Kd.S_slice ho
 have VW_ := Aside0.mk (Kd.S_below VW.out hb)
 clear VW
 have VW := VW_
 clear VW_
 have X0_ := Aside0.mk (Kd.R_below X0.out hb)
 clear X0
 have X0 := X0_
 clear X0_
 have X1_ := Aside0.mk (Kd.S_below X1.out hb)
 clear X1
 have X1 := X1_
 clear X1_
 have X2_ := Aside0.mk (Kd.S_below X2.out hb)
 clear X2
 have X2 := X2_
 clear X2_
 have VG_ := Aside0.mk (Kd.S_below VG.out hb)
 clear VG
 have VG := VG_
 clear VG_
 have Q1 := Aside0.mk (Kd.S_mono (ok' := fun k_ => w14.heap.size ≤ k_ ∧ k_ < w15.heap.size) (Kd.S_lower (Kd.S_bound ho) HB.out.size) (fun k_ h_ => ⟨h_.2.1, h_.2.2.1⟩))
 clear ho
 have HB_ := Aside0.mk (below_step HB.out hb)
 have Zw15 := Aside0.mk hb.size
 clear HB hb
 have HB := HB_
 clear HB_
 go_wp2_with fail
 refine (laws_eqHunkS.calls k AX1 cX1 x1 AQ1 cQ1 x1 true _ (Kd.S_reads' X1.out).2.2 (Kd.S_reads' X1.out).2.1 (Kd.S_reads' Q1.out).2.2 (Kd.S_reads' Q1.out).2.1 ee1.out).mono ?_
 rintro e w16 ⟨rfl, hb0⟩
 have hb : Below w15.heap.size w15 w16 := by first | exact hb0 | (obtain ⟨nd_, e_⟩ := hb0; rw [e_]; exact pw_below_drewN (Below.refl _ _) nd_)
 clear hb0
 have VW_ := Aside0.mk (Kd.S_below VW.out hb)
 clear VW
 have VW := VW_
 clear VW_
 have X0_ := Aside0.mk (Kd.R_below X0.out hb)
 clear X0
 have X0 := X0_
 clear X0_
 have X1_ := Aside0.mk (Kd.S_below X1.out hb)
 clear X1
 have X1 := X1_
 clear X1_
 have X2_ := Aside0.mk (Kd.S_below X2.out hb)
 clear X2
 have X2 := X2_
 clear X2_
 have VG_ := Aside0.mk (Kd.S_below VG.out hb)
 clear VG
 have VG := VG_
 clear VG_
 have Q1_ := Aside0.mk (Kd.S_below Q1.out hb)
 clear Q1
 have Q1 := Q1_
 clear Q1_
 have HB_ := Aside0.mk (below_step HB.out hb)
 have Zw16 := Aside0.mk hb.size
 clear HB hb
 have HB := HB_
 clear HB_
 clear Q1
 go_wp2_with fail
 refine (laws_toHunkS.calls k A2 c2 l2 x2 _ (Kd.C_below hr2.out HB.out) hc2.out et2.out).mono ?_
 rintro e w17 ⟨vv, rfl, ho, hb⟩
 obtain ⟨AQ2, cQ2, rfl⟩ := Kd.S_slice ho
 have VW_ := Aside0.mk (Kd.S_below VW.out hb)
 clear VW
 have VW := VW_
 clear VW_
 have X0_ := Aside0.mk (Kd.R_below X0.out hb)
 clear X0
 have X0 := X0_
 clear X0_
 have X1_ := Aside0.mk (Kd.S_below X1.out hb)
 clear X1
 have X1 := X1_
 clear X1_
 have X2_ := Aside0.mk (Kd.S_below X2.out hb)
 clear X2
 have X2 := X2_
 clear X2_
 have VG_ := Aside0.mk (Kd.S_below VG.out hb)
 clear VG
 have VG := VG_
 clear VG_
 have Q2 := Aside0.mk (Kd.S_mono (ok' := fun k_ => w16.heap.size ≤ k_ ∧ k_ < w17.heap.size) (Kd.S_lower (Kd.S_bound ho) HB.out.size) (fun k_ h_ => ⟨h_.2.1, h_.2.2.1⟩))
 clear ho
 have HB_ := Aside0.mk (below_step HB.out hb)
 have Zw17 := Aside0.mk hb.size
 clear HB hb
 have HB := HB_
 clear HB_
 go_wp2_with fail
 refine (laws_eqHunkS.calls k AX2 cX2 x2 AQ2 cQ2 x2 true _ (Kd.S_reads' X2.out).2.2 (Kd.S_reads' X2.out).2.1 (Kd.S_reads' Q2.out).2.2 (Kd.S_reads' Q2.out).2.1 ee2.out).mono ?_
 rintro e w18 ⟨rfl, hb0⟩
 have hb : Below w17.heap.size w17 w18 := by first | exact hb0 | (obtain ⟨nd_, e_⟩ := hb0; rw [e_]; exact pw_below_drewN (Below.refl _ _) nd_)
 clear hb0
 have VW_ := Aside0.mk (Kd.S_below VW.out hb)
 clear VW
 have VW := VW_
 clear VW_
 have X0_ := Aside0.mk (Kd.R_below X0.out hb)
 clear X0
 have X0 := X0_
 clear X0_
 have X1_ := Aside0.mk (Kd.S_below X1.out hb)
 clear X1
 have X1 := X1_
 clear X1_
 have X2_ := Aside0.mk (Kd.S_below X2.out hb)
 clear X2
 have X2 := X2_
 clear X2_
 have VG_ := Aside0.mk (Kd.S_below VG.out hb)
 clear VG
 have VG := VG_
 clear VG_
 have Q2_ := Aside0.mk (Kd.S_below Q2.out hb)
 clear Q2
 have Q2 := Q2_
 clear Q2_
 have HB_ := Aside0.mk (below_step HB.out hb)
 have Zw18 := Aside0.mk hb.size
 clear HB hb
 have HB := HB_
 clear HB_
 clear Q2
 go_wp2_with fail
 refine (laws_markStringS.calls k (fun k_ => w7.heap.size ≤ k_ ∧ k_ < w8.heap.size) _ x0 _ _ _ w _ HB.out X0.out em0.out).mono ?_
 rintro e w19 ⟨rfl, hR, hb, hk⟩
 have VW_ := Aside0.mk (Kd.S_kept VW.out hk (fun k_ h1_ h2_ => Nat.lt_irrefl k_ (Nat.lt_of_lt_of_le h1_.2 (Nat.le_trans (Nat.le_refl _) h2_.1))))
 clear VW
 have VW := VW_
 clear VW_
 have X1_ := Aside0.mk (Kd.S_kept X1.out hk (fun k_ h1_ h2_ => Nat.lt_irrefl k_ (Nat.lt_of_lt_of_le h2_.2 (Nat.le_trans (Nat.le_refl _) h1_.1))))
 clear X1
 have X1 := X1_
 clear X1_
 have X2_ := Aside0.mk (Kd.S_kept X2.out hk (fun k_ h1_ h2_ => Nat.lt_irrefl k_ (Nat.lt_of_lt_of_le h2_.2 (Nat.le_trans (Nat.le_trans (Nat.le_refl _) Zw9.out) h1_.1))))
 clear X2
 have X2 := X2_
 clear X2_
 have VG_ := Aside0.mk (Kd.S_kept VG.out hk (fun k_ h1_ h2_ => Nat.lt_irrefl k_ (Nat.lt_of_lt_of_le h2_.2 (Nat.le_trans (Nat.le_trans (Nat.le_trans (Nat.le_refl _) Zw9.out) Zw10.out) h1_.1))))
 clear VG
 have VG := VG_
 clear VG_
 clear X0 hR
 have Zw19 := Aside0.mk hk.1
 clear hk HB
 have HB := Aside0.mk hb
 clear hb
 go_wp2_with fail
 refine (laws_markHunkS_made (fun k_ => w8.heap.size ≤ k_ ∧ k_ < w9.heap.size) _ x1 (1 + x0.length) w _ hm1.out hL1.out HB.out X1.out).mono ?_
 rintro e w20 ⟨rfl, hR, hb, hk⟩
 have VW_ := Aside0.mk (Kd.S_kept VW.out hk (fun k_ h1_ h2_ => Nat.lt_irrefl k_ (Nat.lt_of_lt_of_le h1_.2 (Nat.le_trans (Nat.le_trans (Nat.le_refl _) Zw8.out) h2_.1))))
 clear VW
 have VW := VW_
 clear VW_
 have X2_ := Aside0.mk (Kd.S_kept X2.out hk (fun k_ h1_ h2_ => Nat.lt_irrefl k_ (Nat.lt_of_lt_of_le h2_.2 (Nat.le_trans (Nat.le_refl _) h1_.1))))
 clear X2
 have X2 := X2_
 clear X2_
 have VG_ := Aside0.mk (Kd.S_kept VG.out hk (fun k_ h1_ h2_ => Nat.lt_irrefl k_ (Nat.lt_of_lt_of_le h2_.2 (Nat.le_trans (Nat.le_trans (Nat.le_refl _) Zw10.out) h1_.1))))
 clear VG
 have VG := VG_
 clear VG_
 clear X1 hR
 have Zw20 := Aside0.mk hk.1
 clear hk HB
 have HB := Aside0.mk hb
 clear hb
 go_wp2_with fail
 refine (laws_markHunkS_made (fun k_ => w9.heap.size ≤ k_ ∧ k_ < w10.heap.size) _ x2 (endH x1 (1 + x0.length)) w _ hm2.out hL2.out HB.out X2.out).mono ?_
 rintro e w21 ⟨rfl, hR, hb, hk⟩
 have VW_ := Aside0.mk (Kd.S_kept VW.out hk (fun k_ h1_ h2_ => Nat.lt_irrefl k_ (Nat.lt_of_lt_of_le h1_.2 (Nat.le_trans (Nat.le_trans (Nat.le_trans (Nat.le_refl _) Zw8.out) Zw9.out) h2_.1))))
 clear VW
 have VW := VW_
 clear VW_
 have VG_ := Aside0.mk (Kd.S_kept VG.out hk (fun k_ h1_ h2_ => Nat.lt_irrefl k_ (Nat.lt_of_lt_of_le h2_.2 (Nat.le_trans (Nat.le_refl _) h1_.1))))
 clear VG
 have VG := VG_
 clear VG_
 clear X2 hR
 have Zw21 := Aside0.mk hk.1
 clear hk HB
 have HB := Aside0.mk hb
 clear hb
 go_wp2_with fail
 refine (laws_eqHunkS.calls k AVG cVG v AVW cVW v true _ (Kd.S_reads' VG.out).2.2 (Kd.S_reads' VG.out).2.1 (Kd.S_reads' VW.out).2.2 (Kd.S_reads' VW.out).2.1 eev.out).mono ?_
 rintro e w22 ⟨rfl, hb0⟩
 have hb : Below w21.heap.size w21 w22 := by first | exact hb0 | (obtain ⟨nd_, e_⟩ := hb0; rw [e_]; exact pw_below_drewN (Below.refl _ _) nd_)
 clear hb0
 have VW_ := Aside0.mk (Kd.S_below VW.out hb)
 clear VW
 have VW := VW_
 clear VW_
 have VG_ := Aside0.mk (Kd.S_below VG.out hb)
 clear VG
 have VG := VG_
 clear VG_
 have HB_ := Aside0.mk (below_step HB.out hb)
 have Zw22 := Aside0.mk hb.size
 clear HB hb
 have HB := HB_
 clear HB_
 go_wp2_with fail
 refine (laws_markHunkS_made (fun k_ => w10.heap.size ≤ k_ ∧ k_ < w11.heap.size) _ v 1 w _ hmv.out hLv.out HB.out VG.out).mono ?_
 rintro e w23 ⟨rfl, hR, hb, hk⟩
 have VW_ := Aside0.mk (Kd.S_kept VW.out hk (fun k_ h1_ h2_ => Nat.lt_irrefl k_ (Nat.lt_of_lt_of_le h1_.2 (Nat.le_trans (Nat.le_trans (Nat.le_trans (Nat.le_trans (Nat.le_refl _) Zw8.out) Zw9.out) Zw10.out) h2_.1))))
 clear VW
 have VW := VW_
 clear VW_
 have VG_ := Aside0.mk hR
 clear VG hR
 have VG := VG_
 clear VG_
 have Zw23 := Aside0.mk hk.1
 clear hk HB
 have HB := Aside0.mk hb
 clear hb
 go_wp2_with fail
 have eLen := (Kd.S_reads' VG.out).1
 refine calls_of_args (args' := #[.slice AVG ((mkHs v 1) : List IH).length cVG, .int .i64 1]) (by rw [← eLen]) ?_
 refine (laws_heldHunkS.calls k AVG cVG (mkHs v 1) 1 _ _ (Kd.S_reads' VG.out).2.2 (by rw [← eLen]; exact (Kd.S_reads' VG.out).2.1) ehv.out).mono ?_
 rintro e w24 ⟨rfl, hb0⟩
 clear eLen
 have hb : Below w23.heap.size w23 w24 := by first | exact hb0 | (obtain ⟨nd_, e_⟩ := hb0; rw [e_]; exact pw_below_drewN (Below.refl _ _) nd_)
 clear hb0
 have VW_ := Aside0.mk (Kd.S_below VW.out hb)
 clear VW
 have VW := VW_
 clear VW_
 have VG_ := Aside0.mk (Kd.S_below VG.out hb)
 clear VG
 have VG := VG_
 clear VG_
 have HB_ := Aside0.mk (below_step HB.out hb)
 have Zw24 := Aside0.mk hb.size
 clear HB hb
 have HB := HB_
 clear HB_
 go_wp2_with fail
 refine (laws_toStringS.calls k A0 c0 l0 x0 _ (Kd.C_below hr0.out HB.out) hc0.out et0.out).mono ?_
 rintro e w25 ⟨vv, rfl, ho, hb⟩
 obtain ⟨AY0, cY0, rfl⟩ := Kd.R_slice ho
 have VW_ := Aside0.mk (Kd.S_below VW.out hb)
 clear VW
 have VW := VW_
 clear VW_
 have VG_ := Aside0.mk (Kd.S_below VG.out hb)
 clear VG
 have VG := VG_
 clear VG_
 have Y0 := Aside0.mk (Kd.R_mono (ok' := fun k_ => w24.heap.size ≤ k_ ∧ k_ < w25.heap.size) (Kd.R_lower (Kd.R_bound ho) HB.out.size) (fun k_ h_ => ⟨h_.2.1, h_.2.2.1⟩))
 clear ho
 have HB_ := Aside0.mk (below_step HB.out hb)
 have Zw25 := Aside0.mk hb.size
 clear HB hb
 have HB := HB_
 clear HB_
 go_wp2_with fail
 refine (laws_toHunkS.calls k A1 c1 l1 x1 _ (Kd.C_below hr1.out HB.out) hc1.out et1.out).mono ?_
 rintro e w26 ⟨vv, rfl, ho, hb⟩
 obtain ⟨AY1, cY1, rfl⟩ := Kd.S_slice ho
 have VW_ := Aside0.mk (Kd.S_below VW.out hb)
 clear VW
 have VW := VW_
 clear VW_
 have VG_ := Aside0.mk (Kd.S_below VG.out hb)
 clear VG
 have VG := VG_
 clear VG_
 have Y0_ := Aside0.mk (Kd.R_below Y0.out hb)
 clear Y0
 have Y0 := Y0_
 clear Y0_
 have Y1 := Aside0.mk (Kd.S_mono (ok' := fun k_ => w25.heap.size ≤ k_ ∧ k_ < w26.heap.size) (Kd.S_lower (Kd.S_bound ho) HB.out.size) (fun k_ h_ => ⟨h_.2.1, h_.2.2.1⟩))
 clear ho
 have HB_ := Aside0.mk (below_step HB.out hb)
 have Zw26 := Aside0.mk hb.size
 clear HB hb
 have HB := HB_
 clear HB_
 go_wp2_with fail
 refine (laws_toHunkS.calls k A2 c2 l2 x2 _ (Kd.C_below hr2.out HB.out) hc2.out et2.out).mono ?_
 rintro e w27 ⟨vv, rfl, ho, hb⟩
 obtain ⟨AY2, cY2, rfl⟩ := Kd.S_slice ho
 have VW_ := Aside0.mk (Kd.S_below VW.out hb)
 clear VW
 have VW := VW_
 clear VW_
 have VG_ := Aside0.mk (Kd.S_below VG.out hb)
 clear VG
 have VG := VG_
 clear VG_
 have Y0_ := Aside0.mk (Kd.R_below Y0.out hb)
 clear Y0
 have Y0 := Y0_
 clear Y0_
 have Y1_ := Aside0.mk (Kd.S_below Y1.out hb)
 clear Y1
 have Y1 := Y1_
 clear Y1_
 have Y2 := Aside0.mk (Kd.S_mono (ok' := fun k_ => w26.heap.size ≤ k_ ∧ k_ < w27.heap.size) (Kd.S_lower (Kd.S_bound ho) HB.out.size) (fun k_ h_ => ⟨h_.2.1, h_.2.2.1⟩))
 clear ho
 have HB_ := Aside0.mk (below_step HB.out hb)
 have Zw27 := Aside0.mk hb.size
 clear HB hb
 have HB := HB_
 clear HB_
 go_wp2_with fail
 refine (impl_JoinHunks.calls k AY0 cY0 x0 AY1 cY1 x1 AY2 cY2 x2 v r0 _ (Kd.R_reads' Y0.out).2.2 (Kd.R_reads' Y0.out).2.1 (Kd.S_reads' Y1.out).2.2 (Kd.S_reads' Y1.out).2.1 (Kd.S_reads' Y2.out).2.2 (Kd.S_reads' Y2.out).2.1 eim.out).mono ?_
 rintro e w28 ⟨vv, rfl, ho, hb⟩
 obtain ⟨AVH, cVH, rfl⟩ := Kd.S_slice ho
 have VW_ := Aside0.mk (Kd.S_below VW.out hb)
 clear VW
 have VW := VW_
 clear VW_
 have VG_ := Aside0.mk (Kd.S_below VG.out hb)
 clear VG
 have VG := VG_
 clear VG_
 have Y0_ := Aside0.mk (Kd.R_below Y0.out hb)
 clear Y0
 have Y0 := Y0_
 clear Y0_
 have Y1_ := Aside0.mk (Kd.S_below Y1.out hb)
 clear Y1
 have Y1 := Y1_
 clear Y1_
 have Y2_ := Aside0.mk (Kd.S_below Y2.out hb)
 clear Y2
 have Y2 := Y2_
 clear Y2_
 have VH := Aside0.mk (Kd.S_mono (ok' := fun k_ => w27.heap.size ≤ k_ ∧ k_ < w28.heap.size) (Kd.S_lower (Kd.S_bound ho) HB.out.size) (fun k_ h_ => ⟨h_.2.1, h_.2.2.1⟩))
 clear ho
 have HB_ := Aside0.mk (below_step HB.out hb)
 have Zw28 := Aside0.mk hb.size
 clear HB hb
 have HB := HB_
 clear HB_
 clear Y0
 clear Y1
 clear Y2
 go_wp2_with fail
 refine (laws_eqHunkS.calls k AVH cVH v AVW cVW v true _ (Kd.S_reads' VH.out).2.2 (Kd.S_reads' VH.out).2.1 (Kd.S_reads' VW.out).2.2 (Kd.S_reads' VW.out).2.1 eev.out).mono ?_
 rintro e w29 ⟨rfl, hb0⟩
 have hb : Below w28.heap.size w28 w29 := by first | exact hb0 | (obtain ⟨nd_, e_⟩ := hb0; rw [e_]; exact pw_below_drewN (Below.refl _ _) nd_)
 clear hb0
 have VW_ := Aside0.mk (Kd.S_below VW.out hb)
 clear VW
 have VW := VW_
 clear VW_
 have VG_ := Aside0.mk (Kd.S_below VG.out hb)
 clear VG
 have VG := VG_
 clear VG_
 have VH_ := Aside0.mk (Kd.S_below VH.out hb)
 clear VH
 have VH := VH_
 clear VH_
 have HB_ := Aside0.mk (below_step HB.out hb)
 have Zw29 := Aside0.mk hb.size
 clear HB hb
 have HB := HB_
 clear HB_
 clear VH VW
 go_wp2_with fail
 have eLen := (Kd.S_reads' VG.out).1
 refine calls_of_args (args' := #[.slice AVG ((mkHs v 1) : List IH).length cVG, .int .i64 1]) (by rw [← eLen]) ?_
 refine (laws_heldHunkS.calls k AVG cVG (mkHs v 1) 1 _ _ (Kd.S_reads' VG.out).2.2 (by rw [← eLen]; exact (Kd.S_reads' VG.out).2.1) ehv.out).mono ?_
 rintro e w30 ⟨rfl, hb0⟩
 clear eLen
 have hb : Below w29.heap.size w29 w30 := by first | exact hb0 | (obtain ⟨nd_, e_⟩ := hb0; rw [e_]; exact pw_below_drewN (Below.refl _ _) nd_)
 clear hb0
 have VG_ := Aside0.mk (Kd.S_below VG.out hb)
 clear VG
 have VG := VG_
 clear VG_
 have HB_ := Aside0.mk (below_step HB.out hb)
 have Zw30 := Aside0.mk hb.size
 clear HB hb
 have HB := HB_
 clear HB_
 go_wp2
 go_ret
 exact ⟨rfl, HB.out⟩
end Go.Proofs.Ytcefenlblnediaa.My

/- Plain Lean: answers where both are good lines. No condition. -/
namespace Go.Proofs.Ytcefenlblnediaa.Pl
open Go.RowKit Go.Proofs.YtcefenlblnediaaW.PrintWords Go.Proofs.YtcefenlblnediaaW.PrintLast Go.Proofs.Ytcefenlblnediaa.My
set_option linter.unusedVariables false
set_option linter.unusedSimpArgs false

/-- Where both are good lines. -/
def both {α : Type} (a b : List ByteArray) (z v : α) : α × Bool := if good a = true then (if good b = true then (v, true) else (z, false)) else (z, false)

theorem good_len {l : List ByteArray} (h : good l = true) : l.length ≤ 40 := by
  unfold good at h
  rw [Bool.and_eq_true] at h
  exact of_decide_eq_true h.1

theorem both_ev {α : Type} {G : Nat → List ByteArray → Option Bool} {F : Nat → Option α} {a b : List ByteArray} {z v : α} (hg : ∀ l, FitS l → Ev (fun k => G k l) (good l)) (fa : FitS a) (fb : FitS b) (hF : good a = true → good b = true → Ev F v) :
    Ev (fun k => (G k a).bind fun t => (if t = true then ((G k b).bind fun t' => (if t' = true then ((F k).bind fun x => (some (x, true))) else (some (z, false)))) else (some (z, false)))) (both a b z v) := by
  unfold both
  refine ev_bind (hg a fa) (ev_ite (fun h => ?_) (fun h => ev_some (by rw [if_neg h])))
  rw [if_pos h]
  refine ev_bind (hg b fb) (ev_ite (fun h' => ?_) (fun h' => ev_some (by rw [if_neg h'])))
  rw [if_pos h']
  exact ev_bind (hF h h') (ev_some rfl)
end Go.Proofs.Ytcefenlblnediaa.Pl

/- Plain Lean: chapter 2: hunks carried out, for the program and the reference. Conditions: lengths and sizes below 2^62. -/
namespace Go.Proofs.Ytcefenlblnediaa.Pl
open Go.RowKit Go.Proofs.YtcefenlblnediaaW.PrintWords Go.Proofs.YtcefenlblnediaaW.PrintLast Go.Proofs.Ytcefenlblnediaa.My
set_option linter.unusedVariables false
set_option linter.unusedSimpArgs false

/-- What is left of the lines from p on, the hunks carried out. -/
def patchFrom (a : List ByteArray) : Nat → List IH → List ByteArray
  | p, [] => a.drop p
  | p, x :: t => (a.take x.f0.toNat).drop p ++ (x.f2 ++ patchFrom a (x.f0 + x.f1).toNat t)
theorem patchFrom_mem (a : List ByteArray) (s : ByteArray) : ∀ (h : List IH) (p : Nat), s ∈ patchFrom a p h → s ∈ a ∨ ∃ x ∈ h, s ∈ x.f2 := by
  intro h
  induction h with
  | nil => intro p hs; exact .inl (List.mem_of_mem_drop hs)
  | cons y t ih =>
    intro p hs
    simp only [patchFrom, List.mem_append] at hs
    rcases hs with hs | hs | hs
    · exact .inl (List.mem_of_mem_take (List.mem_of_mem_drop hs))
    · exact .inr ⟨y, List.mem_cons_self .., hs⟩
    · rcases ih _ hs with hs | ⟨x, hx, hs⟩
      · exact .inl hs
      · exact .inr ⟨x, List.mem_cons_of_mem _ hx, hs⟩
theorem patchFrom_len (a : List ByteArray) (ha : a.length ≤ 40) : ∀ (h : List IH) (p : Nat), near h → (patchFrom a p h).length ≤ 40 + 80 * h.length := by
  intro h
  induction h with
  | nil => intro p _; simp only [patchFrom, List.length_drop, List.length_nil]; omega
  | cons y t ih =>
    intro p hn
    have h1 := ih (y.f0 + y.f1).toNat (fun x hx => hn x (List.mem_cons_of_mem _ hx))
    have h2 := hn y (List.mem_cons_self ..)
    simp only [patchFrom, List.length_append, List.length_drop, List.length_take, List.length_cons]
    omega
theorem patchFrom_fit {a : List ByteArray} {h : List IH} (fa : FitS a) (fh : FitI h) (ha : a.length ≤ 40) (hn : near h) (hl : h.length ≤ 20) (p : Nat) : FitS (patchFrom a p h) := by
  have := patchFrom_len a ha h p hn
  refine ⟨by omega, fun s hs => ?_⟩
  rcases patchFrom_mem a s h p hs with hs | ⟨x, hx, hs⟩
  · exact fa.2 s hs
  · exact (fh.2 x hx).2.2.2 s hs

theorem patched_l0 (a : List ByteArray) (h : List IH) (hn : a.length ≤ 40) (hl : h.length ≤ 20) : ∀ d i (q : Int) (p : Nat) (acc : List ByteArray), i + d = h.length → chain a.length q (h.drop i) = true → (p : Int) ≤ q + 1 → p ≤ a.length → acc.length ≤ 40 * i + p →
    Ev (fun k => impl_patched.l0 k a acc (p : Int) h (h.length : Int) (i : Int)) (acc ++ patchFrom a p (h.drop i)) := by
  intro d
  induction d with
  | zero =>
    intro i q p acc hi hc hpq hp hacc
    refine Ev.step (fun k => impl_patched.l0.eq_2 ..) (ev_neg (by omega) (ev_pos (by omega) (ev_pos (by omega) (ev_pos ?_ (ev_some ?_)))))
    · rw [List.length_drop]
      omega
    · rw [List.drop_of_length_le (l := h) (by omega), Int.toNat_natCast]
      rfl
  | succ d ih =>
    intro i q p acc hi hc hpq hp hacc
    have hlt : i < h.length := by omega
    rw [List.drop_eq_getElem_cons hlt] at hc
    rw [List.drop_eq_getElem_cons hlt]
    simp only [chain, Bool.and_eq_true, hOK, decide_eq_true_eq] at hc
    obtain ⟨⟨⟨q0, q1, q2, q3, q4, q5⟩, _⟩, hc'⟩ := hc
    refine Ev.step (fun k => impl_patched.l0.eq_2 ..) ?_
    simp only [rdIH h i hlt, Option.bind_some]
    have e1 : wrap64 (h[i].f0 + h[i].f1) = (((h[i].f0 + h[i].f1).toNat : Nat) : Int) := by rw [wrap64_id (by omega) (by omega)]; omega
    rw [e1, wrap_succ i (by omega), Int.toNat_natCast]
    have e2 : ((a.take h[i].f0.toNat).drop p).length = h[i].f0.toNat - p := by rw [List.length_drop, List.length_take]; omega
    refine ev_pos (by omega) (ev_pos (by omega) (ev_pos (by omega) (ev_pos (by omega) (ev_pos (by omega) (ev_pos (by omega) (ev_pos (by rw [e2]; omega) (ev_pos (by rw [List.length_append, e2]; omega) ?_)))))))
    refine ev_to (ih (i + 1) _ _ _ (by omega) hc' (by omega) (by omega) (by rw [List.length_append, List.length_append, e2]; omega)) ?_
    simp only [patchFrom, List.append_assoc]

theorem l2Patch_l0 (a : List ByteArray) (h : List IH) (hn : a.length ≤ 40) (hl : h.length ≤ 20) : ∀ d i (q : Int) (p : Nat) (acc : List ByteArray), i + d = h.length → chain a.length q (h.drop i) = true → (p : Int) ≤ q + 1 → p ≤ a.length → acc.length ≤ 40 * i + p →
    Ev (fun k => spec_l2Patch.l0 k a acc (p : Int) h (h.length : Int) (i : Int)) (acc ++ patchFrom a p (h.drop i)) := by
  intro d
  induction d with
  | zero =>
    intro i q p acc hi hc hpq hp hacc
    refine Ev.step (fun k => spec_l2Patch.l0.eq_2 ..) (ev_neg (by omega) (ev_pos (by omega) (ev_pos (by omega) (ev_pos ?_ (ev_some ?_)))))
    · rw [List.length_drop]
      omega
    · rw [List.drop_of_length_le (l := h) (by omega), Int.toNat_natCast]
      rfl
  | succ d ih =>
    intro i q p acc hi hc hpq hp hacc
    have hlt : i < h.length := by omega
    rw [List.drop_eq_getElem_cons hlt] at hc
    rw [List.drop_eq_getElem_cons hlt]
    simp only [chain, Bool.and_eq_true, hOK, decide_eq_true_eq] at hc
    obtain ⟨⟨⟨q0, q1, q2, q3, q4, q5⟩, _⟩, hc'⟩ := hc
    refine Ev.step (fun k => spec_l2Patch.l0.eq_2 ..) ?_
    simp only [rdIH h i hlt, Option.bind_some]
    have e1 : wrap64 (h[i].f0 + h[i].f1) = (((h[i].f0 + h[i].f1).toNat : Nat) : Int) := by rw [wrap64_id (by omega) (by omega)]; omega
    rw [e1, wrap_succ i (by omega), Int.toNat_natCast]
    have e2 : ((a.take h[i].f0.toNat).drop p).length = h[i].f0.toNat - p := by rw [List.length_drop, List.length_take]; omega
    refine ev_pos (by omega) (ev_pos (by omega) (ev_pos (by omega) (ev_pos (by omega) (ev_pos (by omega) (ev_pos (by omega) (ev_pos (by rw [e2]; omega) (ev_pos (by rw [List.length_append, e2]; omega) ?_)))))))
    refine ev_to (ih (i + 1) _ _ _ (by omega) hc' (by omega) (by omega) (by rw [List.length_append, List.length_append, e2]; omega)) ?_
    simp only [patchFrom, List.append_assoc]

def asked (a : List ByteArray) (h : List IH) : Bool := good a && goodH a.length h
def patchH (a : List ByteArray) (h : List IH) : List ByteArray := patchFrom a 0 h
def patchR (a : List ByteArray) (h : List IH) : List ByteArray × Bool := if asked a h = true ∧ good (patchH a h) = true then (patchH a h, true) else ([], false)
theorem asked_of {a : List ByteArray} {h : List IH} (c : asked a h = true) : a.length ≤ 40 ∧ h.length ≤ 20 ∧ near h ∧ chain a.length (-1) h = true := by
  unfold asked at c
  rw [Bool.and_eq_true] at c
  obtain ⟨g1, g2, g3, g4⟩ := near_of_good c.2
  have := c.2
  unfold goodH at this
  rw [Bool.and_eq_true, Bool.and_eq_true] at this
  exact ⟨good_len c.1, g2, g1, this.2.2⟩
theorem patched_ev {a : List ByteArray} {h : List IH} (c : asked a h = true) : Ev (fun k => impl_patched.f k a h) (patchH a h) := by
  obtain ⟨c1, c2, c3, c4⟩ := asked_of c
  simp only [impl_patched.f]
  exact patched_l0 a h c1 c2 h.length 0 (-1) 0 [] (by omega) c4 (by omega) (by omega) (Nat.zero_le _)
theorem l2Patch_ev {a : List ByteArray} {h : List IH} (c : asked a h = true) : Ev (fun k => spec_l2Patch.f k a h) (patchH a h) := by
  obtain ⟨c1, c2, c3, c4⟩ := asked_of c
  simp only [spec_l2Patch.f]
  exact l2Patch_l0 a h c1 c2 h.length 0 (-1) 0 [] (by omega) c4 (by omega) (by omega) (Nat.zero_le _)
theorem l2Asked_ev (a : List ByteArray) (h : List IH) (fa : FitS a) (fh : FitI h) : Ev (fun k => spec_l2Asked.f k a h) (asked a h) := by
  simp only [spec_l2Asked.f]
  unfold asked
  have hL := fa.1
  refine ev_bind (l1Good_ev a fa) (ev_ite (fun c => ?_) (fun c => ev_some ?_))
  · rw [c, Bool.true_and]
    exact ev_bind (l2Hunks_ev _ h fh (by omega) (by omega)) (ev_some rfl)
  · rw [Bool.not_eq_true] at c
    rw [c, Bool.false_and]
theorem patchR_small (a : List ByteArray) (h : List IH) : (patchR a h).1.length ≤ 40 := by
  unfold patchR
  split
  · rename_i c
    exact good_len c.2
  · exact Nat.zero_le _
theorem impl_Patch_ev (a : List ByteArray) (h : List IH) (fa : FitS a) (fh : FitI h) : Ev (fun k => impl_Patch.f k a h) (patchR a h) := by
  simp only [impl_Patch.f]
  unfold patchR
  have fin : asked a h = false → Ev (fun k => impl_Patch.j0 k a h true) (if asked a h = true ∧ good (patchH a h) = true then (patchH a h, true) else (([] : List ByteArray), false)) := by
    intro c
    rw [if_neg (fun e => by rw [c] at e; cases e.1)]
    exact Ev.step (fun k => impl_Patch.j0.eq_2 ..) (ev_pos rfl (ev_some rfl))
  refine ev_bind (goodLines_ev a fa) (ev_ite (fun c => ?_) (fun c => ?_))
  · refine ev_bind (goodHunks_ev _ h fh) ?_
    cases g : goodH a.length h with
    | false =>
      refine fin ?_
      unfold asked
      rw [g, Bool.and_false]
    | true =>
      have ca : asked a h = true := by unfold asked; rw [c, g]; rfl
      obtain ⟨c1, c2, c3, c4⟩ := asked_of ca
      refine Ev.step (fun k => impl_Patch.j0.eq_2 ..) (ev_neg (by simp) (ev_bind (patched_ev ca) (ev_bind (goodLines_ev _ (patchFrom_fit fa fh c1 c3 c2 0)) (ev_ite (fun c5 => ev_some ?_) (fun c5 => ev_some ?_)))))
      · rw [if_pos ⟨ca, c5⟩]
      · rw [if_neg (fun e => c5 e.2)]
  · refine fin ?_
    unfold asked
    rw [Bool.not_eq_true] at c
    rw [c, Bool.false_and]
theorem spec_Patch_ev (a : List ByteArray) (h : List IH) (fa : FitS a) (fh : FitI h) : Ev (fun k => spec_Patch.f k a h) (patchR a h) := by
  simp only [spec_Patch.f]
  unfold patchR
  refine ev_bind (l2Asked_ev a h fa fh) (ev_ite (fun ca => ?_) (fun ca => ev_some ?_))
  · obtain ⟨c1, c2, c3, c4⟩ := asked_of ca
    refine ev_bind (l2Patch_ev ca) (ev_bind (l1Good_ev _ (patchFrom_fit fa fh c1 c3 c2 0)) (ev_ite (fun c5 => ev_some ?_) (fun c5 => ev_some ?_)))
    · rw [if_pos (show asked a h = true ∧ good (patchH a h) = true from ⟨ca, c5⟩)]
    · rw [if_neg (show ¬ (asked a h = true ∧ good (patchH a h) = true) from fun e => c5 e.2)]
  · rw [if_neg (show ¬ (asked a h = true ∧ good (patchH a h) = true) from fun e => ca e.1)]
theorem patchR_asked {a : List ByteArray} {h : List IH} (c : (patchR a h).2 = true) : asked a h = true := by
  unfold patchR at c
  split at c
  · rename_i e
    exact e.1
  · cases c
end Go.Proofs.Ytcefenlblnediaa.Pl
