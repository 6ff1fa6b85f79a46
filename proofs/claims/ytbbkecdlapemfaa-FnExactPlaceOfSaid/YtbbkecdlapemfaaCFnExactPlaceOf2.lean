/- Part 2 of 2 of a proof of this sentence: The Go function loop.example/g00825/laws.FnExactPlaceOf returns true for every input, and each argument reads afterwards as it read before. No condition. -/
import Derived.Test.YtbbkecdlapemfaaWWords
import Derived.Test.YtbbkecdlapemfaaWLast
import Derived.Lib.Strings
import Derived.Lib.Bytealg
import Derived.Test.YtbbkecdlapemfaaRows
import Derived.WalkKit
import Derived.ProofKit
import Derived.OpenShut
import Derived.ShutString
import Derived.ChangeOld
import Derived.Below
import Derived.SizedLaws
import Derived.Lib.SmallJoins
import Derived.Test.YtbbkecdlapemfaaCFnExactPlaceOf1
/- Written by this session's program (wip/gen): a plain function with the same answers as the Go function, and the proof that the Go code comes to them. Asked: that the plain function has an answer. -/
namespace Go.Proofs.Ytbbkecdlapemfaa.My
open Go.RowKit Go.Proofs.YtbbkecdlapemfaaW.PrintWords Go.Proofs.YtbbkecdlapemfaaW.PrintLast Go.Proofs.YtbbkecdlapemfaaW.PrintMore
attribute [local go_sem] max2_int min2_int max_two min_two max_three min_three max_four min_four
set_option linter.unusedVariables false
set_option linter.unusedSimpArgs false

/-! ### laws_toHunk: function 69 -/
def laws_toHunk.f (k : Nat) (a0_0 : Int) (a0_1 : Int) (l0_2 : List ByteArray) : Option (Int × Int × List ByteArray) := (laws_toStringS.f k l0_2).bind fun t123 => (some (a0_0, a0_1, t123))
theorem laws_toHunk.mono : ∀ a0 a1 a2 k, LeO (laws_toHunk.f k a0 a1 a2) (laws_toHunk.f (k + 1) a0 a1 a2) := by
  intro a0 a1 a2 k
  unfold laws_toHunk.f
  repeat' first
      | (with_reducible exact laws_toStringS.mono _ _)
      | (with_reducible exact LeO.refl _)
      | (with_reducible exact LeO.none _)
      | (with_reducible refine LeO.ite ?_ ?_)
      | (with_reducible refine LeO.bind ?_ (fun _ => ?_))
      | exact laws_toStringS.mono _ _
      | exact LeO.none _
      | refine LeO.ite ?_ ?_
      | refine LeO.bind ?_ (fun _ => ?_)
set_option maxHeartbeats 8000000 in
set_option maxRecDepth 100000 in
theorem laws_toHunk.calls (k : Nat) (a0_0 : Int) (a0_1 : Int) (A0_2 : Option Addr) (c0_2 : Nat) (l0_2 : List ByteArray) (r1 : Int) (r2 : Int) (r3 : List ByteArray) (w : World) (hr0_2 : Kd.C Kd.string w A0_2 l0_2.length l0_2) (hc0_2 : l0_2.length ≤ c0_2) (h : laws_toHunk.f k a0_0 a0_1 l0_2 = some (r1, r2, r3)) :
    Calls Try.prog 69 #[.agg #[.int .i64 a0_0, .int .i64 a0_1, .slice A0_2 l0_2.length c0_2]] w fun e w' => ∃ v2_ : Value, e = .returned (.agg #[.int .i64 r1, .int .i64 r2, v2_]) ∧ Kd.R Kd.string 9 w' w.heap.size (fun _ => True) v2_ r3 ∧ Below w.heap.size w w' := by
  have hu82 := Try.underlying82
  have hu83 := Try.underlying83
  have HR0_2 := Aside0.mk hr0_2
  have HC0_2 := Aside0.mk hc0_2
  clear hr0_2 hc0_2
  have HB := Aside0.mk (Below.refl w.heap.size w)
  have H : ((laws_toStringS.f k l0_2).bind fun t123 => (some (a0_0, a0_1, t123))) = some (r1, r2, r3) := h
  clear h
  replace H := Option.bind_eq_some_iff.mp H
  obtain ⟨t123, A20, H⟩ := H
  replace H : (some (a0_0, a0_1, t123)) = some (r1, r2, r3) := H
  have A2 := Aside0.mk A20
  clear A20
  simp only [Option.some.injEq, Prod.mk.injEq] at H
  obtain ⟨rfl, rfl, rfl⟩ := H
  go_enter Try.func69, Try.ntmps69
  go_wp2_with (first | ((with_reducible refine gate_dst (N := 1) rfl ?_); refine box_event ?hg (N := 1) ?hd (cs := #[.int .i64 a0_0, .int .i64 a0_1, .slice A0_2 l0_2.length c0_2]) (t := 82) ?hr ?_; (case hd => rfl); (case hg => rfl); (case hr => first | (go_simp; done) | (go_simp; rfl)); intro gb120 hg w3 hbox hb; have n0_ := Aside0.mk (below_step (by repeat (first | (with_reducible first | exact HB.out | apply below_alloc | apply pw_below_drewN | apply below_drew1) | exact HB.out)) hb); have n1_ := Aside0.mk (hbox); have n2_ := Aside0.mk ((by rw [hg]; exact (below_size (by repeat (first | (with_reducible first | exact HB.out | apply below_alloc | apply pw_below_drewN | apply below_drew1) | exact HB.out))) : w.heap.size ≤ gb120)); have n3_ := Aside0.mk ((by rw [hg]; exact (below_size (by repeat (first | (with_reducible first | exact HB.out | apply below_alloc | apply pw_below_drewN | apply below_drew1) | exact HB.out))) : w.heap.size ≤ gb120)); clear HB; have HB := n0_; have BK120 := n1_; have GW120 := n2_; have GE120 := n3_; clear n0_ n1_ n2_ n3_; clear hb hbox hg) | ((with_reducible refine gate_dst (N := 2) rfl ?_); refine box_event ?hg (N := 2) ?hd (cs := #[.int .i64 0, .int .i64 0, .slice none 0 0]) (t := 83) ?hr ?_; (case hd => rfl); (case hg => rfl); (case hr => first | (go_simp; done) | (go_simp; rfl)); intro gb121 hg w4 hbox hb; have n0_ := Aside0.mk (blk_below (g := gb120) (o := .cells #[.int .i64 a0_0, .int .i64 a0_1, .slice A0_2 l0_2.length c0_2] 82 (0, 0)) (by (with_reducible repeat (first | refine blk_drewN ?_ _ | refine blk_drew ?_ | refine blk_alloc ?_ _)); exact BK120.out) hb); have n1_ := Aside0.mk (below_step (by repeat (first | (with_reducible first | exact HB.out | apply below_alloc | apply pw_below_drewN | apply below_drew1 | refine below_set ?_ GE120.out) | exact HB.out)) hb); have n2_ := Aside0.mk (hbox); have n3_ := Aside0.mk ((by rw [hg]; exact (below_size (by repeat (first | (with_reducible first | exact HB.out | apply below_alloc | apply pw_below_drewN | apply below_drew1 | refine below_set ?_ GE120.out) | exact HB.out))) : w.heap.size ≤ gb121)); have n4_ := Aside0.mk ((by rw [hg]; exact (below_size (by repeat (first | (with_reducible first | exact HB.out | apply below_alloc | apply pw_below_drewN | apply below_drew1 | refine below_set ?_ GE120.out) | exact HB.out))) : w.heap.size ≤ gb121)); have n5_ := Aside0.mk ((by rw [hg]; exact Nat.ne_of_lt (blk_lt (g := gb120) (o := .cells #[.int .i64 a0_0, .int .i64 a0_1, .slice A0_2 l0_2.length c0_2] 82 (0, 0)) (by (with_reducible repeat (first | refine blk_drewN ?_ _ | refine blk_drew ?_ | refine blk_alloc ?_ _)); exact BK120.out)) : gb120 ≠ gb121)); have n6_ := Aside0.mk ((by rw [hg]; exact Nat.ne_of_gt (blk_lt (g := gb120) (o := .cells #[.int .i64 a0_0, .int .i64 a0_1, .slice A0_2 l0_2.length c0_2] 82 (0, 0)) (by (with_reducible repeat (first | refine blk_drewN ?_ _ | refine blk_drew ?_ | refine blk_alloc ?_ _)); exact BK120.out)) : gb121 ≠ gb120)); clear BK120; clear HB; have BK120 := n0_; have HB := n1_; have BK121 := n2_; have GW121 := n3_; have GE121 := n4_; have NB120_121 := n5_; have NB121_120 := n6_; clear n0_ n1_ n2_ n3_ n4_ n5_ n6_; clear hb hbox hg) | ((with_reducible refine gate_dst (N := 3) rfl ?_); refine box_event ?hg (N := 3) ?hd (cs := #[.int .i64 0, .int .i64 0, .slice none 0 0]) (t := 83) ?hr ?_; (case hd => rfl); (case hg => rfl); (case hr => first | (go_simp; done) | (go_simp; rfl)); intro gb122 hg w5 hbox hb; have n0_ := Aside0.mk (blk_below (g := gb120) (o := .cells #[.int .i64 a0_0, .int .i64 a0_1, .slice A0_2 l0_2.length c0_2] 82 (0, 0)) (by (with_reducible repeat (first | refine blk_drewN ?_ _ | refine blk_drew ?_ | refine blk_alloc ?_ _)); exact BK120.out) hb); have n1_ := Aside0.mk (blk_below (g := gb121) (o := .cells #[.int .i64 0, .int .i64 0, .slice none 0 0] 83 (0, 0)) (by (with_reducible repeat (first | refine blk_drewN ?_ _ | refine blk_drew ?_ | refine blk_alloc ?_ _)); exact BK121.out) hb); have n2_ := Aside0.mk (below_step (by repeat (first | (with_reducible first | exact HB.out | apply below_alloc | apply pw_below_drewN | apply below_drew1 | refine below_set ?_ GE120.out | refine below_set ?_ GE121.out) | exact HB.out)) hb); have n3_ := Aside0.mk (hbox); have n4_ := Aside0.mk ((by rw [hg]; exact (below_size (by repeat (first | (with_reducible first | exact HB.out | apply below_alloc | apply pw_below_drewN | apply below_drew1 | refine below_set ?_ GE120.out | refine below_set ?_ GE121.out) | exact HB.out))) : w.heap.size ≤ gb122)); have n5_ := Aside0.mk ((by rw [hg]; exact (below_size (by repeat (first | (with_reducible first | exact HB.out | apply below_alloc | apply pw_below_drewN | apply below_drew1 | refine below_set ?_ GE120.out | refine below_set ?_ GE121.out) | exact HB.out))) : w.heap.size ≤ gb122)); have n6_ := Aside0.mk ((by rw [hg]; exact Nat.ne_of_lt (blk_lt (g := gb120) (o := .cells #[.int .i64 a0_0, .int .i64 a0_1, .slice A0_2 l0_2.length c0_2] 82 (0, 0)) (by (with_reducible repeat (first | refine blk_drewN ?_ _ | refine blk_drew ?_ | refine blk_alloc ?_ _)); exact BK120.out)) : gb120 ≠ gb122)); have n7_ := Aside0.mk ((by rw [hg]; exact Nat.ne_of_gt (blk_lt (g := gb120) (o := .cells #[.int .i64 a0_0, .int .i64 a0_1, .slice A0_2 l0_2.length c0_2] 82 (0, 0)) (by (with_reducible repeat (first | refine blk_drewN ?_ _ | refine blk_drew ?_ | refine blk_alloc ?_ _)); exact BK120.out)) : gb122 ≠ gb120)); have n8_ := Aside0.mk ((by rw [hg]; exact Nat.ne_of_lt (blk_lt (g := gb121) (o := .cells #[.int .i64 0, .int .i64 0, .slice none 0 0] 83 (0, 0)) (by (with_reducible repeat (first | refine blk_drewN ?_ _ | refine blk_drew ?_ | refine blk_alloc ?_ _)); exact BK121.out)) : gb121 ≠ gb122)); have n9_ := Aside0.mk ((by rw [hg]; exact Nat.ne_of_gt (blk_lt (g := gb121) (o := .cells #[.int .i64 0, .int .i64 0, .slice none 0 0] 83 (0, 0)) (by (with_reducible repeat (first | refine blk_drewN ?_ _ | refine blk_drew ?_ | refine blk_alloc ?_ _)); exact BK121.out)) : gb122 ≠ gb121)); clear BK120; clear BK121; clear HB; have BK120 := n0_; have BK121 := n1_; have HB := n2_; have BK122 := n3_; have GW122 := n4_; have GE122 := n5_; have NB120_122 := n6_; have NB122_120 := n7_; have NB121_122 := n8_; have NB122_121 := n9_; clear n0_ n1_ n2_ n3_ n4_ n5_ n6_ n7_ n8_ n9_; clear hb hbox hg; have hnb6 := NB120_121.out; have hnc6 := NB121_120.out; have hnb7 := NB120_122.out; have hnc7 := NB122_120.out; have hcz8_0 : w5.cell? ⟨gb120, 0, none⟩ = some (.int .i64 a0_0) := (blk_cell BK120.out 0).trans rfl; have hcz8_1 : w5.cell? ⟨gb120, 1, none⟩ = some (.int .i64 a0_1) := (blk_cell BK120.out 1).trans rfl; have hcz8_2 : w5.cell? ⟨gb120, 2, none⟩ = some (.slice A0_2 l0_2.length c0_2) := (blk_cell BK120.out 2).trans rfl; have hfz8_0 := blk_frozen BK120.out 0; have hfz8_1 := blk_frozen BK120.out 1; have hfz8_2 := blk_frozen BK120.out 2; have hnb9 := NB122_121.out; have hnc9 := NB121_122.out; have hcz10_0 : w5.cell? ⟨gb122, 0, none⟩ = some (.int .i64 0) := (blk_cell BK122.out 0).trans rfl; have hcz10_1 : w5.cell? ⟨gb122, 1, none⟩ = some (.int .i64 0) := (blk_cell BK122.out 1).trans rfl; have hcz10_2 : w5.cell? ⟨gb122, 2, none⟩ = some (.slice none 0 0) := (blk_cell BK122.out 2).trans rfl; have hfz10_0 := blk_frozen BK122.out 0; have hfz10_1 := blk_frozen BK122.out 1; have hfz10_2 := blk_frozen BK122.out 2) | ((with_reducible refine gate_callee (f := 22) rfl ?_); refine goesL_ (some 12) rfl rfl Try.func22 (by kernel_rfl) rfl #[.slice A0_2 l0_2.length c0_2] rfl (by (try simp only [List.map_toArray, List.map_cons, List.map_nil]); first | done | rfl | (simp only [List.length_drop, List.length_take]; rfl)) ?_; (with_reducible refine (laws_toStringS.calls k _ _ l0_2 t123 _ ?side1 ?side2 A2.out).mono ?_); (case side1 => exact Kd.C_below HR0_2.out (by repeat (first | (with_reducible first | exact HB.out | apply below_alloc | apply pw_below_drewN | apply below_drew1 | refine below_set ?_ GE120.out | refine below_set ?_ GE121.out | refine below_set ?_ GE122.out) | exact HB.out))); (case side2 => exact HC0_2.out); rintro e w11 ⟨v124, rfl, ho0, hb⟩; refine ⟨_, rfl, ?_⟩; have n0_ := Aside0.mk (Kd.R_lower ho0 (below_size (by repeat (first | (with_reducible first | exact HB.out | apply below_alloc | apply pw_below_drewN | apply below_drew1 | refine below_set ?_ GE120.out | refine below_set ?_ GE121.out | refine below_set ?_ GE122.out) | exact HB.out)))); have n1_ := Aside0.mk (blk_below (g := gb120) (o := .cells #[.int .i64 a0_0, .int .i64 a0_1, .slice A0_2 l0_2.length c0_2] 82 (0, 0)) (by (with_reducible repeat (first | refine blk_drewN ?_ _ | refine blk_drew ?_ | refine blk_alloc ?_ _)); refine blk_far ?_ NB120_122.out _; (with_reducible repeat (first | refine blk_drewN ?_ _ | refine blk_drew ?_ | refine blk_alloc ?_ _)); refine blk_far ?_ NB120_122.out _; (with_reducible repeat (first | refine blk_drewN ?_ _ | refine blk_drew ?_ | refine blk_alloc ?_ _)); exact BK120.out) hb); have n2_ := Aside0.mk (blk_below (g := gb121) (o := .cells #[.int .i64 0, .int .i64 0, .slice none 0 0] 83 (0, 0)) (by (with_reducible repeat (first | refine blk_drewN ?_ _ | refine blk_drew ?_ | refine blk_alloc ?_ _)); refine blk_far ?_ NB121_122.out _; (with_reducible repeat (first | refine blk_drewN ?_ _ | refine blk_drew ?_ | refine blk_alloc ?_ _)); refine blk_far ?_ NB121_122.out _; (with_reducible repeat (first | refine blk_drewN ?_ _ | refine blk_drew ?_ | refine blk_alloc ?_ _)); exact BK121.out) hb); have n3_ := Aside0.mk (blk_below (g := gb122) (o := .cells #[.int .i64 a0_0, .int .i64 a0_1, .slice none 0 0] 83 (0, 0)) (by (with_reducible repeat (first | refine blk_drewN ?_ _ | refine blk_drew ?_ | refine blk_alloc ?_ _)); refine blk_put (cs := #[.int .i64 a0_0, .int .i64 0, .slice none 0 0]) ?_ 1 _ rfl; (with_reducible repeat (first | refine blk_drewN ?_ _ | refine blk_drew ?_ | refine blk_alloc ?_ _)); refine blk_put (cs := #[.int .i64 0, .int .i64 0, .slice none 0 0]) ?_ 0 _ rfl; (with_reducible repeat (first | refine blk_drewN ?_ _ | refine blk_drew ?_ | refine blk_alloc ?_ _)); exact BK122.out) hb); have n4_ := Aside0.mk (below_step (by repeat (first | (with_reducible first | exact HB.out | apply below_alloc | apply pw_below_drewN | apply below_drew1 | refine below_set ?_ GE120.out | refine below_set ?_ GE121.out | refine below_set ?_ GE122.out) | exact HB.out)) hb); clear BK120; clear BK121; clear BK122; clear HB; have HO125 := n0_; have BK120 := n1_; have BK121 := n2_; have BK122 := n3_; have HB := n4_; clear n0_ n1_ n2_ n3_ n4_; (try clear hb); (try clear hb2); (try clear hk); (try clear hi); (try clear ho0); obtain ⟨Ao12, co12, eo12⟩ := Kd.R_slice HO125.out; subst eo12; have hcz13_0 : w11.cell? ⟨gb122, 0, none⟩ = some (.int .i64 a0_0) := (blk_cell BK122.out 0).trans rfl; have hcz13_1 : w11.cell? ⟨gb122, 1, none⟩ = some (.int .i64 a0_1) := (blk_cell BK122.out 1).trans rfl; have hcz13_2 : w11.cell? ⟨gb122, 2, none⟩ = some (.slice none 0 0) := (blk_cell BK122.out 2).trans rfl; have hfz13_0 := blk_frozen BK122.out 0; have hfz13_1 := blk_frozen BK122.out 1; have hfz13_2 := blk_frozen BK122.out 2; have hcz14_0 : w11.cell? ⟨gb121, 0, none⟩ = some (.int .i64 0) := (blk_cell BK121.out 0).trans rfl; have hcz14_1 : w11.cell? ⟨gb121, 1, none⟩ = some (.int .i64 0) := (blk_cell BK121.out 1).trans rfl; have hcz14_2 : w11.cell? ⟨gb121, 2, none⟩ = some (.slice none 0 0) := (blk_cell BK121.out 2).trans rfl; have hfz14_0 := blk_frozen BK121.out 0; have hfz14_1 := blk_frozen BK121.out 1; have hfz14_2 := blk_frozen BK121.out 2))
  refine bodyPost_ret (results_cell_row rfl _ _ gb121 83 #[.int .i64 a0_0, .int .i64 a0_1, .slice Ao12 t123.length co12] (0, 0) _ rfl (by (with_reducible repeat (first | refine blk_drewN ?_ _ | refine blk_drew ?_ | refine blk_alloc ?_ _)); refine blk_put (cs := #[.int .i64 a0_0, .int .i64 a0_1, .slice none 0 0]) ?_ 2 _ rfl; (with_reducible repeat (first | refine blk_drewN ?_ _ | refine blk_drew ?_ | refine blk_alloc ?_ _)); refine blk_put (cs := #[.int .i64 a0_0, .int .i64 0, .slice none 0 0]) ?_ 1 _ rfl; (with_reducible repeat (first | refine blk_drewN ?_ _ | refine blk_drew ?_ | refine blk_alloc ?_ _)); refine blk_put (cs := #[.int .i64 0, .int .i64 0, .slice none 0 0]) ?_ 0 _ rfl; (with_reducible repeat (first | refine blk_drewN ?_ _ | refine blk_drew ?_ | refine blk_alloc ?_ _)); refine blk_far ?_ NB121_122.out _; (with_reducible repeat (first | refine blk_drewN ?_ _ | refine blk_drew ?_ | refine blk_alloc ?_ _)); exact BK121.out) Try.underlying83 rfl (by kernel_rfl)) rfl ?_
  exact ⟨_, by first | rfl | (simp [errW_none, errW_some] <;> rfl) | (simp [*, errW_none, errW_some] <;> rfl), by (with_reducible repeat (first | apply Kd.R_alloc | apply Kd.R_drewN | apply Kd.R_drew)); exact Kd.R_mono (Kd.R_far (p := ⟨gb121, 2, none⟩) (Kd.R_far (p := ⟨gb121, 1, none⟩) (Kd.R_far (p := ⟨gb121, 0, none⟩) (Kd.R_far (p := ⟨gb122, 2, none⟩) (Kd.R_types (Kd.R_types HO125.out BK122.out (by decide)) BK121.out (by decide)) (fun _ hk => hk.1.2) (.slice Ao12 t123.length co12)) (fun _ hk => hk.2) (.int .i64 a0_0)) (fun _ hk => hk.2) (.int .i64 a0_1)) (fun _ hk => hk.2) (.slice Ao12 t123.length co12)) (fun _ hk => trivial), by repeat (first | (with_reducible first | exact HB.out | apply below_alloc | apply pw_below_drewN | apply below_drew1 | refine below_set ?_ GE120.out | refine below_set ?_ GE121.out | refine below_set ?_ GE122.out) | exact HB.out)⟩

end Go.Proofs.Ytbbkecdlapemfaa.My

/- Written by this session's program (wip/gen): a plain function with the same answers as the Go function, and the proof that the Go code comes to them. Asked: that the plain function has an answer. -/
namespace Go.Proofs.Ytbbkecdlapemfaa.My
open Go.RowKit Go.Proofs.YtbbkecdlapemfaaW.PrintWords Go.Proofs.YtbbkecdlapemfaaW.PrintLast Go.Proofs.YtbbkecdlapemfaaW.PrintMore
attribute [local go_sem] max2_int min2_int max_two min_two max_three min_three max_four min_four
set_option linter.unusedVariables false
set_option linter.unusedSimpArgs false

/-! ### laws_toHunkS: function 17 -/
def laws_toHunkS.l0 : Nat → List (S82) → List (S83) → Int → Option ((List (S83)))
  | 0, _, _, _ => none
  | k + 1, x0, x3, x4 => if x4 < (x0.length : Int) then (if 0 ≤ x4 then ((laws_toHunk.f k ((rd_T82 x0 x4).f0) ((rd_T82 x0 x4).f1) ((rd_T82 x0 x4).f2)).bind fun bt130 => (if x4 < (x3.length : Int) then (laws_toHunkS.l0 k x0 (x3.set (x4 : Int).toNat (⟨bt130.1, bt130.2.1, bt130.2.2⟩ : S83)) (wrap64 (x4 + 1))) else (none))) else (none)) else (some x3)
def laws_toHunkS.f (k : Nat) (l0 : List (S82)) : Option ((List (S83))) := if 0 ≤ (l0.length : Int) then (if ((l0.length : Int) : Int).toNat ≤ 7036874417766 then (laws_toHunkS.l0 k l0 (List.replicate ((l0.length : Int) : Int).toNat z83) 0) else (none)) else (none)
theorem laws_toHunkS.mono_l : ∀ k, (∀ y0 y1 y2, LeO (laws_toHunkS.l0 k y0 y1 y2) (laws_toHunkS.l0 (k + 1) y0 y1 y2))
  | 0 => fun _ _ _ r h => by simp [laws_toHunkS.l0] at h
  | k + 1 => by
    have ih0 := laws_toHunkS.mono_l k
    · intro y0 y1 y2
      unfold laws_toHunkS.l0
      repeat' first
      | (with_reducible exact ih0 _ _ _)
      | (with_reducible exact laws_toHunk.mono _ _ _ _)
      | (with_reducible exact LeO.refl _)
      | (with_reducible exact LeO.none _)
      | (with_reducible refine LeO.ite ?_ ?_)
      | (with_reducible refine LeO.bind ?_ (fun _ => ?_))
      | exact ih0 _ _ _
      | exact laws_toHunk.mono _ _ _ _
      | exact LeO.none _
      | refine LeO.ite ?_ ?_
      | refine LeO.bind ?_ (fun _ => ?_)
theorem laws_toHunkS.mono : ∀ a0 k, LeO (laws_toHunkS.f k a0) (laws_toHunkS.f (k + 1) a0) := by
  intro a0 k
  have ih0 := laws_toHunkS.mono_l k
  unfold laws_toHunkS.f
  repeat' first
      | (with_reducible exact ih0 _ _ _)
      | (with_reducible exact laws_toHunk.mono _ _ _ _)
      | (with_reducible exact LeO.refl _)
      | (with_reducible exact LeO.none _)
      | (with_reducible refine LeO.ite ?_ ?_)
      | (with_reducible refine LeO.bind ?_ (fun _ => ?_))
      | exact ih0 _ _ _
      | exact laws_toHunk.mono _ _ _ _
      | exact LeO.none _
      | refine LeO.ite ?_ ?_
      | refine LeO.bind ?_ (fun _ => ?_)
set_option maxHeartbeats 8000000 in
set_option maxRecDepth 100000 in
theorem laws_toHunkS.calls (k : Nat) (A0 : Option Addr) (c0 : Nat) (l0 : List (S82)) (r : List (S83)) (w : World) (hr0 : Kd.C k82 w A0 l0.length l0) (hc0 : l0.length ≤ c0) (h : laws_toHunkS.f k l0 = some r) :
    Calls Try.prog 17 #[.slice A0 l0.length c0] w fun e w' => ∃ v0_ : Value, e = .returned (v0_) ∧ Kd.S k83 83 w' w.heap.size (fun _ => True) v0_ r ∧ Below w.heap.size w w' := by
  have hu82 := Try.underlying82
  have hu83 := Try.underlying83
  have HR0 := Aside0.mk hr0
  have HC0 := Aside0.mk hc0
  clear hr0 hc0
  have HB := Aside0.mk (Below.refl w.heap.size w)
  have H : (if 0 ≤ (l0.length : Int) then (if ((l0.length : Int) : Int).toNat ≤ 7036874417766 then (laws_toHunkS.l0 k l0 (List.replicate ((l0.length : Int) : Int).toNat z83) 0) else (none)) else (none)) = some r := h
  clear h
  by_cases c2 : 0 ≤ (l0.length : Int)
  · rw [if_pos c2] at H
    have c2b0 := eq_true c2
    have c2b1 : decide (0 ≤ (l0.length : Int)) = true := decide_eq_true c2
    clear c2
    by_cases c3 : ((l0.length : Int) : Int).toNat ≤ 7036874417766
    · rw [if_pos c3] at H
      have c3b0 := eq_true c3
      have c3b1 : decide (((l0.length : Int) : Int).toNat ≤ 7036874417766) = true := decide_eq_true c3
      clear c3
      obtain ⟨y126, hy126⟩ : ∃ y_ : List (S83), y_ = (List.replicate ((l0.length : Int) : Int).toNat z83) := ⟨_, rfl⟩
      replace H : (laws_toHunkS.l0 k l0 y126 0) = some r := by first | (rw [hy126]; with_reducible exact H) | (have H2_ := (Option.bind_some _ _).symm.trans H; rw [hy126]; with_reducible exact H2_) | (have H2_ := (Option.bind_some _ _).symm.trans H; with_reducible exact H2_) | with_reducible exact H | (rw [hy126]; exact H) | exact H
      have Ny126 := Aside0.mk hy126
      clear hy126
      have H' := Aside0.mk H
      clear H
      go_enter Try.func17, Try.ntmps17
      go_wp2_with (first | ((with_reducible refine gate_dst (N := 7) rfl ?_); refine Kd.S_make k83 _ 83 rfl (N := 7) rfl 25 _ _ rfl (l0.length : Int) rfl rfl Try.underlying25 (.agg #[(.int .i64 0), (.int .i64 0), (.slice none 0 0)]) 40 info83 rfl (by decide) (by omega) z83 (ok := fun _ => True) (okp := fun _ => True) (k83_mkM _ _ _ z83 (Kd.R_nil _ _ _ _ _)) (fun _ hk => hk) trivial (of_decide_eq_true (by first | (with_reducible assumption) | assumption)) (Nat.le_trans (Nat.mul_le_mul_right _ (of_decide_eq_true (by first | (with_reducible assumption) | assumption) : (l0.length : Int).toNat ≤ 7036874417766)) (by omega)) (Below.refl _ _) (Nat.le_refl _) ?_; intro v127 w4 ho5 hb hg_ hnew_; clear hg_ hnew_; (first | rw [← Ny126.out] at ho5 | (simp only [Int.reduceToNat] at ho5; rw [← Ny126.out] at ho5)); have n0_ := Aside0.mk (Kd.S_lower ho5 (below_size (by repeat (first | (with_reducible first | exact HB.out | apply below_alloc | apply pw_below_drewN | apply below_drew1) | exact HB.out)))); have n1_ := Aside0.mk (below_step (by repeat (first | (with_reducible first | exact HB.out | apply below_alloc | apply pw_below_drewN | apply below_drew1) | exact HB.out)) hb); clear HB; have HO128 := n0_; have HB := n1_; clear n0_ n1_; clear hb ho5))
      go_loopg [4] k (fun kq v4 w' => ∃ (x3_1 : List (S83)) (x4_1 : Int), v4 = .int .i64 x4_1 ∧ Aside0 (laws_toHunkS.l0 kq l0 x3_1 x4_1 = some r) ∧ Aside0 (kq ≤ k) ∧ Aside0 (Kd.S k83 83 w' w.heap.size (fun _ => True) v127 x3_1) ∧ Aside0 (Below w.heap.size w w'))
      case atStart => exact ⟨(y126), (0), (by first | rfl | (simp; done) | (simp [*]; done)), H', ⟨Nat.le_refl _⟩, ⟨by (with_reducible repeat (first | apply Kd.S_alloc | apply Kd.S_drewN | apply Kd.S_drew)); exact HO128.out⟩, ⟨by repeat (first | (with_reducible first | exact HB.out | apply below_alloc | apply pw_below_drewN | apply below_drew1) | exact HB.out)⟩⟩
      case round =>
        clear H'
        try clear c1
        try clear c2
        try clear c2b0
        try clear c2b1
        try clear p2
        try clear c3
        try clear c3b0
        try clear c3b1
        obtain ⟨x3_1, x4_1, rfl, HA, HK1, HO_3, HB⟩ := hrel
        cases gk with
        | zero => exact absurd HA.out (by simp [laws_toHunkS.l0])
        | succ k1 =>
          have H := HA.out
          clear HA
          simp only [laws_toHunkS.l0] at H
          by_cases c6 : x4_1 < (l0.length : Int)
          · rw [if_pos c6] at H
            have c6b0 : decide (x4_1 < (l0.length : Int)) = true := decide_eq_true c6
            clear c6
            by_cases c7 : 0 ≤ x4_1
            · rw [if_pos c7] at H
              have c7b0 : decide (0 ≤ x4_1) = true := decide_eq_true c7
              clear c7
              replace H := Option.bind_eq_some_iff.mp H
              obtain ⟨⟨t130, t131, t132⟩, A80, H⟩ := H
              replace H : (if x4_1 < (x3_1.length : Int) then (laws_toHunkS.l0 k1 l0 (x3_1.set (x4_1 : Int).toNat (⟨t130, t131, t132⟩ : S83)) (wrap64 (x4_1 + 1))) else (none)) = some r := H
              have A8 := Aside0.mk A80
              clear A80
              by_cases c9 : x4_1 < (x3_1.length : Int)
              · rw [if_pos c9] at H
                have c9b0 : decide (x4_1 < (x3_1.length : Int)) = true := decide_eq_true c9
                clear c9
                obtain ⟨y135, hy135⟩ : ∃ y_ : List (S83), y_ = (x3_1.set (x4_1 : Int).toNat (⟨t130, t131, t132⟩ : S83)) := ⟨_, rfl⟩
                replace H : (laws_toHunkS.l0 k1 l0 y135 (wrap64 (x4_1 + 1))) = some r := by first | (rw [hy135]; with_reducible exact H) | (have H2_ := (Option.bind_some _ _).symm.trans H; rw [hy135]; with_reducible exact H2_) | (have H2_ := (Option.bind_some _ _).symm.trans H; with_reducible exact H2_) | with_reducible exact H | (rw [hy135]; exact H) | exact H
                have Ny135 := Aside0.mk hy135
                clear hy135
                have H' := Aside0.mk H
                clear H
                have p129 : 0 ≤ (x4_1 : Int) := of_decide_eq_true (by first | (with_reducible assumption) | assumption)
                have q129 : x4_1 < (l0.length : Int) := of_decide_eq_true (by first | (with_reducible assumption) | assumption)
                obtain ⟨ad129, A129_2, c129_2, e129, hx129_0, hx129_1, hx129_2, hl129_2, hi129_2⟩ := at_T82 HR0.out x4_1 p129 q129
                cases e129
                replace hx129_0 := (HB.out.cell (World.block_lt_of_cell? w _ hx129_0)).trans hx129_0
                replace hx129_1 := (HB.out.cell (World.block_lt_of_cell? w _ hx129_1)).trans hx129_1
                replace hx129_2 := (HB.out.cell (World.block_lt_of_cell? w _ hx129_2)).trans hx129_2
                have HR129_2 := Aside0.mk hi129_2
                have HC129_2 := Aside0.mk hl129_2
                clear hi129_2 hl129_2
                replace p129 := eq_true p129
                replace q129 := eq_true q129
                go_wp2_with (first | ((with_reducible refine gate_callee (f := 69) rfl ?_); refine goesL_ (some 20) rfl rfl Try.func69 (by kernel_rfl) rfl #[.agg #[.int .i64 ((rd_T82 l0 x4_1).f0), .int .i64 ((rd_T82 l0 x4_1).f1), .slice A129_2 ((rd_T82 l0 x4_1).f2).length c129_2]] rfl (by (try simp only [List.map_toArray, List.map_cons, List.map_nil]); first | done | rfl | (simp only [List.length_drop, List.length_take]; rfl)) ?_; (with_reducible refine (laws_toHunk.calls k1 ((rd_T82 l0 x4_1).f0) ((rd_T82 l0 x4_1).f1) _ _ ((rd_T82 l0 x4_1).f2) t130 t131 t132 _ ?side1 ?side2 A8.out).mono ?_); (case side1 => repeat (first | exact (Kd.C_below HR129_2.out HB.out) | (with_reducible refine Kd.C_alloc ?_ _) | (with_reducible refine Kd.C_drewN ?_ _) | (with_reducible refine Kd.C_drew ?_))); (case side2 => exact HC129_2.out); rintro e w11 ⟨v133, rfl, ho0, hb⟩; refine ⟨_, rfl, ?_⟩; have n0_ := Aside0.mk (Kd.S_elder' (by (with_reducible repeat (first | apply Kd.S_alloc | apply Kd.S_drewN | apply Kd.S_drew)); exact HO_3.out) (Kd.R_base ho0) hb); have n1_ := Aside0.mk (Kd.R_lower ho0 (below_size (by repeat (first | (with_reducible first | exact HB.out | apply below_alloc | apply pw_below_drewN | apply below_drew1) | exact HB.out)))); have n2_ := Aside0.mk (below_step (by repeat (first | (with_reducible first | exact HB.out | apply below_alloc | apply pw_below_drewN | apply below_drew1) | exact HB.out)) hb); clear HO_3; clear HB; have HO_3 := n0_; have HO134 := n1_; have HB := n2_; clear n0_ n1_ n2_; (try clear hb); (try clear hb2); (try clear hk); (try clear hi); (try clear ho0); have p10 : 0 ≤ (x4_1 : Int) := of_decide_eq_true (by first | (with_reducible assumption) | assumption); have q10 : (x4_1 : Int) < ((x3_1.length : Int) : Int) := of_decide_eq_true (by first | (with_reducible assumption) | assumption); obtain ⟨go10, co10, eo10, gb10, gl10, cl10, HG10⟩ := Kd.S_form HO_3.out (by omega); (first | cases eo10 | (injection eo10 with ea_ en_ ec_; (first | subst ea_ | (injection ea_ with ea_; subst ea_)); subst ec_; clear en_)); have GB10 := Aside0.mk gb10; have GG10 := Aside0.mk HG10; clear gb10 gl10 HG10; obtain ⟨_, ce10, hcl10, hM10, hcc10, hfr10, _, _⟩ := Kd.S_elem HO_3.out z83 (x4_1 : Int) p10 q10; obtain ⟨ve10_2, rfl, ge10_2⟩ := k83_openM hM10; have hx10_0 : w11.cell? ⟨go10, (x4_1 : Int).toNat * 3, none⟩ = some (.int .i64 ((rd_T83 x3_1 x4_1).f0)) := hcc10 0 _ rfl; have hx10_1 : w11.cell? ⟨go10, (x4_1 : Int).toNat * 3 + 1, none⟩ = some (.int .i64 ((rd_T83 x3_1 x4_1).f1)) := hcc10 1 _ rfl; have hx10_2 : w11.cell? ⟨go10, (x4_1 : Int).toNat * 3 + 2, none⟩ = some (ve10_2) := hcc10 2 _ rfl; have hf10_0 : w11.frozen? ⟨go10, (x4_1 : Int).toNat * 3, none⟩ = false := hfr10 0; have hf10_1 : w11.frozen? ⟨go10, (x4_1 : Int).toNat * 3 + 1, none⟩ = false := hfr10 1; have hf10_2 : w11.frozen? ⟨go10, (x4_1 : Int).toNat * 3 + 2, none⟩ = false := hfr10 2; clear hcl10 hcc10 hfr10; (try clear hM10); replace p10 := eq_true p10; replace q10 := eq_true q10; have n_ := Aside0.mk (Kd.S_mono (ok' := (fun k_ => some k_ ≠ (v133 : Value).ownBlock)) HO_3.out (fun k_ hk => hk.2)); clear HO_3; have HO_3 := n_; clear n_; have HX12 := Aside0.mk (show Kd.S k83 83 w11 w.heap.size (fun k_ => ((fun _ => True)) k_ ∧ ¬ ((fun k_ => some k_ = (v133 : Value).ownBlock)) k_) (.slice (some ⟨go10, 0, none⟩) x3_1.length co10) x3_1 from (by (with_reducible repeat (first | apply Kd.S_alloc | apply Kd.S_drewN | apply Kd.S_drew)); exact Kd.S_mono HO_3.out (fun k_ hk => ⟨trivial, fun e_ => hk e_⟩))); obtain ⟨oki12, ce12, hcl12, hM12, hcc12, hfr12, hoki12, hH12⟩ := Kd.S_elem HX12.out z83 (x4_1 : Int) (of_decide_eq_true (by first | (with_reducible assumption) | assumption)) (by have h_ : (x4_1 : Int) < ((x3_1.length : Int) : Int) := of_decide_eq_true (by first | (with_reducible assumption) | assumption); first | exact h_ | (have e_ := (Kd.S_reads' HO_3.out).1; omega) | simpa using h_); obtain ⟨ve12_2, rfl, ge12_2⟩ := k83_openM hM12; have HP12 := Kd.S_seg hH12 (of_decide_eq_true (by first | (with_reducible assumption) | assumption)) (by have h_ : (x4_1 : Int) < ((x3_1.length : Int) : Int) := of_decide_eq_true (by first | (with_reducible assumption) | assumption); first | exact h_ | (have e_ := (Kd.S_reads' HO_3.out).1; omega) | simpa using h_) (seg := [.int .i64 t130, .int .i64 t131, v133]) (j := 0) (show 3 ≤ 3 from by decide) (x' := (⟨t130, t131, t132⟩ : S83)) (k83_mkM _ _ _ (⟨t130, t131, t132⟩ : S83) (Kd.R_mono (Kd.R_tight rfl (Kd.R_mono (ok' := fun k_ => ((fun _ => True)) k_ ∧ k_ ≠ go10) (Kd.R_apart' (HO134.out) (Kd.S_typed HO_3.out) (by decide)) (fun k_ hk => ⟨trivial, fun e_ => (hk.2) (by rw [e_]; rfl)⟩))) (fun _ h_ => Or.inr (h_)))) (fun _ hk => hk) (fun k_ hk_ => ((Kd.R_mono (ok' := fun k_ => ((fun _ => True)) k_ ∧ k_ ≠ go10) (Kd.R_apart' (HO134.out) (Kd.S_typed HO_3.out) (by decide)) (fun k_ hk => ⟨trivial, fun e_ => (hk.2) (by rw [e_]; rfl)⟩))).1 k_ hk_.symm); have hx12_0 := hcc12 0 _ rfl; (try simp only [show (k83).sz = 3 from rfl, Nat.mul_one, Nat.add_zero] at hx12_0); have hf12_0 := hfr12 0; (try simp only [show (k83).sz = 3 from rfl, Nat.mul_one, Nat.add_zero] at hf12_0); have hx12_1 := hcc12 1 _ rfl; (try simp only [show (k83).sz = 3 from rfl, Nat.mul_one, Nat.add_zero] at hx12_1); have hf12_1 := hfr12 1; (try simp only [show (k83).sz = 3 from rfl, Nat.mul_one, Nat.add_zero] at hf12_1); have hx12_2 := hcc12 2 _ rfl; (try simp only [show (k83).sz = 3 from rfl, Nat.mul_one, Nat.add_zero] at hx12_2); have hf12_2 := hfr12 2; (try simp only [show (k83).sz = 3 from rfl, Nat.mul_one, Nat.add_zero] at hf12_2); clear hcl12 hcc12 hfr12 hoki12 hH12; (try clear hM12)) | ((with_reducible refine gate_store (t := 83) (p := 21) rfl ?_); refine store_event (t := 83) (p := 21) (v := ?vo_w13) (w1 := (((w11.setCell ⟨go10, (x4_1 : Int).toNat * 3, none⟩ (.int .i64 t130)).setCell ⟨go10, (x4_1 : Int).toNat * 3 + 1, none⟩ (.int .i64 t131)).setCell ⟨go10, (x4_1 : Int).toNat * 3 + 2, none⟩ (v133))) ?hg ?ho ?hn ?hr ?_; (case ho => rfl); (case hg => rfl); (case hn => rfl); (case hr => (obtain ⟨A2_, c2_, e2_⟩ := Kd.R_slice HO134.out); (subst e2_); first | (go_simp; done) | (go_simp; rfl)); intro w13 hw; have hg : w11.grownBy w13 (some go10) := (by rw [hw]; exact HP12.2); have hp_ : Kd.S k83 83 w13 w.heap.size (fun _ => True) (.slice (some ⟨go10, 0, none⟩) x3_1.length co10) y135 := (by rw [hw, Ny135.out]; exact HP12.1); clear HP12; have n0_ := Aside0.mk (hp_); have n1_ := Aside0.mk ((by rw [hw]; exact below_set (below_set (below_set (HB.out) GB10.out) GB10.out) GB10.out : Below w.heap.size w w13)); clear HO_3; clear HB; clear HO134; have HO_3 := n0_; have HB := n1_; clear n0_ n1_; clear hg hw hp_))
                go_roundg k1
                case measure => have := HK1.out; omega
                case rel => exact ⟨(y135), (wrap64 (x4_1 + 1)), (by first | rfl | (simp; done) | (simp [*]; done)), H', ⟨by have := HK1.out; omega⟩, ⟨by (with_reducible repeat (first | apply Kd.S_alloc | apply Kd.S_drewN | apply Kd.S_drew)); exact HO_3.out⟩, ⟨by repeat (first | (with_reducible first | exact HB.out | apply below_alloc | apply pw_below_drewN | apply below_drew1) | exact HB.out)⟩⟩
              · rw [if_neg c9] at H
                exact absurd H (by simp)
            · rw [if_neg c7] at H
              exact absurd H (by simp)
          · rw [if_neg c6] at H
            have c6b0 : decide (x4_1 < (l0.length : Int)) = false := decide_eq_false c6
            clear c6
            obtain rfl := Option.some.inj H
            go_wp2
            go_ret
            exact ⟨_, by first | rfl | (simp [errW_none, errW_some] <;> rfl) | (simp [*, errW_none, errW_some] <;> rfl), by (with_reducible repeat (first | apply Kd.S_alloc | apply Kd.S_drewN | apply Kd.S_drew)); exact HO_3.out, by repeat (first | (with_reducible first | exact HB.out | apply below_alloc | apply pw_below_drewN | apply below_drew1) | exact HB.out)⟩
    · rw [if_neg c3] at H
      exact absurd H (by simp)
  · rw [if_neg c2] at H
    exact absurd H (by simp)

end Go.Proofs.Ytbbkecdlapemfaa.My

/- Written by this session's program (wip/gen): a plain function with the same answers as the Go function, and the proof that the Go code comes to them. Asked: that the plain function has an answer. -/
namespace Go.Proofs.Ytbbkecdlapemfaa.My
open Go.RowKit Go.Proofs.YtbbkecdlapemfaaW.PrintWords Go.Proofs.YtbbkecdlapemfaaW.PrintLast Go.Proofs.YtbbkecdlapemfaaW.PrintMore
attribute [local go_sem] max2_int min2_int max_two min_two max_three min_three max_four min_four
set_option linter.unusedVariables false
set_option linter.unusedSimpArgs false

/-! ### spec_l1In: function 75 -/
def spec_l1In.f (a0 : Int) (a1 : Int) (a2 : Int) : Option (Bool) := if a0 ≥ a1 then (some (decide (a0 ≤ a2))) else (some false)
set_option maxHeartbeats 8000000 in
set_option maxRecDepth 100000 in
theorem spec_l1In.calls (a0 : Int) (a1 : Int) (a2 : Int) (r : Bool) (w : World) (h : spec_l1In.f a0 a1 a2 = some r) :
    Calls Try.prog 75 #[.int .i64 a0, .int .i64 a1, .int .i64 a2] w fun e w' => e = .returned (.bool r) ∧ Drawn0 w w' := by
  have H : (if a0 ≥ a1 then (some (decide (a0 ≤ a2))) else (some false)) = some r := h
  clear h
  by_cases c4 : a0 ≥ a1
  · rw [if_pos c4] at H
    have c4b0 : decide (a1 ≤ a0) = true := decide_eq_true c4
    clear c4
    obtain rfl := Option.some.inj H
    go_enter Try.func75, Try.ntmps75
    go_wp2
    go_ret
    exact ⟨by first | rfl | (simp; done) | (simp [*]; done), by repeat (first | exact Drawn0.refl _ | apply Drawn0.step)⟩
  · rw [if_neg c4] at H
    have c4b0 : decide (a1 ≤ a0) = false := decide_eq_false c4
    clear c4
    obtain rfl := Option.some.inj H
    go_enter Try.func75, Try.ntmps75
    go_wp2
    go_ret
    exact ⟨by first | rfl | (simp; done) | (simp [*]; done), by repeat (first | exact Drawn0.refl _ | apply Drawn0.step)⟩

end Go.Proofs.Ytbbkecdlapemfaa.My

/- Written by this session's program (wip/gen): a plain function with the same answers as the Go function, and the proof that the Go code comes to them. Asked: that the plain function has an answer. -/
namespace Go.Proofs.Ytbbkecdlapemfaa.My
open Go.RowKit Go.Proofs.YtbbkecdlapemfaaW.PrintWords Go.Proofs.YtbbkecdlapemfaaW.PrintLast Go.Proofs.YtbbkecdlapemfaaW.PrintMore
attribute [local go_sem] max2_int min2_int max_two min_two max_three min_three max_four min_four
set_option linter.unusedVariables false
set_option linter.unusedSimpArgs false

/-! ### spec_l1Line: function 87 -/
def spec_l1Line.l0 : Nat → ByteArray → Int → Option (Bool)
  | 0, _, _ => none
  | k + 1, x0, x3 => if x3 < (wrap64 ((x0.size : Int) - 1)) then (if 0 ≤ x3 then (if x3 < (x0.size : Int) then (if (bt x0 x3) = 10 then (some false) else (spec_l1Line.l0 k x0 (wrap64 (x3 + 1)))) else (none)) else (none)) else ((spec_l1In.f (x0.size : Int) 1 30).bind fun t106 => (some t106))
def spec_l1Line.f (k : Nat) (a0 : ByteArray) : Option (Bool) := spec_l1Line.l0 k a0 0
theorem spec_l1Line.mono_l : ∀ k, (∀ y0 y1, LeO (spec_l1Line.l0 k y0 y1) (spec_l1Line.l0 (k + 1) y0 y1))
  | 0 => fun _ _ r h => by simp [spec_l1Line.l0] at h
  | k + 1 => by
    have ih0 := spec_l1Line.mono_l k
    · intro y0 y1
      unfold spec_l1Line.l0
      repeat' first
      | (with_reducible exact ih0 _ _)
      | (with_reducible exact LeO.refl _)
      | (with_reducible exact LeO.none _)
      | (with_reducible refine LeO.ite ?_ ?_)
      | (with_reducible refine LeO.bind ?_ (fun _ => ?_))
      | exact ih0 _ _
      | exact LeO.none _
      | refine LeO.ite ?_ ?_
      | refine LeO.bind ?_ (fun _ => ?_)
theorem spec_l1Line.mono : ∀ a0 k, LeO (spec_l1Line.f k a0) (spec_l1Line.f (k + 1) a0) := by
  intro a0 k
  have ih0 := spec_l1Line.mono_l k
  unfold spec_l1Line.f
  repeat' first
      | (with_reducible exact ih0 _ _)
      | (with_reducible exact LeO.refl _)
      | (with_reducible exact LeO.none _)
      | (with_reducible refine LeO.ite ?_ ?_)
      | (with_reducible refine LeO.bind ?_ (fun _ => ?_))
      | exact ih0 _ _
      | exact LeO.none _
      | refine LeO.ite ?_ ?_
      | refine LeO.bind ?_ (fun _ => ?_)
set_option maxHeartbeats 8000000 in
set_option maxRecDepth 100000 in
theorem spec_l1Line.calls (k : Nat) (a0 : ByteArray) (r : Bool) (w : World) (h : spec_l1Line.f k a0 = some r) :
    Calls Try.prog 87 #[.string a0] w fun e w' => e = .returned (.bool r) ∧ Drawn0 w w' := by
  have H : (spec_l1Line.l0 k a0 0) = some r := h
  clear h
  have H' := Aside0.mk H
  clear H
  go_enter Try.func87, Try.ntmps87
  go_wp2
  go_loopg [3] k (fun kq v3 w' => ∃ (x3_1 : Int), v3 = .int .i64 x3_1 ∧ Aside0 (spec_l1Line.l0 kq a0 x3_1 = some r) ∧ Aside0 (kq ≤ k) ∧ Drawn0 w w')
  case atStart => exact ⟨(0), (by first | rfl | (simp; done) | (simp [*]; done)), H', ⟨Nat.le_refl _⟩, by repeat (first | exact Drawn0.refl _ | apply Drawn0.step)⟩
  case round =>
    clear H'
    obtain ⟨x3_1, rfl, HA, HK1, ⟨m1, rfl⟩⟩ := hrel
    cases gk with
    | zero => exact absurd HA.out (by simp [spec_l1Line.l0])
    | succ k1 =>
      have H := HA.out
      clear HA
      simp only [spec_l1Line.l0] at H
      by_cases c2 : x3_1 < (wrap64 ((a0.size : Int) - 1))
      · rw [if_pos c2] at H
        have c2b0 : decide (x3_1 < (wrap64 ((a0.size : Int) - 1))) = true := decide_eq_true c2
        clear c2
        by_cases c3 : 0 ≤ x3_1
        · rw [if_pos c3] at H
          have c3b0 : decide (0 ≤ x3_1) = true := decide_eq_true c3
          clear c3
          by_cases c4 : x3_1 < (a0.size : Int)
          · rw [if_pos c4] at H
            have c4b0 : decide (x3_1 < (a0.size : Int)) = true := decide_eq_true c4
            clear c4
            by_cases c6 : (bt a0 x3_1) = 10
            · rw [if_pos c6] at H
              have c6b0 : ((bt a0 x3_1) == 10) = true := beq_iff_eq.mpr c6
              have c6b1 : ((bt a0 x3_1) != 10) = false := bne_eq_false_iff_eq.mpr c6
              clear c6
              obtain rfl := Option.some.inj H
              have p5 : 0 ≤ (x3_1 : Int) := of_decide_eq_true (by first | (with_reducible assumption) | assumption)
              have q5 : x3_1 < (a0.size : Int) := of_decide_eq_true (by first | (with_reducible assumption) | assumption)
              have hx5 := bt_at a0 x3_1
              replace p5 := eq_true p5
              replace q5 := eq_true q5
              go_wp2
              go_ret
              exact ⟨by first | rfl | (simp; done) | (simp [*]; done), by repeat (first | exact Drawn0.refl _ | apply Drawn0.step)⟩
            · rw [if_neg c6] at H
              have c6b0 : ((bt a0 x3_1) == 10) = false := beq_eq_false_iff_ne.mpr c6
              have c6b1 : ((bt a0 x3_1) != 10) = true := bne_iff_ne.mpr c6
              have H' := Aside0.mk H
              clear H
              have p5 : 0 ≤ (x3_1 : Int) := of_decide_eq_true (by first | (with_reducible assumption) | assumption)
              have q5 : x3_1 < (a0.size : Int) := of_decide_eq_true (by first | (with_reducible assumption) | assumption)
              have hx5 := bt_at a0 x3_1
              replace p5 := eq_true p5
              replace q5 := eq_true q5
              go_wp2
              go_roundg k1
              case measure => have := HK1.out; omega
              case rel => exact ⟨(wrap64 (x3_1 + 1)), (by first | rfl | (simp; done) | (simp [*]; done)), H', ⟨by have := HK1.out; omega⟩, by repeat (first | exact Drawn0.refl _ | apply Drawn0.step)⟩
          · rw [if_neg c4] at H
            exact absurd H (by simp)
        · rw [if_neg c3] at H
          exact absurd H (by simp)
      · rw [if_neg c2] at H
        have c2b0 : decide (x3_1 < (wrap64 ((a0.size : Int) - 1))) = false := decide_eq_false c2
        clear c2
        replace H := Option.bind_eq_some_iff.mp H
        obtain ⟨t106, A70, H⟩ := H
        replace H : (some t106) = some r := H
        have A7 := Aside0.mk A70
        clear A70
        obtain rfl := Option.some.inj H
        go_wp2_with (first | ((with_reducible refine gate_callee (f := 75) rfl ?_); refine goesL_ (some 17) rfl rfl Try.func75 (by kernel_rfl) rfl #[.int .i64 (a0.size : Int), .int .i64 1, .int .i64 30] rfl (by (try simp only [List.map_toArray, List.map_cons, List.map_nil]); first | done | rfl | (simp only [List.length_drop, List.length_take]; rfl)) ?_; (with_reducible refine (spec_l1In.calls (a0.size : Int) 1 30 t106 _ A7.out).mono ?_); rintro e w' ⟨rfl, ⟨nd, rfl⟩⟩; refine ⟨_, rfl, ?_⟩))
        go_ret
        exact ⟨by first | rfl | (simp; done) | (simp [*]; done), by repeat (first | exact Drawn0.refl _ | apply Drawn0.step)⟩

end Go.Proofs.Ytbbkecdlapemfaa.My

/- Written by this session's program (wip/gen): a plain function with the same answers as the Go function, and the proof that the Go code comes to them. Asked: that the plain function has an answer. -/
namespace Go.Proofs.Ytbbkecdlapemfaa.My
open Go.RowKit Go.Proofs.YtbbkecdlapemfaaW.PrintWords Go.Proofs.YtbbkecdlapemfaaW.PrintLast Go.Proofs.YtbbkecdlapemfaaW.PrintMore
attribute [local go_sem] max2_int min2_int max_two min_two max_three min_three max_four min_four
set_option linter.unusedVariables false
set_option linter.unusedSimpArgs false

/-! ### spec_l2Hunks: function 68 -/
mutual
def spec_l2Hunks.l0 : Nat → Int → List (S83) → List (S83) → Int → Int → Option (Bool)
  | 0, _, _, _, _, _ => none
  | k + 1, x0, x1, x9, x10, x11 => if x11 < x10 then (if 0 ≤ x11 then (if x11 < (x9.length : Int) then (if ((rd_T83 x9 x11).f0) < 0 then (spec_l2Hunks.j1 k x0 x1 x9 x10 x11 true ((rd_T83 x9 x11).f0) ((rd_T83 x9 x11).f1) ((rd_T83 x9 x11).f2)) else (if ((rd_T83 x9 x11).f1) < 0 then (spec_l2Hunks.j1 k x0 x1 x9 x10 x11 true ((rd_T83 x9 x11).f0) ((rd_T83 x9 x11).f1) ((rd_T83 x9 x11).f2)) else (if ((rd_T83 x9 x11).f1) > x0 then (spec_l2Hunks.j1 k x0 x1 x9 x10 x11 true ((rd_T83 x9 x11).f0) ((rd_T83 x9 x11).f1) ((rd_T83 x9 x11).f2)) else (if ((rd_T83 x9 x11).f0) > (wrap64 (x0 - ((rd_T83 x9 x11).f1))) then (spec_l2Hunks.j1 k x0 x1 x9 x10 x11 true ((rd_T83 x9 x11).f0) ((rd_T83 x9 x11).f1) ((rd_T83 x9 x11).f2)) else (if (wrap64 (((rd_T83 x9 x11).f1) + (((rd_T83 x9 x11).f2).length : Int))) = 0 then (spec_l2Hunks.j1 k x0 x1 x9 x10 x11 true ((rd_T83 x9 x11).f0) ((rd_T83 x9 x11).f1) ((rd_T83 x9 x11).f2)) else (if (((rd_T83 x9 x11).f2).length : Int) > 40 then (spec_l2Hunks.j1 k x0 x1 x9 x10 x11 true ((rd_T83 x9 x11).f0) ((rd_T83 x9 x11).f1) ((rd_T83 x9 x11).f2)) else (if x11 > 0 then (if 0 ≤ (wrap64 (x11 - 1)) then (if (wrap64 (x11 - 1)) < (x1.length : Int) then (spec_l2Hunks.j1 k x0 x1 x9 x10 x11 (decide (((rd_T83 x9 x11).f0) ≤ (wrap64 (((rd_T83 x1 (wrap64 (x11 - 1))).f0) + ((rd_T83 x1 (wrap64 (x11 - 1))).f1))))) ((rd_T83 x9 x11).f0) ((rd_T83 x9 x11).f1) ((rd_T83 x9 x11).f2)) else (none)) else (none)) else (spec_l2Hunks.j1 k x0 x1 x9 x10 x11 false ((rd_T83 x9 x11).f0) ((rd_T83 x9 x11).f1) ((rd_T83 x9 x11).f2))))))))) else (none)) else (none)) else (if (x1.length : Int) ≤ 20 then ((spec_l1In.f x0 0 40).bind fun t107 => (some t107)) else (some false))
def spec_l2Hunks.j1 : Nat → Int → List (S83) → List (S83) → Int → Int → Bool → Int → Int → List ByteArray → Option (Bool)
  | 0, _, _, _, _, _, _, _, _, _ => none
  | k + 1, x0, x1, x9, x10, x11, x75, x110000, x110001, x110002 => if x75 = true then (some false) else (spec_l2Hunks.l1 k x0 x1 x9 x10 x11 x110002 (x110002.length : Int) 0)
def spec_l2Hunks.l1 : Nat → Int → List (S83) → List (S83) → Int → Int → List ByteArray → Int → Int → Option (Bool)
  | 0, _, _, _, _, _, _, _, _ => none
  | k + 1, x0, x1, x9, x10, x11, x77, x78, x79 => if x79 < x78 then (if 0 ≤ x79 then (if x79 < (x77.length : Int) then ((spec_l1Line.f k (rdOf ByteArray.empty x77 x79)).bind fun t113 => (if t113 = true then (spec_l2Hunks.l1 k x0 x1 x9 x10 x11 x77 x78 (wrap64 (x79 + 1))) else (some false))) else (none)) else (none)) else (spec_l2Hunks.l0 k x0 x1 x9 x10 (wrap64 (x11 + 1)))
end
def spec_l2Hunks.f (k : Nat) (a0 : Int) (l1 : List (S83)) : Option (Bool) := spec_l2Hunks.l0 k a0 l1 l1 (l1.length : Int) 0
theorem spec_l2Hunks.mono_l : ∀ k, (∀ y0 y1 y2 y3 y4, LeO (spec_l2Hunks.l0 k y0 y1 y2 y3 y4) (spec_l2Hunks.l0 (k + 1) y0 y1 y2 y3 y4)) ∧ (∀ y0 y1 y2 y3 y4 y5 y6 y7 y8, LeO (spec_l2Hunks.j1 k y0 y1 y2 y3 y4 y5 y6 y7 y8) (spec_l2Hunks.j1 (k + 1) y0 y1 y2 y3 y4 y5 y6 y7 y8)) ∧ (∀ y0 y1 y2 y3 y4 y5 y6 y7, LeO (spec_l2Hunks.l1 k y0 y1 y2 y3 y4 y5 y6 y7) (spec_l2Hunks.l1 (k + 1) y0 y1 y2 y3 y4 y5 y6 y7))
  | 0 => ⟨fun _ _ _ _ _ r h => by simp [spec_l2Hunks.l0] at h, fun _ _ _ _ _ _ _ _ _ r h => by simp [spec_l2Hunks.j1] at h, fun _ _ _ _ _ _ _ _ r h => by simp [spec_l2Hunks.l1] at h⟩
  | k + 1 => by
    obtain ⟨ih0, ih1, ih2⟩ := spec_l2Hunks.mono_l k
    refine ⟨?_, ?_, ?_⟩
    · intro y0 y1 y2 y3 y4
      unfold spec_l2Hunks.l0
      repeat' first
      | (with_reducible exact ih0 _ _ _ _ _)
      | (with_reducible exact ih1 _ _ _ _ _ _ _ _ _)
      | (with_reducible exact ih2 _ _ _ _ _ _ _ _)
      | (with_reducible exact spec_l1Line.mono _ _)
      | (with_reducible exact LeO.refl _)
      | (with_reducible exact LeO.none _)
      | (with_reducible refine LeO.ite ?_ ?_)
      | (with_reducible refine LeO.bind ?_ (fun _ => ?_))
      | exact ih0 _ _ _ _ _
      | exact ih1 _ _ _ _ _ _ _ _ _
      | exact ih2 _ _ _ _ _ _ _ _
      | exact spec_l1Line.mono _ _
      | exact LeO.none _
      | refine LeO.ite ?_ ?_
      | refine LeO.bind ?_ (fun _ => ?_)
    · intro y0 y1 y2 y3 y4 y5 y6 y7 y8
      unfold spec_l2Hunks.j1
      repeat' first
      | (with_reducible exact ih0 _ _ _ _ _)
      | (with_reducible exact ih1 _ _ _ _ _ _ _ _ _)
      | (with_reducible exact ih2 _ _ _ _ _ _ _ _)
      | (with_reducible exact spec_l1Line.mono _ _)
      | (with_reducible exact LeO.refl _)
      | (with_reducible exact LeO.none _)
      | (with_reducible refine LeO.ite ?_ ?_)
      | (with_reducible refine LeO.bind ?_ (fun _ => ?_))
      | exact ih0 _ _ _ _ _
      | exact ih1 _ _ _ _ _ _ _ _ _
      | exact ih2 _ _ _ _ _ _ _ _
      | exact spec_l1Line.mono _ _
      | exact LeO.none _
      | refine LeO.ite ?_ ?_
      | refine LeO.bind ?_ (fun _ => ?_)
    · intro y0 y1 y2 y3 y4 y5 y6 y7
      unfold spec_l2Hunks.l1
      repeat' first
      | (with_reducible exact ih0 _ _ _ _ _)
      | (with_reducible exact ih1 _ _ _ _ _ _ _ _ _)
      | (with_reducible exact ih2 _ _ _ _ _ _ _ _)
      | (with_reducible exact spec_l1Line.mono _ _)
      | (with_reducible exact LeO.refl _)
      | (with_reducible exact LeO.none _)
      | (with_reducible refine LeO.ite ?_ ?_)
      | (with_reducible refine LeO.bind ?_ (fun _ => ?_))
      | exact ih0 _ _ _ _ _
      | exact ih1 _ _ _ _ _ _ _ _ _
      | exact ih2 _ _ _ _ _ _ _ _
      | exact spec_l1Line.mono _ _
      | exact LeO.none _
      | refine LeO.ite ?_ ?_
      | refine LeO.bind ?_ (fun _ => ?_)
theorem spec_l2Hunks.mono : ∀ a0 a1 k, LeO (spec_l2Hunks.f k a0 a1) (spec_l2Hunks.f (k + 1) a0 a1) := by
  intro a0 a1 k
  obtain ⟨ih0, ih1, ih2⟩ := spec_l2Hunks.mono_l k
  unfold spec_l2Hunks.f
  repeat' first
      | (with_reducible exact ih0 _ _ _ _ _)
      | (with_reducible exact ih1 _ _ _ _ _ _ _ _ _)
      | (with_reducible exact ih2 _ _ _ _ _ _ _ _)
      | (with_reducible exact spec_l1Line.mono _ _)
      | (with_reducible exact LeO.refl _)
      | (with_reducible exact LeO.none _)
      | (with_reducible refine LeO.ite ?_ ?_)
      | (with_reducible refine LeO.bind ?_ (fun _ => ?_))
      | exact ih0 _ _ _ _ _
      | exact ih1 _ _ _ _ _ _ _ _ _
      | exact ih2 _ _ _ _ _ _ _ _
      | exact spec_l1Line.mono _ _
      | exact LeO.none _
      | refine LeO.ite ?_ ?_
      | refine LeO.bind ?_ (fun _ => ?_)
set_option maxHeartbeats 8000000 in
set_option maxRecDepth 100000 in
theorem spec_l2Hunks.calls (k : Nat) (a0 : Int) (A1 : Option Addr) (c1 : Nat) (l1 : List (S83)) (r : Bool) (w : World) (hr1 : Kd.C k83 w A1 l1.length l1) (hc1 : l1.length ≤ c1) (h : spec_l2Hunks.f k a0 l1 = some r) :
    Calls Try.prog 68 #[.int .i64 a0, .slice A1 l1.length c1] w fun e w' => e = .returned (.bool r) ∧ Below w.heap.size w w' := by
  have hu83 := Try.underlying83
  have HR1 := Aside0.mk hr1
  have HC1 := Aside0.mk hc1
  clear hr1 hc1
  have HB := Aside0.mk (Below.refl w.heap.size w)
  have H : (spec_l2Hunks.l0 k a0 l1 l1 (l1.length : Int) 0) = some r := h
  clear h
  have H' := Aside0.mk H
  clear H
  go_enter Try.func68, Try.ntmps68
  go_wp2
  repeat (go_quiet (fail); try go_wp2)
  go_loopg [11] k (fun kq v11 w' => ∃ (x11_1 : Int), v11 = .int .i64 x11_1 ∧ Aside0 (spec_l2Hunks.l0 kq a0 l1 l1 (l1.length : Int) x11_1 = some r) ∧ Aside0 (kq ≤ k) ∧ Aside0 (Below w.heap.size w w'))
  case atStart => exact ⟨(0), (by first | rfl | (simp; done) | (simp [*]; done)), H', ⟨Nat.le_refl _⟩, ⟨by repeat (first | (with_reducible first | exact HB.out | apply below_alloc | apply pw_below_drewN | apply below_drew1) | exact HB.out)⟩⟩
  case round =>
    clear H'
    try clear c1
    try clear p2
    obtain ⟨x11_1, rfl, HA, HK1, HB⟩ := hrel
    cases gk with
    | zero => exact absurd HA.out (by simp [spec_l2Hunks.l0])
    | succ k1 =>
      have H := HA.out
      clear HA
      simp only [spec_l2Hunks.l0] at H
      by_cases c3 : x11_1 < (l1.length : Int)
      · rw [if_pos c3] at H
        have c3b0 : decide (x11_1 < (l1.length : Int)) = true := decide_eq_true c3
        clear c3
        by_cases c4 : 0 ≤ x11_1
        · rw [if_pos c4] at H
          have c4b0 : decide (0 ≤ x11_1) = true := decide_eq_true c4
          clear c4
          by_cases c5 : x11_1 < (l1.length : Int)
          · rw [if_pos c5] at H
            have c5b0 : decide (x11_1 < (l1.length : Int)) = true := decide_eq_true c5
            clear c5
            have HC6 := Aside0.mk H
            clear H
            have p108 : 0 ≤ (x11_1 : Int) := of_decide_eq_true (by first | (with_reducible assumption) | assumption)
            have q108 : x11_1 < (l1.length : Int) := of_decide_eq_true (by first | (with_reducible assumption) | assumption)
            obtain ⟨ad108, A108_2, c108_2, e108, hx108_0, hx108_1, hx108_2, hl108_2, hi108_2⟩ := at_T83 HR1.out x11_1 p108 q108
            cases e108
            replace hx108_0 := (HB.out.cell (World.block_lt_of_cell? w _ hx108_0)).trans hx108_0
            replace hx108_1 := (HB.out.cell (World.block_lt_of_cell? w _ hx108_1)).trans hx108_1
            replace hx108_2 := (HB.out.cell (World.block_lt_of_cell? w _ hx108_2)).trans hx108_2
            have HR108_2 := Aside0.mk hi108_2
            have HC108_2 := Aside0.mk hl108_2
            clear hi108_2 hl108_2
            replace p108 := eq_true p108
            replace q108 := eq_true q108
            go_upto_region 4 with (first | ((with_reducible refine gate_dst (N := 6) rfl ?_); (try (refine gate_guard (by rfl) ?_; dsimp only)); refine box_event ?hg (N := 6) ?hd (cs := #[.int .i64 0, .int .i64 0, .slice none 0 0]) (t := 83) ?hr ?_; (case hd => rfl); (case hg => rfl); (case hr => first | (go_simp; done) | (go_simp; rfl)); intro gb109 hg w7 hbox hb; have n0_ := Aside0.mk (below_step (by repeat (first | (with_reducible first | exact HB.out | apply below_alloc | apply pw_below_drewN | apply below_drew1) | exact HB.out)) hb); have n1_ := Aside0.mk (hbox); have n2_ := Aside0.mk ((by rw [hg]; exact (below_size (by repeat (first | (with_reducible first | exact HB.out | apply below_alloc | apply pw_below_drewN | apply below_drew1) | exact HB.out))) : w.heap.size ≤ gb109)); have n3_ := Aside0.mk ((by rw [hg]; exact (below_size (by repeat (first | (with_reducible first | exact HB.out | apply below_alloc | apply pw_below_drewN | apply below_drew1) | exact HB.out))) : w.heap.size ≤ gb109)); clear HB; have HB := n0_; have BK109 := n1_; have GW109 := n2_; have GE109 := n3_; clear n0_ n1_ n2_ n3_; clear hb hbox hg; have hcz8_0 : w7.cell? ⟨gb109, 0, none⟩ = some (.int .i64 0) := (blk_cell BK109.out 0).trans rfl; have hcz8_1 : w7.cell? ⟨gb109, 1, none⟩ = some (.int .i64 0) := (blk_cell BK109.out 1).trans rfl; have hcz8_2 : w7.cell? ⟨gb109, 2, none⟩ = some (.slice none 0 0) := (blk_cell BK109.out 2).trans rfl; have hfz8_0 := blk_frozen BK109.out 0; have hfz8_1 := blk_frozen BK109.out 1; have hfz8_2 := blk_frozen BK109.out 2))
            repeat (go_quiet (first | ((with_reducible refine gate_dst (N := 6) rfl ?_); (try (refine gate_guard (by rfl) ?_; dsimp only)); refine box_event ?hg (N := 6) ?hd (cs := #[.int .i64 0, .int .i64 0, .slice none 0 0]) (t := 83) ?hr ?_; (case hd => rfl); (case hg => rfl); (case hr => first | (go_simp; done) | (go_simp; rfl)); intro gb109 hg w7 hbox hb; have n0_ := Aside0.mk (below_step (by repeat (first | (with_reducible first | exact HB.out | apply below_alloc | apply pw_below_drewN | apply below_drew1) | exact HB.out)) hb); have n1_ := Aside0.mk (hbox); have n2_ := Aside0.mk ((by rw [hg]; exact (below_size (by repeat (first | (with_reducible first | exact HB.out | apply below_alloc | apply pw_below_drewN | apply below_drew1) | exact HB.out))) : w.heap.size ≤ gb109)); have n3_ := Aside0.mk ((by rw [hg]; exact (below_size (by repeat (first | (with_reducible first | exact HB.out | apply below_alloc | apply pw_below_drewN | apply below_drew1) | exact HB.out))) : w.heap.size ≤ gb109)); clear HB; have HB := n0_; have BK109 := n1_; have GW109 := n2_; have GE109 := n3_; clear n0_ n1_ n2_ n3_; clear hb hbox hg; have hcz8_0 : w7.cell? ⟨gb109, 0, none⟩ = some (.int .i64 0) := (blk_cell BK109.out 0).trans rfl; have hcz8_1 : w7.cell? ⟨gb109, 1, none⟩ = some (.int .i64 0) := (blk_cell BK109.out 1).trans rfl; have hcz8_2 : w7.cell? ⟨gb109, 2, none⟩ = some (.slice none 0 0) := (blk_cell BK109.out 2).trans rfl; have hfz8_0 := blk_frozen BK109.out 0; have hfz8_1 := blk_frozen BK109.out 1; have hfz8_2 := blk_frozen BK109.out 2)); go_upto_region 4 with (first | ((with_reducible refine gate_dst (N := 6) rfl ?_); (try (refine gate_guard (by rfl) ?_; dsimp only)); refine box_event ?hg (N := 6) ?hd (cs := #[.int .i64 0, .int .i64 0, .slice none 0 0]) (t := 83) ?hr ?_; (case hd => rfl); (case hg => rfl); (case hr => first | (go_simp; done) | (go_simp; rfl)); intro gb109 hg w7 hbox hb; have n0_ := Aside0.mk (below_step (by repeat (first | (with_reducible first | exact HB.out | apply below_alloc | apply pw_below_drewN | apply below_drew1) | exact HB.out)) hb); have n1_ := Aside0.mk (hbox); have n2_ := Aside0.mk ((by rw [hg]; exact (below_size (by repeat (first | (with_reducible first | exact HB.out | apply below_alloc | apply pw_below_drewN | apply below_drew1) | exact HB.out))) : w.heap.size ≤ gb109)); have n3_ := Aside0.mk ((by rw [hg]; exact (below_size (by repeat (first | (with_reducible first | exact HB.out | apply below_alloc | apply pw_below_drewN | apply below_drew1) | exact HB.out))) : w.heap.size ≤ gb109)); clear HB; have HB := n0_; have BK109 := n1_; have GW109 := n2_; have GE109 := n3_; clear n0_ n1_ n2_ n3_; clear hb hbox hg; have hcz8_0 : w7.cell? ⟨gb109, 0, none⟩ = some (.int .i64 0) := (blk_cell BK109.out 0).trans rfl; have hcz8_1 : w7.cell? ⟨gb109, 1, none⟩ = some (.int .i64 0) := (blk_cell BK109.out 1).trans rfl; have hcz8_2 : w7.cell? ⟨gb109, 2, none⟩ = some (.slice none 0 0) := (blk_cell BK109.out 2).trans rfl; have hfz8_0 := blk_frozen BK109.out 0; have hfz8_1 := blk_frozen BK109.out 1; have hfz8_2 := blk_frozen BK109.out 2)))
            (try simp only [Act.put, List.setIfInBounds_toArray, List.set_cons_zero, List.set_cons_succ])
            go_cut [75] (fun v75 wc => ∃ (kq : Nat) (x75_5 : Bool), v75 = .bool x75_5 ∧ Aside0 (spec_l2Hunks.j1 kq a0 l1 l1 (l1.length : Int) x11_1 x75_5 ((rd_T83 l1 x11_1).f0) ((rd_T83 l1 x11_1).f1) ((rd_T83 l1 x11_1).f2) = some r) ∧ Aside0 (kq ≤ k1) ∧ Aside0 (wc.heap[gb109]? = some (.cells #[.int .i64 ((rd_T83 l1 x11_1).f0), .int .i64 ((rd_T83 l1 x11_1).f1), (.slice A108_2 ((rd_T83 l1 x11_1).f2).length c108_2)] 83 (0, 0))) ∧ Aside0 (Below w.heap.size w wc))
            case first =>
              have H := HC6.out
              clear HC6
              by_cases c9 : ((rd_T83 l1 x11_1).f0) < 0
              · rw [if_pos c9] at H
                have c9b0 : decide (((rd_T83 l1 x11_1).f0) < 0) = true := decide_eq_true c9
                clear c9
                (first | rw [c9b0] | (simp only [i64_w, i32_w]; rw [c9b0]) | skip)
                have H' := Aside0.mk H
                clear H
                have hcz10_0 : w7.cell? ⟨gb109, 0, none⟩ = some (.int .i64 0) := (blk_cell BK109.out 0).trans rfl
                have hcz10_1 : w7.cell? ⟨gb109, 1, none⟩ = some (.int .i64 0) := (blk_cell BK109.out 1).trans rfl
                have hcz10_2 : w7.cell? ⟨gb109, 2, none⟩ = some (.slice none 0 0) := (blk_cell BK109.out 2).trans rfl
                have hfz10_0 := blk_frozen BK109.out 0
                have hfz10_1 := blk_frozen BK109.out 1
                have hfz10_2 := blk_frozen BK109.out 2
                go_wp2
                repeat (go_quiet (fail); try go_wp2)
                go_meet
                case rel => exact ⟨_, (true), (by first | rfl | (simp; done) | (simp [*]; done)), H', ⟨by have := HK1.out; first | omega | exact Nat.le_refl _⟩, ⟨by (with_reducible repeat (first | refine blk_drewN ?_ _ | refine blk_drew ?_ | refine blk_alloc ?_ _)); refine blk_put (cs := #[.int .i64 ((rd_T83 l1 x11_1).f0), .int .i64 ((rd_T83 l1 x11_1).f1), .slice none 0 0]) ?_ 2 _ rfl; (with_reducible repeat (first | refine blk_drewN ?_ _ | refine blk_drew ?_ | refine blk_alloc ?_ _)); refine blk_put (cs := #[.int .i64 ((rd_T83 l1 x11_1).f0), .int .i64 0, .slice none 0 0]) ?_ 1 _ rfl; (with_reducible repeat (first | refine blk_drewN ?_ _ | refine blk_drew ?_ | refine blk_alloc ?_ _)); refine blk_put (cs := #[.int .i64 0, .int .i64 0, .slice none 0 0]) ?_ 0 _ rfl; (with_reducible repeat (first | refine blk_drewN ?_ _ | refine blk_drew ?_ | refine blk_alloc ?_ _)); exact BK109.out⟩, ⟨by repeat (first | (with_reducible first | exact HB.out | apply below_alloc | apply pw_below_drewN | apply below_drew1 | refine below_set ?_ GE109.out) | exact HB.out)⟩⟩
              · rw [if_neg c9] at H
                have c9b0 : decide (((rd_T83 l1 x11_1).f0) < 0) = false := decide_eq_false c9
                clear c9
                (first | rw [c9b0] | (simp only [i64_w, i32_w]; rw [c9b0]) | skip)
                by_cases c11 : ((rd_T83 l1 x11_1).f1) < 0
                · rw [if_pos c11] at H
                  have c11b0 : decide (((rd_T83 l1 x11_1).f1) < 0) = true := decide_eq_true c11
                  clear c11
                  have H' := Aside0.mk H
                  clear H
                  have hcz12_0 : w7.cell? ⟨gb109, 0, none⟩ = some (.int .i64 0) := (blk_cell BK109.out 0).trans rfl
                  have hcz12_1 : w7.cell? ⟨gb109, 1, none⟩ = some (.int .i64 0) := (blk_cell BK109.out 1).trans rfl
                  have hcz12_2 : w7.cell? ⟨gb109, 2, none⟩ = some (.slice none 0 0) := (blk_cell BK109.out 2).trans rfl
                  have hfz12_0 := blk_frozen BK109.out 0
                  have hfz12_1 := blk_frozen BK109.out 1
                  have hfz12_2 := blk_frozen BK109.out 2
                  go_wp2
                  repeat (go_quiet (fail); try go_wp2)
                  go_meet
                  case rel => exact ⟨_, (true), (by first | rfl | (simp; done) | (simp [*]; done)), H', ⟨by have := HK1.out; first | omega | exact Nat.le_refl _⟩, ⟨by (with_reducible repeat (first | refine blk_drewN ?_ _ | refine blk_drew ?_ | refine blk_alloc ?_ _)); refine blk_put (cs := #[.int .i64 ((rd_T83 l1 x11_1).f0), .int .i64 ((rd_T83 l1 x11_1).f1), .slice none 0 0]) ?_ 2 _ rfl; (with_reducible repeat (first | refine blk_drewN ?_ _ | refine blk_drew ?_ | refine blk_alloc ?_ _)); refine blk_put (cs := #[.int .i64 ((rd_T83 l1 x11_1).f0), .int .i64 0, .slice none 0 0]) ?_ 1 _ rfl; (with_reducible repeat (first | refine blk_drewN ?_ _ | refine blk_drew ?_ | refine blk_alloc ?_ _)); refine blk_put (cs := #[.int .i64 0, .int .i64 0, .slice none 0 0]) ?_ 0 _ rfl; (with_reducible repeat (first | refine blk_drewN ?_ _ | refine blk_drew ?_ | refine blk_alloc ?_ _)); exact BK109.out⟩, ⟨by repeat (first | (with_reducible first | exact HB.out | apply below_alloc | apply pw_below_drewN | apply below_drew1 | refine below_set ?_ GE109.out) | exact HB.out)⟩⟩
                · rw [if_neg c11] at H
                  have c11b0 : decide (((rd_T83 l1 x11_1).f1) < 0) = false := decide_eq_false c11
                  clear c11
                  by_cases c13 : ((rd_T83 l1 x11_1).f1) > a0
                  · rw [if_pos c13] at H
                    have c13b0 : decide (a0 < ((rd_T83 l1 x11_1).f1)) = true := decide_eq_true c13
                    clear c13
                    have H' := Aside0.mk H
                    clear H
                    have hcz14_0 : w7.cell? ⟨gb109, 0, none⟩ = some (.int .i64 0) := (blk_cell BK109.out 0).trans rfl
                    have hcz14_1 : w7.cell? ⟨gb109, 1, none⟩ = some (.int .i64 0) := (blk_cell BK109.out 1).trans rfl
                    have hcz14_2 : w7.cell? ⟨gb109, 2, none⟩ = some (.slice none 0 0) := (blk_cell BK109.out 2).trans rfl
                    have hfz14_0 := blk_frozen BK109.out 0
                    have hfz14_1 := blk_frozen BK109.out 1
                    have hfz14_2 := blk_frozen BK109.out 2
                    go_wp2
                    repeat (go_quiet (fail); try go_wp2)
                    go_meet
                    case rel => exact ⟨_, (true), (by first | rfl | (simp; done) | (simp [*]; done)), H', ⟨by have := HK1.out; first | omega | exact Nat.le_refl _⟩, ⟨by (with_reducible repeat (first | refine blk_drewN ?_ _ | refine blk_drew ?_ | refine blk_alloc ?_ _)); refine blk_put (cs := #[.int .i64 ((rd_T83 l1 x11_1).f0), .int .i64 ((rd_T83 l1 x11_1).f1), .slice none 0 0]) ?_ 2 _ rfl; (with_reducible repeat (first | refine blk_drewN ?_ _ | refine blk_drew ?_ | refine blk_alloc ?_ _)); refine blk_put (cs := #[.int .i64 ((rd_T83 l1 x11_1).f0), .int .i64 0, .slice none 0 0]) ?_ 1 _ rfl; (with_reducible repeat (first | refine blk_drewN ?_ _ | refine blk_drew ?_ | refine blk_alloc ?_ _)); refine blk_put (cs := #[.int .i64 0, .int .i64 0, .slice none 0 0]) ?_ 0 _ rfl; (with_reducible repeat (first | refine blk_drewN ?_ _ | refine blk_drew ?_ | refine blk_alloc ?_ _)); exact BK109.out⟩, ⟨by repeat (first | (with_reducible first | exact HB.out | apply below_alloc | apply pw_below_drewN | apply below_drew1 | refine below_set ?_ GE109.out) | exact HB.out)⟩⟩
                  · rw [if_neg c13] at H
                    have c13b0 : decide (a0 < ((rd_T83 l1 x11_1).f1)) = false := decide_eq_false c13
                    clear c13
                    by_cases c15 : ((rd_T83 l1 x11_1).f0) > (wrap64 (a0 - ((rd_T83 l1 x11_1).f1)))
                    · rw [if_pos c15] at H
                      have c15b0 : decide ((wrap64 (a0 - ((rd_T83 l1 x11_1).f1))) < ((rd_T83 l1 x11_1).f0)) = true := decide_eq_true c15
                      clear c15
                      have H' := Aside0.mk H
                      clear H
                      have hcz16_0 : w7.cell? ⟨gb109, 0, none⟩ = some (.int .i64 0) := (blk_cell BK109.out 0).trans rfl
                      have hcz16_1 : w7.cell? ⟨gb109, 1, none⟩ = some (.int .i64 0) := (blk_cell BK109.out 1).trans rfl
                      have hcz16_2 : w7.cell? ⟨gb109, 2, none⟩ = some (.slice none 0 0) := (blk_cell BK109.out 2).trans rfl
                      have hfz16_0 := blk_frozen BK109.out 0
                      have hfz16_1 := blk_frozen BK109.out 1
                      have hfz16_2 := blk_frozen BK109.out 2
                      go_wp2
                      repeat (go_quiet (fail); try go_wp2)
                      go_meet
                      case rel => exact ⟨_, (true), (by first | rfl | (simp; done) | (simp [*]; done)), H', ⟨by have := HK1.out; first | omega | exact Nat.le_refl _⟩, ⟨by (with_reducible repeat (first | refine blk_drewN ?_ _ | refine blk_drew ?_ | refine blk_alloc ?_ _)); refine blk_put (cs := #[.int .i64 ((rd_T83 l1 x11_1).f0), .int .i64 ((rd_T83 l1 x11_1).f1), .slice none 0 0]) ?_ 2 _ rfl; (with_reducible repeat (first | refine blk_drewN ?_ _ | refine blk_drew ?_ | refine blk_alloc ?_ _)); refine blk_put (cs := #[.int .i64 ((rd_T83 l1 x11_1).f0), .int .i64 0, .slice none 0 0]) ?_ 1 _ rfl; (with_reducible repeat (first | refine blk_drewN ?_ _ | refine blk_drew ?_ | refine blk_alloc ?_ _)); refine blk_put (cs := #[.int .i64 0, .int .i64 0, .slice none 0 0]) ?_ 0 _ rfl; (with_reducible repeat (first | refine blk_drewN ?_ _ | refine blk_drew ?_ | refine blk_alloc ?_ _)); exact BK109.out⟩, ⟨by repeat (first | (with_reducible first | exact HB.out | apply below_alloc | apply pw_below_drewN | apply below_drew1 | refine below_set ?_ GE109.out) | exact HB.out)⟩⟩
                    · rw [if_neg c15] at H
                      have c15b0 : decide ((wrap64 (a0 - ((rd_T83 l1 x11_1).f1))) < ((rd_T83 l1 x11_1).f0)) = false := decide_eq_false c15
                      clear c15
                      by_cases c17 : (wrap64 (((rd_T83 l1 x11_1).f1) + (((rd_T83 l1 x11_1).f2).length : Int))) = 0
                      · rw [if_pos c17] at H
                        have c17b0 : ((wrap64 (((rd_T83 l1 x11_1).f1) + (((rd_T83 l1 x11_1).f2).length : Int))) == 0) = true := beq_iff_eq.mpr c17
                        have c17b1 : ((wrap64 (((rd_T83 l1 x11_1).f1) + (((rd_T83 l1 x11_1).f2).length : Int))) != 0) = false := bne_eq_false_iff_eq.mpr c17
                        clear c17
                        have H' := Aside0.mk H
                        clear H
                        have hcz18_0 : w7.cell? ⟨gb109, 0, none⟩ = some (.int .i64 0) := (blk_cell BK109.out 0).trans rfl
                        have hcz18_1 : w7.cell? ⟨gb109, 1, none⟩ = some (.int .i64 0) := (blk_cell BK109.out 1).trans rfl
                        have hcz18_2 : w7.cell? ⟨gb109, 2, none⟩ = some (.slice none 0 0) := (blk_cell BK109.out 2).trans rfl
                        have hfz18_0 := blk_frozen BK109.out 0
                        have hfz18_1 := blk_frozen BK109.out 1
                        have hfz18_2 := blk_frozen BK109.out 2
                        go_wp2
                        repeat (go_quiet (fail); try go_wp2)
                        go_meet
                        case rel => exact ⟨_, (true), (by first | rfl | (simp; done) | (simp [*]; done)), H', ⟨by have := HK1.out; first | omega | exact Nat.le_refl _⟩, ⟨by (with_reducible repeat (first | refine blk_drewN ?_ _ | refine blk_drew ?_ | refine blk_alloc ?_ _)); refine blk_put (cs := #[.int .i64 ((rd_T83 l1 x11_1).f0), .int .i64 ((rd_T83 l1 x11_1).f1), .slice none 0 0]) ?_ 2 _ rfl; (with_reducible repeat (first | refine blk_drewN ?_ _ | refine blk_drew ?_ | refine blk_alloc ?_ _)); refine blk_put (cs := #[.int .i64 ((rd_T83 l1 x11_1).f0), .int .i64 0, .slice none 0 0]) ?_ 1 _ rfl; (with_reducible repeat (first | refine blk_drewN ?_ _ | refine blk_drew ?_ | refine blk_alloc ?_ _)); refine blk_put (cs := #[.int .i64 0, .int .i64 0, .slice none 0 0]) ?_ 0 _ rfl; (with_reducible repeat (first | refine blk_drewN ?_ _ | refine blk_drew ?_ | refine blk_alloc ?_ _)); exact BK109.out⟩, ⟨by repeat (first | (with_reducible first | exact HB.out | apply below_alloc | apply pw_below_drewN | apply below_drew1 | refine below_set ?_ GE109.out) | exact HB.out)⟩⟩
                      · rw [if_neg c17] at H
                        have c17b0 : ((wrap64 (((rd_T83 l1 x11_1).f1) + (((rd_T83 l1 x11_1).f2).length : Int))) == 0) = false := beq_eq_false_iff_ne.mpr c17
                        have c17b1 : ((wrap64 (((rd_T83 l1 x11_1).f1) + (((rd_T83 l1 x11_1).f2).length : Int))) != 0) = true := bne_iff_ne.mpr c17
                        by_cases c19 : (((rd_T83 l1 x11_1).f2).length : Int) > 40
                        · rw [if_pos c19] at H
                          have c19b0 : decide (40 < (((rd_T83 l1 x11_1).f2).length : Int)) = true := decide_eq_true c19
                          have c19b1 : decide (40 < ((rd_T83 l1 x11_1).f2).length) = true := decide_eq_true (by omega)
                          clear c19
                          have H' := Aside0.mk H
                          clear H
                          have hcz20_0 : w7.cell? ⟨gb109, 0, none⟩ = some (.int .i64 0) := (blk_cell BK109.out 0).trans rfl
                          have hcz20_1 : w7.cell? ⟨gb109, 1, none⟩ = some (.int .i64 0) := (blk_cell BK109.out 1).trans rfl
                          have hcz20_2 : w7.cell? ⟨gb109, 2, none⟩ = some (.slice none 0 0) := (blk_cell BK109.out 2).trans rfl
                          have hfz20_0 := blk_frozen BK109.out 0
                          have hfz20_1 := blk_frozen BK109.out 1
                          have hfz20_2 := blk_frozen BK109.out 2
                          go_wp2
                          repeat (go_quiet (fail); try go_wp2)
                          go_meet
                          case rel => exact ⟨_, (true), (by first | rfl | (simp; done) | (simp [*]; done)), H', ⟨by have := HK1.out; first | omega | exact Nat.le_refl _⟩, ⟨by (with_reducible repeat (first | refine blk_drewN ?_ _ | refine blk_drew ?_ | refine blk_alloc ?_ _)); refine blk_put (cs := #[.int .i64 ((rd_T83 l1 x11_1).f0), .int .i64 ((rd_T83 l1 x11_1).f1), .slice none 0 0]) ?_ 2 _ rfl; (with_reducible repeat (first | refine blk_drewN ?_ _ | refine blk_drew ?_ | refine blk_alloc ?_ _)); refine blk_put (cs := #[.int .i64 ((rd_T83 l1 x11_1).f0), .int .i64 0, .slice none 0 0]) ?_ 1 _ rfl; (with_reducible repeat (first | refine blk_drewN ?_ _ | refine blk_drew ?_ | refine blk_alloc ?_ _)); refine blk_put (cs := #[.int .i64 0, .int .i64 0, .slice none 0 0]) ?_ 0 _ rfl; (with_reducible repeat (first | refine blk_drewN ?_ _ | refine blk_drew ?_ | refine blk_alloc ?_ _)); exact BK109.out⟩, ⟨by repeat (first | (with_reducible first | exact HB.out | apply below_alloc | apply pw_below_drewN | apply below_drew1 | refine below_set ?_ GE109.out) | exact HB.out)⟩⟩
                        · rw [if_neg c19] at H
                          have c19b0 : decide (40 < (((rd_T83 l1 x11_1).f2).length : Int)) = false := decide_eq_false c19
                          have c19b1 : decide (40 < ((rd_T83 l1 x11_1).f2).length) = false := decide_eq_false (by omega)
                          clear c19
                          by_cases c21 : x11_1 > 0
                          · rw [if_pos c21] at H
                            have c21b0 : decide (0 < x11_1) = true := decide_eq_true c21
                            clear c21
                            obtain ⟨ji22, hji22⟩ : ∃ j_ : Int, (wrap64 (x11_1 - 1)) = j_ := ⟨_, rfl⟩
                            replace H : (if 0 ≤ (ji22) then (if (ji22) < (l1.length : Int) then (spec_l2Hunks.j1 k1 a0 l1 l1 (l1.length : Int) x11_1 (decide (((rd_T83 l1 x11_1).f0) ≤ (wrap64 (((rd_T83 l1 (ji22)).f0) + ((rd_T83 l1 (ji22)).f1))))) ((rd_T83 l1 x11_1).f0) ((rd_T83 l1 x11_1).f1) ((rd_T83 l1 x11_1).f2)) else (none)) else (none)) = some r := by first | (rw [hji22] at H; exact H) | (simp only [hji22] at H ⊢; exact H)
                            have hji22w : (IntKind.i64.wrap (x11_1 - 1)) = ji22 := (i64_w _).trans hji22
                            by_cases c23 : 0 ≤ (ji22)
                            · rw [if_pos c23] at H
                              have c23b0 : decide (0 ≤ (ji22)) = true := decide_eq_true c23
                              clear c23
                              by_cases c24 : (ji22) < (l1.length : Int)
                              · rw [if_pos c24] at H
                                have c24b0 : decide ((ji22) < (l1.length : Int)) = true := decide_eq_true c24
                                clear c24
                                have H' := Aside0.mk H
                                clear H
                                have hcz25_0 : w7.cell? ⟨gb109, 0, none⟩ = some (.int .i64 0) := (blk_cell BK109.out 0).trans rfl
                                have hcz25_1 : w7.cell? ⟨gb109, 1, none⟩ = some (.int .i64 0) := (blk_cell BK109.out 1).trans rfl
                                have hcz25_2 : w7.cell? ⟨gb109, 2, none⟩ = some (.slice none 0 0) := (blk_cell BK109.out 2).trans rfl
                                have hfz25_0 := blk_frozen BK109.out 0
                                have hfz25_1 := blk_frozen BK109.out 1
                                have hfz25_2 := blk_frozen BK109.out 2
                                have p110 : 0 ≤ ((ji22) : Int) := of_decide_eq_true (by first | (with_reducible assumption) | assumption)
                                have q110 : (ji22) < (l1.length : Int) := of_decide_eq_true (by first | (with_reducible assumption) | assumption)
                                obtain ⟨ad110, A110_2, c110_2, e110, hx110_0, hx110_1, hx110_2, hl110_2, hi110_2⟩ := at_T83 HR1.out (ji22) p110 q110
                                obtain rfl : ad108 = ad110 := (by injection e110)
                                have hn110_0 : ad108.block ≠ gb109 := Nat.ne_of_lt (Nat.lt_of_lt_of_le (by have := World.block_lt_of_cell? _ _ hx110_0; first | rwa [add_block] at this | exact this) GW109.out)
                                have hn110_1 : ad108.block ≠ gb109 := Nat.ne_of_lt (Nat.lt_of_lt_of_le (by have := World.block_lt_of_cell? _ _ hx110_0; first | rwa [add_block] at this | exact this) GW109.out)
                                have hn110_2 : ad108.block ≠ gb109 := Nat.ne_of_lt (Nat.lt_of_lt_of_le (by have := World.block_lt_of_cell? _ _ hx110_0; first | rwa [add_block] at this | exact this) GW109.out)
                                replace hx110_0 := (HB.out.cell (World.block_lt_of_cell? w _ hx110_0)).trans hx110_0
                                replace hx110_1 := (HB.out.cell (World.block_lt_of_cell? w _ hx110_1)).trans hx110_1
                                replace hx110_2 := (HB.out.cell (World.block_lt_of_cell? w _ hx110_2)).trans hx110_2
                                have HR110_2 := Aside0.mk hi110_2
                                have HC110_2 := Aside0.mk hl110_2
                                clear hi110_2 hl110_2
                                replace hx110_0 := (cell_far (p := ⟨gb109, 0, none⟩) (by first | (rw [add_block]; exact hn110_0) | (show (Addr.add _ _).block ≠ _; rw [add_block]; exact hn110_0) | exact hn110_0) (.int .i64 ((rd_T83 l1 x11_1).f0))).trans hx110_0
                                replace hx110_1 := (cell_far (p := ⟨gb109, 0, none⟩) (by first | (rw [add_block]; exact hn110_0) | (show (Addr.add _ _).block ≠ _; rw [add_block]; exact hn110_0) | exact hn110_0) (.int .i64 ((rd_T83 l1 x11_1).f0))).trans hx110_1
                                replace hx110_2 := (cell_far (p := ⟨gb109, 0, none⟩) (by first | (rw [add_block]; exact hn110_0) | (show (Addr.add _ _).block ≠ _; rw [add_block]; exact hn110_0) | exact hn110_0) (.int .i64 ((rd_T83 l1 x11_1).f0))).trans hx110_2
                                replace hx110_0 := (cell_far (p := ⟨gb109, 1, none⟩) (by first | (rw [add_block]; exact hn110_1) | (show (Addr.add _ _).block ≠ _; rw [add_block]; exact hn110_1) | exact hn110_1) (.int .i64 ((rd_T83 l1 x11_1).f1))).trans hx110_0
                                replace hx110_1 := (cell_far (p := ⟨gb109, 1, none⟩) (by first | (rw [add_block]; exact hn110_1) | (show (Addr.add _ _).block ≠ _; rw [add_block]; exact hn110_1) | exact hn110_1) (.int .i64 ((rd_T83 l1 x11_1).f1))).trans hx110_1
                                replace hx110_2 := (cell_far (p := ⟨gb109, 1, none⟩) (by first | (rw [add_block]; exact hn110_1) | (show (Addr.add _ _).block ≠ _; rw [add_block]; exact hn110_1) | exact hn110_1) (.int .i64 ((rd_T83 l1 x11_1).f1))).trans hx110_2
                                replace hx110_0 := (cell_far (p := ⟨gb109, 2, none⟩) (by first | (rw [add_block]; exact hn110_2) | (show (Addr.add _ _).block ≠ _; rw [add_block]; exact hn110_2) | exact hn110_2) (.slice A108_2 ((rd_T83 l1 x11_1).f2).length c108_2)).trans hx110_0
                                replace hx110_1 := (cell_far (p := ⟨gb109, 2, none⟩) (by first | (rw [add_block]; exact hn110_2) | (show (Addr.add _ _).block ≠ _; rw [add_block]; exact hn110_2) | exact hn110_2) (.slice A108_2 ((rd_T83 l1 x11_1).f2).length c108_2)).trans hx110_1
                                replace hx110_2 := (cell_far (p := ⟨gb109, 2, none⟩) (by first | (rw [add_block]; exact hn110_2) | (show (Addr.add _ _).block ≠ _; rw [add_block]; exact hn110_2) | exact hn110_2) (.slice A108_2 ((rd_T83 l1 x11_1).f2).length c108_2)).trans hx110_2
                                (try have hy110_0 := fun (n_ : Nat) => (show (((((w7.drewN n_).setCell ⟨gb109, 0, none⟩ (.int .i64 ((rd_T83 l1 x11_1).f0))).setCell ⟨gb109, 1, none⟩ (.int .i64 ((rd_T83 l1 x11_1).f1))).setCell ⟨gb109, 2, none⟩ (.slice A108_2 ((rd_T83 l1 x11_1).f2).length c108_2))).cell? _ = some _ from hx110_0))
                                (try have hy110_1 := fun (n_ : Nat) => (show (((((w7.drewN n_).setCell ⟨gb109, 0, none⟩ (.int .i64 ((rd_T83 l1 x11_1).f0))).setCell ⟨gb109, 1, none⟩ (.int .i64 ((rd_T83 l1 x11_1).f1))).setCell ⟨gb109, 2, none⟩ (.slice A108_2 ((rd_T83 l1 x11_1).f2).length c108_2))).cell? _ = some _ from hx110_1))
                                (try have hy110_2 := fun (n_ : Nat) => (show (((((w7.drewN n_).setCell ⟨gb109, 0, none⟩ (.int .i64 ((rd_T83 l1 x11_1).f0))).setCell ⟨gb109, 1, none⟩ (.int .i64 ((rd_T83 l1 x11_1).f1))).setCell ⟨gb109, 2, none⟩ (.slice A108_2 ((rd_T83 l1 x11_1).f2).length c108_2))).cell? _ = some _ from hx110_2))
                                clear hn110_0
                                clear hn110_1
                                clear hn110_2
                                replace p110 := eq_true p110
                                replace q110 := eq_true q110
                                have p111 : 0 ≤ ((ji22) : Int) := of_decide_eq_true (by first | (with_reducible assumption) | assumption)
                                have q111 : (ji22) < (l1.length : Int) := of_decide_eq_true (by first | (with_reducible assumption) | assumption)
                                obtain ⟨ad111, A111_2, c111_2, e111, hx111_0, hx111_1, hx111_2, hl111_2, hi111_2⟩ := at_T83 HR1.out (ji22) p111 q111
                                obtain rfl : ad108 = ad111 := (by injection e111)
                                have hn111_0 : ad108.block ≠ gb109 := Nat.ne_of_lt (Nat.lt_of_lt_of_le (by have := World.block_lt_of_cell? _ _ hx111_0; first | rwa [add_block] at this | exact this) GW109.out)
                                have hn111_1 : ad108.block ≠ gb109 := Nat.ne_of_lt (Nat.lt_of_lt_of_le (by have := World.block_lt_of_cell? _ _ hx111_0; first | rwa [add_block] at this | exact this) GW109.out)
                                have hn111_2 : ad108.block ≠ gb109 := Nat.ne_of_lt (Nat.lt_of_lt_of_le (by have := World.block_lt_of_cell? _ _ hx111_0; first | rwa [add_block] at this | exact this) GW109.out)
                                replace hx111_0 := (HB.out.cell (World.block_lt_of_cell? w _ hx111_0)).trans hx111_0
                                replace hx111_1 := (HB.out.cell (World.block_lt_of_cell? w _ hx111_1)).trans hx111_1
                                replace hx111_2 := (HB.out.cell (World.block_lt_of_cell? w _ hx111_2)).trans hx111_2
                                have HR111_2 := Aside0.mk hi111_2
                                have HC111_2 := Aside0.mk hl111_2
                                clear hi111_2 hl111_2
                                replace hx111_0 := (cell_far (p := ⟨gb109, 0, none⟩) (by first | (rw [add_block]; exact hn111_0) | (show (Addr.add _ _).block ≠ _; rw [add_block]; exact hn111_0) | exact hn111_0) (.int .i64 ((rd_T83 l1 x11_1).f0))).trans hx111_0
                                replace hx111_1 := (cell_far (p := ⟨gb109, 0, none⟩) (by first | (rw [add_block]; exact hn111_0) | (show (Addr.add _ _).block ≠ _; rw [add_block]; exact hn111_0) | exact hn111_0) (.int .i64 ((rd_T83 l1 x11_1).f0))).trans hx111_1
                                replace hx111_2 := (cell_far (p := ⟨gb109, 0, none⟩) (by first | (rw [add_block]; exact hn111_0) | (show (Addr.add _ _).block ≠ _; rw [add_block]; exact hn111_0) | exact hn111_0) (.int .i64 ((rd_T83 l1 x11_1).f0))).trans hx111_2
                                replace hx111_0 := (cell_far (p := ⟨gb109, 1, none⟩) (by first | (rw [add_block]; exact hn111_1) | (show (Addr.add _ _).block ≠ _; rw [add_block]; exact hn111_1) | exact hn111_1) (.int .i64 ((rd_T83 l1 x11_1).f1))).trans hx111_0
                                replace hx111_1 := (cell_far (p := ⟨gb109, 1, none⟩) (by first | (rw [add_block]; exact hn111_1) | (show (Addr.add _ _).block ≠ _; rw [add_block]; exact hn111_1) | exact hn111_1) (.int .i64 ((rd_T83 l1 x11_1).f1))).trans hx111_1
                                replace hx111_2 := (cell_far (p := ⟨gb109, 1, none⟩) (by first | (rw [add_block]; exact hn111_1) | (show (Addr.add _ _).block ≠ _; rw [add_block]; exact hn111_1) | exact hn111_1) (.int .i64 ((rd_T83 l1 x11_1).f1))).trans hx111_2
                                replace hx111_0 := (cell_far (p := ⟨gb109, 2, none⟩) (by first | (rw [add_block]; exact hn111_2) | (show (Addr.add _ _).block ≠ _; rw [add_block]; exact hn111_2) | exact hn111_2) (.slice A108_2 ((rd_T83 l1 x11_1).f2).length c108_2)).trans hx111_0
                                replace hx111_1 := (cell_far (p := ⟨gb109, 2, none⟩) (by first | (rw [add_block]; exact hn111_2) | (show (Addr.add _ _).block ≠ _; rw [add_block]; exact hn111_2) | exact hn111_2) (.slice A108_2 ((rd_T83 l1 x11_1).f2).length c108_2)).trans hx111_1
                                replace hx111_2 := (cell_far (p := ⟨gb109, 2, none⟩) (by first | (rw [add_block]; exact hn111_2) | (show (Addr.add _ _).block ≠ _; rw [add_block]; exact hn111_2) | exact hn111_2) (.slice A108_2 ((rd_T83 l1 x11_1).f2).length c108_2)).trans hx111_2
                                (try have hy111_0 := fun (n_ : Nat) => (show (((((w7.drewN n_).setCell ⟨gb109, 0, none⟩ (.int .i64 ((rd_T83 l1 x11_1).f0))).setCell ⟨gb109, 1, none⟩ (.int .i64 ((rd_T83 l1 x11_1).f1))).setCell ⟨gb109, 2, none⟩ (.slice A108_2 ((rd_T83 l1 x11_1).f2).length c108_2))).cell? _ = some _ from hx111_0))
                                (try have hy111_1 := fun (n_ : Nat) => (show (((((w7.drewN n_).setCell ⟨gb109, 0, none⟩ (.int .i64 ((rd_T83 l1 x11_1).f0))).setCell ⟨gb109, 1, none⟩ (.int .i64 ((rd_T83 l1 x11_1).f1))).setCell ⟨gb109, 2, none⟩ (.slice A108_2 ((rd_T83 l1 x11_1).f2).length c108_2))).cell? _ = some _ from hx111_1))
                                (try have hy111_2 := fun (n_ : Nat) => (show (((((w7.drewN n_).setCell ⟨gb109, 0, none⟩ (.int .i64 ((rd_T83 l1 x11_1).f0))).setCell ⟨gb109, 1, none⟩ (.int .i64 ((rd_T83 l1 x11_1).f1))).setCell ⟨gb109, 2, none⟩ (.slice A108_2 ((rd_T83 l1 x11_1).f2).length c108_2))).cell? _ = some _ from hx111_2))
                                clear hn111_0
                                clear hn111_1
                                clear hn111_2
                                replace p111 := eq_true p111
                                replace q111 := eq_true q111
                                go_wp2
                                repeat (go_quiet (fail); try go_wp2)
                                go_meet
                                case rel => exact ⟨_, (decide (((rd_T83 l1 x11_1).f0) ≤ (wrap64 (((rd_T83 l1 (ji22)).f0) + ((rd_T83 l1 (ji22)).f1))))), (by first | rfl | (simp; done) | (simp only [← hji22] <;> (first | rfl | simp)) | (simp [*]; done)), H', ⟨by have := HK1.out; first | omega | exact Nat.le_refl _⟩, ⟨by (with_reducible repeat (first | refine blk_drewN ?_ _ | refine blk_drew ?_ | refine blk_alloc ?_ _)); refine blk_put (cs := #[.int .i64 ((rd_T83 l1 x11_1).f0), .int .i64 ((rd_T83 l1 x11_1).f1), .slice none 0 0]) ?_ 2 _ rfl; (with_reducible repeat (first | refine blk_drewN ?_ _ | refine blk_drew ?_ | refine blk_alloc ?_ _)); refine blk_put (cs := #[.int .i64 ((rd_T83 l1 x11_1).f0), .int .i64 0, .slice none 0 0]) ?_ 1 _ rfl; (with_reducible repeat (first | refine blk_drewN ?_ _ | refine blk_drew ?_ | refine blk_alloc ?_ _)); refine blk_put (cs := #[.int .i64 0, .int .i64 0, .slice none 0 0]) ?_ 0 _ rfl; (with_reducible repeat (first | refine blk_drewN ?_ _ | refine blk_drew ?_ | refine blk_alloc ?_ _)); exact BK109.out⟩, ⟨by repeat (first | (with_reducible first | exact HB.out | apply below_alloc | apply pw_below_drewN | apply below_drew1 | refine below_set ?_ GE109.out) | exact HB.out)⟩⟩
                              · rw [if_neg c24] at H
                                exact absurd H (by simp)
                            · rw [if_neg c23] at H
                              exact absurd H (by simp)
                          · rw [if_neg c21] at H
                            have c21b0 : decide (0 < x11_1) = false := decide_eq_false c21
                            clear c21
                            have H' := Aside0.mk H
                            clear H
                            have hcz26_0 : w7.cell? ⟨gb109, 0, none⟩ = some (.int .i64 0) := (blk_cell BK109.out 0).trans rfl
                            have hcz26_1 : w7.cell? ⟨gb109, 1, none⟩ = some (.int .i64 0) := (blk_cell BK109.out 1).trans rfl
                            have hcz26_2 : w7.cell? ⟨gb109, 2, none⟩ = some (.slice none 0 0) := (blk_cell BK109.out 2).trans rfl
                            have hfz26_0 := blk_frozen BK109.out 0
                            have hfz26_1 := blk_frozen BK109.out 1
                            have hfz26_2 := blk_frozen BK109.out 2
                            go_wp2
                            repeat (go_quiet (fail); try go_wp2)
                            go_meet
                            case rel => exact ⟨_, (false), (by first | rfl | (simp; done) | (simp [*]; done)), H', ⟨by have := HK1.out; first | omega | exact Nat.le_refl _⟩, ⟨by (with_reducible repeat (first | refine blk_drewN ?_ _ | refine blk_drew ?_ | refine blk_alloc ?_ _)); refine blk_put (cs := #[.int .i64 ((rd_T83 l1 x11_1).f0), .int .i64 ((rd_T83 l1 x11_1).f1), .slice none 0 0]) ?_ 2 _ rfl; (with_reducible repeat (first | refine blk_drewN ?_ _ | refine blk_drew ?_ | refine blk_alloc ?_ _)); refine blk_put (cs := #[.int .i64 ((rd_T83 l1 x11_1).f0), .int .i64 0, .slice none 0 0]) ?_ 1 _ rfl; (with_reducible repeat (first | refine blk_drewN ?_ _ | refine blk_drew ?_ | refine blk_alloc ?_ _)); refine blk_put (cs := #[.int .i64 0, .int .i64 0, .slice none 0 0]) ?_ 0 _ rfl; (with_reducible repeat (first | refine blk_drewN ?_ _ | refine blk_drew ?_ | refine blk_alloc ?_ _)); exact BK109.out⟩, ⟨by repeat (first | (with_reducible first | exact HB.out | apply below_alloc | apply pw_below_drewN | apply below_drew1 | refine below_set ?_ GE109.out) | exact HB.out)⟩⟩
            case rest =>
              clear HC6
              try clear c1
              try clear p1
              try clear q1
              try clear hx1
              try clear c2
              try clear p2
              try clear c3
              try clear c3b0
              try clear c4
              try clear c4b0
              try clear c5
              try clear c5b0
              try clear c6
              try clear p6
              try clear c9
              try clear c9b0
              try clear c10
              try clear p10
              try clear q10
              try clear hx10
              try clear c11
              try clear c11b0
              try clear p11
              try clear q11
              try clear hx11
              try clear c13
              try clear c13b0
              try clear c15
              try clear c15b0
              try clear c17
              try clear c17b0
              try clear c17b1
              try clear c19
              try clear c19b0
              try clear c19b1
              try clear c21
              try clear c21b0
              try clear c23
              try clear c23b0
              try clear c24
              try clear c24b0
              try clear hcz10_0
              try clear hcz10_1
              try clear hcz10_2
              try clear hcz12_0
              try clear hcz12_1
              try clear hcz12_2
              try clear hcz14_0
              try clear hcz14_1
              try clear hcz14_2
              try clear hcz16_0
              try clear hcz16_1
              try clear hcz16_2
              try clear hcz18_0
              try clear hcz18_1
              try clear hcz18_2
              try clear hcz20_0
              try clear hcz20_1
              try clear hcz20_2
              try clear hcz25_0
              try clear hcz25_1
              try clear hcz25_2
              try clear hcz26_0
              try clear hcz26_1
              try clear hcz26_2
              try clear hcz8_0
              try clear hcz8_1
              try clear hcz8_2
              try clear hfz10_0
              try clear hfz10_1
              try clear hfz10_2
              try clear hfz12_0
              try clear hfz12_1
              try clear hfz12_2
              try clear hfz14_0
              try clear hfz14_1
              try clear hfz14_2
              try clear hfz16_0
              try clear hfz16_1
              try clear hfz16_2
              try clear hfz18_0
              try clear hfz18_1
              try clear hfz18_2
              try clear hfz20_0
              try clear hfz20_1
              try clear hfz20_2
              try clear hfz25_0
              try clear hfz25_1
              try clear hfz25_2
              try clear hfz26_0
              try clear hfz26_1
              try clear hfz26_2
              try clear hfz8_0
              try clear hfz8_1
              try clear hfz8_2
              try clear hx108_0
              try clear hx108_1
              try clear hx108_2
              try clear hx110_0
              try clear hx110_1
              try clear hx110_2
              try clear hx111_0
              try clear hx111_1
              try clear hx111_2
              try clear p108
              try clear p110
              try clear p111
              try clear p2
              try clear q108
              try clear q110
              try clear q111
              obtain ⟨kq, x75_5, rfl, HA, HJ5, BK109, HB⟩ := hcut
              cases kq with
              | zero => exact absurd HA.out (by simp [spec_l2Hunks.j1])
              | succ kj5 =>
                have H := HA.out
                clear HA
                simp only [spec_l2Hunks.j1] at H
                by_cases c27 : x75_5 = true
                · subst c27
                  have H1 : (some false) = some r := by rw [if_pos rfl] at H; exact H
                  clear H
                  have H := H1
                  clear H1
                  obtain rfl := Option.some.inj H
                  go_wp2
                  repeat (go_quiet (fail); try go_wp2)
                  go_ret
                  exact ⟨by first | rfl | (simp [errW_none, errW_some] <;> rfl) | (simp [*, errW_none, errW_some] <;> rfl), by repeat (first | (with_reducible first | exact HB.out | apply below_alloc | apply pw_below_drewN | apply below_drew1 | refine below_set ?_ GE109.out) | exact HB.out)⟩
                · replace c27 := Bool.eq_false_iff.mpr c27
                  subst c27
                  have H1 : (spec_l2Hunks.l1 kj5 a0 l1 l1 (l1.length : Int) x11_1 ((rd_T83 l1 x11_1).f2) (((rd_T83 l1 x11_1).f2).length : Int) 0) = some r := by rw [if_neg (show ¬ (false = true) by decide)] at H; exact H
                  clear H
                  have H := H1
                  clear H1
                  have H' := Aside0.mk H
                  clear H
                  have hcz28_0 : wc.cell? ⟨gb109, 0, none⟩ = some (.int .i64 ((rd_T83 l1 x11_1).f0)) := (blk_cell BK109.out 0).trans rfl
                  have hcz28_1 : wc.cell? ⟨gb109, 1, none⟩ = some (.int .i64 ((rd_T83 l1 x11_1).f1)) := (blk_cell BK109.out 1).trans rfl
                  have hcz28_2 : wc.cell? ⟨gb109, 2, none⟩ = some (.slice A108_2 ((rd_T83 l1 x11_1).f2).length c108_2) := (blk_cell BK109.out 2).trans rfl
                  have hfz28_0 := blk_frozen BK109.out 0
                  have hfz28_1 := blk_frozen BK109.out 1
                  have hfz28_2 := blk_frozen BK109.out 2
                  go_wp2
                  repeat (go_quiet (fail); try go_wp2)
                  go_loopg [79] kj5 (fun kq v79 w' => ∃ (x79_3 : Int), v79 = .int .i64 x79_3 ∧ Aside0 (spec_l2Hunks.l1 kq a0 l1 l1 (l1.length : Int) x11_1 ((rd_T83 l1 x11_1).f2) (((rd_T83 l1 x11_1).f2).length : Int) x79_3 = some r) ∧ Aside0 (kq ≤ kj5) ∧ Aside0 (w'.heap[gb109]? = some (.cells #[.int .i64 ((rd_T83 l1 x11_1).f0), .int .i64 ((rd_T83 l1 x11_1).f1), (.slice A108_2 ((rd_T83 l1 x11_1).f2).length c108_2)] 83 (0, 0))) ∧ Aside0 (Below w.heap.size w w'))
                  case atStart => exact ⟨(0), (by first | rfl | (simp; done) | (simp [*]; done)), H', ⟨Nat.le_refl _⟩, ⟨by (with_reducible repeat (first | refine blk_drewN ?_ _ | refine blk_drew ?_ | refine blk_alloc ?_ _)); exact BK109.out⟩, ⟨by repeat (first | (with_reducible first | exact HB.out | apply below_alloc | apply pw_below_drewN | apply below_drew1 | refine below_set ?_ GE109.out) | exact HB.out)⟩⟩
                  case round =>
                    clear H'
                    try clear c1
                    try clear p1
                    try clear q1
                    try clear hx1
                    try clear c2
                    try clear p2
                    try clear c3
                    try clear c3b0
                    try clear c4
                    try clear c4b0
                    try clear c5
                    try clear c5b0
                    try clear c6
                    try clear p6
                    try clear c9
                    try clear c9b0
                    try clear c10
                    try clear p10
                    try clear q10
                    try clear hx10
                    try clear c11
                    try clear c11b0
                    try clear p11
                    try clear q11
                    try clear hx11
                    try clear c13
                    try clear c13b0
                    try clear c15
                    try clear c15b0
                    try clear c17
                    try clear c17b0
                    try clear c17b1
                    try clear c19
                    try clear c19b0
                    try clear c19b1
                    try clear c21
                    try clear c21b0
                    try clear c23
                    try clear c23b0
                    try clear c24
                    try clear c24b0
                    try clear c27
                    try clear hcz10_0
                    try clear hcz10_1
                    try clear hcz10_2
                    try clear hcz12_0
                    try clear hcz12_1
                    try clear hcz12_2
                    try clear hcz14_0
                    try clear hcz14_1
                    try clear hcz14_2
                    try clear hcz16_0
                    try clear hcz16_1
                    try clear hcz16_2
                    try clear hcz18_0
                    try clear hcz18_1
                    try clear hcz18_2
                    try clear hcz20_0
                    try clear hcz20_1
                    try clear hcz20_2
                    try clear hcz25_0
                    try clear hcz25_1
                    try clear hcz25_2
                    try clear hcz26_0
                    try clear hcz26_1
                    try clear hcz26_2
                    try clear hcz28_0
                    try clear hcz28_1
                    try clear hcz28_2
                    try clear hcz8_0
                    try clear hcz8_1
                    try clear hcz8_2
                    try clear hfz10_0
                    try clear hfz10_1
                    try clear hfz10_2
                    try clear hfz12_0
                    try clear hfz12_1
                    try clear hfz12_2
                    try clear hfz14_0
                    try clear hfz14_1
                    try clear hfz14_2
                    try clear hfz16_0
                    try clear hfz16_1
                    try clear hfz16_2
                    try clear hfz18_0
                    try clear hfz18_1
                    try clear hfz18_2
                    try clear hfz20_0
                    try clear hfz20_1
                    try clear hfz20_2
                    try clear hfz25_0
                    try clear hfz25_1
                    try clear hfz25_2
                    try clear hfz26_0
                    try clear hfz26_1
                    try clear hfz26_2
                    try clear hfz28_0
                    try clear hfz28_1
                    try clear hfz28_2
                    try clear hfz8_0
                    try clear hfz8_1
                    try clear hfz8_2
                    try clear hx108_0
                    try clear hx108_1
                    try clear hx108_2
                    try clear hx110_0
                    try clear hx110_1
                    try clear hx110_2
                    try clear hx111_0
                    try clear hx111_1
                    try clear hx111_2
                    try clear p1
                    try clear p10
                    try clear p108
                    try clear p11
                    try clear p110
                    try clear p111
                    try clear p2
                    try clear p6
                    try clear q1
                    try clear q10
                    try clear q108
                    try clear q11
                    try clear q110
                    try clear q111
                    obtain ⟨x79_3, rfl, HA, HK3, BK109, HB⟩ := hrel
                    cases gk with
                    | zero => exact absurd HA.out (by simp [spec_l2Hunks.l1])
                    | succ k3 =>
                      have H := HA.out
                      clear HA
                      simp only [spec_l2Hunks.l1] at H
                      by_cases c29 : x79_3 < (((rd_T83 l1 x11_1).f2).length : Int)
                      · rw [if_pos c29] at H
                        have c29b0 : decide (x79_3 < (((rd_T83 l1 x11_1).f2).length : Int)) = true := decide_eq_true c29
                        clear c29
                        by_cases c30 : 0 ≤ x79_3
                        · rw [if_pos c30] at H
                          have c30b0 : decide (0 ≤ x79_3) = true := decide_eq_true c30
                          clear c30
                          by_cases c31 : x79_3 < (((rd_T83 l1 x11_1).f2).length : Int)
                          · rw [if_pos c31] at H
                            have c31b0 : decide (x79_3 < (((rd_T83 l1 x11_1).f2).length : Int)) = true := decide_eq_true c31
                            clear c31
                            replace H := Option.bind_eq_some_iff.mp H
                            obtain ⟨t113, A320, H⟩ := H
                            replace H : (if t113 = true then (spec_l2Hunks.l1 k3 a0 l1 l1 (l1.length : Int) x11_1 ((rd_T83 l1 x11_1).f2) (((rd_T83 l1 x11_1).f2).length : Int) (wrap64 (x79_3 + 1))) else (some false)) = some r := H
                            have A32 := Aside0.mk A320
                            clear A320
                            by_cases c33 : t113 = true
                            · subst c33
                              have H1 : (spec_l2Hunks.l1 k3 a0 l1 l1 (l1.length : Int) x11_1 ((rd_T83 l1 x11_1).f2) (((rd_T83 l1 x11_1).f2).length : Int) (wrap64 (x79_3 + 1))) = some r := by rw [if_pos rfl] at H; exact H
                              clear H
                              have H := H1
                              clear H1
                              have H' := Aside0.mk H
                              clear H
                              have p112 : 0 ≤ (x79_3 : Int) := of_decide_eq_true (by first | (with_reducible assumption) | assumption)
                              have q112 : x79_3 < (((rd_T83 l1 x11_1).f2).length : Int) := of_decide_eq_true (by first | (with_reducible assumption) | assumption)
                              obtain ⟨ad112, e112, hx112_0⟩ := Kd.at_string HR108_2.out x79_3 p112 q112
                              cases e112
                              replace hx112_0 := (HB.out.cell (World.block_lt_of_cell? w _ hx112_0)).trans hx112_0
                              replace p112 := eq_true p112
                              replace q112 := eq_true q112
                              go_wp2_with (first | (go_at_call 87; (with_reducible refine (spec_l1Line.calls k3 (rdOf ByteArray.empty ((rd_T83 l1 x11_1).f2) x79_3) true _ A32.out).mono ?_); rintro e w' ⟨rfl, ⟨nd, rfl⟩⟩; (try first | exact ⟨rfl, _, World.drewN_drewN _ _ _⟩ | exact ⟨rfl, _, Eq.trans (World.drewN_drewN _ _ _) (congrArg (World.drewN _) (Nat.add_assoc _ _ _))⟩)))
                              repeat (go_quiet (first | (go_at_call 87; (with_reducible refine (spec_l1Line.calls k3 (rdOf ByteArray.empty ((rd_T83 l1 x11_1).f2) x79_3) true _ A32.out).mono ?_); rintro e w' ⟨rfl, ⟨nd, rfl⟩⟩; (try first | exact ⟨rfl, _, World.drewN_drewN _ _ _⟩ | exact ⟨rfl, _, Eq.trans (World.drewN_drewN _ _ _) (congrArg (World.drewN _) (Nat.add_assoc _ _ _))⟩))); try go_wp2_with (first | (go_at_call 87; (with_reducible refine (spec_l1Line.calls k3 (rdOf ByteArray.empty ((rd_T83 l1 x11_1).f2) x79_3) true _ A32.out).mono ?_); rintro e w' ⟨rfl, ⟨nd, rfl⟩⟩; (try first | exact ⟨rfl, _, World.drewN_drewN _ _ _⟩ | exact ⟨rfl, _, Eq.trans (World.drewN_drewN _ _ _) (congrArg (World.drewN _) (Nat.add_assoc _ _ _))⟩))))
                              go_roundg k3
                              case measure => have := HK1.out; have := HJ5.out; have := HK3.out; omega
                              case rel => exact ⟨(wrap64 (x79_3 + 1)), (by first | rfl | (simp; done) | (simp [*]; done)), H', ⟨by have := HK1.out; have := HJ5.out; have := HK3.out; omega⟩, ⟨by (with_reducible repeat (first | refine blk_drewN ?_ _ | refine blk_drew ?_ | refine blk_alloc ?_ _)); exact BK109.out⟩, ⟨by repeat (first | (with_reducible first | exact HB.out | apply below_alloc | apply pw_below_drewN | apply below_drew1 | refine below_set ?_ GE109.out) | exact HB.out)⟩⟩
                            · replace c33 := Bool.eq_false_iff.mpr c33
                              subst c33
                              have H1 : (some false) = some r := by rw [if_neg (show ¬ (false = true) by decide)] at H; exact H
                              clear H
                              have H := H1
                              clear H1
                              obtain rfl := Option.some.inj H
                              have p112 : 0 ≤ (x79_3 : Int) := of_decide_eq_true (by first | (with_reducible assumption) | assumption)
                              have q112 : x79_3 < (((rd_T83 l1 x11_1).f2).length : Int) := of_decide_eq_true (by first | (with_reducible assumption) | assumption)
                              obtain ⟨ad112, e112, hx112_0⟩ := Kd.at_string HR108_2.out x79_3 p112 q112
                              cases e112
                              replace hx112_0 := (HB.out.cell (World.block_lt_of_cell? w _ hx112_0)).trans hx112_0
                              replace p112 := eq_true p112
                              replace q112 := eq_true q112
                              go_wp2_with (first | (go_at_call 87; (with_reducible refine (spec_l1Line.calls k3 (rdOf ByteArray.empty ((rd_T83 l1 x11_1).f2) x79_3) false _ A32.out).mono ?_); rintro e w' ⟨rfl, ⟨nd, rfl⟩⟩; (try first | exact ⟨rfl, _, World.drewN_drewN _ _ _⟩ | exact ⟨rfl, _, Eq.trans (World.drewN_drewN _ _ _) (congrArg (World.drewN _) (Nat.add_assoc _ _ _))⟩)))
                              repeat (go_quiet (first | (go_at_call 87; (with_reducible refine (spec_l1Line.calls k3 (rdOf ByteArray.empty ((rd_T83 l1 x11_1).f2) x79_3) false _ A32.out).mono ?_); rintro e w' ⟨rfl, ⟨nd, rfl⟩⟩; (try first | exact ⟨rfl, _, World.drewN_drewN _ _ _⟩ | exact ⟨rfl, _, Eq.trans (World.drewN_drewN _ _ _) (congrArg (World.drewN _) (Nat.add_assoc _ _ _))⟩))); try go_wp2_with (first | (go_at_call 87; (with_reducible refine (spec_l1Line.calls k3 (rdOf ByteArray.empty ((rd_T83 l1 x11_1).f2) x79_3) false _ A32.out).mono ?_); rintro e w' ⟨rfl, ⟨nd, rfl⟩⟩; (try first | exact ⟨rfl, _, World.drewN_drewN _ _ _⟩ | exact ⟨rfl, _, Eq.trans (World.drewN_drewN _ _ _) (congrArg (World.drewN _) (Nat.add_assoc _ _ _))⟩))))
                              go_ret
                              exact ⟨by first | rfl | (simp [errW_none, errW_some] <;> rfl) | (simp [*, errW_none, errW_some] <;> rfl), by repeat (first | (with_reducible first | exact HB.out | apply below_alloc | apply pw_below_drewN | apply below_drew1 | refine below_set ?_ GE109.out) | exact HB.out)⟩
                          · rw [if_neg c31] at H
                            exact absurd H (by simp)
                        · rw [if_neg c30] at H
                          exact absurd H (by simp)
                      · rw [if_neg c29] at H
                        have c29b0 : decide (x79_3 < (((rd_T83 l1 x11_1).f2).length : Int)) = false := decide_eq_false c29
                        clear c29
                        have H' := Aside0.mk H
                        clear H
                        go_wp2
                        repeat (go_quiet (fail); try go_wp2)
                        go_roundg k3
                        case measure => have := HK1.out; have := HJ5.out; have := HK3.out; omega
                        case rel => exact ⟨(wrap64 (x11_1 + 1)), (by first | rfl | (simp; done) | (simp [*]; done)), H', ⟨by have := HK1.out; have := HJ5.out; have := HK3.out; omega⟩, ⟨by repeat (first | (with_reducible first | exact HB.out | apply below_alloc | apply pw_below_drewN | apply below_drew1 | refine below_set ?_ GE109.out) | exact HB.out)⟩⟩
          · rw [if_neg c5] at H
            exact absurd H (by simp)
        · rw [if_neg c4] at H
          exact absurd H (by simp)
      · rw [if_neg c3] at H
        have c3b0 : decide (x11_1 < (l1.length : Int)) = false := decide_eq_false c3
        clear c3
        by_cases c34 : (l1.length : Int) ≤ 20
        · rw [if_pos c34] at H
          have c34b0 : decide ((l1.length : Int) ≤ 20) = true := decide_eq_true c34
          have c34b1 : decide (l1.length ≤ 20) = true := decide_eq_true (by omega)
          clear c34
          replace H := Option.bind_eq_some_iff.mp H
          obtain ⟨t107, A350, H⟩ := H
          replace H : (some t107) = some r := H
          have A35 := Aside0.mk A350
          clear A350
          obtain rfl := Option.some.inj H
          go_wp2_with (first | (go_at_call 75; (with_reducible refine (spec_l1In.calls a0 0 40 t107 _ A35.out).mono ?_); rintro e w' ⟨rfl, ⟨nd, rfl⟩⟩; (try first | exact ⟨rfl, _, World.drewN_drewN _ _ _⟩ | exact ⟨rfl, _, Eq.trans (World.drewN_drewN _ _ _) (congrArg (World.drewN _) (Nat.add_assoc _ _ _))⟩)))
          repeat (go_quiet (first | (go_at_call 75; (with_reducible refine (spec_l1In.calls a0 0 40 t107 _ A35.out).mono ?_); rintro e w' ⟨rfl, ⟨nd, rfl⟩⟩; (try first | exact ⟨rfl, _, World.drewN_drewN _ _ _⟩ | exact ⟨rfl, _, Eq.trans (World.drewN_drewN _ _ _) (congrArg (World.drewN _) (Nat.add_assoc _ _ _))⟩))); try go_wp2_with (first | (go_at_call 75; (with_reducible refine (spec_l1In.calls a0 0 40 t107 _ A35.out).mono ?_); rintro e w' ⟨rfl, ⟨nd, rfl⟩⟩; (try first | exact ⟨rfl, _, World.drewN_drewN _ _ _⟩ | exact ⟨rfl, _, Eq.trans (World.drewN_drewN _ _ _) (congrArg (World.drewN _) (Nat.add_assoc _ _ _))⟩))))
          go_ret
          exact ⟨by first | rfl | (simp [errW_none, errW_some] <;> rfl) | (simp [*, errW_none, errW_some] <;> rfl), by repeat (first | (with_reducible first | exact HB.out | apply below_alloc | apply pw_below_drewN | apply below_drew1) | exact HB.out)⟩
        · rw [if_neg c34] at H
          have c34b0 : decide ((l1.length : Int) ≤ 20) = false := decide_eq_false c34
          have c34b1 : decide (l1.length ≤ 20) = false := decide_eq_false (by omega)
          clear c34
          obtain rfl := Option.some.inj H
          go_wp2
          repeat (go_quiet (fail); try go_wp2)
          go_ret
          exact ⟨by first | rfl | (simp [errW_none, errW_some] <;> rfl) | (simp [*, errW_none, errW_some] <;> rfl), by repeat (first | (with_reducible first | exact HB.out | apply below_alloc | apply pw_below_drewN | apply below_drew1) | exact HB.out)⟩

end Go.Proofs.Ytbbkecdlapemfaa.My

/- Written by this session's program (wip/gen): a plain function with the same answers as the Go function, and the proof that the Go code comes to them. Asked: that the plain function has an answer. -/
namespace Go.Proofs.Ytbbkecdlapemfaa.My
open Go.RowKit Go.Proofs.YtbbkecdlapemfaaW.PrintWords Go.Proofs.YtbbkecdlapemfaaW.PrintLast Go.Proofs.YtbbkecdlapemfaaW.PrintMore
attribute [local go_sem] max2_int min2_int max_two min_two max_three min_three max_four min_four
set_option linter.unusedVariables false
set_option linter.unusedSimpArgs false

/-! ### spec_l2Place: function 76 -/
def spec_l2Place.l0 : Nat → Int → Int → List (S83) → Int → Int → Option (Int)
  | 0, _, _, _, _, _ => none
  | k + 1, x1, x5, x8, x9, x10 => if x10 < x9 then (if 0 ≤ x10 then (if x10 < (x8.length : Int) then (if (wrap64 (((rd_T83 x8 x10).f0) + ((rd_T83 x8 x10).f1))) ≤ x1 then (spec_l2Place.l0 k x1 (wrap64 (x5 + (wrap64 ((((rd_T83 x8 x10).f2).length : Int) - ((rd_T83 x8 x10).f1))))) x8 x9 (wrap64 (x10 + 1))) else (if ((rd_T83 x8 x10).f0) ≤ x1 then (some (-1)) else (spec_l2Place.l0 k x1 x5 x8 x9 (wrap64 (x10 + 1))))) else (none)) else (none)) else (some (wrap64 (x1 + x5)))
def spec_l2Place.f (k : Nat) (l0 : List (S83)) (a1 : Int) : Option (Int) := spec_l2Place.l0 k a1 0 l0 (l0.length : Int) 0
theorem spec_l2Place.mono_l : ∀ k, (∀ y0 y1 y2 y3 y4, LeO (spec_l2Place.l0 k y0 y1 y2 y3 y4) (spec_l2Place.l0 (k + 1) y0 y1 y2 y3 y4))
  | 0 => fun _ _ _ _ _ r h => by simp [spec_l2Place.l0] at h
  | k + 1 => by
    have ih0 := spec_l2Place.mono_l k
    · intro y0 y1 y2 y3 y4
      unfold spec_l2Place.l0
      repeat' first
      | (with_reducible exact ih0 _ _ _ _ _)
      | (with_reducible exact LeO.refl _)
      | (with_reducible exact LeO.none _)
      | (with_reducible refine LeO.ite ?_ ?_)
      | (with_reducible refine LeO.bind ?_ (fun _ => ?_))
      | exact ih0 _ _ _ _ _
      | exact LeO.none _
      | refine LeO.ite ?_ ?_
      | refine LeO.bind ?_ (fun _ => ?_)
theorem spec_l2Place.mono : ∀ a0 a1 k, LeO (spec_l2Place.f k a0 a1) (spec_l2Place.f (k + 1) a0 a1) := by
  intro a0 a1 k
  have ih0 := spec_l2Place.mono_l k
  unfold spec_l2Place.f
  repeat' first
      | (with_reducible exact ih0 _ _ _ _ _)
      | (with_reducible exact LeO.refl _)
      | (with_reducible exact LeO.none _)
      | (with_reducible refine LeO.ite ?_ ?_)
      | (with_reducible refine LeO.bind ?_ (fun _ => ?_))
      | exact ih0 _ _ _ _ _
      | exact LeO.none _
      | refine LeO.ite ?_ ?_
      | refine LeO.bind ?_ (fun _ => ?_)
set_option maxHeartbeats 8000000 in
set_option maxRecDepth 100000 in
theorem spec_l2Place.calls (k : Nat) (A0 : Option Addr) (c0 : Nat) (l0 : List (S83)) (a1 : Int) (r : Int) (w : World) (hr0 : Kd.C k83 w A0 l0.length l0) (hc0 : l0.length ≤ c0) (h : spec_l2Place.f k l0 a1 = some r) :
    Calls Try.prog 76 #[.slice A0 l0.length c0, .int .i64 a1] w fun e w' => e = .returned (.int .i64 r) ∧ Below w.heap.size w w' := by
  have hu83 := Try.underlying83
  have HR0 := Aside0.mk hr0
  have HC0 := Aside0.mk hc0
  clear hr0 hc0
  have HB := Aside0.mk (Below.refl w.heap.size w)
  have H : (spec_l2Place.l0 k a1 0 l0 (l0.length : Int) 0) = some r := h
  clear h
  have H' := Aside0.mk H
  clear H
  go_enter Try.func76, Try.ntmps76
  go_wp2
  go_loopg [5, 10] k (fun kq v5 v10 w' => ∃ (x5_1 : Int) (x10_1 : Int), v5 = .int .i64 x5_1 ∧ v10 = .int .i64 x10_1 ∧ Aside0 (spec_l2Place.l0 kq a1 x5_1 l0 (l0.length : Int) x10_1 = some r) ∧ Aside0 (kq ≤ k) ∧ Aside0 (Below w.heap.size w w'))
  case atStart => exact ⟨(0), (0), (by first | rfl | (simp; done) | (simp [*]; done)), (by first | rfl | (simp; done) | (simp [*]; done)), H', ⟨Nat.le_refl _⟩, ⟨by repeat (first | (with_reducible first | exact HB.out | apply below_alloc | apply pw_below_drewN | apply below_drew1) | exact HB.out)⟩⟩
  case round =>
    clear H'
    try clear p2
    obtain ⟨x5_1, x10_1, rfl, rfl, HA, HK1, HB⟩ := hrel
    cases gk with
    | zero => exact absurd HA.out (by simp [spec_l2Place.l0])
    | succ k1 =>
      have H := HA.out
      clear HA
      simp only [spec_l2Place.l0] at H
      by_cases c3 : x10_1 < (l0.length : Int)
      · rw [if_pos c3] at H
        have c3b0 : decide (x10_1 < (l0.length : Int)) = true := decide_eq_true c3
        clear c3
        by_cases c4 : 0 ≤ x10_1
        · rw [if_pos c4] at H
          have c4b0 : decide (0 ≤ x10_1) = true := decide_eq_true c4
          clear c4
          by_cases c5 : x10_1 < (l0.length : Int)
          · rw [if_pos c5] at H
            have c5b0 : decide (x10_1 < (l0.length : Int)) = true := decide_eq_true c5
            clear c5
            by_cases c6 : (wrap64 (((rd_T83 l0 x10_1).f0) + ((rd_T83 l0 x10_1).f1))) ≤ a1
            · rw [if_pos c6] at H
              have c6b0 : decide ((wrap64 (((rd_T83 l0 x10_1).f0) + ((rd_T83 l0 x10_1).f1))) ≤ a1) = true := decide_eq_true c6
              clear c6
              have H' := Aside0.mk H
              clear H
              have p282 : 0 ≤ (x10_1 : Int) := of_decide_eq_true (by first | (with_reducible assumption) | assumption)
              have q282 : x10_1 < (l0.length : Int) := of_decide_eq_true (by first | (with_reducible assumption) | assumption)
              obtain ⟨ad282, A282_2, c282_2, e282, hx282_0, hx282_1, hx282_2, hl282_2, hi282_2⟩ := at_T83 HR0.out x10_1 p282 q282
              cases e282
              replace hx282_0 := (HB.out.cell (World.block_lt_of_cell? w _ hx282_0)).trans hx282_0
              replace hx282_1 := (HB.out.cell (World.block_lt_of_cell? w _ hx282_1)).trans hx282_1
              replace hx282_2 := (HB.out.cell (World.block_lt_of_cell? w _ hx282_2)).trans hx282_2
              have HR282_2 := Aside0.mk hi282_2
              have HC282_2 := Aside0.mk hl282_2
              clear hi282_2 hl282_2
              replace p282 := eq_true p282
              replace q282 := eq_true q282
              go_wp2_with (first | ((with_reducible refine gate_dst (N := 7) rfl ?_); refine box_event ?hg (N := 7) ?hd (cs := #[.int .i64 0, .int .i64 0, .slice none 0 0]) (t := 83) ?hr ?_; (case hd => rfl); (case hg => rfl); (case hr => first | (go_simp; done) | (go_simp; rfl)); intro gb283 hg w7 hbox hb; have n0_ := Aside0.mk (below_step (by repeat (first | (with_reducible first | exact HB.out | apply below_alloc | apply pw_below_drewN | apply below_drew1) | exact HB.out)) hb); have n1_ := Aside0.mk (hbox); have n2_ := Aside0.mk ((by rw [hg]; exact (below_size (by repeat (first | (with_reducible first | exact HB.out | apply below_alloc | apply pw_below_drewN | apply below_drew1) | exact HB.out))) : w.heap.size ≤ gb283)); have n3_ := Aside0.mk ((by rw [hg]; exact (below_size (by repeat (first | (with_reducible first | exact HB.out | apply below_alloc | apply pw_below_drewN | apply below_drew1) | exact HB.out))) : w.heap.size ≤ gb283)); clear HB; have HB := n0_; have BK283 := n1_; have GW283 := n2_; have GE283 := n3_; clear n0_ n1_ n2_ n3_; clear hb hbox hg; have hcz8_0 : w7.cell? ⟨gb283, 0, none⟩ = some (.int .i64 0) := (blk_cell BK283.out 0).trans rfl; have hcz8_1 : w7.cell? ⟨gb283, 1, none⟩ = some (.int .i64 0) := (blk_cell BK283.out 1).trans rfl; have hcz8_2 : w7.cell? ⟨gb283, 2, none⟩ = some (.slice none 0 0) := (blk_cell BK283.out 2).trans rfl; have hfz8_0 := blk_frozen BK283.out 0; have hfz8_1 := blk_frozen BK283.out 1; have hfz8_2 := blk_frozen BK283.out 2))
              go_roundg k1
              case measure => have := HK1.out; omega
              case rel => exact ⟨(wrap64 (x5_1 + (wrap64 ((((rd_T83 l0 x10_1).f2).length : Int) - ((rd_T83 l0 x10_1).f1))))), (wrap64 (x10_1 + 1)), (by first | rfl | (simp; done) | (simp [*]; done)), (by first | rfl | (simp; done) | (simp [*]; done)), H', ⟨by have := HK1.out; omega⟩, ⟨by repeat (first | (with_reducible first | exact HB.out | apply below_alloc | apply pw_below_drewN | apply below_drew1 | refine below_set ?_ GE283.out) | exact HB.out)⟩⟩
            · rw [if_neg c6] at H
              have c6b0 : decide ((wrap64 (((rd_T83 l0 x10_1).f0) + ((rd_T83 l0 x10_1).f1))) ≤ a1) = false := decide_eq_false c6
              clear c6
              by_cases c9 : ((rd_T83 l0 x10_1).f0) ≤ a1
              · rw [if_pos c9] at H
                have c9b0 : decide (((rd_T83 l0 x10_1).f0) ≤ a1) = true := decide_eq_true c9
                clear c9
                obtain rfl := Option.some.inj H
                have p282 : 0 ≤ (x10_1 : Int) := of_decide_eq_true (by first | (with_reducible assumption) | assumption)
                have q282 : x10_1 < (l0.length : Int) := of_decide_eq_true (by first | (with_reducible assumption) | assumption)
                obtain ⟨ad282, A282_2, c282_2, e282, hx282_0, hx282_1, hx282_2, hl282_2, hi282_2⟩ := at_T83 HR0.out x10_1 p282 q282
                cases e282
                replace hx282_0 := (HB.out.cell (World.block_lt_of_cell? w _ hx282_0)).trans hx282_0
                replace hx282_1 := (HB.out.cell (World.block_lt_of_cell? w _ hx282_1)).trans hx282_1
                replace hx282_2 := (HB.out.cell (World.block_lt_of_cell? w _ hx282_2)).trans hx282_2
                have HR282_2 := Aside0.mk hi282_2
                have HC282_2 := Aside0.mk hl282_2
                clear hi282_2 hl282_2
                replace p282 := eq_true p282
                replace q282 := eq_true q282
                go_wp2_with (first | ((with_reducible refine gate_dst (N := 7) rfl ?_); refine box_event ?hg (N := 7) ?hd (cs := #[.int .i64 0, .int .i64 0, .slice none 0 0]) (t := 83) ?hr ?_; (case hd => rfl); (case hg => rfl); (case hr => first | (go_simp; done) | (go_simp; rfl)); intro gb283 hg w10 hbox hb; have n0_ := Aside0.mk (below_step (by repeat (first | (with_reducible first | exact HB.out | apply below_alloc | apply pw_below_drewN | apply below_drew1) | exact HB.out)) hb); have n1_ := Aside0.mk (hbox); have n2_ := Aside0.mk ((by rw [hg]; exact (below_size (by repeat (first | (with_reducible first | exact HB.out | apply below_alloc | apply pw_below_drewN | apply below_drew1) | exact HB.out))) : w.heap.size ≤ gb283)); have n3_ := Aside0.mk ((by rw [hg]; exact (below_size (by repeat (first | (with_reducible first | exact HB.out | apply below_alloc | apply pw_below_drewN | apply below_drew1) | exact HB.out))) : w.heap.size ≤ gb283)); clear HB; have HB := n0_; have BK283 := n1_; have GW283 := n2_; have GE283 := n3_; clear n0_ n1_ n2_ n3_; clear hb hbox hg; have hcz11_0 : w10.cell? ⟨gb283, 0, none⟩ = some (.int .i64 0) := (blk_cell BK283.out 0).trans rfl; have hcz11_1 : w10.cell? ⟨gb283, 1, none⟩ = some (.int .i64 0) := (blk_cell BK283.out 1).trans rfl; have hcz11_2 : w10.cell? ⟨gb283, 2, none⟩ = some (.slice none 0 0) := (blk_cell BK283.out 2).trans rfl; have hfz11_0 := blk_frozen BK283.out 0; have hfz11_1 := blk_frozen BK283.out 1; have hfz11_2 := blk_frozen BK283.out 2))
                go_ret
                exact ⟨by first | rfl | (simp [errW_none, errW_some] <;> rfl) | (simp [*, errW_none, errW_some] <;> rfl), by repeat (first | (with_reducible first | exact HB.out | apply below_alloc | apply pw_below_drewN | apply below_drew1 | refine below_set ?_ GE283.out) | exact HB.out)⟩
              · rw [if_neg c9] at H
                have c9b0 : decide (((rd_T83 l0 x10_1).f0) ≤ a1) = false := decide_eq_false c9
                clear c9
                have H' := Aside0.mk H
                clear H
                have p282 : 0 ≤ (x10_1 : Int) := of_decide_eq_true (by first | (with_reducible assumption) | assumption)
                have q282 : x10_1 < (l0.length : Int) := of_decide_eq_true (by first | (with_reducible assumption) | assumption)
                obtain ⟨ad282, A282_2, c282_2, e282, hx282_0, hx282_1, hx282_2, hl282_2, hi282_2⟩ := at_T83 HR0.out x10_1 p282 q282
                cases e282
                replace hx282_0 := (HB.out.cell (World.block_lt_of_cell? w _ hx282_0)).trans hx282_0
                replace hx282_1 := (HB.out.cell (World.block_lt_of_cell? w _ hx282_1)).trans hx282_1
                replace hx282_2 := (HB.out.cell (World.block_lt_of_cell? w _ hx282_2)).trans hx282_2
                have HR282_2 := Aside0.mk hi282_2
                have HC282_2 := Aside0.mk hl282_2
                clear hi282_2 hl282_2
                replace p282 := eq_true p282
                replace q282 := eq_true q282
                go_wp2_with (first | ((with_reducible refine gate_dst (N := 7) rfl ?_); refine box_event ?hg (N := 7) ?hd (cs := #[.int .i64 0, .int .i64 0, .slice none 0 0]) (t := 83) ?hr ?_; (case hd => rfl); (case hg => rfl); (case hr => first | (go_simp; done) | (go_simp; rfl)); intro gb283 hg w12 hbox hb; have n0_ := Aside0.mk (below_step (by repeat (first | (with_reducible first | exact HB.out | apply below_alloc | apply pw_below_drewN | apply below_drew1) | exact HB.out)) hb); have n1_ := Aside0.mk (hbox); have n2_ := Aside0.mk ((by rw [hg]; exact (below_size (by repeat (first | (with_reducible first | exact HB.out | apply below_alloc | apply pw_below_drewN | apply below_drew1) | exact HB.out))) : w.heap.size ≤ gb283)); have n3_ := Aside0.mk ((by rw [hg]; exact (below_size (by repeat (first | (with_reducible first | exact HB.out | apply below_alloc | apply pw_below_drewN | apply below_drew1) | exact HB.out))) : w.heap.size ≤ gb283)); clear HB; have HB := n0_; have BK283 := n1_; have GW283 := n2_; have GE283 := n3_; clear n0_ n1_ n2_ n3_; clear hb hbox hg; have hcz13_0 : w12.cell? ⟨gb283, 0, none⟩ = some (.int .i64 0) := (blk_cell BK283.out 0).trans rfl; have hcz13_1 : w12.cell? ⟨gb283, 1, none⟩ = some (.int .i64 0) := (blk_cell BK283.out 1).trans rfl; have hcz13_2 : w12.cell? ⟨gb283, 2, none⟩ = some (.slice none 0 0) := (blk_cell BK283.out 2).trans rfl; have hfz13_0 := blk_frozen BK283.out 0; have hfz13_1 := blk_frozen BK283.out 1; have hfz13_2 := blk_frozen BK283.out 2))
                go_roundg k1
                case measure => have := HK1.out; omega
                case rel => exact ⟨(x5_1), (wrap64 (x10_1 + 1)), (by first | rfl | (simp; done) | (simp [*]; done)), (by first | rfl | (simp; done) | (simp [*]; done)), H', ⟨by have := HK1.out; omega⟩, ⟨by repeat (first | (with_reducible first | exact HB.out | apply below_alloc | apply pw_below_drewN | apply below_drew1 | refine below_set ?_ GE283.out) | exact HB.out)⟩⟩
          · rw [if_neg c5] at H
            exact absurd H (by simp)
        · rw [if_neg c4] at H
          exact absurd H (by simp)
      · rw [if_neg c3] at H
        have c3b0 : decide (x10_1 < (l0.length : Int)) = false := decide_eq_false c3
        clear c3
        obtain rfl := Option.some.inj H
        go_wp2
        go_ret
        exact ⟨by first | rfl | (simp [errW_none, errW_some] <;> rfl) | (simp [*, errW_none, errW_some] <;> rfl), by repeat (first | (with_reducible first | exact HB.out | apply below_alloc | apply pw_below_drewN | apply below_drew1) | exact HB.out)⟩

end Go.Proofs.Ytbbkecdlapemfaa.My

/- Written by this session's program (wip/gen): a plain function with the same answers as the Go function, and the proof that the Go code comes to them. Asked: that the plain function has an answer. -/
namespace Go.Proofs.Ytbbkecdlapemfaa.My
open Go.RowKit Go.Proofs.YtbbkecdlapemfaaW.PrintWords Go.Proofs.YtbbkecdlapemfaaW.PrintLast Go.Proofs.YtbbkecdlapemfaaW.PrintMore
attribute [local go_sem] max2_int min2_int max_two min_two max_three min_three max_four min_four
set_option linter.unusedVariables false
set_option linter.unusedSimpArgs false

/-! ### spec_PlaceOf: function 25 -/
def spec_PlaceOf.f (k : Nat) (l0 : List (S83)) (a1 : Int) (a2 : Int) : Option (Int × Bool) := (spec_l2Hunks.f k a1 l0).bind fun t284 => (if t284 = true then ((spec_l1In.f a2 0 a1).bind fun t285 => (if t285 = true then ((spec_l2Place.f k l0 a2).bind fun t286 => (if t286 < 0 then (some (0, false)) else ((spec_l2Place.f k l0 a2).bind fun t287 => (some (t287, true))))) else (some (0, false)))) else (some (0, false)))
theorem spec_PlaceOf.mono : ∀ a0 a1 a2 k, LeO (spec_PlaceOf.f k a0 a1 a2) (spec_PlaceOf.f (k + 1) a0 a1 a2) := by
  intro a0 a1 a2 k
  unfold spec_PlaceOf.f
  repeat' first
      | (with_reducible exact spec_l2Hunks.mono _ _ _)
      | (with_reducible exact spec_l2Place.mono _ _ _)
      | (with_reducible exact LeO.refl _)
      | (with_reducible exact LeO.none _)
      | (with_reducible refine LeO.ite ?_ ?_)
      | (with_reducible refine LeO.bind ?_ (fun _ => ?_))
      | exact spec_l2Hunks.mono _ _ _
      | exact spec_l2Place.mono _ _ _
      | exact LeO.none _
      | refine LeO.ite ?_ ?_
      | refine LeO.bind ?_ (fun _ => ?_)
set_option maxHeartbeats 8000000 in
set_option maxRecDepth 100000 in
theorem spec_PlaceOf.calls (k : Nat) (A0 : Option Addr) (c0 : Nat) (l0 : List (S83)) (a1 : Int) (a2 : Int) (r1 : Int) (r2 : Bool) (w : World) (hr0 : Kd.C k83 w A0 l0.length l0) (hc0 : l0.length ≤ c0) (h : spec_PlaceOf.f k l0 a1 a2 = some (r1, r2)) :
    Calls Try.prog 25 #[.slice A0 l0.length c0, .int .i64 a1, .int .i64 a2] w fun e w' => e = .returned (.tuple #[.int .i64 r1, .bool r2]) ∧ Below w.heap.size w w' := by
  have HR0 := Aside0.mk hr0
  have HC0 := Aside0.mk hc0
  clear hr0 hc0
  have HB := Aside0.mk (Below.refl w.heap.size w)
  have H : ((spec_l2Hunks.f k a1 l0).bind fun t284 => (if t284 = true then ((spec_l1In.f a2 0 a1).bind fun t285 => (if t285 = true then ((spec_l2Place.f k l0 a2).bind fun t286 => (if t286 < 0 then (some (0, false)) else ((spec_l2Place.f k l0 a2).bind fun t287 => (some (t287, true))))) else (some (0, false)))) else (some (0, false)))) = some (r1, r2) := h
  clear h
  replace H := Option.bind_eq_some_iff.mp H
  obtain ⟨t284, A40, H⟩ := H
  replace H : (if t284 = true then ((spec_l1In.f a2 0 a1).bind fun t285 => (if t285 = true then ((spec_l2Place.f k l0 a2).bind fun t286 => (if t286 < 0 then (some (0, false)) else ((spec_l2Place.f k l0 a2).bind fun t287 => (some (t287, true))))) else (some (0, false)))) else (some (0, false))) = some (r1, r2) := H
  have A4 := Aside0.mk A40
  clear A40
  by_cases c5 : t284 = true
  · subst c5
    have H1 : ((spec_l1In.f a2 0 a1).bind fun t285 => (if t285 = true then ((spec_l2Place.f k l0 a2).bind fun t286 => (if t286 < 0 then (some (0, false)) else ((spec_l2Place.f k l0 a2).bind fun t287 => (some (t287, true))))) else (some (0, false)))) = some (r1, r2) := by rw [if_pos rfl] at H; exact H
    clear H
    have H := H1
    clear H1
    replace H := Option.bind_eq_some_iff.mp H
    obtain ⟨t285, A60, H⟩ := H
    replace H : (if t285 = true then ((spec_l2Place.f k l0 a2).bind fun t286 => (if t286 < 0 then (some (0, false)) else ((spec_l2Place.f k l0 a2).bind fun t287 => (some (t287, true))))) else (some (0, false))) = some (r1, r2) := H
    have A6 := Aside0.mk A60
    clear A60
    by_cases c7 : t285 = true
    · subst c7
      have H1 : ((spec_l2Place.f k l0 a2).bind fun t286 => (if t286 < 0 then (some (0, false)) else ((spec_l2Place.f k l0 a2).bind fun t287 => (some (t287, true))))) = some (r1, r2) := by rw [if_pos rfl] at H; exact H
      clear H
      have H := H1
      clear H1
      replace H := Option.bind_eq_some_iff.mp H
      obtain ⟨t286, A80, H⟩ := H
      replace H : (if t286 < 0 then (some (0, false)) else ((spec_l2Place.f k l0 a2).bind fun t287 => (some (t287, true)))) = some (r1, r2) := H
      have A8 := Aside0.mk A80
      clear A80
      by_cases c9 : t286 < 0
      · rw [if_pos c9] at H
        have c9b0 : decide (t286 < 0) = true := decide_eq_true c9
        clear c9
        simp only [Option.some.injEq, Prod.mk.injEq] at H
        obtain ⟨rfl, rfl⟩ := H
        go_enter Try.func25, Try.ntmps25
        go_wp2_with (first | ((with_reducible refine gate_callee (f := 68) rfl ?_); refine goesL_ (some 10) rfl rfl Try.func68 (by kernel_rfl) rfl #[.int .i64 a1, .slice A0 l0.length c0] rfl (by (try simp only [List.map_toArray, List.map_cons, List.map_nil]); first | done | rfl | (simp only [List.length_drop, List.length_take]; rfl)) ?_; (with_reducible refine (spec_l2Hunks.calls k a1 _ _ l0 true _ ?side1 ?side2 A4.out).mono ?_); (case side1 => repeat (first | exact HR0.out | (with_reducible refine Kd.C_alloc ?_ _) | (with_reducible refine Kd.C_drewN ?_ _) | (with_reducible refine Kd.C_drew ?_))); (case side2 => exact HC0.out); rintro e w10 ⟨rfl, hb⟩; refine ⟨_, rfl, ?_⟩; have n0_ := Aside0.mk (below_step (by repeat (first | (with_reducible first | exact HB.out | apply below_alloc | apply pw_below_drewN | apply below_drew1) | exact HB.out)) hb); clear HB; have HB := n0_; clear n0_; (try clear hb); (try clear hb2); (try clear hk); (try clear hi)) | (go_at_call 75; (with_reducible refine (spec_l1In.calls a2 0 a1 true _ A6.out).mono ?_); rintro e w' ⟨rfl, ⟨nd, rfl⟩⟩) | (go_at_call 76; (with_reducible refine (spec_l2Place.calls k _ _ l0 a2 t286 _ ?side1 ?side2 A8.out).mono ?_); (case side1 => repeat (first | exact (Kd.C_below HR0.out (by repeat (first | (with_reducible first | exact HB.out | apply below_alloc | apply pw_below_drewN | apply below_drew1) | exact HB.out))) | (with_reducible refine Kd.C_alloc ?_ _) | (with_reducible refine Kd.C_drewN ?_ _) | (with_reducible refine Kd.C_drew ?_))); (case side2 => exact HC0.out); rintro e w11 ⟨rfl, hb⟩; have n0_ := Aside0.mk (below_step (by repeat (first | (with_reducible first | exact HB.out | apply below_alloc | apply pw_below_drewN | apply below_drew1) | exact HB.out)) hb); clear HB; have HB := n0_; clear n0_; (try clear hb); (try clear hb2); (try clear hk); (try clear hi)))
        go_ret2
        exact ⟨by first | rfl | (simp [errW_none, errW_some] <;> rfl) | (simp [*, errW_none, errW_some] <;> rfl), by repeat (first | (with_reducible first | exact HB.out | apply below_alloc | apply pw_below_drewN | apply below_drew1) | exact HB.out)⟩
      · rw [if_neg c9] at H
        have c9b0 : decide (t286 < 0) = false := decide_eq_false c9
        clear c9
        replace H := Option.bind_eq_some_iff.mp H
        obtain ⟨t287, A120, H⟩ := H
        replace H : (some (t287, true)) = some (r1, r2) := H
        have A12 := Aside0.mk A120
        clear A120
        simp only [Option.some.injEq, Prod.mk.injEq] at H
        obtain ⟨rfl, rfl⟩ := H
        go_enter Try.func25, Try.ntmps25
        go_wp2_with (first | ((with_reducible refine gate_callee (f := 68) rfl ?_); refine goesL_ (some 10) rfl rfl Try.func68 (by kernel_rfl) rfl #[.int .i64 a1, .slice A0 l0.length c0] rfl (by (try simp only [List.map_toArray, List.map_cons, List.map_nil]); first | done | rfl | (simp only [List.length_drop, List.length_take]; rfl)) ?_; (with_reducible refine (spec_l2Hunks.calls k a1 _ _ l0 true _ ?side1 ?side2 A4.out).mono ?_); (case side1 => repeat (first | exact HR0.out | (with_reducible refine Kd.C_alloc ?_ _) | (with_reducible refine Kd.C_drewN ?_ _) | (with_reducible refine Kd.C_drew ?_))); (case side2 => exact HC0.out); rintro e w13 ⟨rfl, hb⟩; refine ⟨_, rfl, ?_⟩; have n0_ := Aside0.mk (below_step (by repeat (first | (with_reducible first | exact HB.out | apply below_alloc | apply pw_below_drewN | apply below_drew1) | exact HB.out)) hb); clear HB; have HB := n0_; clear n0_; (try clear hb); (try clear hb2); (try clear hk); (try clear hi)) | (go_at_call 75; (with_reducible refine (spec_l1In.calls a2 0 a1 true _ A6.out).mono ?_); rintro e w' ⟨rfl, ⟨nd, rfl⟩⟩) | (go_at_call 76; (with_reducible refine (spec_l2Place.calls k _ _ l0 a2 t286 _ ?side1 ?side2 A8.out).mono ?_); (case side1 => repeat (first | exact (Kd.C_below HR0.out (by repeat (first | (with_reducible first | exact HB.out | apply below_alloc | apply pw_below_drewN | apply below_drew1) | exact HB.out))) | (with_reducible refine Kd.C_alloc ?_ _) | (with_reducible refine Kd.C_drewN ?_ _) | (with_reducible refine Kd.C_drew ?_))); (case side2 => exact HC0.out); rintro e w14 ⟨rfl, hb⟩; have n0_ := Aside0.mk (below_step (by repeat (first | (with_reducible first | exact HB.out | apply below_alloc | apply pw_below_drewN | apply below_drew1) | exact HB.out)) hb); clear HB; have HB := n0_; clear n0_; (try clear hb); (try clear hb2); (try clear hk); (try clear hi)) | ((with_reducible refine gate_callee (f := 76) rfl ?_); refine goesL_ (some 26) rfl rfl Try.func76 (by kernel_rfl) rfl #[.slice A0 l0.length c0, .int .i64 a2] rfl (by (try simp only [List.map_toArray, List.map_cons, List.map_nil]); first | done | rfl | (simp only [List.length_drop, List.length_take]; rfl)) ?_; (with_reducible refine (spec_l2Place.calls k _ _ l0 a2 t287 _ ?side1 ?side2 A12.out).mono ?_); (case side1 => repeat (first | exact (Kd.C_below HR0.out HB.out) | (with_reducible refine Kd.C_alloc ?_ _) | (with_reducible refine Kd.C_drewN ?_ _) | (with_reducible refine Kd.C_drew ?_))); (case side2 => exact HC0.out); rintro e w15 ⟨rfl, hb⟩; refine ⟨_, rfl, ?_⟩; have n0_ := Aside0.mk (below_step (by repeat (first | (with_reducible first | exact HB.out | apply below_alloc | apply pw_below_drewN | apply below_drew1) | exact HB.out)) hb); clear HB; have HB := n0_; clear n0_; (try clear hb); (try clear hb2); (try clear hk); (try clear hi)))
        go_ret2
        exact ⟨by first | rfl | (simp [errW_none, errW_some] <;> rfl) | (simp [*, errW_none, errW_some] <;> rfl), by repeat (first | (with_reducible first | exact HB.out | apply below_alloc | apply pw_below_drewN | apply below_drew1) | exact HB.out)⟩
    · replace c7 := Bool.eq_false_iff.mpr c7
      subst c7
      have H1 : (some (0, false)) = some (r1, r2) := by rw [if_neg (show ¬ (false = true) by decide)] at H; exact H
      clear H
      have H := H1
      clear H1
      simp only [Option.some.injEq, Prod.mk.injEq] at H
      obtain ⟨rfl, rfl⟩ := H
      go_enter Try.func25, Try.ntmps25
      go_wp2_with (first | ((with_reducible refine gate_callee (f := 68) rfl ?_); refine goesL_ (some 10) rfl rfl Try.func68 (by kernel_rfl) rfl #[.int .i64 a1, .slice A0 l0.length c0] rfl (by (try simp only [List.map_toArray, List.map_cons, List.map_nil]); first | done | rfl | (simp only [List.length_drop, List.length_take]; rfl)) ?_; (with_reducible refine (spec_l2Hunks.calls k a1 _ _ l0 true _ ?side1 ?side2 A4.out).mono ?_); (case side1 => repeat (first | exact HR0.out | (with_reducible refine Kd.C_alloc ?_ _) | (with_reducible refine Kd.C_drewN ?_ _) | (with_reducible refine Kd.C_drew ?_))); (case side2 => exact HC0.out); rintro e w16 ⟨rfl, hb⟩; refine ⟨_, rfl, ?_⟩; have n0_ := Aside0.mk (below_step (by repeat (first | (with_reducible first | exact HB.out | apply below_alloc | apply pw_below_drewN | apply below_drew1) | exact HB.out)) hb); clear HB; have HB := n0_; clear n0_; (try clear hb); (try clear hb2); (try clear hk); (try clear hi)) | (go_at_call 75; (with_reducible refine (spec_l1In.calls a2 0 a1 false _ A6.out).mono ?_); rintro e w' ⟨rfl, ⟨nd, rfl⟩⟩))
      go_ret2
      exact ⟨by first | rfl | (simp [errW_none, errW_some] <;> rfl) | (simp [*, errW_none, errW_some] <;> rfl), by repeat (first | (with_reducible first | exact HB.out | apply below_alloc | apply pw_below_drewN | apply below_drew1) | exact HB.out)⟩
  · replace c5 := Bool.eq_false_iff.mpr c5
    subst c5
    have H1 : (some (0, false)) = some (r1, r2) := by rw [if_neg (show ¬ (false = true) by decide)] at H; exact H
    clear H
    have H := H1
    clear H1
    simp only [Option.some.injEq, Prod.mk.injEq] at H
    obtain ⟨rfl, rfl⟩ := H
    go_enter Try.func25, Try.ntmps25
    go_wp2_with (first | ((with_reducible refine gate_callee (f := 68) rfl ?_); refine goesL_ (some 10) rfl rfl Try.func68 (by kernel_rfl) rfl #[.int .i64 a1, .slice A0 l0.length c0] rfl (by (try simp only [List.map_toArray, List.map_cons, List.map_nil]); first | done | rfl | (simp only [List.length_drop, List.length_take]; rfl)) ?_; (with_reducible refine (spec_l2Hunks.calls k a1 _ _ l0 false _ ?side1 ?side2 A4.out).mono ?_); (case side1 => repeat (first | exact HR0.out | (with_reducible refine Kd.C_alloc ?_ _) | (with_reducible refine Kd.C_drewN ?_ _) | (with_reducible refine Kd.C_drew ?_))); (case side2 => exact HC0.out); rintro e w17 ⟨rfl, hb⟩; refine ⟨_, rfl, ?_⟩; have n0_ := Aside0.mk (below_step (by repeat (first | (with_reducible first | exact HB.out | apply below_alloc | apply pw_below_drewN | apply below_drew1) | exact HB.out)) hb); clear HB; have HB := n0_; clear n0_; (try clear hb); (try clear hb2); (try clear hk); (try clear hi)))
    go_ret2
    exact ⟨by first | rfl | (simp [errW_none, errW_some] <;> rfl) | (simp [*, errW_none, errW_some] <;> rfl), by repeat (first | (with_reducible first | exact HB.out | apply below_alloc | apply pw_below_drewN | apply below_drew1) | exact HB.out)⟩

end Go.Proofs.Ytbbkecdlapemfaa.My

/- Written by this session's program (wip/gen): a plain function with the same answers as the Go function, and the proof that the Go code comes to them. Asked: that the plain function has an answer. -/
namespace Go.Proofs.Ytbbkecdlapemfaa.My
open Go.RowKit Go.Proofs.YtbbkecdlapemfaaW.PrintWords Go.Proofs.YtbbkecdlapemfaaW.PrintLast Go.Proofs.YtbbkecdlapemfaaW.PrintMore
attribute [local go_sem] max2_int min2_int max_two min_two max_three min_three max_four min_four
set_option linter.unusedVariables false
set_option linter.unusedSimpArgs false

/-! ### laws_FnExactPlaceOf: function 5 -/
def laws_FnExactPlaceOf.j0 : Nat → List (S82) → List (S83) → Bool → Option (Bool)
  | 0, _, _, _ => none
  | k + 1, x0, x10, x42 => if x42 = true then (some false) else ((laws_toHunkS.f k x0).bind fun t303 => ((laws_eqHunkS.f k x10 t303).bind fun t306 => (if t306 = true then (some true) else (some false))))
def laws_FnExactPlaceOf.f (k : Nat) (l0 : List (S82)) (a1 : Int) (a2 : Int) : Option (Bool) := (laws_szHunkS.f k l0 1048576).bind fun t292 => (if t292 < 0 then (some true) else ((laws_toHunkS.f k l0).bind fun t293 => ((spec_PlaceOf.f k t293 a1 a2).bind fun bt296 => ((laws_toHunkS.f k l0).bind fun t298 => ((impl_PlaceOf.f k t298 a1 a2).bind fun bt301 => (if bt301.1 = bt296.1 then (laws_FnExactPlaceOf.j0 k l0 t298 (bt301.2 != bt296.2)) else (laws_FnExactPlaceOf.j0 k l0 t298 true)))))))
theorem laws_FnExactPlaceOf.mono_l : ∀ k, (∀ y0 y1 y2, LeO (laws_FnExactPlaceOf.j0 k y0 y1 y2) (laws_FnExactPlaceOf.j0 (k + 1) y0 y1 y2))
  | 0 => fun _ _ _ r h => by simp [laws_FnExactPlaceOf.j0] at h
  | k + 1 => by
    have ih0 := laws_FnExactPlaceOf.mono_l k
    · intro y0 y1 y2
      unfold laws_FnExactPlaceOf.j0
      repeat' first
      | (with_reducible exact ih0 _ _ _)
      | (with_reducible exact impl_PlaceOf.mono _ _ _ _)
      | (with_reducible exact laws_eqHunkS.mono _ _ _)
      | (with_reducible exact laws_szHunkS.mono _ _ _)
      | (with_reducible exact laws_toHunkS.mono _ _)
      | (with_reducible exact spec_PlaceOf.mono _ _ _ _)
      | (with_reducible exact LeO.refl _)
      | (with_reducible exact LeO.none _)
      | (with_reducible refine LeO.ite ?_ ?_)
      | (with_reducible refine LeO.bind ?_ (fun _ => ?_))
      | exact ih0 _ _ _
      | exact impl_PlaceOf.mono _ _ _ _
      | exact laws_eqHunkS.mono _ _ _
      | exact laws_szHunkS.mono _ _ _
      | exact laws_toHunkS.mono _ _
      | exact spec_PlaceOf.mono _ _ _ _
      | exact LeO.none _
      | refine LeO.ite ?_ ?_
      | refine LeO.bind ?_ (fun _ => ?_)
theorem laws_FnExactPlaceOf.mono : ∀ a0 a1 a2 k, LeO (laws_FnExactPlaceOf.f k a0 a1 a2) (laws_FnExactPlaceOf.f (k + 1) a0 a1 a2) := by
  intro a0 a1 a2 k
  have ih0 := laws_FnExactPlaceOf.mono_l k
  unfold laws_FnExactPlaceOf.f
  repeat' first
      | (with_reducible exact ih0 _ _ _)
      | (with_reducible exact impl_PlaceOf.mono _ _ _ _)
      | (with_reducible exact laws_eqHunkS.mono _ _ _)
      | (with_reducible exact laws_szHunkS.mono _ _ _)
      | (with_reducible exact laws_toHunkS.mono _ _)
      | (with_reducible exact spec_PlaceOf.mono _ _ _ _)
      | (with_reducible exact LeO.refl _)
      | (with_reducible exact LeO.none _)
      | (with_reducible refine LeO.ite ?_ ?_)
      | (with_reducible refine LeO.bind ?_ (fun _ => ?_))
      | exact ih0 _ _ _
      | exact impl_PlaceOf.mono _ _ _ _
      | exact laws_eqHunkS.mono _ _ _
      | exact laws_szHunkS.mono _ _ _
      | exact laws_toHunkS.mono _ _
      | exact spec_PlaceOf.mono _ _ _ _
      | exact LeO.none _
      | refine LeO.ite ?_ ?_
      | refine LeO.bind ?_ (fun _ => ?_)
set_option maxHeartbeats 8000000 in
set_option maxRecDepth 100000 in
theorem laws_FnExactPlaceOf.calls (k : Nat) (A0 : Option Addr) (c0 : Nat) (l0 : List (S82)) (a1 : Int) (a2 : Int) (r : Bool) (w : World) (hr0 : Kd.C k82 w A0 l0.length l0) (hc0 : l0.length ≤ c0) (h : laws_FnExactPlaceOf.f k l0 a1 a2 = some r) :
    Calls Try.prog 5 #[.slice A0 l0.length c0, .int .i64 a1, .int .i64 a2] w fun e w' => e = .returned (.bool r) ∧ Below w.heap.size w w' := by
  have HR0 := Aside0.mk hr0
  have HC0 := Aside0.mk hc0
  clear hr0 hc0
  have HB := Aside0.mk (Below.refl w.heap.size w)
  have H : ((laws_szHunkS.f k l0 1048576).bind fun t292 => (if t292 < 0 then (some true) else ((laws_toHunkS.f k l0).bind fun t293 => ((spec_PlaceOf.f k t293 a1 a2).bind fun bt296 => ((laws_toHunkS.f k l0).bind fun t298 => ((impl_PlaceOf.f k t298 a1 a2).bind fun bt301 => (if bt301.1 = bt296.1 then (laws_FnExactPlaceOf.j0 k l0 t298 (bt301.2 != bt296.2)) else (laws_FnExactPlaceOf.j0 k l0 t298 true)))))))) = some r := h
  clear h
  replace H := Option.bind_eq_some_iff.mp H
  obtain ⟨t292, A40, H⟩ := H
  replace H : (if t292 < 0 then (some true) else ((laws_toHunkS.f k l0).bind fun t293 => ((spec_PlaceOf.f k t293 a1 a2).bind fun bt296 => ((laws_toHunkS.f k l0).bind fun t298 => ((impl_PlaceOf.f k t298 a1 a2).bind fun bt301 => (if bt301.1 = bt296.1 then (laws_FnExactPlaceOf.j0 k l0 t298 (bt301.2 != bt296.2)) else (laws_FnExactPlaceOf.j0 k l0 t298 true))))))) = some r := H
  have A4 := Aside0.mk A40
  clear A40
  by_cases c5 : t292 < 0
  · rw [if_pos c5] at H
    have c5b0 : decide (t292 < 0) = true := decide_eq_true c5
    clear c5
    obtain rfl := Option.some.inj H
    go_enter Try.func5, Try.ntmps5
    go_wp2_with (first | ((with_reducible refine gate_callee (f := 15) rfl ?_); refine goesL_ (some 15) rfl rfl Try.func15 (by kernel_rfl) rfl #[.slice A0 l0.length c0, .int .i64 1048576] rfl (by (try simp only [List.map_toArray, List.map_cons, List.map_nil]); first | done | rfl | (simp only [List.length_drop, List.length_take]; rfl)) ?_; (with_reducible refine (laws_szHunkS.calls k _ _ l0 1048576 t292 _ ?side1 ?side2 A4.out).mono ?_); (case side1 => repeat (first | exact HR0.out | (with_reducible refine Kd.C_alloc ?_ _) | (with_reducible refine Kd.C_drewN ?_ _) | (with_reducible refine Kd.C_drew ?_))); (case side2 => exact HC0.out); rintro e w6 ⟨rfl, hb⟩; refine ⟨_, rfl, ?_⟩; have n0_ := Aside0.mk (below_step (by repeat (first | (with_reducible first | exact HB.out | apply below_alloc | apply pw_below_drewN | apply below_drew1) | exact HB.out)) hb); clear HB; have HB := n0_; clear n0_; (try clear hb); (try clear hb2); (try clear hk); (try clear hi)))
    go_ret
    exact ⟨by first | rfl | (simp [errW_none, errW_some] <;> rfl) | (simp [*, errW_none, errW_some] <;> rfl), by repeat (first | (with_reducible first | exact HB.out | apply below_alloc | apply pw_below_drewN | apply below_drew1) | exact HB.out)⟩
  · rw [if_neg c5] at H
    have c5b0 : decide (t292 < 0) = false := decide_eq_false c5
    clear c5
    replace H := Option.bind_eq_some_iff.mp H
    obtain ⟨t293, A70, H⟩ := H
    replace H : ((spec_PlaceOf.f k t293 a1 a2).bind fun bt296 => ((laws_toHunkS.f k l0).bind fun t298 => ((impl_PlaceOf.f k t298 a1 a2).bind fun bt301 => (if bt301.1 = bt296.1 then (laws_FnExactPlaceOf.j0 k l0 t298 (bt301.2 != bt296.2)) else (laws_FnExactPlaceOf.j0 k l0 t298 true))))) = some r := H
    have A7 := Aside0.mk A70
    clear A70
    replace H := Option.bind_eq_some_iff.mp H
    obtain ⟨⟨t296, t297⟩, A80, H⟩ := H
    replace H : ((laws_toHunkS.f k l0).bind fun t298 => ((impl_PlaceOf.f k t298 a1 a2).bind fun bt301 => (if bt301.1 = t296 then (laws_FnExactPlaceOf.j0 k l0 t298 (bt301.2 != t297)) else (laws_FnExactPlaceOf.j0 k l0 t298 true)))) = some r := H
    have A8 := Aside0.mk A80
    clear A80
    replace H := Option.bind_eq_some_iff.mp H
    obtain ⟨t298, A90, H⟩ := H
    replace H : ((impl_PlaceOf.f k t298 a1 a2).bind fun bt301 => (if bt301.1 = t296 then (laws_FnExactPlaceOf.j0 k l0 t298 (bt301.2 != t297)) else (laws_FnExactPlaceOf.j0 k l0 t298 true))) = some r := H
    have A9 := Aside0.mk A90
    clear A90
    replace H := Option.bind_eq_some_iff.mp H
    obtain ⟨⟨t301, t302⟩, A100, H⟩ := H
    replace H : (if t301 = t296 then (laws_FnExactPlaceOf.j0 k l0 t298 (t302 != t297)) else (laws_FnExactPlaceOf.j0 k l0 t298 true)) = some r := H
    have A10 := Aside0.mk A100
    clear A100
    have HC11 := Aside0.mk H
    clear H
    go_enter Try.func5, Try.ntmps5
    go_upto_region 8 with (first | ((with_reducible refine gate_callee (f := 15) rfl ?_); refine goesL_ (some 15) rfl rfl Try.func15 (by kernel_rfl) rfl #[.slice A0 l0.length c0, .int .i64 1048576] rfl (by (try simp only [List.map_toArray, List.map_cons, List.map_nil]); first | done | rfl | (simp only [List.length_drop, List.length_take]; rfl)) ?_; (with_reducible refine (laws_szHunkS.calls k _ _ l0 1048576 t292 _ ?side1 ?side2 A4.out).mono ?_); (case side1 => repeat (first | exact HR0.out | (with_reducible refine Kd.C_alloc ?_ _) | (with_reducible refine Kd.C_drewN ?_ _) | (with_reducible refine Kd.C_drew ?_))); (case side2 => exact HC0.out); rintro e w12 ⟨rfl, hb⟩; refine ⟨_, rfl, ?_⟩; have n0_ := Aside0.mk (below_step (by repeat (first | (with_reducible first | exact HB.out | apply below_alloc | apply pw_below_drewN | apply below_drew1) | exact HB.out)) hb); clear HB; have HB := n0_; clear n0_; (try clear hb); (try clear hb2); (try clear hk); (try clear hi)) | ((with_reducible refine gate_callee (f := 17) rfl ?_); refine goesL_ (some 20) rfl rfl Try.func17 (by kernel_rfl) rfl #[.slice A0 l0.length c0] rfl (by (try simp only [List.map_toArray, List.map_cons, List.map_nil]); first | done | rfl | (simp only [List.length_drop, List.length_take]; rfl)) ?_; (with_reducible refine (laws_toHunkS.calls k _ _ l0 t293 _ ?side1 ?side2 A7.out).mono ?_); (case side1 => repeat (first | exact (Kd.C_below HR0.out HB.out) | (with_reducible refine Kd.C_alloc ?_ _) | (with_reducible refine Kd.C_drewN ?_ _) | (with_reducible refine Kd.C_drew ?_))); (case side2 => exact HC0.out); rintro e w13 ⟨v294, rfl, ho0, hb⟩; refine ⟨_, rfl, ?_⟩; have n0_ := Aside0.mk (Kd.S_lower ho0 (below_size (by repeat (first | (with_reducible first | exact HB.out | apply below_alloc | apply pw_below_drewN | apply below_drew1) | exact HB.out)))); have n1_ := Aside0.mk (below_step (by repeat (first | (with_reducible first | exact HB.out | apply below_alloc | apply pw_below_drewN | apply below_drew1) | exact HB.out)) hb); clear HB; have HO295 := n0_; have HB := n1_; clear n0_ n1_; (try clear hb); (try clear hb2); (try clear hk); (try clear hi); (try clear ho0); obtain ⟨Ao14, co14, eo14⟩ := Kd.S_slice HO295.out; subst eo14) | ((with_reducible refine gate_callee (f := 25) rfl ?_); refine goesL_ (some 23) rfl rfl Try.func25 (by kernel_rfl) rfl #[.slice Ao14 t293.length co14, .int .i64 a1, .int .i64 a2] rfl (by (try simp only [List.map_toArray, List.map_cons, List.map_nil]); first | done | rfl | (simp only [List.length_drop, List.length_take]; rfl)) ?_; (with_reducible refine (spec_PlaceOf.calls k _ _ t293 a1 a2 t296 t297 _ ?side1 ?side2 A8.out).mono ?_); (case side1 => repeat (first | exact (Kd.S_reads' HO295.out).2.2 | (with_reducible refine Kd.C_alloc ?_ _) | (with_reducible refine Kd.C_drewN ?_ _) | (with_reducible refine Kd.C_drew ?_))); (case side2 => exact (Kd.S_reads' HO295.out).2.1); rintro e w15 ⟨rfl, hb⟩; refine ⟨_, rfl, ?_⟩; have n0_ := Aside0.mk (Kd.S_below (by (with_reducible repeat (first | apply Kd.S_alloc | apply Kd.S_drewN | apply Kd.S_drew)); exact HO295.out) hb); have n1_ := Aside0.mk (below_step (by repeat (first | (with_reducible first | exact HB.out | apply below_alloc | apply pw_below_drewN | apply below_drew1) | exact HB.out)) hb); clear HO295; clear HB; have HO295 := n0_; have HB := n1_; clear n0_ n1_; (try clear hb); (try clear hb2); (try clear hk); (try clear hi)) | ((with_reducible refine gate_callee (f := 17) rfl ?_); refine goesL_ (some 27) rfl rfl Try.func17 (by kernel_rfl) rfl #[.slice A0 l0.length c0] rfl (by (try simp only [List.map_toArray, List.map_cons, List.map_nil]); first | done | rfl | (simp only [List.length_drop, List.length_take]; rfl)) ?_; (with_reducible refine (laws_toHunkS.calls k _ _ l0 t298 _ ?side1 ?side2 A9.out).mono ?_); (case side1 => repeat (first | exact (Kd.C_below HR0.out HB.out) | (with_reducible refine Kd.C_alloc ?_ _) | (with_reducible refine Kd.C_drewN ?_ _) | (with_reducible refine Kd.C_drew ?_))); (case side2 => exact HC0.out); rintro e w16 ⟨v299, rfl, ho0, hb⟩; refine ⟨_, rfl, ?_⟩; have n0_ := Aside0.mk (Kd.S_elder' (by (with_reducible repeat (first | apply Kd.S_alloc | apply Kd.S_drewN | apply Kd.S_drew)); exact HO295.out) (Kd.S_base ho0) hb); have n1_ := Aside0.mk (Kd.S_lower (Kd.S_new' ho0 (Kd.S_lt (by (with_reducible repeat (first | apply Kd.S_alloc | apply Kd.S_drewN | apply Kd.S_drew)); exact HO295.out))) (below_size (by repeat (first | (with_reducible first | exact HB.out | apply below_alloc | apply pw_below_drewN | apply below_drew1) | exact HB.out)))); have n2_ := Aside0.mk (below_step (by repeat (first | (with_reducible first | exact HB.out | apply below_alloc | apply pw_below_drewN | apply below_drew1) | exact HB.out)) hb); clear HO295; clear HB; have HO295 := n0_; have HO300 := n1_; have HB := n2_; clear n0_ n1_ n2_; (try clear hb); (try clear hb2); (try clear hk); (try clear hi); (try clear ho0); obtain ⟨Ao17, co17, eo17⟩ := Kd.S_slice HO300.out; subst eo17) | ((with_reducible refine gate_callee (f := 26) rfl ?_); refine goesL_ (some 32) rfl rfl Try.func26 (by kernel_rfl) rfl #[.slice Ao17 t298.length co17, .int .i64 a1, .int .i64 a2] rfl (by (try simp only [List.map_toArray, List.map_cons, List.map_nil]); first | done | rfl | (simp only [List.length_drop, List.length_take]; rfl)) ?_; (with_reducible refine (impl_PlaceOf.calls k _ _ t298 a1 a2 t301 t302 _ ?side1 ?side2 A10.out).mono ?_); (case side1 => repeat (first | exact (Kd.S_reads' HO300.out).2.2 | (with_reducible refine Kd.C_alloc ?_ _) | (with_reducible refine Kd.C_drewN ?_ _) | (with_reducible refine Kd.C_drew ?_))); (case side2 => exact (Kd.S_reads' HO300.out).2.1); rintro e w18 ⟨rfl, hb⟩; refine ⟨_, rfl, ?_⟩; have n0_ := Aside0.mk (Kd.S_below (by (with_reducible repeat (first | apply Kd.S_alloc | apply Kd.S_drewN | apply Kd.S_drew)); exact HO295.out) hb); have n1_ := Aside0.mk (Kd.S_below (by (with_reducible repeat (first | apply Kd.S_alloc | apply Kd.S_drewN | apply Kd.S_drew)); exact HO300.out) hb); have n2_ := Aside0.mk (below_step (by repeat (first | (with_reducible first | exact HB.out | apply below_alloc | apply pw_below_drewN | apply below_drew1) | exact HB.out)) hb); clear HO295; clear HO300; clear HB; have HO295 := n0_; have HO300 := n1_; have HB := n2_; clear n0_ n1_ n2_; (try clear hb); (try clear hb2); (try clear hk); (try clear hi)))
    (try simp only [Act.put, List.setIfInBounds_toArray, List.set_cons_zero, List.set_cons_succ])
    go_cut [42] (fun v42 wc => ∃ (kq : Nat) (x42_10 : Bool), v42 = .bool x42_10 ∧ Aside0 (laws_FnExactPlaceOf.j0 kq l0 t298 x42_10 = some r) ∧ Aside0 (kq ≤ k) ∧ Aside0 (Kd.S k83 83 wc w.heap.size (fun _ => True) (.slice Ao17 t298.length co17) t298) ∧ Aside0 (Below w.heap.size w wc))
    case first =>
      have H := HC11.out
      clear HC11
      by_cases c19 : t301 = t296
      · rw [if_pos c19] at H
        have c19b0 : (t301 == t296) = true := beq_iff_eq.mpr c19
        have c19b1 : (t301 != t296) = false := bne_eq_false_iff_eq.mpr c19
        clear c19
        (first | rw [c19b0] | (simp only [i64_w, i32_w]; rw [c19b0]) | skip)
        have H' := Aside0.mk H
        clear H
        go_wp2
        go_meet
        case rel => exact ⟨_, ((t302 != t297)), (by first | rfl | (simp; done) | (simp [*]; done)), H', ⟨by first | omega | exact Nat.le_refl _⟩, ⟨by (with_reducible repeat (first | apply Kd.S_alloc | apply Kd.S_drewN | apply Kd.S_drew)); exact Kd.S_mono HO300.out (fun _ hk => trivial)⟩, ⟨by repeat (first | (with_reducible first | exact HB.out | apply below_alloc | apply pw_below_drewN | apply below_drew1) | exact HB.out)⟩⟩
      · rw [if_neg c19] at H
        have c19b0 : (t301 == t296) = false := beq_eq_false_iff_ne.mpr c19
        have c19b1 : (t301 != t296) = true := bne_iff_ne.mpr c19
        (first | rw [c19b0] | (simp only [i64_w, i32_w]; rw [c19b0]) | skip)
        have H' := Aside0.mk H
        clear H
        go_wp2
        go_meet
        case rel => exact ⟨_, (true), (by first | rfl | (simp; done) | (simp [*]; done)), H', ⟨by first | omega | exact Nat.le_refl _⟩, ⟨by (with_reducible repeat (first | apply Kd.S_alloc | apply Kd.S_drewN | apply Kd.S_drew)); exact Kd.S_mono HO300.out (fun _ hk => trivial)⟩, ⟨by repeat (first | (with_reducible first | exact HB.out | apply below_alloc | apply pw_below_drewN | apply below_drew1) | exact HB.out)⟩⟩
    case rest =>
      clear HC11
      try clear c1
      try clear c2
      try clear p2
      try clear c5
      try clear c5b0
      try clear c15
      try clear c17
      try clear c19
      try clear c19b0
      try clear c19b1
      obtain ⟨kq, x42_10, rfl, HA, HJ10, HO_10, HB⟩ := hcut
      cases kq with
      | zero => exact absurd HA.out (by simp [laws_FnExactPlaceOf.j0])
      | succ kj10 =>
        have H := HA.out
        clear HA
        simp only [laws_FnExactPlaceOf.j0] at H
        by_cases c20 : x42_10 = true
        · subst c20
          have H1 : (some false) = some r := by rw [if_pos rfl] at H; exact H
          clear H
          have H := H1
          clear H1
          obtain rfl := Option.some.inj H
          go_wp2
          go_ret
          exact ⟨by first | rfl | (simp [errW_none, errW_some] <;> rfl) | (simp [*, errW_none, errW_some] <;> rfl), by repeat (first | (with_reducible first | exact HB.out | apply below_alloc | apply pw_below_drewN | apply below_drew1) | exact HB.out)⟩
        · replace c20 := Bool.eq_false_iff.mpr c20
          subst c20
          have H1 : ((laws_toHunkS.f kj10 l0).bind fun t303 => ((laws_eqHunkS.f kj10 t298 t303).bind fun t306 => (if t306 = true then (some true) else (some false)))) = some r := by rw [if_neg (show ¬ (false = true) by decide)] at H; exact H
          clear H
          have H := H1
          clear H1
          replace H := Option.bind_eq_some_iff.mp H
          obtain ⟨t303, A210, H⟩ := H
          replace H : ((laws_eqHunkS.f kj10 t298 t303).bind fun t306 => (if t306 = true then (some true) else (some false))) = some r := H
          have A21 := Aside0.mk A210
          clear A210
          replace H := Option.bind_eq_some_iff.mp H
          obtain ⟨t306, A220, H⟩ := H
          replace H : (if t306 = true then (some true) else (some false)) = some r := H
          have A22 := Aside0.mk A220
          clear A220
          by_cases c23 : t306 = true
          · subst c23
            have H1 : (some true) = some r := by rw [if_pos rfl] at H; exact H
            clear H
            have H := H1
            clear H1
            obtain rfl := Option.some.inj H
            go_wp2_with (first | ((with_reducible refine gate_callee (f := 17) rfl ?_); refine goesL_ (some 45) rfl rfl Try.func17 (by kernel_rfl) rfl #[.slice A0 l0.length c0] rfl (by (try simp only [List.map_toArray, List.map_cons, List.map_nil]); first | done | rfl | (simp only [List.length_drop, List.length_take]; rfl)) ?_; (with_reducible refine (laws_toHunkS.calls kj10 _ _ l0 t303 _ ?side1 ?side2 A21.out).mono ?_); (case side1 => repeat (first | exact (Kd.C_below HR0.out HB.out) | (with_reducible refine Kd.C_alloc ?_ _) | (with_reducible refine Kd.C_drewN ?_ _) | (with_reducible refine Kd.C_drew ?_))); (case side2 => exact HC0.out); rintro e w24 ⟨v304, rfl, ho0, hb⟩; refine ⟨_, rfl, ?_⟩; have n0_ := Aside0.mk (Kd.S_elder' (by (with_reducible repeat (first | apply Kd.S_alloc | apply Kd.S_drewN | apply Kd.S_drew)); exact HO_10.out) (Kd.S_base ho0) hb); have n1_ := Aside0.mk (Kd.S_lower (Kd.S_new' ho0 (Kd.S_lt (by (with_reducible repeat (first | apply Kd.S_alloc | apply Kd.S_drewN | apply Kd.S_drew)); exact HO_10.out))) (below_size (by repeat (first | (with_reducible first | exact HB.out | apply below_alloc | apply pw_below_drewN | apply below_drew1) | exact HB.out)))); have n2_ := Aside0.mk (below_step (by repeat (first | (with_reducible first | exact HB.out | apply below_alloc | apply pw_below_drewN | apply below_drew1) | exact HB.out)) hb); clear HO_10; clear HB; have HO_10 := n0_; have HO305 := n1_; have HB := n2_; clear n0_ n1_ n2_; (try clear hb); (try clear hb2); (try clear hk); (try clear hi); (try clear ho0); obtain ⟨Ao25, co25, eo25⟩ := Kd.S_slice HO305.out; subst eo25) | ((with_reducible refine gate_callee (f := 19) rfl ?_); refine goesL_ (some 46) rfl rfl Try.func19 (by kernel_rfl) rfl #[.slice Ao17 t298.length co17, .slice Ao25 t303.length co25] rfl (by (try simp only [List.map_toArray, List.map_cons, List.map_nil]); first | done | rfl | (simp only [List.length_drop, List.length_take]; rfl)) ?_; (with_reducible refine (laws_eqHunkS.calls kj10 _ _ t298 _ _ t303 true _ ?side1 ?side2 ?side3 ?side4 A22.out).mono ?_); (case side1 => repeat (first | exact (Kd.S_reads' HO_10.out).2.2 | (with_reducible refine Kd.C_alloc ?_ _) | (with_reducible refine Kd.C_drewN ?_ _) | (with_reducible refine Kd.C_drew ?_))); (case side2 => exact (Kd.S_reads' HO_10.out).2.1); (case side3 => repeat (first | exact (Kd.S_reads' HO305.out).2.2 | (with_reducible refine Kd.C_alloc ?_ _) | (with_reducible refine Kd.C_drewN ?_ _) | (with_reducible refine Kd.C_drew ?_))); (case side4 => exact (Kd.S_reads' HO305.out).2.1); rintro e w26 ⟨rfl, hb⟩; refine ⟨_, rfl, ?_⟩; have n0_ := Aside0.mk (Kd.S_below (by (with_reducible repeat (first | apply Kd.S_alloc | apply Kd.S_drewN | apply Kd.S_drew)); exact HO_10.out) hb); have n1_ := Aside0.mk (Kd.S_below (by (with_reducible repeat (first | apply Kd.S_alloc | apply Kd.S_drewN | apply Kd.S_drew)); exact HO305.out) hb); have n2_ := Aside0.mk (below_step (by repeat (first | (with_reducible first | exact HB.out | apply below_alloc | apply pw_below_drewN | apply below_drew1) | exact HB.out)) hb); clear HO_10; clear HO305; clear HB; have HO_10 := n0_; have HO305 := n1_; have HB := n2_; clear n0_ n1_ n2_; (try clear hb); (try clear hb2); (try clear hk); (try clear hi)))
            go_ret
            exact ⟨by first | rfl | (simp [errW_none, errW_some] <;> rfl) | (simp [*, errW_none, errW_some] <;> rfl), by repeat (first | (with_reducible first | exact HB.out | apply below_alloc | apply pw_below_drewN | apply below_drew1) | exact HB.out)⟩
          · replace c23 := Bool.eq_false_iff.mpr c23
            subst c23
            have H1 : (some false) = some r := by rw [if_neg (show ¬ (false = true) by decide)] at H; exact H
            clear H
            have H := H1
            clear H1
            obtain rfl := Option.some.inj H
            go_wp2_with (first | ((with_reducible refine gate_callee (f := 17) rfl ?_); refine goesL_ (some 45) rfl rfl Try.func17 (by kernel_rfl) rfl #[.slice A0 l0.length c0] rfl (by (try simp only [List.map_toArray, List.map_cons, List.map_nil]); first | done | rfl | (simp only [List.length_drop, List.length_take]; rfl)) ?_; (with_reducible refine (laws_toHunkS.calls kj10 _ _ l0 t303 _ ?side1 ?side2 A21.out).mono ?_); (case side1 => repeat (first | exact (Kd.C_below HR0.out HB.out) | (with_reducible refine Kd.C_alloc ?_ _) | (with_reducible refine Kd.C_drewN ?_ _) | (with_reducible refine Kd.C_drew ?_))); (case side2 => exact HC0.out); rintro e w27 ⟨v304, rfl, ho0, hb⟩; refine ⟨_, rfl, ?_⟩; have n0_ := Aside0.mk (Kd.S_elder' (by (with_reducible repeat (first | apply Kd.S_alloc | apply Kd.S_drewN | apply Kd.S_drew)); exact HO_10.out) (Kd.S_base ho0) hb); have n1_ := Aside0.mk (Kd.S_lower (Kd.S_new' ho0 (Kd.S_lt (by (with_reducible repeat (first | apply Kd.S_alloc | apply Kd.S_drewN | apply Kd.S_drew)); exact HO_10.out))) (below_size (by repeat (first | (with_reducible first | exact HB.out | apply below_alloc | apply pw_below_drewN | apply below_drew1) | exact HB.out)))); have n2_ := Aside0.mk (below_step (by repeat (first | (with_reducible first | exact HB.out | apply below_alloc | apply pw_below_drewN | apply below_drew1) | exact HB.out)) hb); clear HO_10; clear HB; have HO_10 := n0_; have HO305 := n1_; have HB := n2_; clear n0_ n1_ n2_; (try clear hb); (try clear hb2); (try clear hk); (try clear hi); (try clear ho0); obtain ⟨Ao28, co28, eo28⟩ := Kd.S_slice HO305.out; subst eo28) | ((with_reducible refine gate_callee (f := 19) rfl ?_); refine goesL_ (some 46) rfl rfl Try.func19 (by kernel_rfl) rfl #[.slice Ao17 t298.length co17, .slice Ao28 t303.length co28] rfl (by (try simp only [List.map_toArray, List.map_cons, List.map_nil]); first | done | rfl | (simp only [List.length_drop, List.length_take]; rfl)) ?_; (with_reducible refine (laws_eqHunkS.calls kj10 _ _ t298 _ _ t303 false _ ?side1 ?side2 ?side3 ?side4 A22.out).mono ?_); (case side1 => repeat (first | exact (Kd.S_reads' HO_10.out).2.2 | (with_reducible refine Kd.C_alloc ?_ _) | (with_reducible refine Kd.C_drewN ?_ _) | (with_reducible refine Kd.C_drew ?_))); (case side2 => exact (Kd.S_reads' HO_10.out).2.1); (case side3 => repeat (first | exact (Kd.S_reads' HO305.out).2.2 | (with_reducible refine Kd.C_alloc ?_ _) | (with_reducible refine Kd.C_drewN ?_ _) | (with_reducible refine Kd.C_drew ?_))); (case side4 => exact (Kd.S_reads' HO305.out).2.1); rintro e w29 ⟨rfl, hb⟩; refine ⟨_, rfl, ?_⟩; have n0_ := Aside0.mk (Kd.S_below (by (with_reducible repeat (first | apply Kd.S_alloc | apply Kd.S_drewN | apply Kd.S_drew)); exact HO_10.out) hb); have n1_ := Aside0.mk (Kd.S_below (by (with_reducible repeat (first | apply Kd.S_alloc | apply Kd.S_drewN | apply Kd.S_drew)); exact HO305.out) hb); have n2_ := Aside0.mk (below_step (by repeat (first | (with_reducible first | exact HB.out | apply below_alloc | apply pw_below_drewN | apply below_drew1) | exact HB.out)) hb); clear HO_10; clear HO305; clear HB; have HO_10 := n0_; have HO305 := n1_; have HB := n2_; clear n0_ n1_ n2_; (try clear hb); (try clear hb2); (try clear hk); (try clear hi)))
            go_ret
            exact ⟨by first | rfl | (simp [errW_none, errW_some] <;> rfl) | (simp [*, errW_none, errW_some] <;> rfl), by repeat (first | (with_reducible first | exact HB.out | apply below_alloc | apply pw_below_drewN | apply below_drew1) | exact HB.out)⟩

end Go.Proofs.Ytbbkecdlapemfaa.My

/- Written by this session's program (wip/gen): the law's pure statement. -/
namespace Go.Proofs.Ytbbkecdlapemfaa.My
open Go.RowKit Go.Proofs.YtbbkecdlapemfaaW.PrintWords Go.Proofs.YtbbkecdlapemfaaW.PrintLast Go.Proofs.YtbbkecdlapemfaaW.PrintMore
attribute [local go_sem] max2_int min2_int max_two min_two max_three min_three max_four min_four
set_option linter.unusedVariables false
set_option linter.unusedSimpArgs false

/-- What is left to prove of laws_FnExactPlaceOf. -/
def laws_FnExactPlaceOf.Pure : Prop := ∀ (l0 : List (S82)) (a1 : Int) (a2 : Int), (WL W82) l0 → Wint a1 → Wint a2 → ∃ k, laws_FnExactPlaceOf.f k l0 a1 a2 = some true
end Go.Proofs.Ytbbkecdlapemfaa.My

/- Plain Lean, no program in sight: what holds from some number of rounds on, whole numbers that do not wrap, lists by an index. -/
namespace Go.Proofs.Ytbbkecdlapemfaa.Pl
open Go.RowKit Go.Proofs.YtbbkecdlapemfaaW.PrintWords Go.Proofs.YtbbkecdlapemfaaW.PrintLast
set_option linter.unusedVariables false
set_option linter.unusedSimpArgs false

section
variable {α β : Type}
theorem ev_pos {c : Prop} [Decidable c] {g g' : Nat → Option α} {r : α} (hc : c) (h : Ev g r) : Ev (fun k => if c then g k else g' k) r :=
  Ev.congr (fun _ => if_pos hc) h
theorem ev_neg {c : Prop} [Decidable c] {g g' : Nat → Option α} {r : α} (hc : ¬ c) (h : Ev g' r) : Ev (fun k => if c then g k else g' k) r :=
  Ev.congr (fun _ => if_neg hc) h
theorem ev_ite {c : Prop} [Decidable c] {g g' : Nat → Option α} {r : α} (h : c → Ev g r) (h' : ¬ c → Ev g' r) : Ev (fun k => if c then g k else g' k) r := by
  by_cases hc : c
  · exact ev_pos hc (h hc)
  · exact ev_neg hc (h' hc)
theorem ev_some {r r' : α} (h : r = r') : Ev (fun _ => some r) r' := h ▸ Ev.now r
theorem ev_const {o : Option α} {r : α} (h : o = some r) : Ev (fun _ => o) r := ⟨0, fun _ _ => h⟩
theorem ev_to {g : Nat → Option α} {r r' : α} (h : Ev g r) (e : r = r') : Ev g r' := e ▸ h
theorem ev_bind {g : Nat → Option α} {f : Nat → α → Option β} {a : α} {r : β} (h : Ev g a) (k : Ev (fun n => f n a) r) : Ev (fun n => (g n).bind fun t => f n t) r := Ev.bind h k
end

theorem wrap64_id {x : Int} (h : -9223372036854775808 ≤ x) (h' : x ≤ 9223372036854775807) : wrap64 x = x := by
  unfold wrap64
  omega
theorem wrap_succ (i : Nat) (h : i < 9223372036854775807) : wrap64 ((i : Int) + 1) = ((i + 1 : Nat) : Int) := by
  rw [wrap64_id (by omega) (by omega)]
  omega
theorem wrap_pred (n : Nat) (h0 : 0 < n) (h : n ≤ 9223372036854775807) : wrap64 ((n : Int) - 1) = ((n - 1 : Nat) : Int) := by
  rw [wrap64_id (by omega) (by omega)]
  omega
theorem wrap_sub (n m : Nat) (h0 : m ≤ n) (h : n ≤ 9223372036854775807) : wrap64 ((n : Int) - (m : Int)) = ((n - m : Nat) : Int) := by
  rw [wrap64_id (by omega) (by omega)]
  omega
theorem wrap_add (n m : Nat) (h : n + m ≤ 9223372036854775807) : wrap64 ((n : Int) + (m : Int)) = ((n + m : Nat) : Int) := by
  rw [wrap64_id (by omega) (by omega)]
  omega

theorem rdOf_nat {α : Type} (d : α) (xs : List α) (i : Nat) : rdOf d xs (i : Int) = xs.getD i d := rfl
theorem rd_nat (xs : List Int) (i : Nat) : rd xs (i : Int) = xs.getD i 0 := rfl
theorem getD_lt {α : Type} (xs : List α) (d : α) (i : Nat) (h : i < xs.length) : xs.getD i d = xs[i] := by
  simp [List.getD_eq_getElem?_getD, List.getElem?_eq_getElem h]
theorem rdOf_lt {α : Type} (d : α) (xs : List α) (i : Nat) (h : i < xs.length) : rdOf d xs (i : Int) = xs[i] := getD_lt xs d i h
theorem ba_ext {a b : ByteArray} (h : a.toList = b.toList) : a = b := by
  rw [Lib.toList_data, Lib.toList_data] at h
  cases a with | mk a => cases b with | mk b =>
  cases a with | mk a => cases b with | mk b =>
  simp_all
theorem ba_iff {a b : ByteArray} : a.toList = b.toList ↔ a = b := ⟨ba_ext, fun h => by rw [h]⟩
theorem drop_cons {α : Type} (xs : List α) (i : Nat) (h : i < xs.length) : xs.drop i = xs[i] :: xs.drop (i + 1) := List.drop_eq_getElem_cons h
theorem bt_nat (s : ByteArray) (i : Nat) (h : i < s.size) : bt s (i : Int) = ((s.data.toList[i]'(by rw [data_length]; exact h)).toNat : Int) := by
  unfold bt
  rw [dif_pos (by simpa using h)]
  simp [ByteArray.getElem_eq_getElem_data]
theorem u8_eq {b c : UInt8} (h : (b.toNat : Int) = (c.toNat : Int)) : b = c := UInt8.toNat_inj.1 (by omega)
theorem u8_ne {b c : UInt8} (h : ¬ (b.toNat : Int) = (c.toNat : Int)) : ¬ c = b := fun e => h (by rw [e])
end Go.Proofs.Ytbbkecdlapemfaa.Pl

/- Plain Lean: whether a number lies between two. No condition. -/
namespace Go.Proofs.Ytbbkecdlapemfaa.Pl
open Go.RowKit Go.Proofs.YtbbkecdlapemfaaW.PrintWords Go.Proofs.YtbbkecdlapemfaaW.PrintLast Go.Proofs.Ytbbkecdlapemfaa.My
set_option linter.unusedVariables false
set_option linter.unusedSimpArgs false

def inB (n lo hi : Int) : Bool := decide (lo ≤ n) && decide (n ≤ hi)
theorem impl_in_eq (a b c : Int) : impl_in.f a b c = some (inB a b c) := by
  unfold impl_in.f inB
  by_cases h : b ≤ a
  · rw [if_pos h]; simp [h]
  · rw [if_neg (by omega)]; simp [h]
theorem spec_l1In_eq (a b c : Int) : spec_l1In.f a b c = some (inB a b c) := by
  unfold spec_l1In.f inB
  by_cases h : b ≤ a
  · rw [if_pos h]; simp [h]
  · rw [if_neg (by omega)]; simp [h]
end Go.Proofs.Ytbbkecdlapemfaa.Pl

/- Plain Lean: what the laws' own helpers on lists of strings come to. Conditions: lengths and sizes below 2^63. -/
namespace Go.Proofs.Ytbbkecdlapemfaa.Pl
open Go.RowKit Go.Proofs.YtbbkecdlapemfaaW.PrintWords Go.Proofs.YtbbkecdlapemfaaW.PrintLast Go.Proofs.Ytbbkecdlapemfaa.My
set_option linter.unusedVariables false
set_option linter.unusedSimpArgs false

/-- What came in fits. -/
def FitS (l : List ByteArray) : Prop := l.length ≤ 9223372036854775807 ∧ ∀ s ∈ l, s.size ≤ 9223372036854775807
def sumS (l : List ByteArray) : Nat := (l.map ByteArray.size).sum
def szS (l : List ByteArray) : Nat := l.length + sumS l

theorem sumS_drop (l : List ByteArray) (i : Nat) (h : i < l.length) : sumS (l.drop i) = l[i].size + sumS (l.drop (i + 1)) := by
  unfold sumS
  rw [List.drop_eq_getElem_cons h, List.map_cons, List.sum_cons]

theorem sumS_mem (l : List ByteArray) (s : ByteArray) (h : s ∈ l) : s.size ≤ sumS l := by
  unfold sumS
  induction l with
  | nil => simp at h
  | cons a l ih =>
    simp only [List.map_cons, List.sum_cons]
    rcases List.mem_cons.1 h with rfl | h
    · omega
    · have := ih h
      omega

theorem fitS_of_sz {l : List ByteArray} (h : szS l ≤ 9223372036854775807) : FitS l := by
  unfold szS at h
  exact ⟨by omega, fun s hs => by have := sumS_mem l s hs; omega⟩

theorem fitS_of_wl {l : List ByteArray} (h : WL Wstr l) : FitS l := by
  unfold WL Wstr maxLen at h
  exact h

/-- What is left of so many letters and values. -/
def leftOf (a : Int) (n : Nat) (r : Int) : Prop := r < 0 ∨ (0 ≤ r ∧ r + n = a)

theorem szStringS_l0 (l : List ByteArray) (hf : FitS l) : ∀ d i (a : Int), i + d = l.length → 0 ≤ a → a ≤ 1048576 → ∃ r, Ev (fun k => laws_szStringS.l0 k l a (i : Int)) r ∧ leftOf a (sumS (l.drop i)) r := by
  intro d
  have hL := hf.1
  induction d with
  | zero =>
    intro i a hi h0 h1
    refine ⟨a, Ev.step (fun k => laws_szStringS.l0.eq_2 ..) (ev_neg (by omega) (ev_some rfl)), .inr ⟨h0, ?_⟩⟩
    rw [List.drop_of_length_le (by omega)]
    simp [sumS]
  | succ d ih =>
    intro i a hi h0 h1
    have hlt : i < l.length := by omega
    have hs := hf.2 _ (List.getElem_mem hlt)
    rw [sumS_drop l i hlt]
    by_cases h : a - (l[i].size : Int) < 0
    · refine ⟨-1, Ev.step (fun k => laws_szStringS.l0.eq_2 ..) (ev_pos (by omega) (ev_pos (by omega) (ev_pos ?_ (ev_some rfl)))), .inl (by omega)⟩
      rw [rdOf_lt _ _ _ hlt, wrap64_id (by omega) (by omega)]
      exact h
    · obtain ⟨r, hr, hl⟩ := ih (i + 1) (a - (l[i].size : Int)) (by omega) (by omega) (by omega)
      refine ⟨r, Ev.step (fun k => laws_szStringS.l0.eq_2 ..) (ev_pos (by omega) (ev_pos (by omega) (ev_neg ?_ ?_))), ?_⟩
      · rw [rdOf_lt _ _ _ hlt, wrap64_id (by omega) (by omega)]
        exact h
      · rw [rdOf_lt _ _ _ hlt, wrap64_id (by omega) (by omega), wrap_succ i (by omega)]
        exact hr
      · rcases hl with hl | hl
        · exact .inl hl
        · exact .inr (by omega)

theorem szStringS_ev (l : List ByteArray) (hf : FitS l) (a : Int) (h0 : 0 ≤ a) (h1 : a ≤ 1048576) : ∃ r, Ev (fun k => laws_szStringS.f k l a) r ∧ leftOf a (szS l) r := by
  have hL := hf.1
  simp only [laws_szStringS.f]
  rw [wrap64_id (by omega) (by omega)]
  by_cases h : a - (l.length : Int) < 0
  · exact ⟨-1, ev_pos h (ev_some rfl), .inl (by omega)⟩
  · obtain ⟨r, hr, hl⟩ := szStringS_l0 l hf l.length 0 (a - (l.length : Int)) (by omega) (by omega) (by omega)
    refine ⟨r, ev_neg h hr, ?_⟩
    rcases hl with hl | hl
    · exact .inl hl
    · rw [List.drop_zero] at hl
      exact .inr (by unfold szS; omega)

theorem toStringS_l0 (l : List ByteArray) (hL : l.length ≤ 17592186044416) : ∀ d i (o : List ByteArray), i + d = l.length → o.length = l.length → o.take i = l.take i → Ev (fun k => laws_toStringS.l0 k l o (i : Int)) l := by
  intro d
  induction d with
  | zero =>
    intro i o hi hl ht
    refine Ev.step (fun k => laws_toStringS.l0.eq_2 ..) (ev_neg (by omega) (ev_some ?_))
    rw [List.take_of_length_le (by omega), List.take_of_length_le (by omega)] at ht
    exact ht
  | succ d ih =>
    intro i o hi hl ht
    have hlt : i < l.length := by omega
    refine Ev.step (fun k => laws_toStringS.l0.eq_2 ..) (ev_pos (by omega) (ev_pos (by omega) (ev_pos (by omega) ?_)))
    rw [wrap_succ i (by omega), Int.toNat_natCast, rdOf_lt _ _ _ hlt]
    refine ih (i + 1) _ (by omega) (by rw [List.length_set]; exact hl) ?_
    rw [List.take_succ_eq_append_getElem (by rw [List.length_set]; omega), List.take_succ_eq_append_getElem hlt, List.getElem_set_self, List.take_set_of_le (Nat.le_refl i), ht]

theorem toStringS_ev (l : List ByteArray) (hL : l.length ≤ 17592186044416) : Ev (fun k => laws_toStringS.f k l) l := by
  simp only [laws_toStringS.f]
  refine ev_pos (by omega) (ev_pos (by omega) ?_)
  exact toStringS_l0 l hL l.length 0 _ (by omega) (by simp) rfl

theorem eqStringS_l0 (a b : List ByteArray) (hab : a.length = b.length) (hL : a.length ≤ 9223372036854775807) : ∀ d i, i + d = a.length → Ev (fun k => laws_eqStringS.l0 k a b (i : Int)) (decide (a.drop i = b.drop i)) := by
  intro d
  induction d with
  | zero =>
    intro i hi
    refine Ev.step (fun k => laws_eqStringS.l0.eq_2 ..) (ev_neg (by omega) (ev_some ?_))
    rw [List.drop_of_length_le (by omega), List.drop_of_length_le (by omega)]
    simp
  | succ d ih =>
    intro i hi
    have h1 : i < a.length := by omega
    have h2 : i < b.length := by omega
    refine Ev.step (fun k => laws_eqStringS.l0.eq_2 ..) (ev_pos (by omega) (ev_pos (by omega) (ev_pos (by omega) ?_)))
    rw [rdOf_lt _ _ _ h1, rdOf_lt _ _ _ h2, drop_cons a i h1, drop_cons b i h2]
    refine ev_ite (fun h => ?_) (fun h => ev_some ?_)
    · rw [wrap_succ i (by omega)]
      refine ev_to (ih (i + 1) (by omega)) ?_
      rw [ba_ext h]
      simp only [List.cons.injEq, true_and]
    · have : ¬ a[i] = b[i] := fun e => h (by rw [e])
      simp only [List.cons.injEq, this, false_and, decide_false]

theorem eqStringS_ev (a b : List ByteArray) (hL : a.length ≤ 9223372036854775807) : Ev (fun k => laws_eqStringS.f k a b) (decide (a = b)) := by
  simp only [laws_eqStringS.f]
  refine ev_ite (fun h => ?_) (fun h => ev_some ?_)
  · exact eqStringS_l0 a b (by omega) hL a.length 0 (by omega)
  · have : ¬ a = b := fun e => h (by rw [e])
    simp [this]
end Go.Proofs.Ytbbkecdlapemfaa.Pl

/- Written by this session's program (wip/gen): a plain function with the same answers as the Go function, and the proof that the Go code comes to them. Asked: that the plain function has an answer. -/
namespace Go.Proofs.Ytbbkecdlapemfaa.My
open Go.RowKit Go.Proofs.YtbbkecdlapemfaaW.PrintWords Go.Proofs.YtbbkecdlapemfaaW.PrintLast Go.Proofs.YtbbkecdlapemfaaW.PrintMore
attribute [local go_sem] max2_int min2_int max_two min_two max_three min_three max_four min_four
set_option linter.unusedVariables false
set_option linter.unusedSimpArgs false

/-! ### stringslite_HasSuffix: function 148 -/
def stringslite_HasSuffix.f (a0 : ByteArray) (a1 : ByteArray) : Option (Bool) := if (a0.size : Int) ≥ (a1.size : Int) then (if 0 ≤ (wrap64 ((a0.size : Int) - (a1.size : Int))) then (if (wrap64 ((a0.size : Int) - (a1.size : Int))) ≤ (a0.size : Int) then (some ((a0.extract ((wrap64 ((a0.size : Int) - (a1.size : Int))) : Int).toNat a0.size).toList == a1.toList)) else (none)) else (none)) else (some false)
set_option maxHeartbeats 8000000 in
set_option maxRecDepth 100000 in
theorem stringslite_HasSuffix.calls (a0 : ByteArray) (a1 : ByteArray) (r : Bool) (w : World) (h : stringslite_HasSuffix.f a0 a1 = some r) :
    Calls Try.prog 148 #[.string a0, .string a1] w fun e w' => e = .returned (.bool r) ∧ Drawn0 w w' := by
  have H : (if (a0.size : Int) ≥ (a1.size : Int) then (if 0 ≤ (wrap64 ((a0.size : Int) - (a1.size : Int))) then (if (wrap64 ((a0.size : Int) - (a1.size : Int))) ≤ (a0.size : Int) then (some ((a0.extract ((wrap64 ((a0.size : Int) - (a1.size : Int))) : Int).toNat a0.size).toList == a1.toList)) else (none)) else (none)) else (some false)) = some r := h
  clear h
  by_cases c3 : (a0.size : Int) ≥ (a1.size : Int)
  · rw [if_pos c3] at H
    have c3b0 : decide ((a1.size : Int) ≤ (a0.size : Int)) = true := decide_eq_true c3
    have c3b1 : decide (a1.size ≤ a0.size) = true := decide_eq_true (Int.ofNat_le.mp c3)
    clear c3
    obtain ⟨ji4, hji4⟩ : ∃ j_ : Int, (wrap64 ((a0.size : Int) - (a1.size : Int))) = j_ := ⟨_, rfl⟩
    replace H : (if 0 ≤ (ji4) then (if (ji4) ≤ (a0.size : Int) then (some ((a0.extract ((ji4) : Int).toNat a0.size).toList == a1.toList)) else (none)) else (none)) = some r := by first | (rw [hji4] at H; exact H) | (simp only [hji4] at H ⊢; exact H)
    have hji4w : (IntKind.i64.wrap ((a0.size : Int) - (a1.size : Int))) = ji4 := (i64_w _).trans hji4
    by_cases c5 : 0 ≤ (ji4)
    · rw [if_pos c5] at H
      have c5b0 := eq_true c5
      have c5b1 : decide (0 ≤ (ji4)) = true := decide_eq_true c5
      clear c5
      by_cases c6 : (ji4) ≤ (a0.size : Int)
      · rw [if_pos c6] at H
        have c6b0 := eq_true c6
        have c6b1 : decide ((ji4) ≤ (a0.size : Int)) = true := decide_eq_true c6
        clear c6
        obtain rfl := Option.some.inj H
        go_enter Try.func148, Try.ntmps148
        go_wp2
        go_ret
        exact ⟨by first | rfl | (simp; done) | (simp only [← hji4] <;> (first | rfl | simp)) | (simp [*]; done), by repeat (first | exact Drawn0.refl _ | apply Drawn0.step)⟩
      · rw [if_neg c6] at H
        exact absurd H (by simp)
    · rw [if_neg c5] at H
      exact absurd H (by simp)
  · rw [if_neg c3] at H
    have c3b0 : decide ((a1.size : Int) ≤ (a0.size : Int)) = false := decide_eq_false c3
    have c3b1 : decide (a1.size ≤ a0.size) = false := decide_eq_false (fun h => c3 (Int.ofNat_le.mpr h))
    clear c3
    obtain rfl := Option.some.inj H
    go_enter Try.func148, Try.ntmps148
    go_wp2
    go_ret
    exact ⟨by first | rfl | (simp; done) | (simp [*]; done), by repeat (first | exact Drawn0.refl _ | apply Drawn0.step)⟩

end Go.Proofs.Ytbbkecdlapemfaa.My

/- Written by this session's program (wip/gen): a plain function with the same answers as the Go function, and the proof that the Go code comes to them. Asked: that the plain function has an answer. -/
namespace Go.Proofs.Ytbbkecdlapemfaa.My
open Go.RowKit Go.Proofs.YtbbkecdlapemfaaW.PrintWords Go.Proofs.YtbbkecdlapemfaaW.PrintLast Go.Proofs.YtbbkecdlapemfaaW.PrintMore
attribute [local go_sem] max2_int min2_int max_two min_two max_three min_three max_four min_four
set_option linter.unusedVariables false
set_option linter.unusedSimpArgs false

/-! ### strings_HasSuffix: function 142 -/
def strings_HasSuffix.f (a0 : ByteArray) (a1 : ByteArray) : Option (Bool) := (stringslite_HasSuffix.f a0 a1).bind fun t215 => (some t215)
set_option maxHeartbeats 8000000 in
set_option maxRecDepth 100000 in
theorem strings_HasSuffix.calls (a0 : ByteArray) (a1 : ByteArray) (r : Bool) (w : World) (h : strings_HasSuffix.f a0 a1 = some r) :
    Calls Try.prog 142 #[.string a0, .string a1] w fun e w' => e = .returned (.bool r) ∧ Drawn0 w w' := by
  have H : ((stringslite_HasSuffix.f a0 a1).bind fun t215 => (some t215)) = some r := h
  clear h
  replace H := Option.bind_eq_some_iff.mp H
  obtain ⟨t215, A30, H⟩ := H
  replace H : (some t215) = some r := H
  have A3 := Aside0.mk A30
  clear A30
  obtain rfl := Option.some.inj H
  go_enter Try.func142, Try.ntmps142
  go_wp2_with (first | ((with_reducible refine gate_callee (f := 148) rfl ?_); refine goesL_ (some 7) rfl rfl Try.func148 (by kernel_rfl) rfl #[.string a0, .string a1] rfl (by (try simp only [List.map_toArray, List.map_cons, List.map_nil]); first | done | rfl | (simp only [List.length_drop, List.length_take]; rfl)) ?_; (with_reducible refine (stringslite_HasSuffix.calls a0 a1 t215 _ A3.out).mono ?_); rintro e w' ⟨rfl, ⟨nd, rfl⟩⟩; refine ⟨_, rfl, ?_⟩))
  go_ret
  exact ⟨by first | rfl | (simp; done) | (simp [*]; done), by repeat (first | exact Drawn0.refl _ | apply Drawn0.step)⟩

end Go.Proofs.Ytbbkecdlapemfaa.My

/- Written by this session's program (wip/gen): a plain function with the same answers as the Go function, and the proof that the Go code comes to them. Asked: that the plain function has an answer. -/
namespace Go.Proofs.Ytbbkecdlapemfaa.My
open Go.RowKit Go.Proofs.YtbbkecdlapemfaaW.PrintWords Go.Proofs.YtbbkecdlapemfaaW.PrintLast Go.Proofs.YtbbkecdlapemfaaW.PrintMore
attribute [local go_sem] max2_int min2_int max_two min_two max_three min_three max_four min_four
set_option linter.unusedVariables false
set_option linter.unusedSimpArgs false

/-! ### impl_isEnded: function 122 -/
def impl_isEnded.f (a0 : ByteArray) : Option (Bool) := (strings_HasSuffix.f a0 (⟨#[10]⟩ : ByteArray)).bind fun t216 => (some t216)
set_option maxHeartbeats 8000000 in
set_option maxRecDepth 100000 in
theorem impl_isEnded.calls (a0 : ByteArray) (r : Bool) (w : World) (h : impl_isEnded.f a0 = some r) :
    Calls Try.prog 122 #[.string a0] w fun e w' => e = .returned (.bool r) ∧ Drawn0 w w' := by
  have H : ((strings_HasSuffix.f a0 (⟨#[10]⟩ : ByteArray)).bind fun t216 => (some t216)) = some r := h
  clear h
  replace H := Option.bind_eq_some_iff.mp H
  obtain ⟨t216, A20, H⟩ := H
  replace H : (some t216) = some r := H
  have A2 := Aside0.mk A20
  clear A20
  obtain rfl := Option.some.inj H
  go_enter Try.func122, Try.ntmps122
  go_wp2_with (first | ((with_reducible refine gate_callee (f := 142) rfl ?_); refine goesL_ (some 4) rfl rfl Try.func142 (by kernel_rfl) rfl #[.string a0, .string (⟨#[10]⟩ : ByteArray)] rfl (by (try simp only [List.map_toArray, List.map_cons, List.map_nil]); first | done | rfl | (simp only [List.length_drop, List.length_take]; rfl)) ?_; (with_reducible refine (strings_HasSuffix.calls a0 (⟨#[10]⟩ : ByteArray) t216 _ A2.out).mono ?_); rintro e w' ⟨rfl, ⟨nd, rfl⟩⟩; refine ⟨_, rfl, ?_⟩))
  go_ret
  exact ⟨by first | rfl | (simp; done) | (simp [*]; done), by repeat (first | exact Drawn0.refl _ | apply Drawn0.step)⟩

end Go.Proofs.Ytbbkecdlapemfaa.My

/- Written by this session's program (wip/gen): a plain function with the same answers as the Go function, and the proof that the Go code comes to them. Asked: that the plain function has an answer. -/
namespace Go.Proofs.Ytbbkecdlapemfaa.My
open Go.RowKit Go.Proofs.YtbbkecdlapemfaaW.PrintWords Go.Proofs.YtbbkecdlapemfaaW.PrintLast Go.Proofs.YtbbkecdlapemfaaW.PrintMore
attribute [local go_sem] max2_int min2_int max_two min_two max_three min_three max_four min_four
set_option linter.unusedVariables false
set_option linter.unusedSimpArgs false

/-! ### impl_goodLines: function 80 -/
def impl_goodLines.l0 : Nat → List ByteArray → List ByteArray → Int → Int → Option (Bool)
  | 0, _, _, _, _ => none
  | k + 1, x0, x8, x9, x10 => if x10 < x9 then (if 0 ≤ x10 then (if x10 < (x8.length : Int) then (if x10 < (wrap64 ((x0.length : Int) - 1)) then ((impl_isEnded.f (rdOf ByteArray.empty x8 x10)).bind fun t219 => (if t219 = true then (impl_goodLines.l0 k x0 x8 x9 (wrap64 (x10 + 1))) else (some false))) else (impl_goodLines.l0 k x0 x8 x9 (wrap64 (x10 + 1)))) else (none)) else (none)) else (some true)
def impl_goodLines.f (k : Nat) (l0 : List ByteArray) : Option (Bool) := (impl_areLines.f k l0).bind fun t217 => (if t217 = true then (impl_goodLines.l0 k l0 l0 (l0.length : Int) 0) else (some false))
theorem impl_goodLines.mono_l : ∀ k, (∀ y0 y1 y2 y3, LeO (impl_goodLines.l0 k y0 y1 y2 y3) (impl_goodLines.l0 (k + 1) y0 y1 y2 y3))
  | 0 => fun _ _ _ _ r h => by simp [impl_goodLines.l0] at h
  | k + 1 => by
    have ih0 := impl_goodLines.mono_l k
    · intro y0 y1 y2 y3
      unfold impl_goodLines.l0
      repeat' first
      | (with_reducible exact ih0 _ _ _ _)
      | (with_reducible exact impl_areLines.mono _ _)
      | (with_reducible exact LeO.refl _)
      | (with_reducible exact LeO.none _)
      | (with_reducible refine LeO.ite ?_ ?_)
      | (with_reducible refine LeO.bind ?_ (fun _ => ?_))
      | exact ih0 _ _ _ _
      | exact impl_areLines.mono _ _
      | exact LeO.none _
      | refine LeO.ite ?_ ?_
      | refine LeO.bind ?_ (fun _ => ?_)
theorem impl_goodLines.mono : ∀ a0 k, LeO (impl_goodLines.f k a0) (impl_goodLines.f (k + 1) a0) := by
  intro a0 k
  have ih0 := impl_goodLines.mono_l k
  unfold impl_goodLines.f
  repeat' first
      | (with_reducible exact ih0 _ _ _ _)
      | (with_reducible exact impl_areLines.mono _ _)
      | (with_reducible exact LeO.refl _)
      | (with_reducible exact LeO.none _)
      | (with_reducible refine LeO.ite ?_ ?_)
      | (with_reducible refine LeO.bind ?_ (fun _ => ?_))
      | exact ih0 _ _ _ _
      | exact impl_areLines.mono _ _
      | exact LeO.none _
      | refine LeO.ite ?_ ?_
      | refine LeO.bind ?_ (fun _ => ?_)
set_option maxHeartbeats 8000000 in
set_option maxRecDepth 100000 in
theorem impl_goodLines.calls (k : Nat) (A0 : Option Addr) (c0 : Nat) (l0 : List ByteArray) (r : Bool) (w : World) (hr0 : Kd.C Kd.string w A0 l0.length l0) (hc0 : l0.length ≤ c0) (h : impl_goodLines.f k l0 = some r) :
    Calls Try.prog 80 #[.slice A0 l0.length c0] w fun e w' => e = .returned (.bool r) ∧ Drawn0 w w' := by
  have HR0 := Aside0.mk hr0
  have HC0 := Aside0.mk hc0
  clear hr0 hc0
  have H : ((impl_areLines.f k l0).bind fun t217 => (if t217 = true then (impl_goodLines.l0 k l0 l0 (l0.length : Int) 0) else (some false))) = some r := h
  clear h
  replace H := Option.bind_eq_some_iff.mp H
  obtain ⟨t217, A20, H⟩ := H
  replace H : (if t217 = true then (impl_goodLines.l0 k l0 l0 (l0.length : Int) 0) else (some false)) = some r := H
  have A2 := Aside0.mk A20
  clear A20
  by_cases c3 : t217 = true
  · subst c3
    have H1 : (impl_goodLines.l0 k l0 l0 (l0.length : Int) 0) = some r := by rw [if_pos rfl] at H; exact H
    clear H
    have H := H1
    clear H1
    have H' := Aside0.mk H
    clear H
    go_enter Try.func80, Try.ntmps80
    go_wp2_with (first | ((with_reducible refine gate_callee (f := 116) rfl ?_); refine goesL_ (some 6) rfl rfl Try.func116 (by kernel_rfl) rfl #[.slice A0 l0.length c0] rfl (by (try simp only [List.map_toArray, List.map_cons, List.map_nil]); first | done | rfl | (simp only [List.length_drop, List.length_take]; rfl)) ?_; (with_reducible refine (impl_areLines.calls k _ _ l0 true _ ?side1 ?side2 A2.out).mono ?_); (case side1 => repeat (first | exact HR0.out | (with_reducible refine Kd.C_alloc ?_ _) | (with_reducible refine Kd.C_drewN ?_ _) | (with_reducible refine Kd.C_drew ?_))); (case side2 => exact HC0.out); rintro e w' ⟨rfl, ⟨nd, rfl⟩⟩; refine ⟨_, rfl, ?_⟩))
    go_loopg [10] k (fun kq v10 w' => ∃ (x10_1 : Int), v10 = .int .i64 x10_1 ∧ Aside0 (impl_goodLines.l0 kq l0 l0 (l0.length : Int) x10_1 = some r) ∧ Aside0 (kq ≤ k) ∧ Drawn0 w w')
    case atStart => exact ⟨(0), (by first | rfl | (simp; done) | (simp [*]; done)), H', ⟨Nat.le_refl _⟩, by repeat (first | exact Drawn0.refl _ | apply Drawn0.step)⟩
    case round =>
      clear H'
      try clear c1
      try clear p2
      try clear c3
      obtain ⟨x10_1, rfl, HA, HK1, ⟨m1, rfl⟩⟩ := hrel
      cases gk with
      | zero => exact absurd HA.out (by simp [impl_goodLines.l0])
      | succ k1 =>
        have H := HA.out
        clear HA
        simp only [impl_goodLines.l0] at H
        by_cases c4 : x10_1 < (l0.length : Int)
        · rw [if_pos c4] at H
          have c4b0 : decide (x10_1 < (l0.length : Int)) = true := decide_eq_true c4
          clear c4
          by_cases c5 : 0 ≤ x10_1
          · rw [if_pos c5] at H
            have c5b0 : decide (0 ≤ x10_1) = true := decide_eq_true c5
            clear c5
            by_cases c6 : x10_1 < (l0.length : Int)
            · rw [if_pos c6] at H
              have c6b0 : decide (x10_1 < (l0.length : Int)) = true := decide_eq_true c6
              clear c6
              by_cases c7 : x10_1 < (wrap64 ((l0.length : Int) - 1))
              · rw [if_pos c7] at H
                have c7b0 : decide (x10_1 < (wrap64 ((l0.length : Int) - 1))) = true := decide_eq_true c7
                clear c7
                replace H := Option.bind_eq_some_iff.mp H
                obtain ⟨t219, A80, H⟩ := H
                replace H : (if t219 = true then (impl_goodLines.l0 k1 l0 l0 (l0.length : Int) (wrap64 (x10_1 + 1))) else (some false)) = some r := H
                have A8 := Aside0.mk A80
                clear A80
                by_cases c9 : t219 = true
                · subst c9
                  have H1 : (impl_goodLines.l0 k1 l0 l0 (l0.length : Int) (wrap64 (x10_1 + 1))) = some r := by rw [if_pos rfl] at H; exact H
                  clear H
                  have H := H1
                  clear H1
                  have H' := Aside0.mk H
                  clear H
                  have p218 : 0 ≤ (x10_1 : Int) := of_decide_eq_true (by first | (with_reducible assumption) | assumption)
                  have q218 : x10_1 < (l0.length : Int) := of_decide_eq_true (by first | (with_reducible assumption) | assumption)
                  obtain ⟨ad218, e218, hx218_0⟩ := Kd.at_string HR0.out x10_1 p218 q218
                  cases e218
                  replace p218 := eq_true p218
                  replace q218 := eq_true q218
                  go_wp2_with (first | (go_at_call 122; (with_reducible refine (impl_isEnded.calls (rdOf ByteArray.empty l0 x10_1) true _ A8.out).mono ?_); rintro e w' ⟨rfl, ⟨nd, rfl⟩⟩))
                  go_roundg k1
                  case measure => have := HK1.out; omega
                  case rel => exact ⟨(wrap64 (x10_1 + 1)), (by first | rfl | (simp; done) | (simp [*]; done)), H', ⟨by have := HK1.out; omega⟩, by repeat (first | exact Drawn0.refl _ | apply Drawn0.step)⟩
                · replace c9 := Bool.eq_false_iff.mpr c9
                  subst c9
                  have H1 : (some false) = some r := by rw [if_neg (show ¬ (false = true) by decide)] at H; exact H
                  clear H
                  have H := H1
                  clear H1
                  obtain rfl := Option.some.inj H
                  have p218 : 0 ≤ (x10_1 : Int) := of_decide_eq_true (by first | (with_reducible assumption) | assumption)
                  have q218 : x10_1 < (l0.length : Int) := of_decide_eq_true (by first | (with_reducible assumption) | assumption)
                  obtain ⟨ad218, e218, hx218_0⟩ := Kd.at_string HR0.out x10_1 p218 q218
                  cases e218
                  replace p218 := eq_true p218
                  replace q218 := eq_true q218
                  go_wp2_with (first | (go_at_call 122; (with_reducible refine (impl_isEnded.calls (rdOf ByteArray.empty l0 x10_1) false _ A8.out).mono ?_); rintro e w' ⟨rfl, ⟨nd, rfl⟩⟩))
                  go_ret
                  exact ⟨by first | rfl | (simp; done) | (simp [*]; done), by repeat (first | exact Drawn0.refl _ | apply Drawn0.step)⟩
              · rw [if_neg c7] at H
                have c7b0 : decide (x10_1 < (wrap64 ((l0.length : Int) - 1))) = false := decide_eq_false c7
                clear c7
                have H' := Aside0.mk H
                clear H
                have p218 : 0 ≤ (x10_1 : Int) := of_decide_eq_true (by first | (with_reducible assumption) | assumption)
                have q218 : x10_1 < (l0.length : Int) := of_decide_eq_true (by first | (with_reducible assumption) | assumption)
                obtain ⟨ad218, e218, hx218_0⟩ := Kd.at_string HR0.out x10_1 p218 q218
                cases e218
                replace p218 := eq_true p218
                replace q218 := eq_true q218
                go_wp2
                go_roundg k1
                case measure => have := HK1.out; omega
                case rel => exact ⟨(wrap64 (x10_1 + 1)), (by first | rfl | (simp; done) | (simp [*]; done)), H', ⟨by have := HK1.out; omega⟩, by repeat (first | exact Drawn0.refl _ | apply Drawn0.step)⟩
            · rw [if_neg c6] at H
              exact absurd H (by simp)
          · rw [if_neg c5] at H
            exact absurd H (by simp)
        · rw [if_neg c4] at H
          have c4b0 : decide (x10_1 < (l0.length : Int)) = false := decide_eq_false c4
          clear c4
          obtain rfl := Option.some.inj H
          go_wp2
          go_ret
          exact ⟨by first | rfl | (simp; done) | (simp [*]; done), by repeat (first | exact Drawn0.refl _ | apply Drawn0.step)⟩
  · replace c3 := Bool.eq_false_iff.mpr c3
    subst c3
    have H1 : (some false) = some r := by rw [if_neg (show ¬ (false = true) by decide)] at H; exact H
    clear H
    have H := H1
    clear H1
    obtain rfl := Option.some.inj H
    go_enter Try.func80, Try.ntmps80
    go_wp2_with (first | ((with_reducible refine gate_callee (f := 116) rfl ?_); refine goesL_ (some 6) rfl rfl Try.func116 (by kernel_rfl) rfl #[.slice A0 l0.length c0] rfl (by (try simp only [List.map_toArray, List.map_cons, List.map_nil]); first | done | rfl | (simp only [List.length_drop, List.length_take]; rfl)) ?_; (with_reducible refine (impl_areLines.calls k _ _ l0 false _ ?side1 ?side2 A2.out).mono ?_); (case side1 => repeat (first | exact HR0.out | (with_reducible refine Kd.C_alloc ?_ _) | (with_reducible refine Kd.C_drewN ?_ _) | (with_reducible refine Kd.C_drew ?_))); (case side2 => exact HC0.out); rintro e w' ⟨rfl, ⟨nd, rfl⟩⟩; refine ⟨_, rfl, ?_⟩))
    go_ret
    exact ⟨by first | rfl | (simp; done) | (simp [*]; done), by repeat (first | exact Drawn0.refl _ | apply Drawn0.step)⟩

end Go.Proofs.Ytbbkecdlapemfaa.My

/- Written by this session's program (wip/gen): a plain function with the same answers as the Go function, and the proof that the Go code comes to them. Asked: that the plain function has an answer. -/
namespace Go.Proofs.Ytbbkecdlapemfaa.My
open Go.RowKit Go.Proofs.YtbbkecdlapemfaaW.PrintWords Go.Proofs.YtbbkecdlapemfaaW.PrintLast Go.Proofs.YtbbkecdlapemfaaW.PrintMore
attribute [local go_sem] max2_int min2_int max_two min_two max_three min_three max_four min_four
set_option linter.unusedVariables false
set_option linter.unusedSimpArgs false

/-! ### spec_l1Ends: function 117 -/
def spec_l1Ends.f (a0 : ByteArray) : Option (Bool) := if 0 ≤ (wrap64 ((a0.size : Int) - 1)) then (if (wrap64 ((a0.size : Int) - 1)) < (a0.size : Int) then (some ((bt a0 (wrap64 ((a0.size : Int) - 1))) == 10)) else (none)) else (none)
set_option maxHeartbeats 8000000 in
set_option maxRecDepth 100000 in
theorem spec_l1Ends.calls (a0 : ByteArray) (r : Bool) (w : World) (h : spec_l1Ends.f a0 = some r) :
    Calls Try.prog 117 #[.string a0] w fun e w' => e = .returned (.bool r) ∧ Drawn0 w w' := by
  have H : (if 0 ≤ (wrap64 ((a0.size : Int) - 1)) then (if (wrap64 ((a0.size : Int) - 1)) < (a0.size : Int) then (some ((bt a0 (wrap64 ((a0.size : Int) - 1))) == 10)) else (none)) else (none)) = some r := h
  clear h
  obtain ⟨ji2, hji2⟩ : ∃ j_ : Int, (wrap64 ((a0.size : Int) - 1)) = j_ := ⟨_, rfl⟩
  replace H : (if 0 ≤ (ji2) then (if (ji2) < (a0.size : Int) then (some ((bt a0 (ji2)) == 10)) else (none)) else (none)) = some r := by first | (rw [hji2] at H; exact H) | (simp only [hji2] at H ⊢; exact H)
  have hji2w : (IntKind.i64.wrap ((a0.size : Int) - 1)) = ji2 := (i64_w _).trans hji2
  by_cases c3 : 0 ≤ (ji2)
  · rw [if_pos c3] at H
    have c3b0 : decide (0 ≤ (ji2)) = true := decide_eq_true c3
    clear c3
    by_cases c4 : (ji2) < (a0.size : Int)
    · rw [if_pos c4] at H
      have c4b0 : decide ((ji2) < (a0.size : Int)) = true := decide_eq_true c4
      clear c4
      obtain rfl := Option.some.inj H
      have p5 : 0 ≤ ((ji2) : Int) := of_decide_eq_true (by first | (with_reducible assumption) | assumption)
      have q5 : (ji2) < (a0.size : Int) := of_decide_eq_true (by first | (with_reducible assumption) | assumption)
      have hx5 := bt_at a0 (ji2)
      replace p5 := eq_true p5
      replace q5 := eq_true q5
      go_enter Try.func117, Try.ntmps117
      go_wp2
      go_ret
      exact ⟨by first | rfl | (simp; done) | (simp only [← hji2] <;> (first | rfl | simp)) | (simp [*]; done), by repeat (first | exact Drawn0.refl _ | apply Drawn0.step)⟩
    · rw [if_neg c4] at H
      exact absurd H (by simp)
  · rw [if_neg c3] at H
    exact absurd H (by simp)

end Go.Proofs.Ytbbkecdlapemfaa.My

/- Written by this session's program (wip/gen): a plain function with the same answers as the Go function, and the proof that the Go code comes to them. Asked: that the plain function has an answer. -/
namespace Go.Proofs.Ytbbkecdlapemfaa.My
open Go.RowKit Go.Proofs.YtbbkecdlapemfaaW.PrintWords Go.Proofs.YtbbkecdlapemfaaW.PrintLast Go.Proofs.YtbbkecdlapemfaaW.PrintMore
attribute [local go_sem] max2_int min2_int max_two min_two max_three min_three max_four min_four
set_option linter.unusedVariables false
set_option linter.unusedSimpArgs false

/-! ### spec_l1Good: function 72 -/
def spec_l1Good.l0 : Nat → List ByteArray → List ByteArray → Int → Int → Option (Bool)
  | 0, _, _, _, _ => none
  | k + 1, x0, x5, x6, x7 => if x7 < x6 then (if 0 ≤ x7 then (if x7 < (x5.length : Int) then ((spec_l1Line.f k (rdOf ByteArray.empty x5 x7)).bind fun t179 => (if t179 = true then (if x7 < (wrap64 ((x0.length : Int) - 1)) then ((spec_l1Ends.f (rdOf ByteArray.empty x5 x7)).bind fun t180 => (if t180 = true then (spec_l1Good.l0 k x0 x5 x6 (wrap64 (x7 + 1))) else (some false))) else (spec_l1Good.l0 k x0 x5 x6 (wrap64 (x7 + 1)))) else (some false))) else (none)) else (none)) else (some (decide ((x0.length : Int) ≤ 40)))
def spec_l1Good.f (k : Nat) (l0 : List ByteArray) : Option (Bool) := spec_l1Good.l0 k l0 l0 (l0.length : Int) 0
theorem spec_l1Good.mono_l : ∀ k, (∀ y0 y1 y2 y3, LeO (spec_l1Good.l0 k y0 y1 y2 y3) (spec_l1Good.l0 (k + 1) y0 y1 y2 y3))
  | 0 => fun _ _ _ _ r h => by simp [spec_l1Good.l0] at h
  | k + 1 => by
    have ih0 := spec_l1Good.mono_l k
    · intro y0 y1 y2 y3
      unfold spec_l1Good.l0
      repeat' first
      | (with_reducible exact ih0 _ _ _ _)
      | (with_reducible exact spec_l1Line.mono _ _)
      | (with_reducible exact LeO.refl _)
      | (with_reducible exact LeO.none _)
      | (with_reducible refine LeO.ite ?_ ?_)
      | (with_reducible refine LeO.bind ?_ (fun _ => ?_))
      | exact ih0 _ _ _ _
      | exact spec_l1Line.mono _ _
      | exact LeO.none _
      | refine LeO.ite ?_ ?_
      | refine LeO.bind ?_ (fun _ => ?_)
theorem spec_l1Good.mono : ∀ a0 k, LeO (spec_l1Good.f k a0) (spec_l1Good.f (k + 1) a0) := by
  intro a0 k
  have ih0 := spec_l1Good.mono_l k
  unfold spec_l1Good.f
  repeat' first
      | (with_reducible exact ih0 _ _ _ _)
      | (with_reducible exact spec_l1Line.mono _ _)
      | (with_reducible exact LeO.refl _)
      | (with_reducible exact LeO.none _)
      | (with_reducible refine LeO.ite ?_ ?_)
      | (with_reducible refine LeO.bind ?_ (fun _ => ?_))
      | exact ih0 _ _ _ _
      | exact spec_l1Line.mono _ _
      | exact LeO.none _
      | refine LeO.ite ?_ ?_
      | refine LeO.bind ?_ (fun _ => ?_)
set_option maxHeartbeats 8000000 in
set_option maxRecDepth 100000 in
theorem spec_l1Good.calls (k : Nat) (A0 : Option Addr) (c0 : Nat) (l0 : List ByteArray) (r : Bool) (w : World) (hr0 : Kd.C Kd.string w A0 l0.length l0) (hc0 : l0.length ≤ c0) (h : spec_l1Good.f k l0 = some r) :
    Calls Try.prog 72 #[.slice A0 l0.length c0] w fun e w' => e = .returned (.bool r) ∧ Drawn0 w w' := by
  have HR0 := Aside0.mk hr0
  have HC0 := Aside0.mk hc0
  clear hr0 hc0
  have H : (spec_l1Good.l0 k l0 l0 (l0.length : Int) 0) = some r := h
  clear h
  have H' := Aside0.mk H
  clear H
  go_enter Try.func72, Try.ntmps72
  go_wp2
  go_loopg [7] k (fun kq v7 w' => ∃ (x7_1 : Int), v7 = .int .i64 x7_1 ∧ Aside0 (spec_l1Good.l0 kq l0 l0 (l0.length : Int) x7_1 = some r) ∧ Aside0 (kq ≤ k) ∧ Drawn0 w w')
  case atStart => exact ⟨(0), (by first | rfl | (simp; done) | (simp [*]; done)), H', ⟨Nat.le_refl _⟩, by repeat (first | exact Drawn0.refl _ | apply Drawn0.step)⟩
  case round =>
    clear H'
    obtain ⟨x7_1, rfl, HA, HK1, ⟨m1, rfl⟩⟩ := hrel
    cases gk with
    | zero => exact absurd HA.out (by simp [spec_l1Good.l0])
    | succ k1 =>
      have H := HA.out
      clear HA
      simp only [spec_l1Good.l0] at H
      by_cases c2 : x7_1 < (l0.length : Int)
      · rw [if_pos c2] at H
        have c2b0 : decide (x7_1 < (l0.length : Int)) = true := decide_eq_true c2
        clear c2
        by_cases c3 : 0 ≤ x7_1
        · rw [if_pos c3] at H
          have c3b0 : decide (0 ≤ x7_1) = true := decide_eq_true c3
          clear c3
          by_cases c4 : x7_1 < (l0.length : Int)
          · rw [if_pos c4] at H
            have c4b0 : decide (x7_1 < (l0.length : Int)) = true := decide_eq_true c4
            clear c4
            replace H := Option.bind_eq_some_iff.mp H
            obtain ⟨t179, A50, H⟩ := H
            replace H : (if t179 = true then (if x7_1 < (wrap64 ((l0.length : Int) - 1)) then ((spec_l1Ends.f (rdOf ByteArray.empty l0 x7_1)).bind fun t180 => (if t180 = true then (spec_l1Good.l0 k1 l0 l0 (l0.length : Int) (wrap64 (x7_1 + 1))) else (some false))) else (spec_l1Good.l0 k1 l0 l0 (l0.length : Int) (wrap64 (x7_1 + 1)))) else (some false)) = some r := H
            have A5 := Aside0.mk A50
            clear A50
            by_cases c6 : t179 = true
            · subst c6
              have H1 : (if x7_1 < (wrap64 ((l0.length : Int) - 1)) then ((spec_l1Ends.f (rdOf ByteArray.empty l0 x7_1)).bind fun t180 => (if t180 = true then (spec_l1Good.l0 k1 l0 l0 (l0.length : Int) (wrap64 (x7_1 + 1))) else (some false))) else (spec_l1Good.l0 k1 l0 l0 (l0.length : Int) (wrap64 (x7_1 + 1)))) = some r := by rw [if_pos rfl] at H; exact H
              clear H
              have H := H1
              clear H1
              by_cases c7 : x7_1 < (wrap64 ((l0.length : Int) - 1))
              · rw [if_pos c7] at H
                have c7b0 : decide (x7_1 < (wrap64 ((l0.length : Int) - 1))) = true := decide_eq_true c7
                clear c7
                replace H := Option.bind_eq_some_iff.mp H
                obtain ⟨t180, A80, H⟩ := H
                replace H : (if t180 = true then (spec_l1Good.l0 k1 l0 l0 (l0.length : Int) (wrap64 (x7_1 + 1))) else (some false)) = some r := H
                have A8 := Aside0.mk A80
                clear A80
                by_cases c9 : t180 = true
                · subst c9
                  have H1 : (spec_l1Good.l0 k1 l0 l0 (l0.length : Int) (wrap64 (x7_1 + 1))) = some r := by rw [if_pos rfl] at H; exact H
                  clear H
                  have H := H1
                  clear H1
                  have H' := Aside0.mk H
                  clear H
                  have p178 : 0 ≤ (x7_1 : Int) := of_decide_eq_true (by first | (with_reducible assumption) | assumption)
                  have q178 : x7_1 < (l0.length : Int) := of_decide_eq_true (by first | (with_reducible assumption) | assumption)
                  obtain ⟨ad178, e178, hx178_0⟩ := Kd.at_string HR0.out x7_1 p178 q178
                  cases e178
                  replace p178 := eq_true p178
                  replace q178 := eq_true q178
                  go_wp2_with (first | ((with_reducible refine gate_callee (f := 87) rfl ?_); refine goesL_ (some 13) rfl rfl Try.func87 (by kernel_rfl) rfl #[.string (rdOf ByteArray.empty l0 x7_1)] rfl (by (try simp only [List.map_toArray, List.map_cons, List.map_nil]); first | done | rfl | (simp only [List.length_drop, List.length_take]; rfl)) ?_; (with_reducible refine (spec_l1Line.calls k1 (rdOf ByteArray.empty l0 x7_1) true _ A5.out).mono ?_); rintro e w' ⟨rfl, ⟨nd, rfl⟩⟩; refine ⟨_, rfl, ?_⟩) | (go_at_call 117; (with_reducible refine (spec_l1Ends.calls (rdOf ByteArray.empty l0 x7_1) true _ A8.out).mono ?_); rintro e w' ⟨rfl, ⟨nd, rfl⟩⟩))
                  go_roundg k1
                  case measure => have := HK1.out; omega
                  case rel => exact ⟨(wrap64 (x7_1 + 1)), (by first | rfl | (simp; done) | (simp [*]; done)), H', ⟨by have := HK1.out; omega⟩, by repeat (first | exact Drawn0.refl _ | apply Drawn0.step)⟩
                · replace c9 := Bool.eq_false_iff.mpr c9
                  subst c9
                  have H1 : (some false) = some r := by rw [if_neg (show ¬ (false = true) by decide)] at H; exact H
                  clear H
                  have H := H1
                  clear H1
                  obtain rfl := Option.some.inj H
                  have p178 : 0 ≤ (x7_1 : Int) := of_decide_eq_true (by first | (with_reducible assumption) | assumption)
                  have q178 : x7_1 < (l0.length : Int) := of_decide_eq_true (by first | (with_reducible assumption) | assumption)
                  obtain ⟨ad178, e178, hx178_0⟩ := Kd.at_string HR0.out x7_1 p178 q178
                  cases e178
                  replace p178 := eq_true p178
                  replace q178 := eq_true q178
                  go_wp2_with (first | ((with_reducible refine gate_callee (f := 87) rfl ?_); refine goesL_ (some 13) rfl rfl Try.func87 (by kernel_rfl) rfl #[.string (rdOf ByteArray.empty l0 x7_1)] rfl (by (try simp only [List.map_toArray, List.map_cons, List.map_nil]); first | done | rfl | (simp only [List.length_drop, List.length_take]; rfl)) ?_; (with_reducible refine (spec_l1Line.calls k1 (rdOf ByteArray.empty l0 x7_1) true _ A5.out).mono ?_); rintro e w' ⟨rfl, ⟨nd, rfl⟩⟩; refine ⟨_, rfl, ?_⟩) | (go_at_call 117; (with_reducible refine (spec_l1Ends.calls (rdOf ByteArray.empty l0 x7_1) false _ A8.out).mono ?_); rintro e w' ⟨rfl, ⟨nd, rfl⟩⟩))
                  go_ret
                  exact ⟨by first | rfl | (simp; done) | (simp [*]; done), by repeat (first | exact Drawn0.refl _ | apply Drawn0.step)⟩
              · rw [if_neg c7] at H
                have c7b0 : decide (x7_1 < (wrap64 ((l0.length : Int) - 1))) = false := decide_eq_false c7
                clear c7
                have H' := Aside0.mk H
                clear H
                have p178 : 0 ≤ (x7_1 : Int) := of_decide_eq_true (by first | (with_reducible assumption) | assumption)
                have q178 : x7_1 < (l0.length : Int) := of_decide_eq_true (by first | (with_reducible assumption) | assumption)
                obtain ⟨ad178, e178, hx178_0⟩ := Kd.at_string HR0.out x7_1 p178 q178
                cases e178
                replace p178 := eq_true p178
                replace q178 := eq_true q178
                go_wp2_with (first | ((with_reducible refine gate_callee (f := 87) rfl ?_); refine goesL_ (some 13) rfl rfl Try.func87 (by kernel_rfl) rfl #[.string (rdOf ByteArray.empty l0 x7_1)] rfl (by (try simp only [List.map_toArray, List.map_cons, List.map_nil]); first | done | rfl | (simp only [List.length_drop, List.length_take]; rfl)) ?_; (with_reducible refine (spec_l1Line.calls k1 (rdOf ByteArray.empty l0 x7_1) true _ A5.out).mono ?_); rintro e w' ⟨rfl, ⟨nd, rfl⟩⟩; refine ⟨_, rfl, ?_⟩))
                go_roundg k1
                case measure => have := HK1.out; omega
                case rel => exact ⟨(wrap64 (x7_1 + 1)), (by first | rfl | (simp; done) | (simp [*]; done)), H', ⟨by have := HK1.out; omega⟩, by repeat (first | exact Drawn0.refl _ | apply Drawn0.step)⟩
            · replace c6 := Bool.eq_false_iff.mpr c6
              subst c6
              have H1 : (some false) = some r := by rw [if_neg (show ¬ (false = true) by decide)] at H; exact H
              clear H
              have H := H1
              clear H1
              obtain rfl := Option.some.inj H
              have p178 : 0 ≤ (x7_1 : Int) := of_decide_eq_true (by first | (with_reducible assumption) | assumption)
              have q178 : x7_1 < (l0.length : Int) := of_decide_eq_true (by first | (with_reducible assumption) | assumption)
              obtain ⟨ad178, e178, hx178_0⟩ := Kd.at_string HR0.out x7_1 p178 q178
              cases e178
              replace p178 := eq_true p178
              replace q178 := eq_true q178
              go_wp2_with (first | ((with_reducible refine gate_callee (f := 87) rfl ?_); refine goesL_ (some 13) rfl rfl Try.func87 (by kernel_rfl) rfl #[.string (rdOf ByteArray.empty l0 x7_1)] rfl (by (try simp only [List.map_toArray, List.map_cons, List.map_nil]); first | done | rfl | (simp only [List.length_drop, List.length_take]; rfl)) ?_; (with_reducible refine (spec_l1Line.calls k1 (rdOf ByteArray.empty l0 x7_1) false _ A5.out).mono ?_); rintro e w' ⟨rfl, ⟨nd, rfl⟩⟩; refine ⟨_, rfl, ?_⟩))
              go_ret
              exact ⟨by first | rfl | (simp; done) | (simp [*]; done), by repeat (first | exact Drawn0.refl _ | apply Drawn0.step)⟩
          · rw [if_neg c4] at H
            exact absurd H (by simp)
        · rw [if_neg c3] at H
          exact absurd H (by simp)
      · rw [if_neg c2] at H
        have c2b0 : decide (x7_1 < (l0.length : Int)) = false := decide_eq_false c2
        clear c2
        obtain rfl := Option.some.inj H
        go_wp2
        go_ret
        exact ⟨by first | rfl | (simp; done) | (simp [*]; done), by repeat (first | exact Drawn0.refl _ | apply Drawn0.step)⟩

end Go.Proofs.Ytbbkecdlapemfaa.My

/- Plain Lean: chapter 1: what a line and good lines are, for the program and the reference. Conditions: lengths and sizes below 2^63. -/
namespace Go.Proofs.Ytbbkecdlapemfaa.Pl
open Go.RowKit Go.Proofs.YtbbkecdlapemfaaW.PrintWords Go.Proofs.YtbbkecdlapemfaaW.PrintLast Go.Proofs.Ytbbkecdlapemfaa.My
set_option linter.unusedVariables false
set_option linter.unusedSimpArgs false

/-- A line. -/
def isLn (s : ByteArray) : Bool := !(s.data.toList.dropLast.contains 10) && inB s.size 1 30
/-- Its last byte is 10. -/
def ends (s : ByteArray) : Bool := s.data.toList.getLast? == some 10
def good (l : List ByteArray) : Bool := decide (l.length ≤ 40) && (l.all isLn && l.dropLast.all ends)

theorem toList_one (c : UInt8) : (⟨#[c]⟩ : ByteArray).toList = [c] := by rw [Lib.toList_data]
theorem size_one (c : UInt8) : (⟨#[c]⟩ : ByteArray).size = 1 := rfl
theorem bt_one (c : UInt8) : bt ⟨#[c]⟩ 0 = (c.toNat : Int) := rfl

theorem index_ev (s : ByteArray) (c : UInt8) : Ev (fun k => strings_Index.f k s ⟨#[c]⟩) (Lib.indexByte s.data.toList c) := by
  have hj : ∀ b : Bool, (b = true → Lib.indexByte s.data.toList c = 0) → Ev (fun k => stringslite_Index.j0 k s ⟨#[c]⟩ 1 b) (Lib.indexByte s.data.toList c) := by
    intro b hb
    refine Ev.step (fun k => stringslite_Index.j0.eq_2 ..) ?_
    refine ev_ite (fun h => ev_some (hb h).symm) (fun _ => ?_)
    refine ev_pos rfl (ev_pos (by rw [size_one]; decide) ?_)
    refine ev_const ?_
    rw [bt_one]
    simp [stringslite_IndexByte.f]
  have h2 : Ev (fun k => stringslite_Index.f k s ⟨#[c]⟩) (Lib.indexByte s.data.toList c) := by
    simp only [stringslite_Index.f]
    refine ev_neg (by rw [size_one]; decide) ?_
    refine hj _ (fun h => ?_)
    have e : s.data.toList = [c] := by
      have := beq_iff_eq.1 h
      rw [toList_one, Lib.toList_data] at this
      exact this.symm
    rw [e]
    simp [Lib.indexByte]
  simp only [strings_Index.f]
  exact ev_bind h2 (ev_some rfl)

theorem indexByte_nonneg (l : List UInt8) (c : UInt8) : decide (Lib.indexByte l c ≥ 0) = l.contains c := by
  induction l with
  | nil => simp [Lib.indexByte]
  | cons b l ih =>
    have hge := Lib.indexByte_ge l c
    unfold Lib.indexByte
    by_cases h : (b == c) = true
    · have : b = c := beq_iff_eq.1 h
      simp [this]
    · have hb : (b == c) = false := by simpa using h
      have hne : ¬ c = b := fun e => h (by simp [e])
      rw [List.contains_cons, ← ih]
      simp only [hb]
      by_cases h2 : Lib.indexByte l c = -1
      · simp [h2, hne]
      · have h3 : (Lib.indexByte l c == -1) = false := by simpa using h2
        simp only [h3]
        have : Lib.indexByte l c ≥ 0 := by omega
        simp [hne, this]
        omega

theorem contains_ev (s : ByteArray) (c : UInt8) : Ev (fun k => strings_Contains.f k s ⟨#[c]⟩) (s.data.toList.contains c) := by
  simp only [strings_Contains.f]
  exact ev_bind (index_ev s c) (ev_some (indexByte_nonneg _ _))

theorem extract_data (s : ByteArray) (a b : Nat) : (s.extract a b).data.toList = (s.data.toList.take b).drop a := by
  rw [ByteArray.data_extract, Array.toList_extract, List.extract_eq_take_drop, ← List.drop_take]

theorem isLine_ev (s : ByteArray) (hs : s.size ≤ 9223372036854775807) : Ev (fun k => impl_isLine.f k s) (isLn s) := by
  simp only [impl_isLine.f, impl_in_eq, Option.bind_some]
  refine ev_ite (fun h => ?_) (fun h => ev_some (by unfold isLn; simp at h; simp [h]))
  have h1 : 1 ≤ s.size ∧ s.size ≤ 30 := by
    simp [inB] at h
    omega
  rw [wrap_pred s.size (by omega) hs]
  refine ev_pos (by omega) (ev_pos (by omega) ?_)
  refine ev_bind (contains_ev _ 10) (ev_some ?_)
  rw [Int.toNat_natCast, extract_data, List.drop_zero, ← data_length, ← List.dropLast_eq_take]
  unfold isLn
  rw [h]
  simp

theorem l1Line_l0 (s : ByteArray) (hs : s.size ≤ 9223372036854775807) : ∀ d i, i + d = s.size - 1 → Ev (fun k => spec_l1Line.l0 k s (i : Int)) (!((s.data.toList.dropLast.drop i).contains 10) && inB s.size 1 30) := by
  intro d
  have hl : s.data.toList.length = s.size := data_length s
  induction d with
  | zero =>
    intro i hi
    refine Ev.step (fun k => spec_l1Line.l0.eq_2 ..) ?_
    refine ev_neg (by rw [wrap64_id (by omega) (by omega)]; omega) ?_
    refine ev_const ?_
    rw [spec_l1In_eq, List.drop_of_length_le (by rw [List.length_dropLast]; omega)]
    rfl
  | succ d ih =>
    intro i hi
    refine Ev.step (fun k => spec_l1Line.l0.eq_2 ..) ?_
    refine ev_pos (by rw [wrap64_id (by omega) (by omega)]; omega) (ev_pos (by omega) (ev_pos (by omega) ?_))
    have hd : s.data.toList.dropLast.drop i = s.data.toList[i] :: s.data.toList.dropLast.drop (i + 1) := by
      rw [List.drop_eq_getElem_cons (by rw [List.length_dropLast]; omega), List.getElem_dropLast]
    rw [hd, List.contains_cons, bt_nat s i (by omega)]
    refine ev_ite (fun h => ev_some ?_) (fun h => ?_)
    · have : s.data.toList[i] = 10 := u8_eq h
      rw [this]
      simp
    · rw [wrap_succ i (by omega)]
      refine ev_to (ih (i + 1) (by omega)) ?_
      have : ((10 : UInt8) == s.data.toList[i]) = false := by
        rw [beq_eq_false_iff_ne]
        exact u8_ne h
      rw [this, Bool.false_or]

theorem l1Line_ev (s : ByteArray) (hs : s.size ≤ 9223372036854775807) : Ev (fun k => spec_l1Line.f k s) (isLn s) := by
  simp only [spec_l1Line.f]
  exact l1Line_l0 s hs (s.size - 1) 0 (by omega)

theorem isLn_size {s : ByteArray} (h : isLn s = true) : 1 ≤ s.size ∧ s.size ≤ 30 := by
  simp [isLn, inB] at h
  omega

theorem ends_last {s : ByteArray} (h : 1 ≤ s.size) : ends s = (bt s ((s.size - 1 : Nat) : Int) == 10) := by
  have hl : s.data.toList.length = s.size := data_length s
  have hq : s.data.toList.getLast? = some (s.data.toList[s.size - 1]'(by omega)) := by
    rw [List.getLast?_eq_getElem?, List.getElem?_eq_getElem (by omega)]
    simp only [hl]
  unfold ends
  rw [bt_nat s _ (by omega), hq]
  rw [Bool.eq_iff_iff]
  simp only [beq_iff_eq, Option.some.injEq]
  constructor
  · intro e; rw [e]; rfl
  · intro e; exact u8_eq e

theorem l1Ends_eq (s : ByteArray) (h : 1 ≤ s.size) (hs : s.size ≤ 9223372036854775807) : spec_l1Ends.f s = some (ends s) := by
  unfold spec_l1Ends.f
  rw [wrap_pred s.size (by omega) hs, if_pos (by omega), if_pos (by omega), ends_last h]

theorem hasSuffix_eq (s : ByteArray) (c : UInt8) (hs : s.size ≤ 9223372036854775807) : strings_HasSuffix.f s ⟨#[c]⟩ = some (s.data.toList.getLast? == some c) := by
  have hl : s.data.toList.length = s.size := data_length s
  unfold strings_HasSuffix.f stringslite_HasSuffix.f
  rw [size_one]
  by_cases h : 1 ≤ s.size
  · rw [if_pos (by omega), show ((1 : Nat) : Int) = 1 from rfl, wrap_pred s.size (by omega) hs, if_pos (by omega), if_pos (by omega), Option.bind_some, toList_one, Lib.toList_data, Int.toNat_natCast, extract_data, ← hl, List.take_length]
    have e : s.data.toList.drop (s.data.toList.length - 1) = [s.data.toList[s.data.toList.length - 1]'(by omega)] := by
      rw [List.drop_eq_getElem_cons (by omega), List.drop_of_length_le (by omega)]
    rw [e, List.getLast?_eq_getElem?, List.getElem?_eq_getElem (by omega)]
    congr 1
    rw [Bool.eq_iff_iff]
    simp
  · rw [if_neg (by omega), Option.bind_some]
    have : s.data.toList = [] := List.eq_nil_of_length_eq_zero (by omega)
    simp [this]

theorem isEnded_eq (s : ByteArray) (hs : s.size ≤ 9223372036854775807) : impl_isEnded.f s = some (ends s) := by
  unfold impl_isEnded.f
  rw [hasSuffix_eq s 10 hs]
  rfl

theorem areLines_l0 (l : List ByteArray) (hf : FitS l) : ∀ d i, i + d = l.length → ∃ j : Int, Ev (fun k => slices_IndexFunc_string_string__impl_areLines_1.l0 k l (l.length : Int) (i : Int)) j ∧ decide (j ≥ 0) = !((l.drop i).all isLn) := by
  intro d
  induction d with
  | zero =>
    intro i hi
    refine ⟨-1, Ev.step (fun k => slices_IndexFunc_string_string__impl_areLines_1.l0.eq_2 ..) (ev_neg (by omega) (ev_some rfl)), ?_⟩
    rw [List.drop_of_length_le (by omega)]
    rfl
  | succ d ih =>
    intro i hi
    have hlt : i < l.length := by omega
    have hev : Ev (fun k => impl_areLines_1.f k (rdOf ByteArray.empty l (i : Int))) (!isLn l[i]) := by
      rw [rdOf_lt _ _ _ hlt]
      simp only [impl_areLines_1.f]
      exact ev_bind (isLine_ev _ (hf.2 _ (List.getElem_mem _))) (ev_some rfl)
    obtain ⟨j, hj, hjj⟩ := ih (i + 1) (by omega)
    rw [drop_cons l i hlt, List.all_cons]
    by_cases h : isLn l[i] = true
    · refine ⟨j, Ev.step (fun k => slices_IndexFunc_string_string__impl_areLines_1.l0.eq_2 ..) (ev_pos (by omega) (ev_pos (by omega) (ev_pos (by omega) (ev_bind hev (ev_neg (by simp [h]) ?_))))), by rw [hjj, h]; simp⟩
      rw [wrap_succ i (by have := hf.1; omega)]
      exact hj
    · refine ⟨(i : Int), Ev.step (fun k => slices_IndexFunc_string_string__impl_areLines_1.l0.eq_2 ..) (ev_pos (by omega) (ev_pos (by omega) (ev_pos (by omega) (ev_bind hev (ev_pos (by simp [h]) (ev_some rfl)))))), ?_⟩
      simp [h]

theorem areLines_ev (l : List ByteArray) (hf : FitS l) : Ev (fun k => impl_areLines.f k l) (decide (l.length ≤ 40) && l.all isLn) := by
  simp only [impl_areLines.f]
  refine ev_ite (fun h => ?_) (fun h => ev_some ?_)
  · obtain ⟨j, hj, hjj⟩ := areLines_l0 l hf l.length 0 (by omega)
    simp only [slices_ContainsFunc_string_string__impl_areLines_1.f, slices_IndexFunc_string_string__impl_areLines_1.f]
    refine ev_bind (ev_bind hj (ev_some rfl)) (ev_some ?_)
    have : l.length ≤ 40 := by omega
    rw [hjj]
    simp [this]
  · have : ¬ l.length ≤ 40 := by omega
    simp [this]

theorem goodLines_l0 (l : List ByteArray) (hf : FitS l) : ∀ d i, i + d = l.length → Ev (fun k => impl_goodLines.l0 k l l (l.length : Int) (i : Int)) ((l.dropLast.drop i).all ends) := by
  intro d
  have hL := hf.1
  induction d with
  | zero =>
    intro i hi
    refine Ev.step (fun k => impl_goodLines.l0.eq_2 ..) (ev_neg (by omega) (ev_some ?_))
    rw [List.drop_of_length_le (by rw [List.length_dropLast]; omega)]
    rfl
  | succ d ih =>
    intro i hi
    have hlt : i < l.length := by omega
    refine Ev.step (fun k => impl_goodLines.l0.eq_2 ..) (ev_pos (by omega) (ev_pos (by omega) (ev_pos (by omega) ?_)))
    rw [wrap_pred l.length (by omega) hL, rdOf_lt _ _ _ hlt, isEnded_eq _ (hf.2 _ (List.getElem_mem _)), wrap_succ i (by omega)]
    simp only [Option.bind_some]
    refine ev_ite (fun h => ?_) (fun h => ?_)
    · have hd : l.dropLast.drop i = l[i] :: l.dropLast.drop (i + 1) := by
        rw [List.drop_eq_getElem_cons (by rw [List.length_dropLast]; omega), List.getElem_dropLast]
      rw [hd, List.all_cons]
      refine ev_ite (fun h => ?_) (fun h => ev_some (by simp [h]))
      rw [h, Bool.true_and]
      exact ih (i + 1) (by omega)
    · have e1 : l.dropLast.drop i = [] := List.drop_of_length_le (by rw [List.length_dropLast]; omega)
      have e2 : l.dropLast.drop (i + 1) = [] := List.drop_of_length_le (by rw [List.length_dropLast]; omega)
      have := ih (i + 1) (by omega)
      rw [e2] at this
      rw [e1]
      exact this

theorem goodLines_ev (l : List ByteArray) (hf : FitS l) : Ev (fun k => impl_goodLines.f k l) (good l) := by
  simp only [impl_goodLines.f]
  refine ev_bind (areLines_ev l hf) (ev_ite (fun h => ?_) (fun h => ev_some ?_))
  · refine ev_to (goodLines_l0 l hf l.length 0 (by omega)) ?_
    rw [List.drop_zero]
    unfold good
    rw [← Bool.and_assoc, h, Bool.true_and]
  · unfold good
    rw [← Bool.and_assoc]
    simp at h
    simp
    intro h1 h2
    exact absurd (h h1) (by simpa using h2)

theorem l1Good_l0 (l : List ByteArray) (hf : FitS l) : ∀ d i, i + d = l.length → Ev (fun k => spec_l1Good.l0 k l l (l.length : Int) (i : Int)) ((l.drop i).all isLn && (l.dropLast.drop i).all ends && decide (l.length ≤ 40)) := by
  intro d
  have hL := hf.1
  induction d with
  | zero =>
    intro i hi
    refine Ev.step (fun k => spec_l1Good.l0.eq_2 ..) (ev_neg (by omega) (ev_some ?_))
    rw [List.drop_of_length_le (by omega), List.drop_of_length_le (by rw [List.length_dropLast]; omega)]
    simp
    omega
  | succ d ih =>
    intro i hi
    have hlt : i < l.length := by omega
    refine Ev.step (fun k => spec_l1Good.l0.eq_2 ..) (ev_pos (by omega) (ev_pos (by omega) (ev_pos (by omega) ?_)))
    simp only [rdOf_lt _ _ _ hlt]
    rw [wrap_pred l.length (by omega) hL, wrap_succ i (by omega), drop_cons l i hlt, List.all_cons]
    refine ev_bind (l1Line_ev _ (hf.2 _ (List.getElem_mem _))) (ev_ite (fun h => ?_) (fun h => ev_some (by simp [h])))
    rw [h, Bool.true_and, l1Ends_eq _ (isLn_size h).1 (hf.2 _ (List.getElem_mem _))]
    simp only [Option.bind_some]
    refine ev_ite (fun h => ?_) (fun h => ?_)
    · have hd : l.dropLast.drop i = l[i] :: l.dropLast.drop (i + 1) := by
        rw [List.drop_eq_getElem_cons (by rw [List.length_dropLast]; omega), List.getElem_dropLast]
      rw [hd, List.all_cons]
      refine ev_ite (fun h => ?_) (fun h => ev_some (by simp [h]))
      rw [h, Bool.true_and]
      exact ih (i + 1) (by omega)
    · have e1 : l.dropLast.drop i = [] := List.drop_of_length_le (by rw [List.length_dropLast]; omega)
      have e2 : l.dropLast.drop (i + 1) = [] := List.drop_of_length_le (by rw [List.length_dropLast]; omega)
      have := ih (i + 1) (by omega)
      rw [e2] at this
      rw [e1]
      exact this

theorem l1Good_ev (l : List ByteArray) (hf : FitS l) : Ev (fun k => spec_l1Good.f k l) (good l) := by
  simp only [spec_l1Good.f]
  refine ev_to (l1Good_l0 l hf l.length 0 (by omega)) ?_
  rw [List.drop_zero, List.drop_zero]
  unfold good
  rw [Bool.and_comm]
end Go.Proofs.Ytbbkecdlapemfaa.Pl

/- Plain Lean: what the laws' helpers on hunks come to, and whether hunks are the same. Conditions: lengths and sizes below 2^63. -/
namespace Go.Proofs.Ytbbkecdlapemfaa.Pl
open Go.RowKit Go.Proofs.YtbbkecdlapemfaaW.PrintWords Go.Proofs.YtbbkecdlapemfaaW.PrintLast Go.Proofs.Ytbbkecdlapemfaa.My
set_option linter.unusedVariables false
set_option linter.unusedSimpArgs false

abbrev LH := S82
abbrev IH := S83
def toH (x : LH) : IH := ⟨x.f0, x.f1, x.f2⟩
def FitH (l : List LH) : Prop := l.length ≤ 9223372036854775807 ∧ ∀ x ∈ l, Wint x.f0 ∧ Wint x.f1 ∧ FitS x.f2
def szH (l : List LH) : Nat := l.length + (l.map fun x => szS x.f2).sum

theorem wint_bounds {z : Int} (h : Wint z) : -9223372036854775808 ≤ z ∧ z ≤ 9223372036854775807 := by
  have h' : (Lit.int .i64 z).wf = true := h
  simp [Lit.wf, show IntKind.i64.min = -9223372036854775808 from rfl, show IntKind.i64.max = 9223372036854775807 from rfl] at h'
  omega

theorem fitH_of_wl {l : List LH} (h : WL W82 l) : FitH l := by
  refine ⟨h.1, fun x hx => ?_⟩
  obtain ⟨h0, h1, h2⟩ := h.2 x hx
  exact ⟨h0, h1, fitS_of_wl h2⟩

theorem sumH_drop (l : List LH) (i : Nat) (h : i < l.length) : ((l.drop i).map fun x => szS x.f2).sum = szS l[i].f2 + ((l.drop (i + 1)).map fun x => szS x.f2).sum := by
  rw [List.drop_eq_getElem_cons h, List.map_cons, List.sum_cons]

theorem sumH_mem (l : List LH) (x : LH) (h : x ∈ l) : szS x.f2 ≤ szH l := by
  unfold szH
  induction l with
  | nil => simp at h
  | cons a l ih =>
    simp only [List.map_cons, List.sum_cons, List.length_cons]
    rcases List.mem_cons.1 h with rfl | h
    · omega
    · have := ih h
      omega

theorem rdLH (l : List LH) (i : Nat) (h : i < l.length) : rd_T82 l (i : Int) = l[i] := getD_lt l _ i h
theorem rdIH (l : List IH) (i : Nat) (h : i < l.length) : rd_T83 l (i : Int) = l[i] := getD_lt l _ i h

theorem szHunkS_l0 (l : List LH) (hf : FitH l) : ∀ d i (a : Int), i + d = l.length → 0 ≤ a → a ≤ 1048576 → ∃ r, Ev (fun k => laws_szHunkS.l0 k l a (i : Int)) r ∧ leftOf a (((l.drop i).map fun x => szS x.f2).sum) r := by
  intro d
  have hL := hf.1
  induction d with
  | zero =>
    intro i a hi h0 h1
    refine ⟨a, Ev.step (fun k => laws_szHunkS.l0.eq_2 ..) (ev_neg (by omega) (ev_some rfl)), .inr ⟨h0, ?_⟩⟩
    rw [List.drop_of_length_le (by omega)]
    simp
  | succ d ih =>
    intro i a hi h0 h1
    have hlt : i < l.length := by omega
    obtain ⟨q, hq, hm⟩ := szStringS_ev l[i].f2 (hf.2 _ (List.getElem_mem hlt)).2.2 a h0 h1
    rw [sumH_drop l i hlt]
    have hz : Ev (fun k => laws_szHunk.f k (rd_T82 l (i : Int)).f0 (rd_T82 l (i : Int)).f1 (rd_T82 l (i : Int)).f2 a) (if q < 0 then -1 else q) := by
      rw [rdLH l i hlt]
      simp only [laws_szHunk.f]
      refine ev_bind hq (ev_ite (fun h => ev_some (by rw [if_pos h])) (fun h => ev_some (by rw [if_neg h])))
    by_cases h : q < 0
    · rw [if_pos h] at hz
      exact ⟨-1, Ev.step (fun k => laws_szHunkS.l0.eq_2 ..) (ev_pos (by omega) (ev_pos (by omega) (ev_bind hz (ev_pos (by omega) (ev_some rfl))))), .inl (by omega)⟩
    · rw [if_neg h] at hz
      obtain ⟨r, hr, hl⟩ := ih (i + 1) q (by omega) (by omega) (by rcases hm with hm | hm <;> omega)
      refine ⟨r, Ev.step (fun k => laws_szHunkS.l0.eq_2 ..) (ev_pos (by omega) (ev_pos (by omega) (ev_bind hz (ev_neg h ?_)))), ?_⟩
      · rw [wrap_succ i (by omega)]
        exact hr
      · rcases hl with hl | hl
        · exact .inl hl
        · rcases hm with hm | hm
          · omega
          · exact .inr (by omega)

theorem szHunkS_ev (l : List LH) (hf : FitH l) (a : Int) (h0 : 0 ≤ a) (h1 : a ≤ 1048576) : ∃ r, Ev (fun k => laws_szHunkS.f k l a) r ∧ leftOf a (szH l) r := by
  have hL := hf.1
  simp only [laws_szHunkS.f]
  rw [wrap64_id (by omega) (by omega)]
  by_cases h : a - (l.length : Int) < 0
  · exact ⟨-1, ev_pos h (ev_some rfl), .inl (by omega)⟩
  · obtain ⟨r, hr, hl⟩ := szHunkS_l0 l hf l.length 0 (a - (l.length : Int)) (by omega) (by omega) (by omega)
    refine ⟨r, ev_neg h hr, ?_⟩
    rcases hl with hl | hl
    · exact .inl hl
    · rw [List.drop_zero] at hl
      exact .inr (by unfold szH; omega)

/-- Small enough to be copied. -/
def SmallH (l : List LH) : Prop := l.length ≤ 1048576 ∧ ∀ x ∈ l, x.f2.length ≤ 1048576
theorem smallH {l : List LH} (h : szH l ≤ 1048576) : SmallH l := by
  refine ⟨by unfold szH at h; omega, fun x hx => ?_⟩
  have := sumH_mem l x hx
  unfold szS at this
  omega

theorem toHunkS_l0 (l : List LH) (hs : SmallH l) : ∀ d i (o : List IH), i + d = l.length → o.length = l.length → o.take i = (l.map toH).take i → Ev (fun k => laws_toHunkS.l0 k l o (i : Int)) (l.map toH) := by
  intro d
  have hL := hs.1
  induction d with
  | zero =>
    intro i o hi hl ht
    refine Ev.step (fun k => laws_toHunkS.l0.eq_2 ..) (ev_neg (by omega) (ev_some ?_))
    rw [List.take_of_length_le (by omega), List.take_of_length_le (by rw [List.length_map]; omega)] at ht
    exact ht
  | succ d ih =>
    intro i o hi hl ht
    have hlt : i < l.length := by omega
    have hx : Ev (fun k => laws_toHunk.f k (rd_T82 l (i : Int)).f0 (rd_T82 l (i : Int)).f1 (rd_T82 l (i : Int)).f2) (l[i].f0, l[i].f1, l[i].f2) := by
      rw [rdLH l i hlt]
      simp only [laws_toHunk.f]
      exact ev_bind (toStringS_ev _ (by have := hs.2 _ (List.getElem_mem hlt); omega)) (ev_some rfl)
    refine Ev.step (fun k => laws_toHunkS.l0.eq_2 ..) (ev_pos (by omega) (ev_pos (by omega) (ev_bind hx (ev_pos (by omega) ?_))))
    rw [wrap_succ i (by omega), Int.toNat_natCast]
    refine ih (i + 1) _ (by omega) (by rw [List.length_set]; exact hl) ?_
    rw [List.take_succ_eq_append_getElem (by rw [List.length_set]; omega), List.take_succ_eq_append_getElem (by rw [List.length_map]; exact hlt), List.getElem_set_self, List.take_set_of_le (Nat.le_refl i), ht, List.getElem_map]
    rfl

theorem toHunkS_ev (l : List LH) (hs : SmallH l) : Ev (fun k => laws_toHunkS.f k l) (l.map toH) := by
  have hL := hs.1
  simp only [laws_toHunkS.f]
  refine ev_pos (by omega) (ev_pos (by omega) ?_)
  exact toHunkS_l0 l hs l.length 0 _ (by omega) (by simp) rfl

theorem ih_ext {x y : IH} (h0 : x.f0 = y.f0) (h1 : x.f1 = y.f1) (h2 : x.f2 = y.f2) : x = y := by
  cases x; cases y; simp_all

/-- Hunks that came in fit. -/
def FitI (l : List IH) : Prop := l.length ≤ 9223372036854775807 ∧ ∀ x ∈ l, (-9223372036854775808 ≤ x.f0 ∧ x.f0 ≤ 9223372036854775807) ∧ (-9223372036854775808 ≤ x.f1 ∧ x.f1 ≤ 9223372036854775807) ∧ FitS x.f2

theorem fitI_of {l : List LH} (h : FitH l) : FitI (l.map toH) := by
  refine ⟨by rw [List.length_map]; exact h.1, fun x hx => ?_⟩
  obtain ⟨y, hy, rfl⟩ := List.mem_map.1 hx
  obtain ⟨h0, h1, h2⟩ := h.2 y hy
  exact ⟨wint_bounds h0, wint_bounds h1, h2⟩

instance : DecidableEq IH := fun x y => decidable_of_iff (x.f0 = y.f0 ∧ x.f1 = y.f1 ∧ x.f2 = y.f2) ⟨fun ⟨a, b, c⟩ => ih_ext a b c, fun h => by rw [h]; exact ⟨rfl, rfl, rfl⟩⟩

theorem eqHunk_ev (x y : IH) (h : FitS x.f2) : Ev (fun k => laws_eqHunk.f k x.f0 x.f1 x.f2 y.f0 y.f1 y.f2) (decide (x = y)) := by
  simp only [laws_eqHunk.f]
  refine ev_ite (fun h0 => ev_ite (fun h1 => ev_bind (eqStringS_ev _ _ h.1) ?_) (fun h1 => ev_some ?_)) (fun h0 => ev_some ?_)
  · refine ev_ite (fun h2 => ev_some ?_) (fun h2 => ev_some ?_)
    · rw [ih_ext h0 h1 (of_decide_eq_true h2)]
      simp
    · have : ¬ x = y := fun e => h2 (by rw [e]; simp)
      simp [this]
  · have : ¬ x = y := fun e => h1 (by rw [e])
    simp [this]
  · have : ¬ x = y := fun e => h0 (by rw [e])
    simp [this]

theorem eqHunkS_l0 (a b : List IH) (hab : a.length = b.length) (hf : FitI a) : ∀ d i, i + d = a.length → Ev (fun k => laws_eqHunkS.l0 k a b (i : Int)) (decide (a.drop i = b.drop i)) := by
  intro d
  have hL := hf.1
  induction d with
  | zero =>
    intro i hi
    refine Ev.step (fun k => laws_eqHunkS.l0.eq_2 ..) (ev_neg (by omega) (ev_some ?_))
    rw [List.drop_of_length_le (by omega), List.drop_of_length_le (by omega)]
    simp
  | succ d ih =>
    intro i hi
    have h1 : i < a.length := by omega
    have h2 : i < b.length := by omega
    refine Ev.step (fun k => laws_eqHunkS.l0.eq_2 ..) (ev_pos (by omega) (ev_pos (by omega) (ev_pos (by omega) ?_)))
    simp only [rdIH _ _ h1, rdIH _ _ h2, drop_cons a i h1, drop_cons b i h2]
    refine ev_bind (eqHunk_ev _ _ (hf.2 _ (List.getElem_mem h1)).2.2) (ev_ite (fun h => ?_) (fun h => ev_some ?_))
    · rw [wrap_succ i (by omega)]
      refine ev_to (ih (i + 1) (by omega)) ?_
      rw [of_decide_eq_true h]
      simp only [List.cons.injEq, true_and]
    · have : ¬ a[i] = b[i] := fun e => h (decide_eq_true e)
      simp only [List.cons.injEq, this, false_and, decide_false]

theorem eqHunkS_ev (a b : List IH) (hf : FitI a) : Ev (fun k => laws_eqHunkS.f k a b) (decide (a = b)) := by
  simp only [laws_eqHunkS.f]
  refine ev_ite (fun h => ?_) (fun h => ev_some ?_)
  · exact eqHunkS_l0 a b (by omega) hf a.length 0 (by omega)
  · have : ¬ a = b := fun e => h (by rw [e])
    simp [this]
end Go.Proofs.Ytbbkecdlapemfaa.Pl

/- Plain Lean: chapter 2: when hunks are good, for the program and the reference. Conditions: lengths and sizes below 2^63. -/
namespace Go.Proofs.Ytbbkecdlapemfaa.Pl
open Go.RowKit Go.Proofs.YtbbkecdlapemfaaW.PrintWords Go.Proofs.YtbbkecdlapemfaaW.PrintLast Go.Proofs.Ytbbkecdlapemfaa.My
set_option linter.unusedVariables false
set_option linter.unusedSimpArgs false

/-- What one hunk must be, the last one having ended at p. -/
def hNum (n p : Int) (x : IH) : Prop := 0 ≤ x.f0 ∧ 0 ≤ x.f1 ∧ x.f0 + x.f1 ≤ n ∧ ¬ (x.f1 = 0 ∧ x.f2.length = 0) ∧ x.f2.length ≤ 40 ∧ p < x.f0
instance (n p : Int) (x : IH) : Decidable (hNum n p x) := by unfold hNum; infer_instance
def hOK (n p : Int) (x : IH) : Bool := decide (hNum n p x) && x.f2.all isLn
/-- Each starts past the last one's end. -/
def chain (n : Int) : Int → List IH → Bool
  | _, [] => true
  | p, x :: t => hOK n p x && chain n (x.f0 + x.f1) t
def goodH (n : Int) (h : List IH) : Bool := inB n 0 40 && (decide (h.length ≤ 20) && chain n (-1) h)

/-- Where the last one before place i ended. -/
def before (n : Int) (h : List IH) (i : Nat) (p : Int) : Prop := (i = 0 ∧ p = -1) ∨ ∃ (j : Nat) (hj : j < h.length), i = j + 1 ∧ p = h[j].f0 + h[j].f1 ∧ 0 ≤ h[j].f0 ∧ 0 ≤ h[j].f1 ∧ p ≤ n

theorem chain_cons (n p : Int) (h : List IH) (i : Nat) (hi : i < h.length) : chain n p (h.drop i) = (hOK n p h[i] && chain n (h[i].f0 + h[i].f1) (h.drop (i + 1))) := by
  rw [List.drop_eq_getElem_cons hi]
  rfl

theorem inB_iff (a b c : Int) : inB a b c = true ↔ b ≤ a ∧ a ≤ c := by
  unfold inB
  rw [Bool.and_eq_true, decide_eq_true_eq, decide_eq_true_eq]

theorem goodHunks_l0 (n : Int) (h : List IH) (hf : FitI h) (h0 : 0 ≤ n) (h1 : n ≤ 40) : ∀ d i p, i + d = h.length → before n h i p → Ev (fun k => impl_goodHunks.l0 k n h h (h.length : Int) (i : Int)) (chain n p (h.drop i)) := by
  intro d
  have hL := hf.1
  induction d with
  | zero =>
    intro i p hi hp
    refine Ev.step (fun k => impl_goodHunks.l0.eq_2 ..) (ev_neg (by omega) (ev_some ?_))
    rw [List.drop_of_length_le (by omega)]
    rfl
  | succ d ih =>
    intro i p hi hp
    have hlt : i < h.length := by omega
    obtain ⟨b0, b1, b2⟩ := hf.2 _ (List.getElem_mem hlt)
    refine Ev.step (fun k => impl_goodHunks.l0.eq_2 ..) ?_
    simp only [rdIH h i hlt, impl_in_eq, Option.bind_some, chain_cons n p h i hlt]
    generalize hx : h[i] = x at *
    have bad : ¬ (hNum n (-1) x ∧ x.f2.all isLn = true) → Ev (fun k => impl_goodHunks.j2 k n h (i : Int) h (h.length : Int) (i : Int) true x.f0 x.f1 x.f2) (hOK n p x && chain n (x.f0 + x.f1) (h.drop (i + 1))) := by
      intro hb
      refine Ev.step (fun k => impl_goodHunks.j2.eq_2 ..) (ev_pos rfl (ev_some ?_))
      have : hOK n p x = false := by
        rw [Bool.eq_false_iff]
        intro ht
        unfold hOK at ht
        rw [Bool.and_eq_true, decide_eq_true_eq] at ht
        obtain ⟨⟨q0, q1, q2, q3, q4, q5⟩, q6⟩ := ht
        exact hb ⟨⟨q0, q1, q2, q3, q4, by omega⟩, q6⟩
      rw [this]
      rfl
    have ok : hNum n (-1) x → x.f2.all isLn = true → Ev (fun k => impl_goodHunks.j2 k n h (i : Int) h (h.length : Int) (i : Int) false x.f0 x.f1 x.f2) (hOK n p x && chain n (x.f0 + x.f1) (h.drop (i + 1))) := by
      intro hb hl
      obtain ⟨q0, q1, q2, q3, q4, q5⟩ := hb
      have nx : before n h (i + 1) (x.f0 + x.f1) := .inr ⟨i, hlt, rfl, by rw [hx], by rw [hx]; exact q0, by rw [hx]; exact q1, q2⟩
      have go : p < x.f0 → Ev (fun k => impl_goodHunks.l0 k n h h (h.length : Int) (wrap64 ((i : Int) + 1))) (hOK n p x && chain n (x.f0 + x.f1) (h.drop (i + 1))) := by
        intro hp
        rw [wrap_succ i (by omega)]
        refine ev_to (ih (i + 1) _ (by omega) nx) ?_
        have : hOK n p x = true := by
          unfold hOK
          rw [Bool.and_eq_true, decide_eq_true_eq]
          exact ⟨⟨q0, q1, q2, q3, q4, hp⟩, hl⟩
        rw [this, Bool.true_and]
      refine Ev.step (fun k => impl_goodHunks.j2.eq_2 ..) (ev_neg (by simp) (ev_ite (fun hi0 => ?_) (fun hi0 => go ?_)))
      · rcases hp with ⟨e, _⟩ | ⟨j, hj, rfl, rfl, r0, r1, r2⟩
        · omega
        · have ew : wrap64 (((j + 1 : Nat) : Int) - 1) = (j : Int) := by rw [wrap64_id (by omega) (by omega)]; omega
          simp only [ew, rdIH h j hj]
          rw [wrap64_id (by omega) (by omega)]
          refine ev_pos (by omega) (ev_pos (by omega) (ev_ite (fun hc => ev_some ?_) (fun hc => go (by omega))))
          have : hOK n (h[j].f0 + h[j].f1) x = false := by
            rw [Bool.eq_false_iff]
            intro ht
            unfold hOK at ht
            rw [Bool.and_eq_true, decide_eq_true_eq] at ht
            have := ht.1.2.2.2.2.2
            omega
          rw [this]
          rfl
      · rcases hp with ⟨_, e⟩ | ⟨j, hj, e, _⟩ <;> omega
    refine ev_pos (by omega) (ev_pos (by omega) (ev_pos (by omega) (ev_ite (fun c0 => ?_) (fun c0 => bad (fun hb => c0 ?_)))))
    · rw [inB_iff] at c0
      rw [wrap64_id (by omega) (by omega)]
      refine ev_ite (fun c1 => ?_) (fun c1 => bad (fun hb => c1 ?_))
      · rw [inB_iff] at c1
        refine ev_bind (areLines_ev x.f2 b2) (ev_ite (fun c2 => ?_) (fun c2 => bad (fun hb => c2 ?_)))
        · rw [Bool.and_eq_true, decide_eq_true_eq] at c2
          refine ev_ite (fun c3 => ?_) (fun c3 => ok ⟨c0.1, c1.1, by omega, fun e => c3 e.1, c2.1, by omega⟩ c2.2)
          by_cases c4 : x.f2.length = 0
          · rw [show (((x.f2.length : Int) == 0) = true) from by rw [c4]; rfl]
            exact bad (fun hb => hb.1.2.2.2.1 ⟨c3, c4⟩)
          · rw [show (((x.f2.length : Int) == 0) = false) from by rw [beq_eq_false_iff_ne]; omega]
            exact ok ⟨c0.1, c1.1, by omega, fun e => c4 e.2, c2.1, by omega⟩ c2.2
        · rw [Bool.and_eq_true, decide_eq_true_eq]
          exact ⟨hb.1.2.2.2.2.1, hb.2⟩
      · rw [inB_iff]
        obtain ⟨⟨q0, q1, q2, q3, q4, q5⟩, q6⟩ := hb
        omega
    · rw [inB_iff]
      obtain ⟨⟨q0, q1, q2, q3, q4, q5⟩, q6⟩ := hb
      omega

theorem goodHunks_ev (n : Int) (h : List IH) (hf : FitI h) : Ev (fun k => impl_goodHunks.f k n h) (goodH n h) := by
  simp only [impl_goodHunks.f, impl_in_eq, Option.bind_some]
  unfold goodH
  refine ev_ite (fun c => ?_) (fun c => ?_)
  · rw [c, Bool.true_and]
    rw [inB_iff] at c
    refine Ev.step (fun k => impl_goodHunks.j0.eq_2 ..) (ev_ite (fun e => ev_some ?_) (fun e => ?_))
    · rw [decide_eq_true_eq] at e
      rw [decide_eq_false (by omega), Bool.false_and]
    · rw [decide_eq_true_eq] at e
      rw [decide_eq_true (by omega), Bool.true_and]
      exact goodHunks_l0 n h hf c.1 c.2 h.length 0 (-1) (by omega) (.inl ⟨rfl, rfl⟩)
  · refine Ev.step (fun k => impl_goodHunks.j0.eq_2 ..) (ev_pos rfl (ev_some ?_))
    rw [Bool.not_eq_true] at c
    rw [c, Bool.false_and]
end Go.Proofs.Ytbbkecdlapemfaa.Pl

/- Plain Lean: chapter 2: when hunks are good for the reference: as for the program. Conditions: lengths and sizes below 2^63. -/
namespace Go.Proofs.Ytbbkecdlapemfaa.Pl
open Go.RowKit Go.Proofs.YtbbkecdlapemfaaW.PrintWords Go.Proofs.YtbbkecdlapemfaaW.PrintLast Go.Proofs.Ytbbkecdlapemfaa.My
set_option linter.unusedVariables false
set_option linter.unusedSimpArgs false

theorem wrap_zero (a : Int) (m : Nat) (h0 : 0 ≤ a) (h1 : a ≤ 9223372036854775807) (h2 : m ≤ 9223372036854775807) : wrap64 (a + (m : Int)) = 0 ↔ a = 0 ∧ m = 0 := by
  unfold wrap64
  omega

theorem l2Hunks_l0 (n : Int) (h : List IH) (hf : FitI h) (hn0 : -9223372036854775808 ≤ n) (hn : n ≤ 9223372036854775807) : ∀ d i p, i + d = h.length → before n h i p → Ev (fun k => spec_l2Hunks.l0 k n h h (h.length : Int) (i : Int)) (chain n p (h.drop i) && (decide (h.length ≤ 20) && inB n 0 40)) := by
  intro d
  have hL := hf.1
  induction d with
  | zero =>
    intro i p hi hp
    refine Ev.step (fun k => spec_l2Hunks.l0.eq_2 ..) (ev_neg (by omega) ?_)
    rw [List.drop_of_length_le (by omega)]
    simp only [spec_l1In_eq, Option.bind_some]
    refine ev_ite (fun c => ev_some ?_) (fun c => ev_some ?_)
    · rw [decide_eq_true (by omega)]
      rfl
    · rw [decide_eq_false (by omega)]
      rfl
  | succ d ih =>
    intro i p hi hp
    have hlt : i < h.length := by omega
    obtain ⟨b0, b1, b2⟩ := hf.2 _ (List.getElem_mem hlt)
    refine Ev.step (fun k => spec_l2Hunks.l0.eq_2 ..) ?_
    simp only [rdIH h i hlt, chain_cons n p h i hlt]
    generalize hx : h[i] = x at *
    have no : ¬ (hNum n p x ∧ x.f2.all isLn = true) → hOK n p x = false := by
      intro hb
      rw [Bool.eq_false_iff]
      intro ht
      unfold hOK at ht
      rw [Bool.and_eq_true, decide_eq_true_eq] at ht
      exact hb ht
    have bad : ¬ hNum n p x → Ev (fun k => spec_l2Hunks.j1 k n h h (h.length : Int) (i : Int) true x.f0 x.f1 x.f2) (hOK n p x && chain n (x.f0 + x.f1) (h.drop (i + 1)) && (decide (h.length ≤ 20) && inB n 0 40)) := by
      intro hb
      refine Ev.step (fun k => spec_l2Hunks.j1.eq_2 ..) (ev_pos rfl (ev_some ?_))
      rw [no (fun c => hb c.1)]
      rfl
    have ok : hNum n p x → Ev (fun k => spec_l2Hunks.j1 k n h h (h.length : Int) (i : Int) false x.f0 x.f1 x.f2) (hOK n p x && chain n (x.f0 + x.f1) (h.drop (i + 1)) && (decide (h.length ≤ 20) && inB n 0 40)) := by
      intro hb
      have nx : before n h (i + 1) (x.f0 + x.f1) := .inr ⟨i, hlt, rfl, by rw [hx], by rw [hx]; exact hb.1, by rw [hx]; exact hb.2.1, hb.2.2.1⟩
      have lp : ∀ e r, r + e = x.f2.length → Ev (fun k => spec_l2Hunks.l1 k n h h (h.length : Int) (i : Int) x.f2 (x.f2.length : Int) (r : Int)) (((x.f2.drop r).all isLn && chain n (x.f0 + x.f1) (h.drop (i + 1))) && (decide (h.length ≤ 20) && inB n 0 40)) := by
        intro e
        have hT := b2.1
        induction e with
        | zero =>
          intro r hr
          refine Ev.step (fun k => spec_l2Hunks.l1.eq_2 ..) (ev_neg (by omega) ?_)
          rw [List.drop_of_length_le (l := x.f2) (by omega), wrap_succ i (by omega), List.all_nil, Bool.true_and]
          exact ih (i + 1) _ (by omega) nx
        | succ e ihe =>
          intro r hr
          have hrt : r < x.f2.length := by omega
          refine Ev.step (fun k => spec_l2Hunks.l1.eq_2 ..) (ev_pos (by omega) (ev_pos (by omega) (ev_pos (by omega) ?_)))
          rw [rdOf_lt _ _ _ hrt, drop_cons x.f2 r hrt, List.all_cons]
          refine ev_bind (l1Line_ev _ (b2.2 _ (List.getElem_mem hrt))) (ev_ite (fun c => ?_) (fun c => ev_some ?_))
          · rw [wrap_succ r (by omega), c, Bool.true_and]
            exact ihe (r + 1) (by omega)
          · rw [Bool.not_eq_true] at c
            rw [c]
            rfl
      refine Ev.step (fun k => spec_l2Hunks.j1.eq_2 ..) (ev_neg (by simp) (ev_to (lp x.f2.length 0 (by omega)) ?_))
      unfold hOK
      rw [decide_eq_true hb, Bool.true_and, List.drop_zero]
    refine ev_pos (by omega) (ev_pos (by omega) (ev_pos (by omega) (ev_ite (fun c => bad (fun hb => ?_)) (fun c0 => ev_ite (fun c => bad (fun hb => ?_)) (fun c1 => ev_ite (fun c => bad (fun hb => ?_)) (fun c2 => ?_))))))
    · have := hb.1
      omega
    · have := hb.2.1
      omega
    · obtain ⟨q0, q1, q2, q3, q4, q5⟩ := hb
      omega
    rw [wrap64_id (x := n - x.f1) (by omega) (by omega)]
    refine ev_ite (fun c => bad (fun hb => ?_)) (fun c3 => ev_ite (fun c => bad (fun hb => ?_)) (fun c4 => ev_ite (fun c => bad (fun hb => ?_)) (fun c5 => ?_)))
    · have := hb.2.2.1
      omega
    · rw [wrap_zero _ _ (by omega) (by omega) b2.1] at c
      exact hb.2.2.2.1 c
    · have := hb.2.2.2.2.1
      omega
    rw [wrap_zero _ _ (by omega) (by omega) b2.1] at c4
    rcases hp with ⟨rfl, rfl⟩ | ⟨j, hj, rfl, rfl, r0, r1, r2⟩
    · refine ev_neg (by omega) (ok ⟨by omega, by omega, by omega, c4, by omega, by omega⟩)
    · have ew : wrap64 (((j + 1 : Nat) : Int) - 1) = (j : Int) := by rw [wrap64_id (by omega) (by omega)]; omega
      simp only [ew, rdIH h j hj]
      rw [wrap64_id (x := h[j].f0 + h[j].f1) (by omega) (by omega)]
      refine ev_pos (by omega) (ev_pos (by omega) (ev_pos (by omega) ?_))
      by_cases c : x.f0 ≤ h[j].f0 + h[j].f1
      · rw [decide_eq_true c]
        refine bad (fun hb => ?_)
        have := hb.2.2.2.2.2
        omega
      · rw [decide_eq_false c]
        exact ok ⟨by omega, by omega, by omega, c4, by omega, by omega⟩

theorem l2Hunks_ev (n : Int) (h : List IH) (hf : FitI h) (hn0 : -9223372036854775808 ≤ n) (hn : n ≤ 9223372036854775807) : Ev (fun k => spec_l2Hunks.f k n h) (goodH n h) := by
  simp only [spec_l2Hunks.f]
  refine ev_to (l2Hunks_l0 n h hf hn0 hn h.length 0 (-1) (by omega) (.inl ⟨rfl, rfl⟩)) ?_
  unfold goodH
  rw [List.drop_zero]
  cases inB n 0 40 <;> cases chain n (-1) h <;> cases decide (h.length ≤ 20) <;> rfl
end Go.Proofs.Ytbbkecdlapemfaa.Pl

/- Plain Lean: chapter 2: where a line comes to lie, for the program and the reference. Conditions: lengths and sizes below 2^63. -/
namespace Go.Proofs.Ytbbkecdlapemfaa.Pl
open Go.RowKit Go.Proofs.YtbbkecdlapemfaaW.PrintWords Go.Proofs.YtbbkecdlapemfaaW.PrintLast Go.Proofs.Ytbbkecdlapemfaa.My
set_option linter.unusedVariables false
set_option linter.unusedSimpArgs false

/-- How far line i is moved by the hunks ahead of it; none where it is gone. -/
def moved (i : Int) : List IH → Option Int
  | [] => some 0
  | x :: t => if x.f0 + x.f1 ≤ i then (moved i t).map (fun m => ((x.f2.length : Int) - x.f1) + m) else if x.f0 ≤ i then none else moved i t
/-- All numbers small. -/
def near (h : List IH) : Prop := ∀ x ∈ h, 0 ≤ x.f0 ∧ x.f0 ≤ 40 ∧ 0 ≤ x.f1 ∧ x.f1 ≤ 40 ∧ x.f2.length ≤ 40

theorem near_of_chain {n : Int} (hn : n ≤ 40) : ∀ (h : List IH) (p : Int), chain n p h = true → near h := by
  intro h
  induction h with
  | nil => intro p _ x hx; simp at hx
  | cons y t ih =>
    intro p hc x hx
    simp only [chain, Bool.and_eq_true, hOK, decide_eq_true_eq] at hc
    rcases List.mem_cons.1 hx with rfl | hx
    · obtain ⟨⟨⟨q0, q1, q2, q3, q4, q5⟩, _⟩, _⟩ := hc
      omega
    · exact ih _ hc.2 x hx
theorem near_of_good {n : Int} {h : List IH} (g : goodH n h = true) : near h ∧ h.length ≤ 20 ∧ 0 ≤ n ∧ n ≤ 40 := by
  unfold goodH at g
  rw [Bool.and_eq_true, Bool.and_eq_true, inB_iff, decide_eq_true_eq] at g
  exact ⟨near_of_chain g.1.2 h _ g.2.2, g.2.1, g.1.1, g.1.2⟩

theorem moved_bounds (i : Int) : ∀ (h : List IH), near h → ∀ m, moved i h = some m → -40 * (h.length : Int) ≤ m ∧ m ≤ 40 * (h.length : Int) := by
  intro h
  induction h with
  | nil => intro _ m hm; simp only [moved, Option.some.injEq] at hm; simp only [List.length_nil]; omega
  | cons y t ih =>
    intro hn m hm
    obtain ⟨q0, q1, q2, q3, q4⟩ := hn y (List.mem_cons_self ..)
    have ht := ih (fun x hx => hn x (List.mem_cons_of_mem _ hx))
    simp only [moved] at hm
    simp only [List.length_cons]
    split at hm
    · obtain ⟨m', h1, h2⟩ := Option.map_eq_some_iff.1 hm
      have := ht m' h1
      omega
    · split at hm
      · simp at hm
      · have := ht m hm
        omega

theorem place_l0 (n : Int) (h : List IH) (i : Int) (hn : near h) (hl : h.length ≤ 20) (h0 : 0 ≤ i) (h1 : i ≤ 40) : ∀ d r (a : Int), r + d = h.length → -40 * (r : Int) ≤ a - i → a - i ≤ 40 * (r : Int) →
    Ev (fun k => impl_PlaceOf.l0 k i a h (h.length : Int) (r : Int)) (match moved i (h.drop r) with | some m => (a + m, true) | none => (0, false)) := by
  intro d
  induction d with
  | zero =>
    intro r a hr ha hb
    refine Ev.step (fun k => impl_PlaceOf.l0.eq_2 ..) (ev_neg (by omega) (ev_some ?_))
    rw [List.drop_of_length_le (by omega)]
    simp [moved]
  | succ d ih =>
    intro r a hr ha hb
    have hlt : r < h.length := by omega
    obtain ⟨q0, q1, q2, q3, q4⟩ := hn _ (List.getElem_mem hlt)
    refine Ev.step (fun k => impl_PlaceOf.l0.eq_2 ..) ?_
    simp only [rdIH h r hlt]
    rw [List.drop_eq_getElem_cons hlt]
    simp only [moved]
    rw [wrap64_id (x := h[r].f0 + h[r].f1) (by omega) (by omega), wrap64_id (x := (h[r].f2.length : Int) - h[r].f1) (by omega) (by omega), wrap64_id (x := a + ((h[r].f2.length : Int) - h[r].f1)) (by omega) (by omega), wrap_succ r (by omega)]
    refine ev_pos (by omega) (ev_pos (by omega) (ev_pos (by omega) (ev_ite (fun c => ?_) (fun c => ev_ite (fun c' => ev_some ?_) (fun c' => ?_)))))
    · rw [if_pos c]
      refine ev_to (ih (r + 1) _ (by omega) (by omega) (by omega)) ?_
      cases moved i (h.drop (r + 1)) with
      | none => rfl
      | some m => simp only [Option.map_some, Prod.mk.injEq, and_true]; omega
    · rw [if_neg c, if_pos c']
    · rw [if_neg c, if_neg c']
      exact ih (r + 1) a (by omega) (by omega) (by omega)

theorem l2Place_l0 (h : List IH) (i : Int) (hn : near h) (hl : h.length ≤ 20) (h0 : 0 ≤ i) (h1 : i ≤ 40) : ∀ d r (a : Int), r + d = h.length → -40 * (r : Int) ≤ a → a ≤ 40 * (r : Int) →
    Ev (fun k => spec_l2Place.l0 k i a h (h.length : Int) (r : Int)) (match moved i (h.drop r) with | some m => i + (a + m) | none => -1) := by
  intro d
  induction d with
  | zero =>
    intro r a hr ha hb
    refine Ev.step (fun k => spec_l2Place.l0.eq_2 ..) (ev_neg (by omega) (ev_some ?_))
    rw [List.drop_of_length_le (by omega), wrap64_id (by omega) (by omega)]
    simp [moved]
  | succ d ih =>
    intro r a hr ha hb
    have hlt : r < h.length := by omega
    obtain ⟨q0, q1, q2, q3, q4⟩ := hn _ (List.getElem_mem hlt)
    refine Ev.step (fun k => spec_l2Place.l0.eq_2 ..) ?_
    simp only [rdIH h r hlt]
    rw [List.drop_eq_getElem_cons hlt]
    simp only [moved]
    rw [wrap64_id (x := h[r].f0 + h[r].f1) (by omega) (by omega), wrap64_id (x := (h[r].f2.length : Int) - h[r].f1) (by omega) (by omega), wrap64_id (x := a + ((h[r].f2.length : Int) - h[r].f1)) (by omega) (by omega), wrap_succ r (by omega)]
    refine ev_pos (by omega) (ev_pos (by omega) (ev_pos (by omega) (ev_ite (fun c => ?_) (fun c => ev_ite (fun c' => ev_some ?_) (fun c' => ?_)))))
    · rw [if_pos c]
      refine ev_to (ih (r + 1) _ (by omega) (by omega) (by omega)) ?_
      cases moved i (h.drop (r + 1)) with
      | none => rfl
      | some m => simp only [Option.map_some]; omega
    · rw [if_neg c, if_pos c']
    · rw [if_neg c, if_neg c']
      exact ih (r + 1) a (by omega) (by omega) (by omega)

theorem moved_zero (n i : Int) : ∀ (t : List IH) (p : Int), i < p → chain n p t = true → ∀ m, moved i t = some m → m = 0 := by
  intro t
  induction t with
  | nil => intro p _ _ m hm; simp only [moved, Option.some.injEq] at hm; omega
  | cons z t iht =>
    intro p hp hc m hm
    simp only [chain, Bool.and_eq_true, hOK, decide_eq_true_eq] at hc
    obtain ⟨⟨⟨r0, r1, r2, r3, r4, r5⟩, _⟩, hc'⟩ := hc
    simp only [moved] at hm
    rw [if_neg (by omega), if_neg (by omega)] at hm
    exact iht _ (by omega) hc' m hm
/-- A place is never below zero: what is gone ahead of line i lies ahead of it. -/
theorem moved_ge (n i : Int) : ∀ (h : List IH) (p : Int), chain n p h = true → p ≤ i → ∀ m, moved i h = some m → p ≤ i + m := by
  intro h
  induction h with
  | nil => intro p _ hp m hm; simp only [moved, Option.some.injEq] at hm; omega
  | cons y t ih =>
    intro p hc hp m hm
    simp only [chain, Bool.and_eq_true, hOK, decide_eq_true_eq] at hc
    obtain ⟨⟨⟨q0, q1, q2, q3, q4, q5⟩, _⟩, hc'⟩ := hc
    simp only [moved] at hm
    split at hm
    · obtain ⟨m', e1, e2⟩ := Option.map_eq_some_iff.1 hm
      have := ih _ hc' (by omega) m' e1
      omega
    · split at hm
      · simp at hm
      · rename_i c1 c2
        have := moved_zero n i t _ (by omega) hc' m hm
        omega

theorem moved_nonneg (n i : Int) (h : List IH) (hc : chain n (-1) h = true) (h0 : 0 ≤ i) (m : Int) (hm : moved i h = some m) : 0 ≤ i + m := by
  cases h with
  | nil => simp only [moved, Option.some.injEq] at hm; omega
  | cons y t =>
    simp only [chain, Bool.and_eq_true, hOK, decide_eq_true_eq] at hc
    obtain ⟨⟨⟨q0, q1, q2, q3, q4, q5⟩, _⟩, hc'⟩ := hc
    simp only [moved] at hm
    split at hm
    · obtain ⟨m', e1, e2⟩ := Option.map_eq_some_iff.1 hm
      have := moved_ge n i t _ hc' (by omega) m' e1
      omega
    · split at hm
      · simp at hm
      · have := moved_zero n i t _ (by omega) hc' m hm
        omega

def placed (h : List IH) (n i : Int) : Int × Bool := if goodH n h = true ∧ inB i 0 n = true then (match moved i h with | some m => (i + m, true) | none => (0, false)) else (0, false)

theorem impl_PlaceOf_ev (h : List IH) (n i : Int) (hf : FitI h) : Ev (fun k => impl_PlaceOf.f k h n i) (placed h n i) := by
  simp only [impl_PlaceOf.f, impl_in_eq, Option.bind_some]
  unfold placed
  refine ev_bind (goodHunks_ev n h hf) (ev_ite (fun g => Ev.step (fun k => impl_PlaceOf.j0.eq_2 ..) ?_) (fun g => Ev.step (fun k => impl_PlaceOf.j0.eq_2 ..) (ev_pos rfl (ev_some ?_))))
  · by_cases c : inB i 0 n = true
    · obtain ⟨g1, g2, g3, g4⟩ := near_of_good g
      have c' := (inB_iff _ _ _).1 c
      rw [if_pos ⟨g, c⟩, c]
      refine ev_neg (by simp) ?_
      exact place_l0 n h i g1 g2 c'.1 (by omega) h.length 0 i (by omega) (by omega) (by omega)
    · rw [if_neg (fun e => c e.2)]
      rw [Bool.not_eq_true] at c
      rw [c]
      exact ev_pos rfl (ev_some rfl)
  · rw [if_neg (fun e => g e.1)]

theorem spec_PlaceOf_ev (h : List IH) (n i : Int) (hf : FitI h) (hn0 : -9223372036854775808 ≤ n) (hn : n ≤ 9223372036854775807) : Ev (fun k => spec_PlaceOf.f k h n i) (placed h n i) := by
  simp only [spec_PlaceOf.f, spec_l1In_eq, Option.bind_some]
  unfold placed
  refine ev_bind (l2Hunks_ev n h hf hn0 hn) (ev_ite (fun g => ev_ite (fun c => ?_) (fun c => ev_some ?_)) (fun g => ev_some ?_))
  · obtain ⟨g1, g2, g3, g4⟩ := near_of_good g
    have c' := (inB_iff _ _ _).1 c
    rw [if_pos (show goodH n h = true ∧ inB i 0 n = true from ⟨g, c⟩)]
    have e : Ev (fun k => spec_l2Place.f k h i) (match moved i h with | some m => i + m | none => -1) := by
      simp only [spec_l2Place.f]
      refine ev_to (l2Place_l0 h i g1 g2 c'.1 (by omega) h.length 0 0 (by omega) (by omega) (by omega)) ?_
      rw [List.drop_zero]
      cases moved i h with
      | none => rfl
      | some m => simp
    have gc : chain n (-1) h = true := by
      unfold goodH at g
      rw [Bool.and_eq_true, Bool.and_eq_true] at g
      exact g.2.2
    cases hm : moved i h with
    | none =>
      rw [hm] at e
      exact ev_bind e (ev_pos (by simp) (ev_some rfl))
    | some m =>
      rw [hm] at e
      have : 0 ≤ i + m := moved_nonneg n i h gc c'.1 m hm
      exact ev_bind e (ev_neg (by simp only; omega) (ev_bind e (ev_some rfl)))
  · rw [if_neg (fun e => c e.2)]
  · rw [if_neg (fun e => g e.1)]
end Go.Proofs.Ytbbkecdlapemfaa.Pl

/- PlaceOf's law, in plain Lean. Conditions: lengths and sizes below 2^63. -/
namespace Go.Proofs.Ytbbkecdlapemfaa.Pure
open Go.RowKit Go.Proofs.Ytbbkecdlapemfaa.My Go.Proofs.Ytbbkecdlapemfaa.Pl Go.Proofs.YtbbkecdlapemfaaW.PrintWords Go.Proofs.YtbbkecdlapemfaaW.PrintLast
theorem FnExactPlaceOf : laws_FnExactPlaceOf.Pure := by
  intro a n i ha hn hi
  have fa := fitH_of_wl ha
  have hn := wint_bounds hn
  refine Ev.rounds (r := true) ?_
  simp only [laws_FnExactPlaceOf.f]
  obtain ⟨r, hr, hl⟩ := szHunkS_ev a fa 1048576 (by omega) (by omega)
  refine ev_bind hr (ev_ite (fun _ => ev_some rfl) (fun h => ?_))
  have hz : szH a ≤ 1048576 ∧ 0 ≤ r ∧ r ≤ 1048576 := by rcases hl with hl | hl <;> omega
  have ta := toHunkS_ev a (smallH hz.1)
  have ia := fitI_of fa
  refine ev_bind ta (ev_bind (spec_PlaceOf_ev _ n i ia hn.1 hn.2) (ev_bind ta (ev_bind (impl_PlaceOf_ev _ n i ia) (ev_pos rfl ?_))))
  refine Ev.step (fun k => laws_FnExactPlaceOf.j0.eq_2 ..) (ev_neg (by simp) ?_)
  exact ev_bind ta (ev_bind (eqHunkS_ev _ _ ia) (ev_pos (by simp) (ev_some rfl)))
end Go.Proofs.Ytbbkecdlapemfaa.Pure

/- The Go function loop.example/g00825/laws.FnExactPlaceOf returns true for every input, and each argument reads afterwards as it read before. No condition. -/
namespace Go.Proofs.Ytbbkecdlapemfaa.fnExactPlaceOf
open Go.ChangeShapes Go.WideShapes Go.ChangeAt Go.RowKit Go.Joins Go.Proofs.Ytbbkecdlapemfaa.Opens Go.Proofs.Ytbbkecdlapemfaa.My
open Go.ChangeMaps (open_string shut_string)
set_option linter.unusedVariables false
set_option linter.unusedSimpArgs false
theorem own : ownKnob Try.prog.godebug = none := by kernel_rfl
theorem laidOut : laidOutB Try.prog = true := by kernel_rfl
set_option maxRecDepth 100000 in
theorem lifted (os : Os) (started : os.Started) (H : Type) (enc : TypeId × Value → H) :
    ReturnsInHanded {} Try.checked os 5 .any (Rows.fnExactPlaceOfSpec.pre6 enc Try.prog Try.f5 Rows.fnExactPlaceOfRow.domain false) (Rows.fnExactPlaceOfSpec.post enc Try.prog Try.f5 false true false false) := by
  refine returnsInHanded_of_change_sized (C := Try.checked) own started (by kernel_rfl) Try.func5
    (ChangeSpec.witness6 (enc := enc) (C := Try.checked) false ⟨#[], #[.slice none 0 0, .int .i64 0, .int .i64 0], []⟩ 8 (by kernel_rfl) (by kernel_rfl) (by kernel_rfl) (by kernel_rfl)) ?_
  intro W base args ds gs before hval0 hW hcnd hsz0 _
  have hval : ∀ (j : Nat) t v, Try.f5.params[j]? = some t → args[j]? = some v → Value.okWide Try.prog W .any base t v := hval0
  have hW' := hW
  obtain ⟨p, q, hA0, hV, rfl, hfz, hnd⟩ := hW
  have hA : DataW.TrodAll enc Try.prog W 0 (fun _ => true) true Try.f5.params.toList args.toList ds p := hA0
  rw [Try.params5] at hA hval
  obtain ⟨v0, vs0, d0, ds0, p0, q0, hargs, rfl, rfl, h0, r0⟩ := trodAll_cons hA
  obtain ⟨v1, vs1, d1, ds1, p1, q1, rfl, rfl, rfl, h1, r1⟩ := trodAll_cons r0
  obtain ⟨v2, vs2, d2, ds2, p2, q2, rfl, rfl, rfl, h2, r2⟩ := trodAll_cons r1
  obtain ⟨rfl, rfl, rfl⟩ := trodAll_nil r2
  obtain rfl : args = #[v0, v1, v2] := by cases args; simp_all
  obtain ⟨rfl, rfl⟩ := trodVars_none hV
  obtain ⟨A0, n0, c0, rfl⟩ := okWide_slice Try.underlying22 (hval 0 22 v0 rfl rfl)
  have k0 := h0
  have lt0 : ∀ x ∈ p0, x.block < W.heap.size := by obtain ⟨m, hm⟩ := k0; exact DataW.trod_lt m _ _ _ hm
  obtain ⟨l0, rfl, hc0, hr0, q0_⟩ := Opens.row (opens_slice Try.underlying22 (by kernel_rfl) opens82) h0
  obtain ⟨a1, rfl, rfl, rfl, w1⟩ := open_int Try.underlying3 (hval 1 3 v1 rfl rfl) h1
  obtain ⟨a2, rfl, rfl, rfl, w2⟩ := open_int Try.underlying3 (hval 2 3 v2 rfl rfl) h2
  clear hA0 hval0 hsz0
  obtain ⟨kr, hk⟩ := Pure.FnExactPlaceOf l0 a1 a2 q0_ w1 w2
  refine (laws_FnExactPlaceOf.calls kr _ _ l0 a1 a2 true W hr0 hc0 hk).mono fun e W' hh => ?_
  obtain ⟨rfl, hd⟩ := hh
  have bel : Below W.heap.size W W' := hd
  exact ⟨_, rfl, _, _, _, [], _, [], hW', trodAll_mk1 (shut_bool Try.underlying4 _), (trodAll_cons_mk (Below.trod laidOut (by kernel_rfl) (of_decide_eq_true (by kernel_rfl)) k0 bel lt0) (trodAll_cons_mk (shut_int Try.underlying3 w1) (trodAll_cons_mk (shut_int Try.underlying3 w2) trodAll_mk0))), rfl, bel.frame _, fun h => by cases h⟩
theorem over : Rows.fnExactPlaceOfRow.holds Try.pinned (OpenSpec.ofChange Rows.fnExactPlaceOfSpec) :=
  OpenClaim.holds_of_wide 5 Try.f5 rfl rfl rfl rfl rfl rfl rfl ⟨rfl, rfl, rfl, rfl, rfl⟩ rfl rfl rfl rfl rfl (by kernel_rfl) Try.func5 (by kernel_rfl)
    (of_decide_eq_true (by kernel_rfl)) (by unfold Func.isWrapper; first | (rw [if_pos (by decide +kernel)]; kernel_rfl) | (rw [if_neg (by decide +kernel)]; exact ⟨rfl, rfl⟩))
    (fun os started H enc _ => lifted os started H enc)
theorem proved : Rows.FnExactPlaceOfSaid := over
#print axioms proved
end Go.Proofs.Ytbbkecdlapemfaa.fnExactPlaceOf
namespace Go.Proofs.Ytbbkecdlapemfaa
/-- The row, under a short name, for the claim. -/
theorem fnExactPlaceOf_holds : Rows.FnExactPlaceOfSaid := fnExactPlaceOf.proved
end Go.Proofs.Ytbbkecdlapemfaa
