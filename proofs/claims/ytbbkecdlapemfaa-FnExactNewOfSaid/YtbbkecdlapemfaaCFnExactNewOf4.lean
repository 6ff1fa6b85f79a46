/- Part 4 of 4 of a proof of this sentence: The Go function loop.example/g00825/laws.FnExactNewOf returns true for every input, and each argument reads afterwards as it read before. No condition. -/
import Derived.Test.YtbbkecdlapemfaaWWords
import Derived.Test.YtbbkecdlapemfaaWLast
import Derived.Lib.Strings
import Derived.Lib.Bytealg
import Derived.Test.YtbbkecdlapemfaaRows
import Derived.WalkKit
import Derived.ProofKit
import Derived.OpenShut
import Derived.ShutString
import Derived.ChangeOld
import Derived.Below
import Derived.SizedLaws
import Derived.Lib.SmallJoins
import Derived.Test.YtbbkecdlapemfaaCFnExactNewOf3
/- Written by this session's program (wip/gen): a plain function with the same answers as the Go function, and the proof that the Go code comes to them. Asked: that the plain function has an answer. -/
namespace Go.Proofs.Ytbbkecdlapemfaa.My
open Go.RowKit Go.Proofs.YtbbkecdlapemfaaW.PrintWords Go.Proofs.YtbbkecdlapemfaaW.PrintLast Go.Proofs.YtbbkecdlapemfaaW.PrintMore
attribute [local go_sem] max2_int min2_int max_two min_two max_three min_three max_four min_four
set_option linter.unusedVariables false
set_option linter.unusedSimpArgs false

/-! ### laws_FnExactNewOf: function 10 -/
mutual
def laws_FnExactNewOf.j0 : Nat → List ByteArray → Bool → List ByteArray → Bool → Bool → Int → Int → List (S128) → Int → Int → List (S129) → Option (Bool)
 | 0, _, _, _, _, _, _, _, _, _, _, _ => none
 | k + 1, x4, x5, x7, x8, x40, x856000, x856001, x856002, x872000, x872001, x872002 => if x40 = true then (some false) else ((laws_toGroup.f k x856000 x856001 x856002).bind fun bt877 => ((laws_eqGroup.f k x872000 x872001 x872002 bt877.1 bt877.2.1 bt877.2.2).bind fun t882 => (if t882 = true then ((laws_markGroup.f k x872000 x872001 x872002 1).bind fun bt883 => (if bt883.1 < 0 then (laws_FnExactNewOf.j1 k x4 x5 x7 true x856000 x856001 x856002) else ((laws_eqStringS.f k x7 x4).bind fun t885 => (if t885 = true then (laws_FnExactNewOf.j1 k x4 x5 x7 (x8 != x5) x856000 x856001 x856002) else (laws_FnExactNewOf.j1 k x4 x5 x7 true x856000 x856001 x856002))))) else (some false))))
def laws_FnExactNewOf.j1 : Nat → List ByteArray → Bool → List ByteArray → Bool → Int → Int → List (S128) → Option (Bool)
 | 0, _, _, _, _, _, _, _ => none
 | k + 1, x4, x5, x7, x61, x856000, x856001, x856002 => if x61 = true then (some false) else ((laws_markStringS.f k x7 1).bind fun bt886 => ((laws_heldStringS.f k bt886.2 1).bind fun t888 => (if t888 < 0 then (some false) else (if t888 = bt886.1 then ((laws_toGroup.f k x856000 x856001 x856002).bind fun bt889 => ((impl_NewOf.f k bt889.1 bt889.2.1 bt889.2.2).bind fun bt894 => ((laws_eqStringS.f k bt894.1 x4).bind fun t898 => (if t898 = true then (laws_FnExactNewOf.j2 k bt886.2 bt886.1 (bt894.2 != x5)) else (laws_FnExactNewOf.j2 k bt886.2 bt886.1 true))))) else (some false)))))
def laws_FnExactNewOf.j2 : Nat → List ByteArray → Int → Bool → Option (Bool)
 | 0, _, _, _ => none
 | k + 1, x7, x10, x87 => if x87 = true then (some false) else ((laws_heldStringS.f k x7 1).bind fun t899 => (if t899 < 0 then (some false) else (if t899 = x10 then (some true) else (some false))))
end
def laws_FnExactNewOf.f (k : Nat) (a0_0 : Int) (a0_1 : Int) (l0_2 : List (S128)) : Option (Bool) := (laws_szGroup.f k a0_0 a0_1 l0_2 1048576).bind fun t856 => (if t856 < 0 then (some true) else ((laws_toGroup.f k a0_0 a0_1 l0_2).bind fun bt857 => ((spec_NewOf.f k bt857.1 bt857.2.1 bt857.2.2).bind fun bt862 => ((laws_toGroup.f k a0_0 a0_1 l0_2).bind fun bt866 => ((impl_NewOf.f k bt866.1 bt866.2.1 bt866.2.2).bind fun bt872 => ((laws_eqStringS.f k bt872.1 bt862.1).bind fun t876 => (if t876 = true then (laws_FnExactNewOf.j0 k bt862.1 bt862.2 bt872.1 bt872.2 (bt872.2 != bt862.2) a0_0 a0_1 l0_2 bt866.1 bt866.2.1 bt866.2.2) else (laws_FnExactNewOf.j0 k bt862.1 bt862.2 bt872.1 bt872.2 true a0_0 a0_1 l0_2 bt866.1 bt866.2.1 bt866.2.2))))))))
set_option maxHeartbeats 8000000 in
set_option maxRecDepth 100000 in
theorem laws_FnExactNewOf.calls (k : Nat) (a0_0 : Int) (a0_1 : Int) (A0_2 : Option Addr) (c0_2 : Nat) (l0_2 : List (S128)) (r : Bool) (w : World) (hr0_2 : Kd.C k128 w A0_2 l0_2.length l0_2) (hc0_2 : l0_2.length ≤ c0_2) (h : laws_FnExactNewOf.f k a0_0 a0_1 l0_2 = some r) :
  Calls Try.prog 10 #[.agg #[.int .i64 a0_0, .int .i64 a0_1, .slice A0_2 l0_2.length c0_2]] w fun e w' => e = .returned (.bool r) ∧ Below w.heap.size w w' := by
 have hu65 := Try.underlying65
 have hu70 := Try.underlying70
 have HR0_2 := Aside0.mk hr0_2
 have HC0_2 := Aside0.mk hc0_2
 clear hr0_2 hc0_2
 have HB := Aside0.mk (Below.refl w.heap.size w)
 have H : ((laws_szGroup.f k a0_0 a0_1 l0_2 1048576).bind fun t856 => (if t856 < 0 then (some true) else ((laws_toGroup.f k a0_0 a0_1 l0_2).bind fun bt857 => ((spec_NewOf.f k bt857.1 bt857.2.1 bt857.2.2).bind fun bt862 => ((laws_toGroup.f k a0_0 a0_1 l0_2).bind fun bt866 => ((impl_NewOf.f k bt866.1 bt866.2.1 bt866.2.2).bind fun bt872 => ((laws_eqStringS.f k bt872.1 bt862.1).bind fun t876 => (if t876 = true then (laws_FnExactNewOf.j0 k bt862.1 bt862.2 bt872.1 bt872.2 (bt872.2 != bt862.2) a0_0 a0_1 l0_2 bt866.1 bt866.2.1 bt866.2.2) else (laws_FnExactNewOf.j0 k bt862.1 bt862.2 bt872.1 bt872.2 true a0_0 a0_1 l0_2 bt866.1 bt866.2.1 bt866.2.2))))))))) = some r := h
 clear h
 replace H := Option.bind_eq_some_iff.mp H
 obtain ⟨t856, A20, H⟩ := H
 replace H : (if t856 < 0 then (some true) else ((laws_toGroup.f k a0_0 a0_1 l0_2).bind fun bt857 => ((spec_NewOf.f k bt857.1 bt857.2.1 bt857.2.2).bind fun bt862 => ((laws_toGroup.f k a0_0 a0_1 l0_2).bind fun bt866 => ((impl_NewOf.f k bt866.1 bt866.2.1 bt866.2.2).bind fun bt872 => ((laws_eqStringS.f k bt872.1 bt862.1).bind fun t876 => (if t876 = true then (laws_FnExactNewOf.j0 k bt862.1 bt862.2 bt872.1 bt872.2 (bt872.2 != bt862.2) a0_0 a0_1 l0_2 bt866.1 bt866.2.1 bt866.2.2) else (laws_FnExactNewOf.j0 k bt862.1 bt862.2 bt872.1 bt872.2 true a0_0 a0_1 l0_2 bt866.1 bt866.2.1 bt866.2.2)))))))) = some r := H
 have A2 := Aside0.mk A20
 clear A20
 by_cases c3 : t856 < 0
 ·rw [if_pos c3] at H
  have c3b0 : decide (t856 < 0) = true := decide_eq_true c3
  clear c3
  obtain rfl := Option.some.inj H
  go_enter Try.func10, Try.ntmps10
  go_wp2_with (first | ((with_reducible refine gate_dst (N := 1) rfl ?_); refine box_event ?hg (N := 1) ?hd (cs := #[.int .i64 a0_0, .int .i64 a0_1, .slice A0_2 l0_2.length c0_2]) (t := 65) ?hr ?_; (case hd => rfl); (case hg => rfl); (case hr => first | (go_simp; done) | (go_simp; rfl)); intro gb855 hg w4 hbox hb; have n0_ := Aside0.mk (below_step zb hb); have n1_ := Aside0.mk (hbox); have n2_ := Aside0.mk ((by rw [hg]; exact (below_size zb) : w.heap.size ≤ gb855)); have n3_ := Aside0.mk ((by rw [hg]; exact (below_size zb) : w.heap.size ≤ gb855)); clear HB; have HB := n0_; have BK855 := n1_; have GW855 := n2_; have GE855 := n3_; clear n0_ n1_ n2_ n3_; clear hb hbox hg; have hcz5_0 : w4.cell? ⟨gb855, 0, none⟩ = some (.int .i64 a0_0) := (blk_cell BK855.out 0).trans rfl; have hcz5_1 : w4.cell? ⟨gb855, 1, none⟩ = some (.int .i64 a0_1) := (blk_cell BK855.out 1).trans rfl; have hcz5_2 : w4.cell? ⟨gb855, 2, none⟩ = some (.slice A0_2 l0_2.length c0_2) := (blk_cell BK855.out 2).trans rfl; have hfz5_0 := blk_frozen BK855.out 0; have hfz5_1 := blk_frozen BK855.out 1; have hfz5_2 := blk_frozen BK855.out 2) | ((with_reducible refine gateC (f := 50) rfl ?_); refine goesL_ (some 16) rfl rfl Try.func50 (by kernel_rfl) rfl #[.agg #[.int .i64 a0_0, .int .i64 a0_1, .slice A0_2 l0_2.length c0_2], .int .i64 1048576] rfl zm ?_; (with_reducible refine (laws_szGroup.calls k a0_0 a0_1 _ _ l0_2 1048576 t856 _ ?side1 ?side2 A2.out).mono ?_); (case side1 => exact zq (Kd.C_below HR0_2.out HB.out)); (case side2 => exact HC0_2.out); rintro e w6 ⟨rfl, hb⟩; refine ⟨_, rfl, ?_⟩; have n0_ := Aside0.mk (blk_below (g := gb855) (o := .cells #[.int .i64 a0_0, .int .i64 a0_1, .slice A0_2 l0_2.length c0_2] 65 (0, 0)) (zk BK855.out) hb); have n1_ := Aside0.mk (below_step (by repeat (first | (with_reducible first | exact HB.out | apply below_alloc | apply pw_below_drewN | apply below_drew1 | refine below_set ?_ GE855.out) | exact HB.out)) hb); clear BK855; clear HB; have BK855 := n0_; have HB := n1_; clear n0_ n1_; (try clear hb); (try clear hb2); (try clear hk); (try clear hi)))
  go_ret
  exact ⟨by first | rfl | (simp [errW_none, errW_some] <;> rfl) | (simp [*, errW_none, errW_some] <;> rfl), by repeat (first | (with_reducible first | exact HB.out | apply below_alloc | apply pw_below_drewN | apply below_drew1 | refine below_set ?_ GE855.out) | exact HB.out)⟩
 ·rw [if_neg c3] at H
  have c3b0 : decide (t856 < 0) = false := decide_eq_false c3
  clear c3
  replace H := Option.bind_eq_some_iff.mp H
  obtain ⟨⟨t857, t858, t859⟩, A70, H⟩ := H
  replace H : ((spec_NewOf.f k t857 t858 t859).bind fun bt862 => ((laws_toGroup.f k a0_0 a0_1 l0_2).bind fun bt866 => ((impl_NewOf.f k bt866.1 bt866.2.1 bt866.2.2).bind fun bt872 => ((laws_eqStringS.f k bt872.1 bt862.1).bind fun t876 => (if t876 = true then (laws_FnExactNewOf.j0 k bt862.1 bt862.2 bt872.1 bt872.2 (bt872.2 != bt862.2) a0_0 a0_1 l0_2 bt866.1 bt866.2.1 bt866.2.2) else (laws_FnExactNewOf.j0 k bt862.1 bt862.2 bt872.1 bt872.2 true a0_0 a0_1 l0_2 bt866.1 bt866.2.1 bt866.2.2)))))) = some r := H
  have A7 := Aside0.mk A70
  clear A70
  replace H := Option.bind_eq_some_iff.mp H
  obtain ⟨⟨t862, t865⟩, A80, H⟩ := H
  replace H : ((laws_toGroup.f k a0_0 a0_1 l0_2).bind fun bt866 => ((impl_NewOf.f k bt866.1 bt866.2.1 bt866.2.2).bind fun bt872 => ((laws_eqStringS.f k bt872.1 t862).bind fun t876 => (if t876 = true then (laws_FnExactNewOf.j0 k t862 t865 bt872.1 bt872.2 (bt872.2 != t865) a0_0 a0_1 l0_2 bt866.1 bt866.2.1 bt866.2.2) else (laws_FnExactNewOf.j0 k t862 t865 bt872.1 bt872.2 true a0_0 a0_1 l0_2 bt866.1 bt866.2.1 bt866.2.2))))) = some r := H
  have A8 := Aside0.mk A80
  clear A80
  replace H := Option.bind_eq_some_iff.mp H
  obtain ⟨⟨t866, t867, t868⟩, A90, H⟩ := H
  replace H : ((impl_NewOf.f k t866 t867 t868).bind fun bt872 => ((laws_eqStringS.f k bt872.1 t862).bind fun t876 => (if t876 = true then (laws_FnExactNewOf.j0 k t862 t865 bt872.1 bt872.2 (bt872.2 != t865) a0_0 a0_1 l0_2 t866 t867 t868) else (laws_FnExactNewOf.j0 k t862 t865 bt872.1 bt872.2 true a0_0 a0_1 l0_2 t866 t867 t868)))) = some r := H
  have A9 := Aside0.mk A90
  clear A90
  replace H := Option.bind_eq_some_iff.mp H
  obtain ⟨⟨t872, t875⟩, A100, H⟩ := H
  replace H : ((laws_eqStringS.f k t872 t862).bind fun t876 => (if t876 = true then (laws_FnExactNewOf.j0 k t862 t865 t872 t875 (t875 != t865) a0_0 a0_1 l0_2 t866 t867 t868) else (laws_FnExactNewOf.j0 k t862 t865 t872 t875 true a0_0 a0_1 l0_2 t866 t867 t868))) = some r := H
  have A10 := Aside0.mk A100
  clear A100
  have HC11 := Aside0.mk H
  clear H
  go_enter Try.func10, Try.ntmps10
  go_upto_region 8 with (first | ((with_reducible refine gate_dst (N := 1) rfl ?_); refine box_event ?hg (N := 1) ?hd (cs := #[.int .i64 a0_0, .int .i64 a0_1, .slice A0_2 l0_2.length c0_2]) (t := 65) ?hr ?_; (case hd => rfl); (case hg => rfl); (case hr => first | (go_simp; done) | (go_simp; rfl)); intro gb855 hg w12 hbox hb; have n0_ := Aside0.mk (below_step zb hb); have n1_ := Aside0.mk (hbox); have n2_ := Aside0.mk ((by rw [hg]; exact (below_size zb) : w.heap.size ≤ gb855)); have n3_ := Aside0.mk ((by rw [hg]; exact (below_size zb) : w.heap.size ≤ gb855)); clear HB; have HB := n0_; have BK855 := n1_; have GW855 := n2_; have GE855 := n3_; clear n0_ n1_ n2_ n3_; clear hb hbox hg; have hcz13_0 : w12.cell? ⟨gb855, 0, none⟩ = some (.int .i64 a0_0) := (blk_cell BK855.out 0).trans rfl; have hcz13_1 : w12.cell? ⟨gb855, 1, none⟩ = some (.int .i64 a0_1) := (blk_cell BK855.out 1).trans rfl; have hcz13_2 : w12.cell? ⟨gb855, 2, none⟩ = some (.slice A0_2 l0_2.length c0_2) := (blk_cell BK855.out 2).trans rfl; have hfz13_0 := blk_frozen BK855.out 0; have hfz13_1 := blk_frozen BK855.out 1; have hfz13_2 := blk_frozen BK855.out 2) | ((with_reducible refine gateC (f := 50) rfl ?_); refine goesL_ (some 16) rfl rfl Try.func50 (by kernel_rfl) rfl #[.agg #[.int .i64 a0_0, .int .i64 a0_1, .slice A0_2 l0_2.length c0_2], .int .i64 1048576] rfl zm ?_; (with_reducible refine (laws_szGroup.calls k a0_0 a0_1 _ _ l0_2 1048576 t856 _ ?side1 ?side2 A2.out).mono ?_); (case side1 => exact zq (Kd.C_below HR0_2.out HB.out)); (case side2 => exact HC0_2.out); rintro e w14 ⟨rfl, hb⟩; refine ⟨_, rfl, ?_⟩; have n0_ := Aside0.mk (blk_below (g := gb855) (o := .cells #[.int .i64 a0_0, .int .i64 a0_1, .slice A0_2 l0_2.length c0_2] 65 (0, 0)) (zk BK855.out) hb); have n1_ := Aside0.mk (below_step (by repeat (first | (with_reducible first | exact HB.out | apply below_alloc | apply pw_below_drewN | apply below_drew1 | refine below_set ?_ GE855.out) | exact HB.out)) hb); clear BK855; clear HB; have BK855 := n0_; have HB := n1_; clear n0_ n1_; (try clear hb); (try clear hb2); (try clear hk); (try clear hi); have hcz15_0 : w14.cell? ⟨gb855, 0, none⟩ = some (.int .i64 a0_0) := (blk_cell BK855.out 0).trans rfl; have hcz15_1 : w14.cell? ⟨gb855, 1, none⟩ = some (.int .i64 a0_1) := (blk_cell BK855.out 1).trans rfl; have hcz15_2 : w14.cell? ⟨gb855, 2, none⟩ = some (.slice A0_2 l0_2.length c0_2) := (blk_cell BK855.out 2).trans rfl; have hfz15_0 := blk_frozen BK855.out 0; have hfz15_1 := blk_frozen BK855.out 1; have hfz15_2 := blk_frozen BK855.out 2) | ((with_reducible refine gateC (f := 52) rfl ?_); refine goesL_ (some 21) rfl rfl Try.func52 (by kernel_rfl) rfl #[.agg #[.int .i64 a0_0, .int .i64 a0_1, .slice A0_2 l0_2.length c0_2]] rfl zm ?_; (with_reducible refine (laws_toGroup.calls k a0_0 a0_1 _ _ l0_2 t857 t858 t859 _ ?side1 ?side2 A7.out).mono ?_); (case side1 => exact zq (Kd.C_below HR0_2.out HB.out)); (case side2 => exact HC0_2.out); rintro e w16 ⟨v860, rfl, ho0, hb⟩; refine ⟨_, rfl, ?_⟩; have n0_ := Aside0.mk (Kd.R_lower ho0 (below_size (by repeat (first | (with_reducible first | exact HB.out | apply below_alloc | apply pw_below_drewN | apply below_drew1 | refine below_set ?_ GE855.out) | exact HB.out)))); have n1_ := Aside0.mk (blk_below (g := gb855) (o := .cells #[.int .i64 a0_0, .int .i64 a0_1, .slice A0_2 l0_2.length c0_2] 65 (0, 0)) (zk BK855.out) hb); have n2_ := Aside0.mk (below_step (by repeat (first | (with_reducible first | exact HB.out | apply below_alloc | apply pw_below_drewN | apply below_drew1 | refine below_set ?_ GE855.out) | exact HB.out)) hb); clear BK855; clear HB; have HO861 := n0_; have BK855 := n1_; have HB := n2_; clear n0_ n1_ n2_; (try clear hb); (try clear hb2); (try clear hk); (try clear hi); (try clear ho0); obtain ⟨Ao17, co17, eo17⟩ := Kd.R_slice HO861.out; subst eo17) | ((with_reducible refine gateC (f := 51) rfl ?_); refine goesL_ (some 22) rfl rfl Try.func51 (by kernel_rfl) rfl #[.agg #[.int .i64 t857, .int .i64 t858, .slice Ao17 t859.length co17]] rfl zm ?_; (with_reducible refine (spec_NewOf.calls k t857 t858 _ _ t859 t862 t865 _ ?side1 ?side2 A8.out).mono ?_); (case side1 => repeat (first | exact (Kd.R_reads' HO861.out).2.2 | (with_reducible refine Kd.C_alloc ?_ _) | (with_reducible refine Kd.C_drewN ?_ _) | (with_reducible refine Kd.C_drew ?_))); (case side2 => exact (Kd.R_reads' HO861.out).2.1); rintro e w18 ⟨v863, rfl, ho0, hb⟩; refine ⟨_, rfl, ?_⟩; have n0_ := Aside0.mk (Kd.R_below (zr HO861.out) hb); have n1_ := Aside0.mk (Kd.R_lower ho0 (below_size (by repeat (first | (with_reducible first | exact HB.out | apply below_alloc | apply pw_below_drewN | apply below_drew1 | refine below_set ?_ GE855.out) | exact HB.out)))); have n2_ := Aside0.mk (blk_below (g := gb855) (o := .cells #[.int .i64 a0_0, .int .i64 a0_1, .slice A0_2 l0_2.length c0_2] 65 (0, 0)) (zk BK855.out) hb); have n3_ := Aside0.mk (below_step (by repeat (first | (with_reducible first | exact HB.out | apply below_alloc | apply pw_below_drewN | apply below_drew1 | refine below_set ?_ GE855.out) | exact HB.out)) hb); clear HO861; clear BK855; clear HB; have HO861 := n0_; have HO864 := n1_; have BK855 := n2_; have HB := n3_; clear n0_ n1_ n2_ n3_; (try clear hb); (try clear hb2); (try clear hk); (try clear hi); (try clear ho0); have hcz19_0 : w18.cell? ⟨gb855, 0, none⟩ = some (.int .i64 a0_0) := (blk_cell BK855.out 0).trans rfl; have hcz19_1 : w18.cell? ⟨gb855, 1, none⟩ = some (.int .i64 a0_1) := (blk_cell BK855.out 1).trans rfl; have hcz19_2 : w18.cell? ⟨gb855, 2, none⟩ = some (.slice A0_2 l0_2.length c0_2) := (blk_cell BK855.out 2).trans rfl; have hfz19_0 := blk_frozen BK855.out 0; have hfz19_1 := blk_frozen BK855.out 1; have hfz19_2 := blk_frozen BK855.out 2) | ((with_reducible refine gateC (f := 52) rfl ?_); refine goesL_ (some 26) rfl rfl Try.func52 (by kernel_rfl) rfl #[.agg #[.int .i64 a0_0, .int .i64 a0_1, .slice A0_2 l0_2.length c0_2]] rfl zm ?_; (with_reducible refine (laws_toGroup.calls k a0_0 a0_1 _ _ l0_2 t866 t867 t868 _ ?side1 ?side2 A9.out).mono ?_); (case side1 => exact zq (Kd.C_below HR0_2.out HB.out)); (case side2 => exact HC0_2.out); rintro e w20 ⟨v869, rfl, ho0, hb⟩; refine ⟨_, rfl, ?_⟩; have n0_ := Aside0.mk (Kd.R_elder' (zr HO861.out) (Kd.R_base ho0) hb); have n1_ := Aside0.mk (Kd.R_below (zr HO864.out) hb); have n2_ := Aside0.mk (Kd.R_lower (Kd.R_new' ho0 (Kd.R_lt (zr HO861.out))) (below_size (by repeat (first | (with_reducible first | exact HB.out | apply below_alloc | apply pw_below_drewN | apply below_drew1 | refine below_set ?_ GE855.out) | exact HB.out)))); have n3_ := Aside0.mk (blk_below (g := gb855) (o := .cells #[.int .i64 a0_0, .int .i64 a0_1, .slice A0_2 l0_2.length c0_2] 65 (0, 0)) (zk BK855.out) hb); have n4_ := Aside0.mk (below_step (by repeat (first | (with_reducible first | exact HB.out | apply below_alloc | apply pw_below_drewN | apply below_drew1 | refine below_set ?_ GE855.out) | exact HB.out)) hb); clear HO861; clear HO864; clear BK855; clear HB; have HO861 := n0_; have HO864 := n1_; have HO870 := n2_; have BK855 := n3_; have HB := n4_; clear n0_ n1_ n2_ n3_ n4_; (try clear hb); (try clear hb2); (try clear hk); (try clear hi); (try clear ho0)) | ((with_reducible refine gate_dst (N := 6) rfl ?_); refine box_event ?hg (N := 6) ?hd (cs := #[.int .i64 0, .int .i64 0, .slice none 0 0]) (t := 70) ?hr ?_; (case hd => rfl); (case hg => rfl); (case hr => first | (go_simp; done) | (go_simp; rfl)); intro gb871 hg w21 hbox hb; have n0_ := Aside0.mk (Kd.R_below (zr HO861.out) hb); have n1_ := Aside0.mk (Kd.R_below (zr HO864.out) hb); have n2_ := Aside0.mk (Kd.R_below (zr HO870.out) hb); have n3_ := Aside0.mk (blk_below (g := gb855) (o := .cells #[.int .i64 a0_0, .int .i64 a0_1, .slice A0_2 l0_2.length c0_2] 65 (0, 0)) (zk BK855.out) hb); have n4_ := Aside0.mk (below_step (by repeat (first | (with_reducible first | exact HB.out | apply below_alloc | apply pw_below_drewN | apply below_drew1 | refine below_set ?_ GE855.out) | exact HB.out)) hb); have n5_ := Aside0.mk (hbox); have n6_ := Aside0.mk ((by rw [hg]; exact (below_size (by repeat (first | (with_reducible first | exact HB.out | apply below_alloc | apply pw_below_drewN | apply below_drew1 | refine below_set ?_ GE855.out) | exact HB.out))) : w.heap.size ≤ gb871)); have n7_ := Aside0.mk ((by rw [hg]; exact (below_size (by repeat (first | (with_reducible first | exact HB.out | apply below_alloc | apply pw_below_drewN | apply below_drew1 | refine below_set ?_ GE855.out) | exact HB.out))) : w.heap.size ≤ gb871)); have n8_ := Aside0.mk ((by rw [hg]; exact Nat.ne_of_lt (blk_lt (g := gb855) (o := .cells #[.int .i64 a0_0, .int .i64 a0_1, .slice A0_2 l0_2.length c0_2] 65 (0, 0)) (zk BK855.out)) : gb855 ≠ gb871)); have n9_ := Aside0.mk ((by rw [hg]; exact Nat.ne_of_gt (blk_lt (g := gb855) (o := .cells #[.int .i64 a0_0, .int .i64 a0_1, .slice A0_2 l0_2.length c0_2] 65 (0, 0)) (zk BK855.out)) : gb871 ≠ gb855)); clear HO861; clear HO864; clear HO870; clear BK855; clear HB; have HO861 := n0_; have HO864 := n1_; have HO870 := n2_; have BK855 := n3_; have HB := n4_; have BK871 := n5_; have GW871 := n6_; have GE871 := n7_; have NB855_871 := n8_; have NB871_855 := n9_; clear n0_ n1_ n2_ n3_ n4_ n5_ n6_ n7_ n8_ n9_; clear hb hbox hg; have hnb22 := NB871_855.out; have hnc22 := NB855_871.out; have hcz23_0 : w21.cell? ⟨gb871, 0, none⟩ = some (.int .i64 0) := (blk_cell BK871.out 0).trans rfl; have hcz23_1 : w21.cell? ⟨gb871, 1, none⟩ = some (.int .i64 0) := (blk_cell BK871.out 1).trans rfl; have hcz23_2 : w21.cell? ⟨gb871, 2, none⟩ = some (.slice none 0 0) := (blk_cell BK871.out 2).trans rfl; have hfz23_0 := blk_frozen BK871.out 0; have hfz23_1 := blk_frozen BK871.out 1; have hfz23_2 := blk_frozen BK871.out 2; obtain ⟨Ao24, co24, eo24⟩ := Kd.R_slice HO870.out; subst eo24) | ((with_reducible refine gateC (f := 53) rfl ?_); refine goesL_ (some 29) rfl rfl Try.func53 (by kernel_rfl) rfl #[.agg #[.int .i64 t866, .int .i64 t867, .slice Ao24 t868.length co24]] rfl zm ?_; (with_reducible refine (impl_NewOf.calls k t866 t867 _ _ t868 t872 t875 _ ?side1 ?side2 A10.out).mono ?_); (case side1 => refine (Kd.R_reads' (e := 129) (base := w.heap.size) (ok := fun k_ => (True ∧ some k_ ≠ (.slice Ao17 t859.length co17 : Value).ownBlock)) (n := t868.length) (c := co24) ?_).2.2; exact (by (with_reducible repeat (first | apply Kd.R_alloc | apply Kd.R_drewN | apply Kd.R_drew)); exact (Kd.R_mono (Kd.R_far (p := ⟨gb871, 2, none⟩) (Kd.R_far (p := ⟨gb871, 1, none⟩) (Kd.R_far (p := ⟨gb871, 0, none⟩) (Kd.R_types HO870.out BK871.out (by decide)) (fun _ hk => hk.2) (.int .i64 t866)) (fun _ hk => hk.2) (.int .i64 t867)) (fun _ hk => hk.2) (.slice Ao24 t868.length co24)) (fun _ h_ => h_.1)))); (case side2 => exact (Kd.R_reads' HO870.out).2.1); rintro e w25 ⟨v873, rfl, ho0, hb⟩; refine ⟨_, rfl, ?_⟩; have n0_ := Aside0.mk (Kd.R_below (by (with_reducible repeat (first | apply Kd.R_alloc | apply Kd.R_drewN | apply Kd.R_drew)); exact (Kd.R_mono (Kd.R_far (p := ⟨gb871, 2, none⟩) (Kd.R_far (p := ⟨gb871, 1, none⟩) (Kd.R_far (p := ⟨gb871, 0, none⟩) (Kd.R_types HO861.out BK871.out (by decide)) (fun _ hk => hk.2) (.int .i64 t866)) (fun _ hk => hk.2) (.int .i64 t867)) (fun _ hk => hk.2) (.slice Ao24 t868.length co24)) (fun _ h_ => h_.1))) hb); have n1_ := Aside0.mk (Kd.R_elder' (by (with_reducible repeat (first | apply Kd.R_alloc | apply Kd.R_drewN | apply Kd.R_drew)); exact (Kd.R_mono (Kd.R_far (p := ⟨gb871, 2, none⟩) (Kd.R_far (p := ⟨gb871, 1, none⟩) (Kd.R_far (p := ⟨gb871, 0, none⟩) (Kd.R_types HO864.out BK871.out (by decide)) (fun _ hk => hk.2) (.int .i64 t866)) (fun _ hk => hk.2) (.int .i64 t867)) (fun _ hk => hk.2) (.slice Ao24 t868.length co24)) (fun _ h_ => h_.1))) (Kd.R_base ho0) hb); have n2_ := Aside0.mk (Kd.R_below (by (with_reducible repeat (first | apply Kd.R_alloc | apply Kd.R_drewN | apply Kd.R_drew)); exact (Kd.R_mono (Kd.R_far (p := ⟨gb871, 2, none⟩) (Kd.R_far (p := ⟨gb871, 1, none⟩) (Kd.R_far (p := ⟨gb871, 0, none⟩) (Kd.R_types HO870.out BK871.out (by decide)) (fun _ hk => hk.2) (.int .i64 t866)) (fun _ hk => hk.2) (.int .i64 t867)) (fun _ hk => hk.2) (.slice Ao24 t868.length co24)) (fun _ h_ => h_.1))) hb); have n3_ := Aside0.mk (Kd.R_lower (Kd.R_new' ho0 (Kd.R_lt (by (with_reducible repeat (first | apply Kd.R_alloc | apply Kd.R_drewN | apply Kd.R_drew)); exact (Kd.R_mono (Kd.R_far (p := ⟨gb871, 2, none⟩) (Kd.R_far (p := ⟨gb871, 1, none⟩) (Kd.R_far (p := ⟨gb871, 0, none⟩) (Kd.R_types HO864.out BK871.out (by decide)) (fun _ hk => hk.2) (.int .i64 t866)) (fun _ hk => hk.2) (.int .i64 t867)) (fun _ hk => hk.2) (.slice Ao24 t868.length co24)) (fun _ h_ => h_.1))))) (below_size (by repeat (first | (with_reducible first | exact HB.out | apply below_alloc | apply pw_below_drewN | apply below_drew1 | refine below_set ?_ GE855.out | refine below_set ?_ GE871.out) | exact HB.out)))); have n4_ := Aside0.mk (blk_below (g := gb855) (o := .cells #[.int .i64 a0_0, .int .i64 a0_1, .slice A0_2 l0_2.length c0_2] 65 (0, 0)) (by (with_reducible repeat (first | refine blk_drewN ?_ _ | refine blk_drew ?_ | refine blk_alloc ?_ _)); refine blk_far ?_ NB855_871.out _; (with_reducible repeat (first | refine blk_drewN ?_ _ | refine blk_drew ?_ | refine blk_alloc ?_ _)); refine blk_far ?_ NB855_871.out _; (with_reducible repeat (first | refine blk_drewN ?_ _ | refine blk_drew ?_ | refine blk_alloc ?_ _)); refine blk_far ?_ NB855_871.out _; (with_reducible repeat (first | refine blk_drewN ?_ _ | refine blk_drew ?_ | refine blk_alloc ?_ _)); exact BK855.out) hb); have n5_ := Aside0.mk (blk_below (g := gb871) (o := .cells #[.int .i64 t866, .int .i64 t867, .slice Ao24 t868.length co24] 70 (0, 0)) (by (with_reducible repeat (first | refine blk_drewN ?_ _ | refine blk_drew ?_ | refine blk_alloc ?_ _)); refine blk_put (cs := #[.int .i64 t866, .int .i64 t867, .slice none 0 0]) ?_ 2 _ rfl; (with_reducible repeat (first | refine blk_drewN ?_ _ | refine blk_drew ?_ | refine blk_alloc ?_ _)); refine blk_put (cs := #[.int .i64 t866, .int .i64 0, .slice none 0 0]) ?_ 1 _ rfl; (with_reducible repeat (first | refine blk_drewN ?_ _ | refine blk_drew ?_ | refine blk_alloc ?_ _)); refine blk_put (cs := #[.int .i64 0, .int .i64 0, .slice none 0 0]) ?_ 0 _ rfl; (with_reducible repeat (first | refine blk_drewN ?_ _ | refine blk_drew ?_ | refine blk_alloc ?_ _)); exact BK871.out) hb); have n6_ := Aside0.mk (below_step (by repeat (first | (with_reducible first | exact HB.out | apply below_alloc | apply pw_below_drewN | apply below_drew1 | refine below_set ?_ GE855.out | refine below_set ?_ GE871.out) | exact HB.out)) hb); clear HO861; clear HO864; clear HO870; clear BK855; clear BK871; clear HB; have HO861 := n0_; have HO864 := n1_; have HO870 := n2_; have HO874 := n3_; have BK855 := n4_; have BK871 := n5_; have HB := n6_; clear n0_ n1_ n2_ n3_ n4_ n5_ n6_; (try clear hb); (try clear hb2); (try clear hk); (try clear hi); (try clear ho0)))
  (try simp only [Act.put, List.setIfInBounds_toArray, List.set_cons_zero, List.set_cons_succ])
  go_cut [40] (fun v40 wc => ∃ (kq : Nat) (x40_10 : Bool), v40 = .bool x40_10 ∧ Aside0 (laws_FnExactNewOf.j0 kq t862 t865 t872 t875 x40_10 a0_0 a0_1 l0_2 t866 t867 t868 = some r) ∧ Aside0 (kq ≤ k) ∧ Aside0 (Kd.R Kd.string 9 wc w.heap.size (fun k_ => some k_ ≠ (v873 : Value).ownBlock) v863 t862) ∧ Aside0 (Kd.R Kd.string 9 wc w.heap.size (fun k_ => some k_ ≠ (v863 : Value).ownBlock) v873 t872) ∧ Aside0 (Kd.R k129 129 wc w.heap.size (fun _ => True) (.slice Ao24 t868.length co24) t868) ∧ Aside0 (wc.heap[gb855]? = some (.cells #[.int .i64 a0_0, .int .i64 a0_1, (.slice A0_2 l0_2.length c0_2)] 65 (0, 0))) ∧ Aside0 (wc.heap[gb871]? = some (.cells #[.int .i64 t866, .int .i64 t867, (.slice Ao24 t868.length co24)] 70 (0, 0))) ∧ Aside0 (Below w.heap.size w wc))
  case first =>
   have H := HC11.out
   clear HC11
   replace H := Option.bind_eq_some_iff.mp H
   obtain ⟨t876, A260, H⟩ := H
   replace H : (if t876 = true then (laws_FnExactNewOf.j0 k t862 t865 t872 t875 (t875 != t865) a0_0 a0_1 l0_2 t866 t867 t868) else (laws_FnExactNewOf.j0 k t862 t865 t872 t875 true a0_0 a0_1 l0_2 t866 t867 t868)) = some r := H
   have A26 := Aside0.mk A260
   clear A260
   by_cases c27 : t876 = true
   ·subst c27
    have H1 : (laws_FnExactNewOf.j0 k t862 t865 t872 t875 (t875 != t865) a0_0 a0_1 l0_2 t866 t867 t868) = some r := by rw [if_pos rfl] at H; exact H
    clear H
    have H := H1
    clear H1
    have H' := Aside0.mk H
    clear H
    obtain ⟨Ao28, co28, eo28⟩ := Kd.R_slice HO874.out
    subst eo28
    obtain ⟨Ao29, co29, eo29⟩ := Kd.R_slice HO864.out
    subst eo29
    go_wp2_with (first | ((with_reducible refine gateC (f := 24) rfl ?_); refine goesL_ (some 34) rfl rfl Try.func24 (by kernel_rfl) rfl #[.slice Ao28 t872.length co28, .slice Ao29 t862.length co29] rfl zm ?_; (with_reducible refine (laws_eqStringS.calls k _ _ t872 _ _ t862 true _ ?side1 ?side2 ?side3 ?side4 A26.out).mono ?_); (case side1 => repeat (first | exact (Kd.R_reads' HO874.out).2.2 | (with_reducible refine Kd.C_alloc ?_ _) | (with_reducible refine Kd.C_drewN ?_ _) | (with_reducible refine Kd.C_drew ?_))); (case side2 => exact (Kd.R_reads' HO874.out).2.1); (case side3 => repeat (first | exact (Kd.R_reads' HO864.out).2.2 | (with_reducible refine Kd.C_alloc ?_ _) | (with_reducible refine Kd.C_drewN ?_ _) | (with_reducible refine Kd.C_drew ?_))); (case side4 => exact (Kd.R_reads' HO864.out).2.1); rintro e w' ⟨rfl, ⟨nd, rfl⟩⟩; refine ⟨_, rfl, ?_⟩))
    go_meet
    case rel => exact ⟨_, ((t875 != t865)), zf, H', ⟨by first | omega | exact Nat.le_refl _⟩, ⟨by (with_reducible repeat (first | apply Kd.R_alloc | apply Kd.R_drewN | apply Kd.R_drew)); exact Kd.R_mono HO864.out (fun _ hk => hk.2)⟩, ⟨by (with_reducible repeat (first | apply Kd.R_alloc | apply Kd.R_drewN | apply Kd.R_drew)); exact Kd.R_mono HO874.out (fun _ hk => hk.2)⟩, ⟨by (with_reducible repeat (first | apply Kd.R_alloc | apply Kd.R_drewN | apply Kd.R_drew)); exact Kd.R_mono HO870.out (fun _ hk => trivial)⟩, ⟨by (with_reducible repeat (first | refine blk_drewN ?_ _ | refine blk_drew ?_ | refine blk_alloc ?_ _)); exact BK855.out⟩, ⟨by (with_reducible repeat (first | refine blk_drewN ?_ _ | refine blk_drew ?_ | refine blk_alloc ?_ _)); exact BK871.out⟩, ⟨by repeat (first | (with_reducible first | exact HB.out | apply below_alloc | apply pw_below_drewN | apply below_drew1 | refine below_set ?_ GE855.out | refine below_set ?_ GE871.out) | exact HB.out)⟩⟩
   ·replace c27 := Bool.eq_false_iff.mpr c27
    subst c27
    have H1 : (laws_FnExactNewOf.j0 k t862 t865 t872 t875 true a0_0 a0_1 l0_2 t866 t867 t868) = some r := by rw [if_neg (show ¬ (false = true) by decide)] at H; exact H
    clear H
    have H := H1
    clear H1
    have H' := Aside0.mk H
    clear H
    obtain ⟨Ao30, co30, eo30⟩ := Kd.R_slice HO874.out
    subst eo30
    obtain ⟨Ao31, co31, eo31⟩ := Kd.R_slice HO864.out
    subst eo31
    go_wp2_with (first | ((with_reducible refine gateC (f := 24) rfl ?_); refine goesL_ (some 34) rfl rfl Try.func24 (by kernel_rfl) rfl #[.slice Ao30 t872.length co30, .slice Ao31 t862.length co31] rfl zm ?_; (with_reducible refine (laws_eqStringS.calls k _ _ t872 _ _ t862 false _ ?side1 ?side2 ?side3 ?side4 A26.out).mono ?_); (case side1 => repeat (first | exact (Kd.R_reads' HO874.out).2.2 | (with_reducible refine Kd.C_alloc ?_ _) | (with_reducible refine Kd.C_drewN ?_ _) | (with_reducible refine Kd.C_drew ?_))); (case side2 => exact (Kd.R_reads' HO874.out).2.1); (case side3 => repeat (first | exact (Kd.R_reads' HO864.out).2.2 | (with_reducible refine Kd.C_alloc ?_ _) | (with_reducible refine Kd.C_drewN ?_ _) | (with_reducible refine Kd.C_drew ?_))); (case side4 => exact (Kd.R_reads' HO864.out).2.1); rintro e w' ⟨rfl, ⟨nd, rfl⟩⟩; refine ⟨_, rfl, ?_⟩))
    go_meet
    case rel => exact ⟨_, (true), zf, H', ⟨by first | omega | exact Nat.le_refl _⟩, ⟨by (with_reducible repeat (first | apply Kd.R_alloc | apply Kd.R_drewN | apply Kd.R_drew)); exact Kd.R_mono HO864.out (fun _ hk => hk.2)⟩, ⟨by (with_reducible repeat (first | apply Kd.R_alloc | apply Kd.R_drewN | apply Kd.R_drew)); exact Kd.R_mono HO874.out (fun _ hk => hk.2)⟩, ⟨by (with_reducible repeat (first | apply Kd.R_alloc | apply Kd.R_drewN | apply Kd.R_drew)); exact Kd.R_mono HO870.out (fun _ hk => trivial)⟩, ⟨by (with_reducible repeat (first | refine blk_drewN ?_ _ | refine blk_drew ?_ | refine blk_alloc ?_ _)); exact BK855.out⟩, ⟨by (with_reducible repeat (first | refine blk_drewN ?_ _ | refine blk_drew ?_ | refine blk_alloc ?_ _)); exact BK871.out⟩, ⟨by repeat (first | (with_reducible first | exact HB.out | apply below_alloc | apply pw_below_drewN | apply below_drew1 | refine below_set ?_ GE855.out | refine below_set ?_ GE871.out) | exact HB.out)⟩⟩
  case rest =>
   clear HC11
   try clear c1
   try clear c2
   try clear p2
   try clear c3
   try clear c3b0
   try clear c5
   try clear c10
   try clear c22
   try clear c24
   try clear c27
   try clear hcz13_0
   try clear hcz13_1
   try clear hcz13_2
   try clear hcz15_0
   try clear hcz15_1
   try clear hcz15_2
   try clear hcz19_0
   try clear hcz19_1
   try clear hcz19_2
   try clear hcz23_0
   try clear hcz23_1
   try clear hcz23_2
   try clear hcz5_0
   try clear hcz5_1
   try clear hcz5_2
   try clear hfz13_0
   try clear hfz13_1
   try clear hfz13_2
   try clear hfz15_0
   try clear hfz15_1
   try clear hfz15_2
   try clear hfz19_0
   try clear hfz19_1
   try clear hfz19_2
   try clear hfz23_0
   try clear hfz23_1
   try clear hfz23_2
   try clear hfz5_0
   try clear hfz5_1
   try clear hfz5_2
   obtain ⟨kq, x40_10, rfl, HA, HJ10, HO_4, HO_7, HO_872002, BK855, BK871, HB⟩ := hcut
   cases kq with
   | zero => exact absurd HA.out (by simp [laws_FnExactNewOf.j0])
   | succ kj10 =>
    have H := HA.out
    clear HA
    simp only [laws_FnExactNewOf.j0] at H
    by_cases c32 : x40_10 = true
    ·subst c32
     have H1 : (some false) = some r := by rw [if_pos rfl] at H; exact H
     clear H
     have H := H1
     clear H1
     obtain rfl := Option.some.inj H
     go_wp2
     go_ret
     exact ⟨by first | rfl | (simp [errW_none, errW_some] <;> rfl) | (simp [*, errW_none, errW_some] <;> rfl), by repeat (first | (with_reducible first | exact HB.out | apply below_alloc | apply pw_below_drewN | apply below_drew1 | refine below_set ?_ GE855.out | refine below_set ?_ GE871.out) | exact HB.out)⟩
    ·replace c32 := Bool.eq_false_iff.mpr c32
     subst c32
     have H1 : ((laws_toGroup.f kj10 a0_0 a0_1 l0_2).bind fun bt877 => ((laws_eqGroup.f kj10 t866 t867 t868 bt877.1 bt877.2.1 bt877.2.2).bind fun t882 => (if t882 = true then ((laws_markGroup.f kj10 t866 t867 t868 1).bind fun bt883 => (if bt883.1 < 0 then (laws_FnExactNewOf.j1 kj10 t862 t865 t872 true a0_0 a0_1 l0_2) else ((laws_eqStringS.f kj10 t872 t862).bind fun t885 => (if t885 = true then (laws_FnExactNewOf.j1 kj10 t862 t865 t872 (t875 != t865) a0_0 a0_1 l0_2) else (laws_FnExactNewOf.j1 kj10 t862 t865 t872 true a0_0 a0_1 l0_2))))) else (some false)))) = some r := by rw [if_neg (show ¬ (false = true) by decide)] at H; exact H
     clear H
     have H := H1
     clear H1
     replace H := Option.bind_eq_some_iff.mp H
     obtain ⟨⟨t877, t878, t879⟩, A330, H⟩ := H
     replace H : ((laws_eqGroup.f kj10 t866 t867 t868 t877 t878 t879).bind fun t882 => (if t882 = true then ((laws_markGroup.f kj10 t866 t867 t868 1).bind fun bt883 => (if bt883.1 < 0 then (laws_FnExactNewOf.j1 kj10 t862 t865 t872 true a0_0 a0_1 l0_2) else ((laws_eqStringS.f kj10 t872 t862).bind fun t885 => (if t885 = true then (laws_FnExactNewOf.j1 kj10 t862 t865 t872 (t875 != t865) a0_0 a0_1 l0_2) else (laws_FnExactNewOf.j1 kj10 t862 t865 t872 true a0_0 a0_1 l0_2))))) else (some false))) = some r := H
     have A33 := Aside0.mk A330
     clear A330
     replace H := Option.bind_eq_some_iff.mp H
     obtain ⟨t882, A340, H⟩ := H
     replace H : (if t882 = true then ((laws_markGroup.f kj10 t866 t867 t868 1).bind fun bt883 => (if bt883.1 < 0 then (laws_FnExactNewOf.j1 kj10 t862 t865 t872 true a0_0 a0_1 l0_2) else ((laws_eqStringS.f kj10 t872 t862).bind fun t885 => (if t885 = true then (laws_FnExactNewOf.j1 kj10 t862 t865 t872 (t875 != t865) a0_0 a0_1 l0_2) else (laws_FnExactNewOf.j1 kj10 t862 t865 t872 true a0_0 a0_1 l0_2))))) else (some false)) = some r := H
     have A34 := Aside0.mk A340
     clear A340
     by_cases c35 : t882 = true
     ·subst c35
      have H1 : ((laws_markGroup.f kj10 t866 t867 t868 1).bind fun bt883 => (if bt883.1 < 0 then (laws_FnExactNewOf.j1 kj10 t862 t865 t872 true a0_0 a0_1 l0_2) else ((laws_eqStringS.f kj10 t872 t862).bind fun t885 => (if t885 = true then (laws_FnExactNewOf.j1 kj10 t862 t865 t872 (t875 != t865) a0_0 a0_1 l0_2) else (laws_FnExactNewOf.j1 kj10 t862 t865 t872 true a0_0 a0_1 l0_2))))) = some r := by rw [if_pos rfl] at H; exact H
      clear H
      have H := H1
      clear H1
      replace H := Option.bind_eq_some_iff.mp H
      obtain ⟨⟨t883, t884⟩, A360, H⟩ := H
      replace H : (if t883 < 0 then (laws_FnExactNewOf.j1 kj10 t862 t865 t872 true a0_0 a0_1 l0_2) else ((laws_eqStringS.f kj10 t872 t862).bind fun t885 => (if t885 = true then (laws_FnExactNewOf.j1 kj10 t862 t865 t872 (t875 != t865) a0_0 a0_1 l0_2) else (laws_FnExactNewOf.j1 kj10 t862 t865 t872 true a0_0 a0_1 l0_2)))) = some r := H
      have A36 := Aside0.mk A360
      clear A360
      have HC37 := Aside0.mk H
      clear H
      try go_wp2
      have n0_ := Aside0.mk (Kd.R_drew HO_4.out)
      have n1_ := Aside0.mk (Kd.R_drew HO_7.out)
      have n2_ := Aside0.mk (Kd.R_drew HO_872002.out)
      have n3_ := Aside0.mk (blk_drew BK855.out)
      have n4_ := Aside0.mk (blk_drew BK871.out)
      have n5_ := Aside0.mk (below_drew1 HB.out)
      clear HO_4
      clear HO_7
      clear HO_872002
      clear BK855
      clear BK871
      clear HB
      have HO_4 := n0_
      have HO_7 := n1_
      have HO_872002 := n2_
      have BK855 := n3_
      have BK871 := n4_
      have HB := n5_
      clear n0_ n1_ n2_ n3_ n4_ n5_
      refine start_ (n := 5) (S := fun w' => w'.cell? ⟨gb871, 0, none⟩ = some (.int .i64 t866) ∧ w'.cell? ⟨gb871, 1, none⟩ = some (.int .i64 t867) ∧ w'.cell? ⟨gb871, 2, none⟩ = some (.slice Ao24 t868.length co24) ∧ w'.cell? ⟨gb855, 0, none⟩ = some (.int .i64 a0_0) ∧ w'.cell? ⟨gb855, 1, none⟩ = some (.int .i64 a0_1) ∧ w'.cell? ⟨gb855, 2, none⟩ = some (.slice A0_2 l0_2.length c0_2)) (ds := []) #[O,O,O,O,O] (by kernel_rfl) rfl rfl ⟨(blk_cell BK871.out 0).trans rfl, (blk_cell BK871.out 1).trans rfl, (blk_cell BK871.out 2).trans rfl, (blk_cell BK855.out 0).trans rfl, (blk_cell BK855.out 1).trans rfl, (blk_cell BK855.out 2).trans rfl⟩ (fun hHeld => ?_)
      generalize wc.drew = w38 at HO_4 HO_7 HO_872002 BK855 BK871 HB hHeld ⊢
      refine take_ (i := 0) (N := some 41) (v := ?_) (a' := ?_) #[Y,O,O,O,O] rfl rfl (by kernel_rfl) (fun _ _ _ h => h) (Or.inl ⟨by rfl, ?_⟩) hHeld ?_ ?_
      rotate_left; (rintro w' ⟨s0, s1, s2, s3, s4, s5⟩; go_simp; with_reducible rfl); rotate_left; (simp only [Act.put,qa,qb,qc,i64_w,i32_w]; rfl)
      refine take_ (i := 1) (N := some 42) (v := ?_) (a' := ?_) #[Y,Y,O,O,O] rfl rfl (by kernel_rfl) (fun _ _ _ h => h) (Or.inl ⟨by rfl, ?_⟩) hHeld ?_ ?_
      rotate_left; (rintro w' ⟨s0, s1, s2, s3, s4, s5⟩; go_simp; with_reducible rfl); rotate_left; (simp only [Act.put,qa,qb,qc,i64_w,i32_w]; rfl)
      refine one_ (i := 2) (N := some 43) #[Y,Y,Y,O,O] rfl rfl (by kernel_rfl) (by decide) (fun K hK => ?_)
      refine goes_ Try.func52 (by kernel_rfl) rfl #[.agg #[.int .i64 a0_0, .int .i64 a0_1, .slice A0_2 l0_2.length c0_2]] (by rfl) rfl rfl zm ?_
      with_reducible refine (laws_toGroup.calls kj10 a0_0 a0_1 _ _ l0_2 t877 t878 t879 _ ?side1 ?side2 A33.out).mono ?_
      (case side1 => exact zq (Kd.C_below HR0_2.out HB.out))
      (case side2 => exact HC0_2.out)
      rintro e w39 ⟨v880, rfl, ho0, hb⟩
      refine ⟨_, rfl, ?_⟩
      have n0_ := Aside0.mk (Kd.R_below (zr HO_4.out) hb)
      have n1_ := Aside0.mk (Kd.R_below (zr HO_7.out) hb)
      have n2_ := Aside0.mk (Kd.R_elder' (zr HO_872002.out) (Kd.R_base ho0) hb)
      have n3_ := Aside0.mk (Kd.R_lower (Kd.R_new' ho0 (Kd.R_lt (zr HO_872002.out))) (below_size (by repeat (first | (with_reducible first | exact HB.out | apply below_alloc | apply pw_below_drewN | apply below_drew1 | refine below_set ?_ GE855.out | refine below_set ?_ GE871.out) | exact HB.out))))
      have n4_ := Aside0.mk (blk_below (g := gb855) (o := .cells #[.int .i64 a0_0, .int .i64 a0_1, .slice A0_2 l0_2.length c0_2] 65 (0, 0)) (zk BK855.out) hb)
      have n5_ := Aside0.mk (blk_below (g := gb871) (o := .cells #[.int .i64 t866, .int .i64 t867, .slice Ao24 t868.length co24] 70 (0, 0)) (zk BK871.out) hb)
      have n6_ := Aside0.mk (below_step (by repeat (first | (with_reducible first | exact HB.out | apply below_alloc | apply pw_below_drewN | apply below_drew1 | refine below_set ?_ GE855.out | refine below_set ?_ GE871.out) | exact HB.out)) hb)
      clear HO_4
      clear HO_7
      clear HO_872002
      clear BK855
      clear BK871
      clear HB
      have HO_4 := n0_
      have HO_7 := n1_
      have HO_872002 := n2_
      have HO881 := n3_
      have BK855 := n4_
      have BK871 := n5_
      have HB := n6_
      clear n0_ n1_ n2_ n3_ n4_ n5_ n6_
      (try clear hb)
      (try clear hb2)
      (try clear hk)
      (try clear hi)
      (try clear ho0)
      obtain ⟨Ao40, co40, eo40⟩ := Kd.R_slice HO881.out
      (first | subst eo40 | (injection eo40 with f1_ f2_ f3_; have f4_ := f1_.symm; have f5_ := f3_.symm; clear f1_ f2_ f3_; subst f4_; subst f5_))
      refine hK.out _ _ ⟨(blk_cell BK871.out 0).trans rfl, (blk_cell BK871.out 1).trans rfl, (blk_cell BK871.out 2).trans rfl, (blk_cell BK855.out 0).trans rfl, (blk_cell BK855.out 1).trans rfl, (blk_cell BK855.out 2).trans rfl⟩ (fun hHeld => ?_)
      clear hK K
      refine norm_ (a' := ?_) ?_ ?_
      rotate_left
      ·show Act.put _ (some 43) _ = _
       simp only [Act.put,qa,qb,qc,i64_w,i32_w]
       rfl
      refine one_ (i := 3) (N := some 44) #[Y,Y,Y,Y,O] rfl rfl (by kernel_rfl) (by decide) (fun K hK => ?_)
      refine goes_ Try.func54 (by kernel_rfl) rfl #[.agg #[.int .i64 t866, .int .i64 t867, .slice Ao24 t868.length co24], .agg #[.int .i64 t877, .int .i64 t878, .slice Ao40 t879.length co40]] (by rfl) rfl rfl zm ?_
      with_reducible refine (laws_eqGroup.calls kj10 t866 t867 _ _ t868 t877 t878 _ _ t879 true _ ?side1 ?side2 ?side3 ?side4 A34.out).mono ?_
      (case side1 => repeat (first | exact (Kd.R_reads' HO_872002.out).2.2 | (with_reducible refine Kd.C_alloc ?_ _) | (with_reducible refine Kd.C_drewN ?_ _) | (with_reducible refine Kd.C_drew ?_)))
      (case side2 => exact (Kd.R_reads' HO_872002.out).2.1)
      (case side3 => repeat (first | exact (Kd.R_reads' HO881.out).2.2 | (with_reducible refine Kd.C_alloc ?_ _) | (with_reducible refine Kd.C_drewN ?_ _) | (with_reducible refine Kd.C_drew ?_)))
      (case side4 => exact (Kd.R_reads' HO881.out).2.1)
      rintro e w41 ⟨rfl, hb⟩
      refine ⟨_, rfl, ?_⟩
      have n0_ := Aside0.mk (Kd.R_below (zr HO_4.out) hb)
      have n1_ := Aside0.mk (Kd.R_below (zr HO_7.out) hb)
      have n2_ := Aside0.mk (Kd.R_below (zr HO_872002.out) hb)
      have n3_ := Aside0.mk (Kd.R_below (zr HO881.out) hb)
      have n4_ := Aside0.mk (blk_below (g := gb855) (o := .cells #[.int .i64 a0_0, .int .i64 a0_1, .slice A0_2 l0_2.length c0_2] 65 (0, 0)) (zk BK855.out) hb)
      have n5_ := Aside0.mk (blk_below (g := gb871) (o := .cells #[.int .i64 t866, .int .i64 t867, .slice Ao24 t868.length co24] 70 (0, 0)) (zk BK871.out) hb)
      have n6_ := Aside0.mk (below_step (by repeat (first | (with_reducible first | exact HB.out | apply below_alloc | apply pw_below_drewN | apply below_drew1 | refine below_set ?_ GE855.out | refine below_set ?_ GE871.out) | exact HB.out)) hb)
      clear HO_4
      clear HO_7
      clear HO_872002
      clear HO881
      clear BK855
      clear BK871
      clear HB
      have HO_4 := n0_
      have HO_7 := n1_
      have HO_872002 := n2_
      have HO881 := n3_
      have BK855 := n4_
      have BK871 := n5_
      have HB := n6_
      clear n0_ n1_ n2_ n3_ n4_ n5_ n6_
      (try clear hb)
      (try clear hb2)
      (try clear hk)
      (try clear hi)
      refine hK.out _ _ ⟨(blk_cell BK871.out 0).trans rfl, (blk_cell BK871.out 1).trans rfl, (blk_cell BK871.out 2).trans rfl, (blk_cell BK855.out 0).trans rfl, (blk_cell BK855.out 1).trans rfl, (blk_cell BK855.out 2).trans rfl⟩ (fun hHeld => ?_)
      clear hK K
      refine norm_ (a' := ?_) ?_ ?_
      rotate_left
      ·show Act.put _ (some 44) _ = _
       simp only [Act.put,qa,qb,qc,i64_w,i32_w]
       rfl
      refine pure_ (i := 4) (N := some 45) (v := ?_) (a' := ?_) #[Y,Y,Y,Y,Y] rfl rfl (by kernel_rfl) (fun _ _ _ h => h) (Or.inl ⟨by rfl, ?_⟩) ?_ ?_
      rotate_left; (intro w'; go_simp; with_reducible rfl); rotate_left; (simp only [Act.put,qa,qb,qc,i64_w,i32_w]; rfl)
      refine done_ (by kernel_rfl) ?_
      have hnb42 := NB871_855.out
      have hnc42 := NB855_871.out
      have hcz43_0 : w41.cell? ⟨gb871, 0, none⟩ = some (.int .i64 t866) := (blk_cell BK871.out 0).trans rfl
      have hcz43_1 : w41.cell? ⟨gb871, 1, none⟩ = some (.int .i64 t867) := (blk_cell BK871.out 1).trans rfl
      have hcz43_2 : w41.cell? ⟨gb871, 2, none⟩ = some (.slice Ao24 t868.length co24) := (blk_cell BK871.out 2).trans rfl
      have hfz43_0 := blk_frozen BK871.out 0
      have hfz43_1 := blk_frozen BK871.out 1
      have hfz43_2 := blk_frozen BK871.out 2
      go_upto_region 14 with (first | ((with_reducible refine gateC (f := 55) rfl ?_); refine goesL_ (some 48) rfl rfl Try.func55 (by kernel_rfl) rfl #[.agg #[.int .i64 t866, .int .i64 t867, .slice Ao24 t868.length co24], .int .i64 1] rfl zm ?_; (with_reducible refine (laws_markGroup.calls kj10 t866 t867 (fun k_ => some k_ = (.slice Ao24 t868.length co24 : Value).ownBlock) (.slice Ao24 t868.length co24) t868 1 t883 t884 w _ ?side1 ?side2 A36.out).mono ?_); (case side1 => repeat (first | (with_reducible first | exact HB.out | apply below_alloc | apply pw_below_drewN | apply below_drew1 | refine below_set ?_ GE855.out | refine below_set ?_ GE871.out) | exact HB.out)); (case side2 => exact Kd.R_tight rfl HO_872002.out); rintro e w44 ⟨rfl, hy0, hb, hkp⟩; refine ⟨_, rfl, ?_⟩; have n0_ := Aside0.mk (Kd.R_mono (ok' := fun k_ => some k_ ≠ (v873 : Value).ownBlock) (Kd.R_keptB ((Kd.R_apart' HO_4.out (Kd.R_typed HO_872002.out) (by decide))) hkp (fun k_ hk_ hs_ => (hk_.2) hs_)) (fun k_ hk_ => hk_.1.1)); have n1_ := Aside0.mk (Kd.R_mono (ok' := fun k_ => some k_ ≠ (v863 : Value).ownBlock) (Kd.R_keptB ((Kd.R_apart' HO_7.out (Kd.R_typed HO_872002.out) (by decide))) hkp (fun k_ hk_ hs_ => (hk_.2) hs_)) (fun k_ hk_ => hk_.1.1)); have n2_ := Aside0.mk (Kd.R_reok rfl hy0 (fun k_ e_ => HO_872002.out.1 k_ e_)); have n3_ := Aside0.mk (blk_kept (zk BK855.out) hkp (fun hs_ => (fun e_ => (Kd.R_ne HO_872002.out BK855.out (by decide)) e_) hs_)); have n4_ := Aside0.mk (blk_kept (zk BK871.out) hkp (fun hs_ => (fun e_ => (Kd.R_ne HO_872002.out BK871.out (by decide)) e_) hs_)); have n5_ := Aside0.mk (Kd.R_mono (ok' := fun k_ => some k_ ≠ (.slice Ao24 t868.length co24 : Value).ownBlock) (Kd.R_keptB (HO881.out) hkp (fun k_ hk_ hs_ => (hk_.2) hs_)) (fun k_ hk_ => hk_.1.2)); have n6_ := Aside0.mk (hb); clear HO_4; clear HO_7; clear HO_872002; clear BK855; clear BK871; clear HO881; clear HB; have HO_4 := n0_; have HO_7 := n1_; have HO_872002 := n2_; have BK855 := n3_; have BK871 := n4_; have HO881 := n5_; have HB := n6_; clear n0_ n1_ n2_ n3_ n4_ n5_ n6_; (try clear hb); (try clear hkp); (try clear hy0)))
      (try simp only [Act.put, List.setIfInBounds_toArray, List.set_cons_zero, List.set_cons_succ])
      go_cut [61] (fun v61 wc => ∃ (kq : Nat) (x61_36 : Bool), v61 = .bool x61_36 ∧ Aside0 (laws_FnExactNewOf.j1 kq t862 t865 t872 x61_36 a0_0 a0_1 l0_2 = some r) ∧ Aside0 (kq ≤ kj10) ∧ Aside0 (Kd.R Kd.string 9 wc w.heap.size (fun k_ => some k_ ≠ (v873 : Value).ownBlock) v863 t862) ∧ Aside0 (Kd.R Kd.string 9 wc w.heap.size (fun k_ => some k_ ≠ (v863 : Value).ownBlock) v873 t872) ∧ Aside0 (Kd.R k129 129 wc w.heap.size (fun _ => True) (.slice Ao24 t868.length co24) t884) ∧ Aside0 (wc.heap[gb855]? = some (.cells #[.int .i64 a0_0, .int .i64 a0_1, (.slice A0_2 l0_2.length c0_2)] 65 (0, 0))) ∧ Aside0 (wc.heap[gb871]? = some (.cells #[.int .i64 t866, .int .i64 t867, (.slice Ao24 t868.length co24)] 70 (0, 0))) ∧ Aside0 (Below w.heap.size w wc))
      case first =>
       have H := HC37.out
       clear HC37
       by_cases c45 : t883 < 0
       ·rw [if_pos c45] at H
        have c45b0 : decide (t883 < 0) = true := decide_eq_true c45
        clear c45
        (first | rw [c45b0] | (simp only [i64_w, i32_w]; rw [c45b0]) | skip)
        have H' := Aside0.mk H
        clear H
        go_wp2
        go_meet
        case rel => exact ⟨_, (true), zf, H', ⟨by have := HJ10.out; first | omega | exact Nat.le_refl _⟩, ⟨by (with_reducible repeat (first | apply Kd.R_alloc | apply Kd.R_drewN | apply Kd.R_drew)); exact HO_4.out⟩, ⟨by (with_reducible repeat (first | apply Kd.R_alloc | apply Kd.R_drewN | apply Kd.R_drew)); exact HO_7.out⟩, ⟨by (with_reducible repeat (first | apply Kd.R_alloc | apply Kd.R_drewN | apply Kd.R_drew)); exact Kd.R_mono HO_872002.out (fun _ hk => trivial)⟩, ⟨by (with_reducible repeat (first | refine blk_drewN ?_ _ | refine blk_drew ?_ | refine blk_alloc ?_ _)); exact BK855.out⟩, ⟨by (with_reducible repeat (first | refine blk_drewN ?_ _ | refine blk_drew ?_ | refine blk_alloc ?_ _)); exact BK871.out⟩, ⟨by repeat (first | (with_reducible first | exact HB.out | apply below_alloc | apply pw_below_drewN | apply below_drew1 | refine below_set ?_ GE855.out | refine below_set ?_ GE871.out) | exact HB.out)⟩⟩
       ·rw [if_neg c45] at H
        have c45b0 : decide (t883 < 0) = false := decide_eq_false c45
        clear c45
        (first | rw [c45b0] | (simp only [i64_w, i32_w]; rw [c45b0]) | skip)
        replace H := Option.bind_eq_some_iff.mp H
        obtain ⟨t885, A460, H⟩ := H
        replace H : (if t885 = true then (laws_FnExactNewOf.j1 kj10 t862 t865 t872 (t875 != t865) a0_0 a0_1 l0_2) else (laws_FnExactNewOf.j1 kj10 t862 t865 t872 true a0_0 a0_1 l0_2)) = some r := H
        have A46 := Aside0.mk A460
        clear A460
        by_cases c47 : t885 = true
        ·subst c47
         have H1 : (laws_FnExactNewOf.j1 kj10 t862 t865 t872 (t875 != t865) a0_0 a0_1 l0_2) = some r := by rw [if_pos rfl] at H; exact H
         clear H
         have H := H1
         clear H1
         have H' := Aside0.mk H
         clear H
         obtain ⟨Ao48, co48, eo48⟩ := Kd.R_slice HO_7.out
         subst eo48
         obtain ⟨Ao49, co49, eo49⟩ := Kd.R_slice HO_4.out
         subst eo49
         go_wp2_with (first | (go_at_call 24; (with_reducible refine (laws_eqStringS.calls kj10 _ _ t872 _ _ t862 true _ ?side1 ?side2 ?side3 ?side4 A46.out).mono ?_); (case side1 => repeat (first | exact (Kd.R_reads' HO_7.out).2.2 | (with_reducible refine Kd.C_alloc ?_ _) | (with_reducible refine Kd.C_drewN ?_ _) | (with_reducible refine Kd.C_drew ?_))); (case side2 => exact (Kd.R_reads' HO_7.out).2.1); (case side3 => repeat (first | exact (Kd.R_reads' HO_4.out).2.2 | (with_reducible refine Kd.C_alloc ?_ _) | (with_reducible refine Kd.C_drewN ?_ _) | (with_reducible refine Kd.C_drew ?_))); (case side4 => exact (Kd.R_reads' HO_4.out).2.1); rintro e w' ⟨rfl, ⟨nd, rfl⟩⟩))
         go_meet
         case rel => exact ⟨_, ((t875 != t865)), zf, H', ⟨by have := HJ10.out; first | omega | exact Nat.le_refl _⟩, ⟨by (with_reducible repeat (first | apply Kd.R_alloc | apply Kd.R_drewN | apply Kd.R_drew)); exact HO_4.out⟩, ⟨by (with_reducible repeat (first | apply Kd.R_alloc | apply Kd.R_drewN | apply Kd.R_drew)); exact HO_7.out⟩, ⟨by (with_reducible repeat (first | apply Kd.R_alloc | apply Kd.R_drewN | apply Kd.R_drew)); exact Kd.R_mono HO_872002.out (fun _ hk => trivial)⟩, ⟨by (with_reducible repeat (first | refine blk_drewN ?_ _ | refine blk_drew ?_ | refine blk_alloc ?_ _)); exact BK855.out⟩, ⟨by (with_reducible repeat (first | refine blk_drewN ?_ _ | refine blk_drew ?_ | refine blk_alloc ?_ _)); exact BK871.out⟩, ⟨by repeat (first | (with_reducible first | exact HB.out | apply below_alloc | apply pw_below_drewN | apply below_drew1 | refine below_set ?_ GE855.out | refine below_set ?_ GE871.out) | exact HB.out)⟩⟩
        ·replace c47 := Bool.eq_false_iff.mpr c47
         subst c47
         have H1 : (laws_FnExactNewOf.j1 kj10 t862 t865 t872 true a0_0 a0_1 l0_2) = some r := by rw [if_neg (show ¬ (false = true) by decide)] at H; exact H
         clear H
         have H := H1
         clear H1
         have H' := Aside0.mk H
         clear H
         obtain ⟨Ao50, co50, eo50⟩ := Kd.R_slice HO_7.out
         subst eo50
         obtain ⟨Ao51, co51, eo51⟩ := Kd.R_slice HO_4.out
         subst eo51
         go_wp2_with (first | (go_at_call 24; (with_reducible refine (laws_eqStringS.calls kj10 _ _ t872 _ _ t862 false _ ?side1 ?side2 ?side3 ?side4 A46.out).mono ?_); (case side1 => repeat (first | exact (Kd.R_reads' HO_7.out).2.2 | (with_reducible refine Kd.C_alloc ?_ _) | (with_reducible refine Kd.C_drewN ?_ _) | (with_reducible refine Kd.C_drew ?_))); (case side2 => exact (Kd.R_reads' HO_7.out).2.1); (case side3 => repeat (first | exact (Kd.R_reads' HO_4.out).2.2 | (with_reducible refine Kd.C_alloc ?_ _) | (with_reducible refine Kd.C_drewN ?_ _) | (with_reducible refine Kd.C_drew ?_))); (case side4 => exact (Kd.R_reads' HO_4.out).2.1); rintro e w' ⟨rfl, ⟨nd, rfl⟩⟩))
         go_meet
         case rel => exact ⟨_, (true), zf, H', ⟨by have := HJ10.out; first | omega | exact Nat.le_refl _⟩, ⟨by (with_reducible repeat (first | apply Kd.R_alloc | apply Kd.R_drewN | apply Kd.R_drew)); exact HO_4.out⟩, ⟨by (with_reducible repeat (first | apply Kd.R_alloc | apply Kd.R_drewN | apply Kd.R_drew)); exact HO_7.out⟩, ⟨by (with_reducible repeat (first | apply Kd.R_alloc | apply Kd.R_drewN | apply Kd.R_drew)); exact Kd.R_mono HO_872002.out (fun _ hk => trivial)⟩, ⟨by (with_reducible repeat (first | refine blk_drewN ?_ _ | refine blk_drew ?_ | refine blk_alloc ?_ _)); exact BK855.out⟩, ⟨by (with_reducible repeat (first | refine blk_drewN ?_ _ | refine blk_drew ?_ | refine blk_alloc ?_ _)); exact BK871.out⟩, ⟨by repeat (first | (with_reducible first | exact HB.out | apply below_alloc | apply pw_below_drewN | apply below_drew1 | refine below_set ?_ GE855.out | refine below_set ?_ GE871.out) | exact HB.out)⟩⟩
      case rest =>
       clear HC37
       try clear c1
       try clear c2
       try clear p2
       try clear c3
       try clear c3b0
       try clear c4
       try clear c5
       try clear c10
       try clear c22
       try clear c24
       try clear c27
       try clear c32
       try clear c35
       try clear c42
       try clear c45
       try clear c45b0
       try clear c47
       try clear c50
       try clear c51
       try clear hcz13_0
       try clear hcz13_1
       try clear hcz13_2
       try clear hcz15_0
       try clear hcz15_1
       try clear hcz15_2
       try clear hcz19_0
       try clear hcz19_1
       try clear hcz19_2
       try clear hcz23_0
       try clear hcz23_1
       try clear hcz23_2
       try clear hcz43_0
       try clear hcz43_1
       try clear hcz43_2
       try clear hcz5_0
       try clear hcz5_1
       try clear hcz5_2
       try clear hfz13_0
       try clear hfz13_1
       try clear hfz13_2
       try clear hfz15_0
       try clear hfz15_1
       try clear hfz15_2
       try clear hfz19_0
       try clear hfz19_1
       try clear hfz19_2
       try clear hfz23_0
       try clear hfz23_1
       try clear hfz23_2
       try clear hfz43_0
       try clear hfz43_1
       try clear hfz43_2
       try clear hfz5_0
       try clear hfz5_1
       try clear hfz5_2
       try clear p2
       obtain ⟨kq, x61_36, rfl, HA, HJ36, HO_4, HO_7, HO_872002, BK855, BK871, HB⟩ := hcut
       have hl872002_36 := (Kd.R_reads' HO_872002.out).1
       rw [hl872002_36] at HO_872002
       (try simp only [hl872002_36])
       (try simp only [hl872002_36] at BK855)
       (try simp only [hl872002_36] at BK871)
       (try simp only [hl872002_36] at HO_4)
       (try simp only [hl872002_36] at HO_7)
       cases kq with
       | zero => exact absurd HA.out (by simp [laws_FnExactNewOf.j1])
       | succ kj36 =>
        have H := HA.out
        clear HA
        simp only [laws_FnExactNewOf.j1] at H
        by_cases c52 : x61_36 = true
        ·subst c52
         have H1 : (some false) = some r := by rw [if_pos rfl] at H; exact H
         clear H
         have H := H1
         clear H1
         obtain rfl := Option.some.inj H
         go_wp2
         go_ret
         exact ⟨by first | rfl | (simp [errW_none, errW_some] <;> rfl) | (simp [*, errW_none, errW_some] <;> rfl), by repeat (first | (with_reducible first | exact HB.out | apply below_alloc | apply pw_below_drewN | apply below_drew1 | refine below_set ?_ GE855.out | refine below_set ?_ GE871.out) | exact HB.out)⟩
        ·replace c52 := Bool.eq_false_iff.mpr c52
         subst c52
         have H1 : ((laws_markStringS.f kj36 t872 1).bind fun bt886 => ((laws_heldStringS.f kj36 bt886.2 1).bind fun t888 => (if t888 < 0 then (some false) else (if t888 = bt886.1 then ((laws_toGroup.f kj36 a0_0 a0_1 l0_2).bind fun bt889 => ((impl_NewOf.f kj36 bt889.1 bt889.2.1 bt889.2.2).bind fun bt894 => ((laws_eqStringS.f kj36 bt894.1 t862).bind fun t898 => (if t898 = true then (laws_FnExactNewOf.j2 kj36 bt886.2 bt886.1 (bt894.2 != t865)) else (laws_FnExactNewOf.j2 kj36 bt886.2 bt886.1 true))))) else (some false))))) = some r := by rw [if_neg (show ¬ (false = true) by decide)] at H; exact H
         clear H
         have H := H1
         clear H1
         replace H := Option.bind_eq_some_iff.mp H
         obtain ⟨⟨t886, t887⟩, A530, H⟩ := H
         replace H : ((laws_heldStringS.f kj36 t887 1).bind fun t888 => (if t888 < 0 then (some false) else (if t888 = t886 then ((laws_toGroup.f kj36 a0_0 a0_1 l0_2).bind fun bt889 => ((impl_NewOf.f kj36 bt889.1 bt889.2.1 bt889.2.2).bind fun bt894 => ((laws_eqStringS.f kj36 bt894.1 t862).bind fun t898 => (if t898 = true then (laws_FnExactNewOf.j2 kj36 t887 t886 (bt894.2 != t865)) else (laws_FnExactNewOf.j2 kj36 t887 t886 true))))) else (some false)))) = some r := H
         have A53 := Aside0.mk A530
         clear A530
         replace H := Option.bind_eq_some_iff.mp H
         obtain ⟨t888, A540, H⟩ := H
         replace H : (if t888 < 0 then (some false) else (if t888 = t886 then ((laws_toGroup.f kj36 a0_0 a0_1 l0_2).bind fun bt889 => ((impl_NewOf.f kj36 bt889.1 bt889.2.1 bt889.2.2).bind fun bt894 => ((laws_eqStringS.f kj36 bt894.1 t862).bind fun t898 => (if t898 = true then (laws_FnExactNewOf.j2 kj36 t887 t886 (bt894.2 != t865)) else (laws_FnExactNewOf.j2 kj36 t887 t886 true))))) else (some false))) = some r := H
         have A54 := Aside0.mk A540
         clear A540
         by_cases c55 : t888 < 0
         ·rw [if_pos c55] at H
          have c55b0 : decide (t888 < 0) = true := decide_eq_true c55
          (try (have c55b0h := c55b0; simp only [hl872002_36] at c55b0h))
          clear c55
          obtain rfl := Option.some.inj H
          obtain ⟨Ao56, co56, eo56⟩ := Kd.R_slice HO_7.out
          subst eo56
          go_wp2_with (first | ((with_reducible refine gateC (f := 42) rfl ?_); refine goesL_ (some 64) rfl rfl Try.func42 (by kernel_rfl) rfl #[.slice Ao56 t872.length co56, .int .i64 1] rfl zm ?_; (with_reducible refine (laws_markStringS.calls kj36 (fun k_ => some k_ = (.slice Ao56 t872.length co56 : Value).ownBlock) (.slice Ao56 t872.length co56) t872 1 t886 t887 w _ ?side1 ?side2 A53.out).mono ?_); (case side1 => repeat (first | (with_reducible first | exact HB.out | apply below_alloc | apply pw_below_drewN | apply below_drew1 | refine below_set ?_ GE855.out | refine below_set ?_ GE871.out) | exact HB.out)); (case side2 => exact Kd.R_tight rfl HO_7.out); rintro e w57 ⟨rfl, hy0, hb, hkp⟩; refine ⟨_, rfl, ?_⟩; have n0_ := Aside0.mk (Kd.R_mono (ok' := fun k_ => some k_ ≠ (.slice Ao56 t872.length co56 : Value).ownBlock) (Kd.R_keptB (HO_4.out) hkp (fun k_ hk_ hs_ => (hk_) hs_)) (fun k_ hk_ => hk_.1)); have n1_ := Aside0.mk (Kd.R_reok rfl hy0 (fun k_ e_ => HO_7.out.1 k_ e_)); have n2_ := Aside0.mk (Kd.R_mono (ok' := fun k_ => True) (Kd.R_keptB ((Kd.R_apart' HO_872002.out (Kd.R_typed HO_7.out) (by decide))) hkp (fun k_ hk_ hs_ => (hk_.2) hs_)) (fun k_ hk_ => trivial)); have n3_ := Aside0.mk (blk_kept (zk BK855.out) hkp (fun hs_ => (fun e_ => (Kd.R_ne HO_7.out BK855.out (by decide)) e_) hs_)); have n4_ := Aside0.mk (blk_kept (zk BK871.out) hkp (fun hs_ => (fun e_ => (Kd.R_ne HO_7.out BK871.out (by decide)) e_) hs_)); have n5_ := Aside0.mk (hb); clear HO_4; clear HO_7; clear HO_872002; clear BK855; clear BK871; clear HB; have HO_4 := n0_; have HO_7 := n1_; have HO_872002 := n2_; have BK855 := n3_; have BK871 := n4_; have HB := n5_; clear n0_ n1_ n2_ n3_ n4_ n5_; (try clear hb); (try clear hkp); (try clear hy0)) | ((with_reducible refine gateC (f := 44) rfl ?_); refine goesL_ (some 67) rfl rfl Try.func44 (by kernel_rfl) rfl #[.slice Ao56 t887.length co56, .int .i64 1] rfl (by (try simp only [List.map_toArray, List.map_cons, List.map_nil]); first | done | (rw [show t887.length = t872.length from (Kd.R_reads' HO_7.out).1.symm] <;> rfl) | rfl | (simp only [List.length_drop, List.length_take]; rfl)) ?_; (with_reducible refine (laws_heldStringS.calls kj36 _ _ t887 1 t888 _ ?side1 ?side2 A54.out).mono ?_); (case side1 => repeat (first | exact (Kd.R_reads' HO_7.out).2.2 | (with_reducible refine Kd.C_alloc ?_ _) | (with_reducible refine Kd.C_drewN ?_ _) | (with_reducible refine Kd.C_drew ?_))); (case side2 => rw [show t887.length = t872.length from (Kd.R_reads' HO_7.out).1.symm]; exact (Kd.R_reads' HO_7.out).2.1); rintro e w58 ⟨rfl, hb⟩; refine ⟨_, rfl, ?_⟩; have n0_ := Aside0.mk (Kd.R_below (zr HO_4.out) hb); have n1_ := Aside0.mk (Kd.R_below (zr HO_7.out) hb); have n2_ := Aside0.mk (Kd.R_below (zr HO_872002.out) hb); have n3_ := Aside0.mk (blk_below (g := gb855) (o := .cells #[.int .i64 a0_0, .int .i64 a0_1, .slice A0_2 l0_2.length c0_2] 65 (0, 0)) (zk BK855.out) hb); have n4_ := Aside0.mk (blk_below (g := gb871) (o := .cells #[.int .i64 t866, .int .i64 t867, .slice Ao24 t884.length co24] 70 (0, 0)) (zk BK871.out) hb); have n5_ := Aside0.mk (below_step (by repeat (first | (with_reducible first | exact HB.out | apply below_alloc | apply pw_below_drewN | apply below_drew1 | refine below_set ?_ GE855.out | refine below_set ?_ GE871.out) | exact HB.out)) hb); clear HO_4; clear HO_7; clear HO_872002; clear BK855; clear BK871; clear HB; have HO_4 := n0_; have HO_7 := n1_; have HO_872002 := n2_; have BK855 := n3_; have BK871 := n4_; have HB := n5_; clear n0_ n1_ n2_ n3_ n4_ n5_; (try clear hb); (try clear hb2); (try clear hk); (try clear hi)))
          go_ret
          exact ⟨by first | rfl | (simp [errW_none, errW_some] <;> rfl) | (simp [*, errW_none, errW_some] <;> rfl), by repeat (first | (with_reducible first | exact HB.out | apply below_alloc | apply pw_below_drewN | apply below_drew1 | refine below_set ?_ GE855.out | refine below_set ?_ GE871.out) | exact HB.out)⟩
         ·rw [if_neg c55] at H
          have c55b0 : decide (t888 < 0) = false := decide_eq_false c55
          (try (have c55b0h := c55b0; simp only [hl872002_36] at c55b0h))
          clear c55
          by_cases c59 : t888 = t886
          ·rw [if_pos c59] at H
           have c59b0 : (t888 == t886) = true := beq_iff_eq.mpr c59
           have c59b1 : (t888 != t886) = false := bne_eq_false_iff_eq.mpr c59
           (try (have c59b0h := c59b0; simp only [hl872002_36] at c59b0h))
           (try (have c59b1h := c59b1; simp only [hl872002_36] at c59b1h))
           clear c59
           replace H := Option.bind_eq_some_iff.mp H
           obtain ⟨⟨t889, t890, t891⟩, A600, H⟩ := H
           replace H : ((impl_NewOf.f kj36 t889 t890 t891).bind fun bt894 => ((laws_eqStringS.f kj36 bt894.1 t862).bind fun t898 => (if t898 = true then (laws_FnExactNewOf.j2 kj36 t887 t886 (bt894.2 != t865)) else (laws_FnExactNewOf.j2 kj36 t887 t886 true)))) = some r := H
           have A60 := Aside0.mk A600
           clear A600
           replace H := Option.bind_eq_some_iff.mp H
           obtain ⟨⟨t894, t897⟩, A610, H⟩ := H
           replace H : ((laws_eqStringS.f kj36 t894 t862).bind fun t898 => (if t898 = true then (laws_FnExactNewOf.j2 kj36 t887 t886 (t897 != t865)) else (laws_FnExactNewOf.j2 kj36 t887 t886 true))) = some r := H
           have A61 := Aside0.mk A610
           clear A610
           have HC62 := Aside0.mk H
           clear H
           obtain ⟨Ao63, co63, eo63⟩ := Kd.R_slice HO_7.out
           subst eo63
           go_upto_region 25 with (first | ((with_reducible refine gateC (f := 42) rfl ?_); refine goesL_ (some 64) rfl rfl Try.func42 (by kernel_rfl) rfl #[.slice Ao63 t872.length co63, .int .i64 1] rfl zm ?_; (with_reducible refine (laws_markStringS.calls kj36 (fun k_ => some k_ = (.slice Ao63 t872.length co63 : Value).ownBlock) (.slice Ao63 t872.length co63) t872 1 t886 t887 w _ ?side1 ?side2 A53.out).mono ?_); (case side1 => repeat (first | (with_reducible first | exact HB.out | apply below_alloc | apply pw_below_drewN | apply below_drew1 | refine below_set ?_ GE855.out | refine below_set ?_ GE871.out) | exact HB.out)); (case side2 => exact Kd.R_tight rfl HO_7.out); rintro e w64 ⟨rfl, hy0, hb, hkp⟩; refine ⟨_, rfl, ?_⟩; have n0_ := Aside0.mk (Kd.R_mono (ok' := fun k_ => some k_ ≠ (.slice Ao63 t872.length co63 : Value).ownBlock) (Kd.R_keptB (HO_4.out) hkp (fun k_ hk_ hs_ => (hk_) hs_)) (fun k_ hk_ => hk_.1)); have n1_ := Aside0.mk (Kd.R_reok rfl hy0 (fun k_ e_ => HO_7.out.1 k_ e_)); have n2_ := Aside0.mk (Kd.R_mono (ok' := fun k_ => True) (Kd.R_keptB ((Kd.R_apart' HO_872002.out (Kd.R_typed HO_7.out) (by decide))) hkp (fun k_ hk_ hs_ => (hk_.2) hs_)) (fun k_ hk_ => trivial)); have n3_ := Aside0.mk (blk_kept (zk BK855.out) hkp (fun hs_ => (fun e_ => (Kd.R_ne HO_7.out BK855.out (by decide)) e_) hs_)); have n4_ := Aside0.mk (blk_kept (zk BK871.out) hkp (fun hs_ => (fun e_ => (Kd.R_ne HO_7.out BK871.out (by decide)) e_) hs_)); have n5_ := Aside0.mk (hb); clear HO_4; clear HO_7; clear HO_872002; clear BK855; clear BK871; clear HB; have HO_4 := n0_; have HO_7 := n1_; have HO_872002 := n2_; have BK855 := n3_; have BK871 := n4_; have HB := n5_; clear n0_ n1_ n2_ n3_ n4_ n5_; (try clear hb); (try clear hkp); (try clear hy0)) | ((with_reducible refine gateC (f := 44) rfl ?_); refine goesL_ (some 67) rfl rfl Try.func44 (by kernel_rfl) rfl #[.slice Ao63 t887.length co63, .int .i64 1] rfl (by (try simp only [List.map_toArray, List.map_cons, List.map_nil]); first | done | (rw [show t887.length = t872.length from (Kd.R_reads' HO_7.out).1.symm] <;> rfl) | rfl | (simp only [List.length_drop, List.length_take]; rfl)) ?_; (with_reducible refine (laws_heldStringS.calls kj36 _ _ t887 1 t888 _ ?side1 ?side2 A54.out).mono ?_); (case side1 => repeat (first | exact (Kd.R_reads' HO_7.out).2.2 | (with_reducible refine Kd.C_alloc ?_ _) | (with_reducible refine Kd.C_drewN ?_ _) | (with_reducible refine Kd.C_drew ?_))); (case side2 => rw [show t887.length = t872.length from (Kd.R_reads' HO_7.out).1.symm]; exact (Kd.R_reads' HO_7.out).2.1); rintro e w65 ⟨rfl, hb⟩; refine ⟨_, rfl, ?_⟩; have n0_ := Aside0.mk (Kd.R_below (zr HO_4.out) hb); have n1_ := Aside0.mk (Kd.R_below (zr HO_7.out) hb); have n2_ := Aside0.mk (Kd.R_below (zr HO_872002.out) hb); have n3_ := Aside0.mk (blk_below (g := gb855) (o := .cells #[.int .i64 a0_0, .int .i64 a0_1, .slice A0_2 l0_2.length c0_2] 65 (0, 0)) (zk BK855.out) hb); have n4_ := Aside0.mk (blk_below (g := gb871) (o := .cells #[.int .i64 t866, .int .i64 t867, .slice Ao24 t884.length co24] 70 (0, 0)) (zk BK871.out) hb); have n5_ := Aside0.mk (below_step (by repeat (first | (with_reducible first | exact HB.out | apply below_alloc | apply pw_below_drewN | apply below_drew1 | refine below_set ?_ GE855.out | refine below_set ?_ GE871.out) | exact HB.out)) hb); clear HO_4; clear HO_7; clear HO_872002; clear BK855; clear BK871; clear HB; have HO_4 := n0_; have HO_7 := n1_; have HO_872002 := n2_; have BK855 := n3_; have BK871 := n4_; have HB := n5_; clear n0_ n1_ n2_ n3_ n4_ n5_; (try clear hb); (try clear hb2); (try clear hk); (try clear hi); have hnb66 := NB855_871.out; have hnc66 := NB871_855.out; have hcz67_0 : w65.cell? ⟨gb855, 0, none⟩ = some (.int .i64 a0_0) := (blk_cell BK855.out 0).trans rfl; have hcz67_1 : w65.cell? ⟨gb855, 1, none⟩ = some (.int .i64 a0_1) := (blk_cell BK855.out 1).trans rfl; have hcz67_2 : w65.cell? ⟨gb855, 2, none⟩ = some (.slice A0_2 l0_2.length c0_2) := (blk_cell BK855.out 2).trans rfl; have hfz67_0 := blk_frozen BK855.out 0; have hfz67_1 := blk_frozen BK855.out 1; have hfz67_2 := blk_frozen BK855.out 2) | ((with_reducible refine gateC (f := 52) rfl ?_); refine goesL_ (some 75) rfl rfl Try.func52 (by kernel_rfl) rfl #[.agg #[.int .i64 a0_0, .int .i64 a0_1, .slice A0_2 l0_2.length c0_2]] rfl zm ?_; (with_reducible refine (laws_toGroup.calls kj36 a0_0 a0_1 _ _ l0_2 t889 t890 t891 _ ?side1 ?side2 A60.out).mono ?_); (case side1 => exact zq (Kd.C_below HR0_2.out HB.out)); (case side2 => exact HC0_2.out); rintro e w68 ⟨v892, rfl, ho0, hb⟩; refine ⟨_, rfl, ?_⟩; have n0_ := Aside0.mk (Kd.R_below (zr HO_4.out) hb); have n1_ := Aside0.mk (Kd.R_below (zr HO_7.out) hb); have n2_ := Aside0.mk (Kd.R_elder' (zr HO_872002.out) (Kd.R_base ho0) hb); have n3_ := Aside0.mk (Kd.R_lower (Kd.R_new' ho0 (Kd.R_lt (zr HO_872002.out))) (below_size (by repeat (first | (with_reducible first | exact HB.out | apply below_alloc | apply pw_below_drewN | apply below_drew1 | refine below_set ?_ GE855.out | refine below_set ?_ GE871.out) | exact HB.out)))); have n4_ := Aside0.mk (blk_below (g := gb855) (o := .cells #[.int .i64 a0_0, .int .i64 a0_1, .slice A0_2 l0_2.length c0_2] 65 (0, 0)) (zk BK855.out) hb); have n5_ := Aside0.mk (blk_below (g := gb871) (o := .cells #[.int .i64 t866, .int .i64 t867, .slice Ao24 t884.length co24] 70 (0, 0)) (zk BK871.out) hb); have n6_ := Aside0.mk (below_step (by repeat (first | (with_reducible first | exact HB.out | apply below_alloc | apply pw_below_drewN | apply below_drew1 | refine below_set ?_ GE855.out | refine below_set ?_ GE871.out) | exact HB.out)) hb); clear HO_4; clear HO_7; clear HO_872002; clear BK855; clear BK871; clear HB; have HO_4 := n0_; have HO_7 := n1_; have HO_872002 := n2_; have HO893 := n3_; have BK855 := n4_; have BK871 := n5_; have HB := n6_; clear n0_ n1_ n2_ n3_ n4_ n5_ n6_; (try clear hb); (try clear hb2); (try clear hk); (try clear hi); (try clear ho0); obtain ⟨Ao69, co69, eo69⟩ := Kd.R_slice HO893.out; subst eo69) | ((with_reducible refine gateC (f := 53) rfl ?_); refine goesL_ (some 76) rfl rfl Try.func53 (by kernel_rfl) rfl #[.agg #[.int .i64 t889, .int .i64 t890, .slice Ao69 t891.length co69]] rfl zm ?_; (with_reducible refine (impl_NewOf.calls kj36 t889 t890 _ _ t891 t894 t897 _ ?side1 ?side2 A61.out).mono ?_); (case side1 => repeat (first | exact (Kd.R_reads' HO893.out).2.2 | (with_reducible refine Kd.C_alloc ?_ _) | (with_reducible refine Kd.C_drewN ?_ _) | (with_reducible refine Kd.C_drew ?_))); (case side2 => exact (Kd.R_reads' HO893.out).2.1); rintro e w70 ⟨v895, rfl, ho0, hb⟩; refine ⟨_, rfl, ?_⟩; have n0_ := Aside0.mk (Kd.R_elder' (zr HO_4.out) (Kd.R_base ho0) hb); have n1_ := Aside0.mk (Kd.R_elder' (zr HO_7.out) (Kd.R_base ho0) hb); have n2_ := Aside0.mk (Kd.R_below (zr HO_872002.out) hb); have n3_ := Aside0.mk (Kd.R_below (zr HO893.out) hb); have n4_ := Aside0.mk (Kd.R_lower (Kd.R_new' (Kd.R_new' ho0 (Kd.R_lt (zr HO_4.out))) (Kd.R_lt (zr HO_7.out))) (below_size (by repeat (first | (with_reducible first | exact HB.out | apply below_alloc | apply pw_below_drewN | apply below_drew1 | refine below_set ?_ GE855.out | refine below_set ?_ GE871.out) | exact HB.out)))); have n5_ := Aside0.mk (blk_below (g := gb855) (o := .cells #[.int .i64 a0_0, .int .i64 a0_1, .slice A0_2 l0_2.length c0_2] 65 (0, 0)) (zk BK855.out) hb); have n6_ := Aside0.mk (blk_below (g := gb871) (o := .cells #[.int .i64 t866, .int .i64 t867, .slice Ao24 t884.length co24] 70 (0, 0)) (zk BK871.out) hb); have n7_ := Aside0.mk (below_step (by repeat (first | (with_reducible first | exact HB.out | apply below_alloc | apply pw_below_drewN | apply below_drew1 | refine below_set ?_ GE855.out | refine below_set ?_ GE871.out) | exact HB.out)) hb); clear HO_4; clear HO_7; clear HO_872002; clear HO893; clear BK855; clear BK871; clear HB; have HO_4 := n0_; have HO_7 := n1_; have HO_872002 := n2_; have HO893 := n3_; have HO896 := n4_; have BK855 := n5_; have BK871 := n6_; have HB := n7_; clear n0_ n1_ n2_ n3_ n4_ n5_ n6_ n7_; (try clear hb); (try clear hb2); (try clear hk); (try clear hi); (try clear ho0)))
           (try simp only [Act.put, List.setIfInBounds_toArray, List.set_cons_zero, List.set_cons_succ])
           go_cut [87] (fun v87 wc => ∃ (kq : Nat) (x87_61 : Bool), v87 = .bool x87_61 ∧ Aside0 (laws_FnExactNewOf.j2 kq t887 t886 x87_61 = some r) ∧ Aside0 (kq ≤ kj36) ∧ Aside0 (Kd.R Kd.string 9 wc w.heap.size (fun _ => True) (.slice Ao63 t872.length co63) t887) ∧ Aside0 (Kd.R k129 129 wc w.heap.size (fun _ => True) (.slice Ao24 t884.length co24) t884) ∧ Aside0 (wc.heap[gb855]? = some (.cells #[.int .i64 a0_0, .int .i64 a0_1, (.slice A0_2 l0_2.length c0_2)] 65 (0, 0))) ∧ Aside0 (wc.heap[gb871]? = some (.cells #[.int .i64 t866, .int .i64 t867, (.slice Ao24 t884.length co24)] 70 (0, 0))) ∧ Aside0 (Below w.heap.size w wc))
           case first =>
            have H := HC62.out
            clear HC62
            replace H := Option.bind_eq_some_iff.mp H
            obtain ⟨t898, A710, H⟩ := H
            replace H : (if t898 = true then (laws_FnExactNewOf.j2 kj36 t887 t886 (t897 != t865)) else (laws_FnExactNewOf.j2 kj36 t887 t886 true)) = some r := H
            have A71 := Aside0.mk A710
            clear A710
            by_cases c72 : t898 = true
            ·subst c72
             have H1 : (laws_FnExactNewOf.j2 kj36 t887 t886 (t897 != t865)) = some r := by rw [if_pos rfl] at H; exact H
             clear H
             have H := H1
             clear H1
             have H' := Aside0.mk H
             clear H
             obtain ⟨Ao73, co73, eo73⟩ := Kd.R_slice HO896.out
             subst eo73
             obtain ⟨Ao74, co74, eo74⟩ := Kd.R_slice HO_4.out
             subst eo74
             go_wp2_with (first | ((with_reducible refine gateC (f := 24) rfl ?_); refine goesL_ (some 81) rfl rfl Try.func24 (by kernel_rfl) rfl #[.slice Ao73 t894.length co73, .slice Ao74 t862.length co74] rfl zm ?_; (with_reducible refine (laws_eqStringS.calls kj36 _ _ t894 _ _ t862 true _ ?side1 ?side2 ?side3 ?side4 A71.out).mono ?_); (case side1 => repeat (first | exact (Kd.R_reads' HO896.out).2.2 | (with_reducible refine Kd.C_alloc ?_ _) | (with_reducible refine Kd.C_drewN ?_ _) | (with_reducible refine Kd.C_drew ?_))); (case side2 => exact (Kd.R_reads' HO896.out).2.1); (case side3 => repeat (first | exact (Kd.R_reads' HO_4.out).2.2 | (with_reducible refine Kd.C_alloc ?_ _) | (with_reducible refine Kd.C_drewN ?_ _) | (with_reducible refine Kd.C_drew ?_))); (case side4 => exact (Kd.R_reads' HO_4.out).2.1); rintro e w' ⟨rfl, ⟨nd, rfl⟩⟩; refine ⟨_, rfl, ?_⟩))
             go_meet
             case rel => exact ⟨_, ((t897 != t865)), zf, H', ⟨by have := HJ10.out; have := HJ36.out; first | omega | exact Nat.le_refl _⟩, ⟨by (try simp only [hl872002_36]); (with_reducible repeat (first | apply Kd.R_alloc | apply Kd.R_drewN | apply Kd.R_drew)); exact Kd.R_mono HO_7.out (fun _ hk => trivial)⟩, ⟨by (try simp only [hl872002_36]); (with_reducible repeat (first | apply Kd.R_alloc | apply Kd.R_drewN | apply Kd.R_drew)); exact Kd.R_mono HO_872002.out (fun _ hk => trivial)⟩, ⟨by (try simp only [hl872002_36]); (with_reducible repeat (first | refine blk_drewN ?_ _ | refine blk_drew ?_ | refine blk_alloc ?_ _)); exact BK855.out⟩, ⟨by (try simp only [hl872002_36]); (with_reducible repeat (first | refine blk_drewN ?_ _ | refine blk_drew ?_ | refine blk_alloc ?_ _)); exact BK871.out⟩, ⟨by repeat (first | (with_reducible first | exact HB.out | apply below_alloc | apply pw_below_drewN | apply below_drew1 | refine below_set ?_ GE855.out | refine below_set ?_ GE871.out) | exact HB.out)⟩⟩
            ·replace c72 := Bool.eq_false_iff.mpr c72
             subst c72
             have H1 : (laws_FnExactNewOf.j2 kj36 t887 t886 true) = some r := by rw [if_neg (show ¬ (false = true) by decide)] at H; exact H
             clear H
             have H := H1
             clear H1
             have H' := Aside0.mk H
             clear H
             obtain ⟨Ao75, co75, eo75⟩ := Kd.R_slice HO896.out
             subst eo75
             obtain ⟨Ao76, co76, eo76⟩ := Kd.R_slice HO_4.out
             subst eo76
             go_wp2_with (first | ((with_reducible refine gateC (f := 24) rfl ?_); refine goesL_ (some 81) rfl rfl Try.func24 (by kernel_rfl) rfl #[.slice Ao75 t894.length co75, .slice Ao76 t862.length co76] rfl zm ?_; (with_reducible refine (laws_eqStringS.calls kj36 _ _ t894 _ _ t862 false _ ?side1 ?side2 ?side3 ?side4 A71.out).mono ?_); (case side1 => repeat (first | exact (Kd.R_reads' HO896.out).2.2 | (with_reducible refine Kd.C_alloc ?_ _) | (with_reducible refine Kd.C_drewN ?_ _) | (with_reducible refine Kd.C_drew ?_))); (case side2 => exact (Kd.R_reads' HO896.out).2.1); (case side3 => repeat (first | exact (Kd.R_reads' HO_4.out).2.2 | (with_reducible refine Kd.C_alloc ?_ _) | (with_reducible refine Kd.C_drewN ?_ _) | (with_reducible refine Kd.C_drew ?_))); (case side4 => exact (Kd.R_reads' HO_4.out).2.1); rintro e w' ⟨rfl, ⟨nd, rfl⟩⟩; refine ⟨_, rfl, ?_⟩))
             go_meet
             case rel => exact ⟨_, (true), zf, H', ⟨by have := HJ10.out; have := HJ36.out; first | omega | exact Nat.le_refl _⟩, ⟨by (try simp only [hl872002_36]); (with_reducible repeat (first | apply Kd.R_alloc | apply Kd.R_drewN | apply Kd.R_drew)); exact Kd.R_mono HO_7.out (fun _ hk => trivial)⟩, ⟨by (try simp only [hl872002_36]); (with_reducible repeat (first | apply Kd.R_alloc | apply Kd.R_drewN | apply Kd.R_drew)); exact Kd.R_mono HO_872002.out (fun _ hk => trivial)⟩, ⟨by (try simp only [hl872002_36]); (with_reducible repeat (first | refine blk_drewN ?_ _ | refine blk_drew ?_ | refine blk_alloc ?_ _)); exact BK855.out⟩, ⟨by (try simp only [hl872002_36]); (with_reducible repeat (first | refine blk_drewN ?_ _ | refine blk_drew ?_ | refine blk_alloc ?_ _)); exact BK871.out⟩, ⟨by repeat (first | (with_reducible first | exact HB.out | apply below_alloc | apply pw_below_drewN | apply below_drew1 | refine below_set ?_ GE855.out | refine below_set ?_ GE871.out) | exact HB.out)⟩⟩
           case rest =>
            clear HC62
            try clear c1
            try clear c2
            try clear p2
            try clear c3
            try clear c3b0
            try clear c4
            try clear c5
            try clear c6
            try clear c7
            try clear c10
            try clear c22
            try clear c24
            try clear c27
            try clear c32
            try clear c35
            try clear c42
            try clear c44
            try clear c45
            try clear c45b0
            try clear c47
            try clear c50
            try clear c51
            try clear c52
            try clear c53
            try clear c54
            try clear c55
            try clear c55b0
            try clear c59
            try clear c59b0
            try clear c59b1
            try clear c66
            try clear c72
            try clear hcz13_0
            try clear hcz13_1
            try clear hcz13_2
            try clear hcz15_0
            try clear hcz15_1
            try clear hcz15_2
            try clear hcz19_0
            try clear hcz19_1
            try clear hcz19_2
            try clear hcz23_0
            try clear hcz23_1
            try clear hcz23_2
            try clear hcz43_0
            try clear hcz43_1
            try clear hcz43_2
            try clear hcz5_0
            try clear hcz5_1
            try clear hcz5_2
            try clear hcz67_0
            try clear hcz67_1
            try clear hcz67_2
            try clear hfz13_0
            try clear hfz13_1
            try clear hfz13_2
            try clear hfz15_0
            try clear hfz15_1
            try clear hfz15_2
            try clear hfz19_0
            try clear hfz19_1
            try clear hfz19_2
            try clear hfz23_0
            try clear hfz23_1
            try clear hfz23_2
            try clear hfz43_0
            try clear hfz43_1
            try clear hfz43_2
            try clear hfz5_0
            try clear hfz5_1
            try clear hfz5_2
            try clear hfz67_0
            try clear hfz67_1
            try clear hfz67_2
            try clear p2
            obtain ⟨kq, x87_61, rfl, HA, HJ61, HO_7, HO_872002, BK855, BK871, HB⟩ := hcut
            have hl7_61 := (Kd.R_reads' HO_7.out).1
            rw [hl7_61] at HO_7
            (try simp only [hl7_61])
            (try simp only [hl7_61] at BK855)
            (try simp only [hl7_61] at BK871)
            (try simp only [hl7_61] at HO_872002)
            cases kq with
            | zero => exact absurd HA.out (by simp [laws_FnExactNewOf.j2])
            | succ kj61 =>
             have H := HA.out
             clear HA
             simp only [laws_FnExactNewOf.j2] at H
             by_cases c77 : x87_61 = true
             ·subst c77
              have H1 : (some false) = some r := by rw [if_pos rfl] at H; exact H
              clear H
              have H := H1
              clear H1
              obtain rfl := Option.some.inj H
              go_wp2
              go_ret
              exact ⟨by first | rfl | (simp [errW_none, errW_some] <;> rfl) | (simp [*, errW_none, errW_some] <;> rfl), by repeat (first | (with_reducible first | exact HB.out | apply below_alloc | apply pw_below_drewN | apply below_drew1 | refine below_set ?_ GE855.out | refine below_set ?_ GE871.out) | exact HB.out)⟩
             ·replace c77 := Bool.eq_false_iff.mpr c77
              subst c77
              have H1 : ((laws_heldStringS.f kj61 t887 1).bind fun t899 => (if t899 < 0 then (some false) else (if t899 = t886 then (some true) else (some false)))) = some r := by rw [if_neg (show ¬ (false = true) by decide)] at H; exact H
              clear H
              have H := H1
              clear H1
              replace H := Option.bind_eq_some_iff.mp H
              obtain ⟨t899, A780, H⟩ := H
              replace H : (if t899 < 0 then (some false) else (if t899 = t886 then (some true) else (some false))) = some r := H
              have A78 := Aside0.mk A780
              clear A780
              by_cases c79 : t899 < 0
              ·rw [if_pos c79] at H
               have c79b0 : decide (t899 < 0) = true := decide_eq_true c79
               (try (have c79b0h := c79b0; simp only [hl872002_36] at c79b0h))
               (try (have c79b0h := c79b0; simp only [hl7_61] at c79b0h))
               clear c79
               obtain rfl := Option.some.inj H
               go_wp2_with (first | ((with_reducible refine gateC (f := 44) rfl ?_); refine goesL_ (some 90) rfl rfl Try.func44 (by kernel_rfl) rfl #[.slice Ao63 t887.length co63, .int .i64 1] rfl zm ?_; (with_reducible refine (laws_heldStringS.calls kj61 _ _ t887 1 t899 _ ?side1 ?side2 A78.out).mono ?_); (case side1 => repeat (first | exact (Kd.R_reads' HO_7.out).2.2 | (with_reducible refine Kd.C_alloc ?_ _) | (with_reducible refine Kd.C_drewN ?_ _) | (with_reducible refine Kd.C_drew ?_))); (case side2 => exact (Kd.R_reads' HO_7.out).2.1); rintro e w80 ⟨rfl, hb⟩; refine ⟨_, rfl, ?_⟩; have n0_ := Aside0.mk (Kd.R_below (zr HO_7.out) hb); have n1_ := Aside0.mk (Kd.R_below (zr HO_872002.out) hb); have n2_ := Aside0.mk (blk_below (g := gb855) (o := .cells #[.int .i64 a0_0, .int .i64 a0_1, .slice A0_2 l0_2.length c0_2] 65 (0, 0)) (zk BK855.out) hb); have n3_ := Aside0.mk (blk_below (g := gb871) (o := .cells #[.int .i64 t866, .int .i64 t867, .slice Ao24 t884.length co24] 70 (0, 0)) (zk BK871.out) hb); have n4_ := Aside0.mk (below_step (by repeat (first | (with_reducible first | exact HB.out | apply below_alloc | apply pw_below_drewN | apply below_drew1 | refine below_set ?_ GE855.out | refine below_set ?_ GE871.out) | exact HB.out)) hb); clear HO_7; clear HO_872002; clear BK855; clear BK871; clear HB; have HO_7 := n0_; have HO_872002 := n1_; have BK855 := n2_; have BK871 := n3_; have HB := n4_; clear n0_ n1_ n2_ n3_ n4_; (try clear hb); (try clear hb2); (try clear hk); (try clear hi)))
               go_ret
               exact ⟨by first | rfl | (simp [errW_none, errW_some] <;> rfl) | (simp [*, errW_none, errW_some] <;> rfl), by repeat (first | (with_reducible first | exact HB.out | apply below_alloc | apply pw_below_drewN | apply below_drew1 | refine below_set ?_ GE855.out | refine below_set ?_ GE871.out) | exact HB.out)⟩
              ·rw [if_neg c79] at H
               have c79b0 : decide (t899 < 0) = false := decide_eq_false c79
               (try (have c79b0h := c79b0; simp only [hl872002_36] at c79b0h))
               (try (have c79b0h := c79b0; simp only [hl7_61] at c79b0h))
               clear c79
               by_cases c81 : t899 = t886
               ·rw [if_pos c81] at H
                have c81b0 : (t899 == t886) = true := beq_iff_eq.mpr c81
                have c81b1 : (t899 != t886) = false := bne_eq_false_iff_eq.mpr c81
                (try (have c81b0h := c81b0; simp only [hl872002_36] at c81b0h))
                (try (have c81b0h := c81b0; simp only [hl7_61] at c81b0h))
                (try (have c81b1h := c81b1; simp only [hl872002_36] at c81b1h))
                (try (have c81b1h := c81b1; simp only [hl7_61] at c81b1h))
                clear c81
                obtain rfl := Option.some.inj H
                go_wp2_with (first | ((with_reducible refine gateC (f := 44) rfl ?_); refine goesL_ (some 90) rfl rfl Try.func44 (by kernel_rfl) rfl #[.slice Ao63 t887.length co63, .int .i64 1] rfl zm ?_; (with_reducible refine (laws_heldStringS.calls kj61 _ _ t887 1 t899 _ ?side1 ?side2 A78.out).mono ?_); (case side1 => repeat (first | exact (Kd.R_reads' HO_7.out).2.2 | (with_reducible refine Kd.C_alloc ?_ _) | (with_reducible refine Kd.C_drewN ?_ _) | (with_reducible refine Kd.C_drew ?_))); (case side2 => exact (Kd.R_reads' HO_7.out).2.1); rintro e w82 ⟨rfl, hb⟩; refine ⟨_, rfl, ?_⟩; have n0_ := Aside0.mk (Kd.R_below (zr HO_7.out) hb); have n1_ := Aside0.mk (Kd.R_below (zr HO_872002.out) hb); have n2_ := Aside0.mk (blk_below (g := gb855) (o := .cells #[.int .i64 a0_0, .int .i64 a0_1, .slice A0_2 l0_2.length c0_2] 65 (0, 0)) (zk BK855.out) hb); have n3_ := Aside0.mk (blk_below (g := gb871) (o := .cells #[.int .i64 t866, .int .i64 t867, .slice Ao24 t884.length co24] 70 (0, 0)) (zk BK871.out) hb); have n4_ := Aside0.mk (below_step (by repeat (first | (with_reducible first | exact HB.out | apply below_alloc | apply pw_below_drewN | apply below_drew1 | refine below_set ?_ GE855.out | refine below_set ?_ GE871.out) | exact HB.out)) hb); clear HO_7; clear HO_872002; clear BK855; clear BK871; clear HB; have HO_7 := n0_; have HO_872002 := n1_; have BK855 := n2_; have BK871 := n3_; have HB := n4_; clear n0_ n1_ n2_ n3_ n4_; (try clear hb); (try clear hb2); (try clear hk); (try clear hi)))
                go_ret
                exact ⟨by first | rfl | (simp [errW_none, errW_some] <;> rfl) | (simp [*, errW_none, errW_some] <;> rfl), by repeat (first | (with_reducible first | exact HB.out | apply below_alloc | apply pw_below_drewN | apply below_drew1 | refine below_set ?_ GE855.out | refine below_set ?_ GE871.out) | exact HB.out)⟩
               ·rw [if_neg c81] at H
                have c81b0 : (t899 == t886) = false := beq_eq_false_iff_ne.mpr c81
                have c81b1 : (t899 != t886) = true := bne_iff_ne.mpr c81
                (try (have c81b0h := c81b0; simp only [hl872002_36] at c81b0h))
                (try (have c81b0h := c81b0; simp only [hl7_61] at c81b0h))
                (try (have c81b1h := c81b1; simp only [hl872002_36] at c81b1h))
                (try (have c81b1h := c81b1; simp only [hl7_61] at c81b1h))
                obtain rfl := Option.some.inj H
                go_wp2_with (first | ((with_reducible refine gateC (f := 44) rfl ?_); refine goesL_ (some 90) rfl rfl Try.func44 (by kernel_rfl) rfl #[.slice Ao63 t887.length co63, .int .i64 1] rfl zm ?_; (with_reducible refine (laws_heldStringS.calls kj61 _ _ t887 1 t899 _ ?side1 ?side2 A78.out).mono ?_); (case side1 => repeat (first | exact (Kd.R_reads' HO_7.out).2.2 | (with_reducible refine Kd.C_alloc ?_ _) | (with_reducible refine Kd.C_drewN ?_ _) | (with_reducible refine Kd.C_drew ?_))); (case side2 => exact (Kd.R_reads' HO_7.out).2.1); rintro e w83 ⟨rfl, hb⟩; refine ⟨_, rfl, ?_⟩; have n0_ := Aside0.mk (Kd.R_below (zr HO_7.out) hb); have n1_ := Aside0.mk (Kd.R_below (zr HO_872002.out) hb); have n2_ := Aside0.mk (blk_below (g := gb855) (o := .cells #[.int .i64 a0_0, .int .i64 a0_1, .slice A0_2 l0_2.length c0_2] 65 (0, 0)) (zk BK855.out) hb); have n3_ := Aside0.mk (blk_below (g := gb871) (o := .cells #[.int .i64 t866, .int .i64 t867, .slice Ao24 t884.length co24] 70 (0, 0)) (zk BK871.out) hb); have n4_ := Aside0.mk (below_step (by repeat (first | (with_reducible first | exact HB.out | apply below_alloc | apply pw_below_drewN | apply below_drew1 | refine below_set ?_ GE855.out | refine below_set ?_ GE871.out) | exact HB.out)) hb); clear HO_7; clear HO_872002; clear BK855; clear BK871; clear HB; have HO_7 := n0_; have HO_872002 := n1_; have BK855 := n2_; have BK871 := n3_; have HB := n4_; clear n0_ n1_ n2_ n3_ n4_; (try clear hb); (try clear hb2); (try clear hk); (try clear hi)))
                go_ret
                exact ⟨by first | rfl | (simp [errW_none, errW_some] <;> rfl) | (simp [*, errW_none, errW_some] <;> rfl), by repeat (first | (with_reducible first | exact HB.out | apply below_alloc | apply pw_below_drewN | apply below_drew1 | refine below_set ?_ GE855.out | refine below_set ?_ GE871.out) | exact HB.out)⟩
          ·rw [if_neg c59] at H
           have c59b0 : (t888 == t886) = false := beq_eq_false_iff_ne.mpr c59
           have c59b1 : (t888 != t886) = true := bne_iff_ne.mpr c59
           (try (have c59b0h := c59b0; simp only [hl872002_36] at c59b0h))
           (try (have c59b1h := c59b1; simp only [hl872002_36] at c59b1h))
           obtain rfl := Option.some.inj H
           obtain ⟨Ao84, co84, eo84⟩ := Kd.R_slice HO_7.out
           subst eo84
           go_wp2_with (first | ((with_reducible refine gateC (f := 42) rfl ?_); refine goesL_ (some 64) rfl rfl Try.func42 (by kernel_rfl) rfl #[.slice Ao84 t872.length co84, .int .i64 1] rfl zm ?_; (with_reducible refine (laws_markStringS.calls kj36 (fun k_ => some k_ = (.slice Ao84 t872.length co84 : Value).ownBlock) (.slice Ao84 t872.length co84) t872 1 t886 t887 w _ ?side1 ?side2 A53.out).mono ?_); (case side1 => repeat (first | (with_reducible first | exact HB.out | apply below_alloc | apply pw_below_drewN | apply below_drew1 | refine below_set ?_ GE855.out | refine below_set ?_ GE871.out) | exact HB.out)); (case side2 => exact Kd.R_tight rfl HO_7.out); rintro e w85 ⟨rfl, hy0, hb, hkp⟩; refine ⟨_, rfl, ?_⟩; have n0_ := Aside0.mk (Kd.R_mono (ok' := fun k_ => some k_ ≠ (.slice Ao84 t872.length co84 : Value).ownBlock) (Kd.R_keptB (HO_4.out) hkp (fun k_ hk_ hs_ => (hk_) hs_)) (fun k_ hk_ => hk_.1)); have n1_ := Aside0.mk (Kd.R_reok rfl hy0 (fun k_ e_ => HO_7.out.1 k_ e_)); have n2_ := Aside0.mk (Kd.R_mono (ok' := fun k_ => True) (Kd.R_keptB ((Kd.R_apart' HO_872002.out (Kd.R_typed HO_7.out) (by decide))) hkp (fun k_ hk_ hs_ => (hk_.2) hs_)) (fun k_ hk_ => trivial)); have n3_ := Aside0.mk (blk_kept (zk BK855.out) hkp (fun hs_ => (fun e_ => (Kd.R_ne HO_7.out BK855.out (by decide)) e_) hs_)); have n4_ := Aside0.mk (blk_kept (zk BK871.out) hkp (fun hs_ => (fun e_ => (Kd.R_ne HO_7.out BK871.out (by decide)) e_) hs_)); have n5_ := Aside0.mk (hb); clear HO_4; clear HO_7; clear HO_872002; clear BK855; clear BK871; clear HB; have HO_4 := n0_; have HO_7 := n1_; have HO_872002 := n2_; have BK855 := n3_; have BK871 := n4_; have HB := n5_; clear n0_ n1_ n2_ n3_ n4_ n5_; (try clear hb); (try clear hkp); (try clear hy0)) | ((with_reducible refine gateC (f := 44) rfl ?_); refine goesL_ (some 67) rfl rfl Try.func44 (by kernel_rfl) rfl #[.slice Ao84 t887.length co84, .int .i64 1] rfl (by (try simp only [List.map_toArray, List.map_cons, List.map_nil]); first | done | (rw [show t887.length = t872.length from (Kd.R_reads' HO_7.out).1.symm] <;> rfl) | rfl | (simp only [List.length_drop, List.length_take]; rfl)) ?_; (with_reducible refine (laws_heldStringS.calls kj36 _ _ t887 1 t888 _ ?side1 ?side2 A54.out).mono ?_); (case side1 => repeat (first | exact (Kd.R_reads' HO_7.out).2.2 | (with_reducible refine Kd.C_alloc ?_ _) | (with_reducible refine Kd.C_drewN ?_ _) | (with_reducible refine Kd.C_drew ?_))); (case side2 => rw [show t887.length = t872.length from (Kd.R_reads' HO_7.out).1.symm]; exact (Kd.R_reads' HO_7.out).2.1); rintro e w86 ⟨rfl, hb⟩; refine ⟨_, rfl, ?_⟩; have n0_ := Aside0.mk (Kd.R_below (zr HO_4.out) hb); have n1_ := Aside0.mk (Kd.R_below (zr HO_7.out) hb); have n2_ := Aside0.mk (Kd.R_below (zr HO_872002.out) hb); have n3_ := Aside0.mk (blk_below (g := gb855) (o := .cells #[.int .i64 a0_0, .int .i64 a0_1, .slice A0_2 l0_2.length c0_2] 65 (0, 0)) (zk BK855.out) hb); have n4_ := Aside0.mk (blk_below (g := gb871) (o := .cells #[.int .i64 t866, .int .i64 t867, .slice Ao24 t884.length co24] 70 (0, 0)) (zk BK871.out) hb); have n5_ := Aside0.mk (below_step (by repeat (first | (with_reducible first | exact HB.out | apply below_alloc | apply pw_below_drewN | apply below_drew1 | refine below_set ?_ GE855.out | refine below_set ?_ GE871.out) | exact HB.out)) hb); clear HO_4; clear HO_7; clear HO_872002; clear BK855; clear BK871; clear HB; have HO_4 := n0_; have HO_7 := n1_; have HO_872002 := n2_; have BK855 := n3_; have BK871 := n4_; have HB := n5_; clear n0_ n1_ n2_ n3_ n4_ n5_; (try clear hb); (try clear hb2); (try clear hk); (try clear hi)))
           go_ret
           exact ⟨by first | rfl | (simp [errW_none, errW_some] <;> rfl) | (simp [*, errW_none, errW_some] <;> rfl), by repeat (first | (with_reducible first | exact HB.out | apply below_alloc | apply pw_below_drewN | apply below_drew1 | refine below_set ?_ GE855.out | refine below_set ?_ GE871.out) | exact HB.out)⟩
     ·replace c35 := Bool.eq_false_iff.mpr c35
      subst c35
      have H1 : (some false) = some r := by rw [if_neg (show ¬ (false = true) by decide)] at H; exact H
      clear H
      have H := H1
      clear H1
      obtain rfl := Option.some.inj H
      try go_wp2
      have n0_ := Aside0.mk (Kd.R_drew HO_4.out)
      have n1_ := Aside0.mk (Kd.R_drew HO_7.out)
      have n2_ := Aside0.mk (Kd.R_drew HO_872002.out)
      have n3_ := Aside0.mk (blk_drew BK855.out)
      have n4_ := Aside0.mk (blk_drew BK871.out)
      have n5_ := Aside0.mk (below_drew1 HB.out)
      clear HO_4
      clear HO_7
      clear HO_872002
      clear BK855
      clear BK871
      clear HB
      have HO_4 := n0_
      have HO_7 := n1_
      have HO_872002 := n2_
      have BK855 := n3_
      have BK871 := n4_
      have HB := n5_
      clear n0_ n1_ n2_ n3_ n4_ n5_
      refine start_ (n := 5) (S := fun w' => w'.cell? ⟨gb871, 0, none⟩ = some (.int .i64 t866) ∧ w'.cell? ⟨gb871, 1, none⟩ = some (.int .i64 t867) ∧ w'.cell? ⟨gb871, 2, none⟩ = some (.slice Ao24 t868.length co24) ∧ w'.cell? ⟨gb855, 0, none⟩ = some (.int .i64 a0_0) ∧ w'.cell? ⟨gb855, 1, none⟩ = some (.int .i64 a0_1) ∧ w'.cell? ⟨gb855, 2, none⟩ = some (.slice A0_2 l0_2.length c0_2)) (ds := []) #[O,O,O,O,O] (by kernel_rfl) rfl rfl ⟨(blk_cell BK871.out 0).trans rfl, (blk_cell BK871.out 1).trans rfl, (blk_cell BK871.out 2).trans rfl, (blk_cell BK855.out 0).trans rfl, (blk_cell BK855.out 1).trans rfl, (blk_cell BK855.out 2).trans rfl⟩ (fun hHeld => ?_)
      generalize wc.drew = w87 at HO_4 HO_7 HO_872002 BK855 BK871 HB hHeld ⊢
      refine take_ (i := 0) (N := some 41) (v := ?_) (a' := ?_) #[Y,O,O,O,O] rfl rfl (by kernel_rfl) (fun _ _ _ h => h) (Or.inl ⟨by rfl, ?_⟩) hHeld ?_ ?_
      rotate_left; (rintro w' ⟨s0, s1, s2, s3, s4, s5⟩; go_simp; with_reducible rfl); rotate_left; (simp only [Act.put,qa,qb,qc,i64_w,i32_w]; rfl)
      refine take_ (i := 1) (N := some 42) (v := ?_) (a' := ?_) #[Y,Y,O,O,O] rfl rfl (by kernel_rfl) (fun _ _ _ h => h) (Or.inl ⟨by rfl, ?_⟩) hHeld ?_ ?_
      rotate_left; (rintro w' ⟨s0, s1, s2, s3, s4, s5⟩; go_simp; with_reducible rfl); rotate_left; (simp only [Act.put,qa,qb,qc,i64_w,i32_w]; rfl)
      refine one_ (i := 2) (N := some 43) #[Y,Y,Y,O,O] rfl rfl (by kernel_rfl) (by decide) (fun K hK => ?_)
      refine goes_ Try.func52 (by kernel_rfl) rfl #[.agg #[.int .i64 a0_0, .int .i64 a0_1, .slice A0_2 l0_2.length c0_2]] (by rfl) rfl rfl zm ?_
      with_reducible refine (laws_toGroup.calls kj10 a0_0 a0_1 _ _ l0_2 t877 t878 t879 _ ?side1 ?side2 A33.out).mono ?_
      (case side1 => exact zq (Kd.C_below HR0_2.out HB.out))
      (case side2 => exact HC0_2.out)
      rintro e w88 ⟨v880, rfl, ho0, hb⟩
      refine ⟨_, rfl, ?_⟩
      have n0_ := Aside0.mk (Kd.R_below (zr HO_4.out) hb)
      have n1_ := Aside0.mk (Kd.R_below (zr HO_7.out) hb)
      have n2_ := Aside0.mk (Kd.R_elder' (zr HO_872002.out) (Kd.R_base ho0) hb)
      have n3_ := Aside0.mk (Kd.R_lower (Kd.R_new' ho0 (Kd.R_lt (zr HO_872002.out))) (below_size (by repeat (first | (with_reducible first | exact HB.out | apply below_alloc | apply pw_below_drewN | apply below_drew1 | refine below_set ?_ GE855.out | refine below_set ?_ GE871.out) | exact HB.out))))
      have n4_ := Aside0.mk (blk_below (g := gb855) (o := .cells #[.int .i64 a0_0, .int .i64 a0_1, .slice A0_2 l0_2.length c0_2] 65 (0, 0)) (zk BK855.out) hb)
      have n5_ := Aside0.mk (blk_below (g := gb871) (o := .cells #[.int .i64 t866, .int .i64 t867, .slice Ao24 t868.length co24] 70 (0, 0)) (zk BK871.out) hb)
      have n6_ := Aside0.mk (below_step (by repeat (first | (with_reducible first | exact HB.out | apply below_alloc | apply pw_below_drewN | apply below_drew1 | refine below_set ?_ GE855.out | refine below_set ?_ GE871.out) | exact HB.out)) hb)
      clear HO_4
      clear HO_7
      clear HO_872002
      clear BK855
      clear BK871
      clear HB
      have HO_4 := n0_
      have HO_7 := n1_
      have HO_872002 := n2_
      have HO881 := n3_
      have BK855 := n4_
      have BK871 := n5_
      have HB := n6_
      clear n0_ n1_ n2_ n3_ n4_ n5_ n6_
      (try clear hb)
      (try clear hb2)
      (try clear hk)
      (try clear hi)
      (try clear ho0)
      obtain ⟨Ao89, co89, eo89⟩ := Kd.R_slice HO881.out
      (first | subst eo89 | (injection eo89 with f1_ f2_ f3_; have f4_ := f1_.symm; have f5_ := f3_.symm; clear f1_ f2_ f3_; subst f4_; subst f5_))
      refine hK.out _ _ ⟨(blk_cell BK871.out 0).trans rfl, (blk_cell BK871.out 1).trans rfl, (blk_cell BK871.out 2).trans rfl, (blk_cell BK855.out 0).trans rfl, (blk_cell BK855.out 1).trans rfl, (blk_cell BK855.out 2).trans rfl⟩ (fun hHeld => ?_)
      clear hK K
      refine norm_ (a' := ?_) ?_ ?_
      rotate_left
      ·show Act.put _ (some 43) _ = _
       simp only [Act.put,qa,qb,qc,i64_w,i32_w]
       rfl
      refine one_ (i := 3) (N := some 44) #[Y,Y,Y,Y,O] rfl rfl (by kernel_rfl) (by decide) (fun K hK => ?_)
      refine goes_ Try.func54 (by kernel_rfl) rfl #[.agg #[.int .i64 t866, .int .i64 t867, .slice Ao24 t868.length co24], .agg #[.int .i64 t877, .int .i64 t878, .slice Ao89 t879.length co89]] (by rfl) rfl rfl zm ?_
      with_reducible refine (laws_eqGroup.calls kj10 t866 t867 _ _ t868 t877 t878 _ _ t879 false _ ?side1 ?side2 ?side3 ?side4 A34.out).mono ?_
      (case side1 => repeat (first | exact (Kd.R_reads' HO_872002.out).2.2 | (with_reducible refine Kd.C_alloc ?_ _) | (with_reducible refine Kd.C_drewN ?_ _) | (with_reducible refine Kd.C_drew ?_)))
      (case side2 => exact (Kd.R_reads' HO_872002.out).2.1)
      (case side3 => repeat (first | exact (Kd.R_reads' HO881.out).2.2 | (with_reducible refine Kd.C_alloc ?_ _) | (with_reducible refine Kd.C_drewN ?_ _) | (with_reducible refine Kd.C_drew ?_)))
      (case side4 => exact (Kd.R_reads' HO881.out).2.1)
      rintro e w90 ⟨rfl, hb⟩
      refine ⟨_, rfl, ?_⟩
      have n0_ := Aside0.mk (Kd.R_below (zr HO_4.out) hb)
      have n1_ := Aside0.mk (Kd.R_below (zr HO_7.out) hb)
      have n2_ := Aside0.mk (Kd.R_below (zr HO_872002.out) hb)
      have n3_ := Aside0.mk (Kd.R_below (zr HO881.out) hb)
      have n4_ := Aside0.mk (blk_below (g := gb855) (o := .cells #[.int .i64 a0_0, .int .i64 a0_1, .slice A0_2 l0_2.length c0_2] 65 (0, 0)) (zk BK855.out) hb)
      have n5_ := Aside0.mk (blk_below (g := gb871) (o := .cells #[.int .i64 t866, .int .i64 t867, .slice Ao24 t868.length co24] 70 (0, 0)) (zk BK871.out) hb)
      have n6_ := Aside0.mk (below_step (by repeat (first | (with_reducible first | exact HB.out | apply below_alloc | apply pw_below_drewN | apply below_drew1 | refine below_set ?_ GE855.out | refine below_set ?_ GE871.out) | exact HB.out)) hb)
      clear HO_4
      clear HO_7
      clear HO_872002
      clear HO881
      clear BK855
      clear BK871
      clear HB
      have HO_4 := n0_
      have HO_7 := n1_
      have HO_872002 := n2_
      have HO881 := n3_
      have BK855 := n4_
      have BK871 := n5_
      have HB := n6_
      clear n0_ n1_ n2_ n3_ n4_ n5_ n6_
      (try clear hb)
      (try clear hb2)
      (try clear hk)
      (try clear hi)
      refine hK.out _ _ ⟨(blk_cell BK871.out 0).trans rfl, (blk_cell BK871.out 1).trans rfl, (blk_cell BK871.out 2).trans rfl, (blk_cell BK855.out 0).trans rfl, (blk_cell BK855.out 1).trans rfl, (blk_cell BK855.out 2).trans rfl⟩ (fun hHeld => ?_)
      clear hK K
      refine norm_ (a' := ?_) ?_ ?_
      rotate_left
      ·show Act.put _ (some 44) _ = _
       simp only [Act.put,qa,qb,qc,i64_w,i32_w]
       rfl
      refine pure_ (i := 4) (N := some 45) (v := ?_) (a' := ?_) #[Y,Y,Y,Y,Y] rfl rfl (by kernel_rfl) (fun _ _ _ h => h) (Or.inl ⟨by rfl, ?_⟩) ?_ ?_
      rotate_left; (intro w'; go_simp; with_reducible rfl); rotate_left; (simp only [Act.put,qa,qb,qc,i64_w,i32_w]; rfl)
      refine done_ (by kernel_rfl) ?_
      try go_wp2
      go_ret
      exact ⟨by first | rfl | (simp [errW_none, errW_some] <;> rfl) | (simp [*, errW_none, errW_some] <;> rfl), by repeat (first | (with_reducible first | exact HB.out | apply below_alloc | apply pw_below_drewN | apply below_drew1 | refine below_set ?_ GE855.out | refine below_set ?_ GE871.out) | exact HB.out)⟩

end Go.Proofs.Ytbbkecdlapemfaa.My

/- Written by this session's program (wip/gen): the law's pure statement. -/
namespace Go.Proofs.Ytbbkecdlapemfaa.My
open Go.RowKit Go.Proofs.YtbbkecdlapemfaaW.PrintWords Go.Proofs.YtbbkecdlapemfaaW.PrintLast Go.Proofs.YtbbkecdlapemfaaW.PrintMore
attribute [local go_sem] max2_int min2_int max_two min_two max_three min_three max_four min_four
set_option linter.unusedVariables false
set_option linter.unusedSimpArgs false

/-- What is left to prove of laws_FnExactNewOf. -/
def laws_FnExactNewOf.Pure : Prop := ∀ (s0 : S65), W65 s0 → ∃ k, laws_FnExactNewOf.f k s0.f0 s0.f1 s0.f2 = some true
end Go.Proofs.Ytbbkecdlapemfaa.My

/- Plain Lean, no program in sight: what holds from some number of rounds on, whole numbers that do not wrap, lists by an index. -/
namespace Go.Proofs.Ytbbkecdlapemfaa.Pl
open Go.RowKit Go.Proofs.YtbbkecdlapemfaaW.PrintWords Go.Proofs.YtbbkecdlapemfaaW.PrintLast
set_option linter.unusedVariables false
set_option linter.unusedSimpArgs false

section
variable {α β : Type}
theorem ev_pos {c : Prop} [Decidable c] {g g' : Nat → Option α} {r : α} (hc : c) (h : Ev g r) : Ev (fun k => if c then g k else g' k) r :=
  Ev.congr (fun _ => if_pos hc) h
theorem ev_neg {c : Prop} [Decidable c] {g g' : Nat → Option α} {r : α} (hc : ¬ c) (h : Ev g' r) : Ev (fun k => if c then g k else g' k) r :=
  Ev.congr (fun _ => if_neg hc) h
theorem ev_ite {c : Prop} [Decidable c] {g g' : Nat → Option α} {r : α} (h : c → Ev g r) (h' : ¬ c → Ev g' r) : Ev (fun k => if c then g k else g' k) r := by
  by_cases hc : c
  · exact ev_pos hc (h hc)
  · exact ev_neg hc (h' hc)
theorem ev_some {r r' : α} (h : r = r') : Ev (fun _ => some r) r' := h ▸ Ev.now r
theorem ev_const {o : Option α} {r : α} (h : o = some r) : Ev (fun _ => o) r := ⟨0, fun _ _ => h⟩
theorem ev_to {g : Nat → Option α} {r r' : α} (h : Ev g r) (e : r = r') : Ev g r' := e ▸ h
theorem ev_bind {g : Nat → Option α} {f : Nat → α → Option β} {a : α} {r : β} (h : Ev g a) (k : Ev (fun n => f n a) r) : Ev (fun n => (g n).bind fun t => f n t) r := Ev.bind h k
end

theorem wrap64_id {x : Int} (h : -9223372036854775808 ≤ x) (h' : x ≤ 9223372036854775807) : wrap64 x = x := by
  unfold wrap64
  omega
theorem wrap_succ (i : Nat) (h : i < 9223372036854775807) : wrap64 ((i : Int) + 1) = ((i + 1 : Nat) : Int) := by
  rw [wrap64_id (by omega) (by omega)]
  omega
theorem wrap_pred (n : Nat) (h0 : 0 < n) (h : n ≤ 9223372036854775807) : wrap64 ((n : Int) - 1) = ((n - 1 : Nat) : Int) := by
  rw [wrap64_id (by omega) (by omega)]
  omega
theorem wrap_sub (n m : Nat) (h0 : m ≤ n) (h : n ≤ 9223372036854775807) : wrap64 ((n : Int) - (m : Int)) = ((n - m : Nat) : Int) := by
  rw [wrap64_id (by omega) (by omega)]
  omega
theorem wrap_add (n m : Nat) (h : n + m ≤ 9223372036854775807) : wrap64 ((n : Int) + (m : Int)) = ((n + m : Nat) : Int) := by
  rw [wrap64_id (by omega) (by omega)]
  omega

theorem rdOf_nat {α : Type} (d : α) (xs : List α) (i : Nat) : rdOf d xs (i : Int) = xs.getD i d := rfl
theorem rd_nat (xs : List Int) (i : Nat) : rd xs (i : Int) = xs.getD i 0 := rfl
theorem getD_lt {α : Type} (xs : List α) (d : α) (i : Nat) (h : i < xs.length) : xs.getD i d = xs[i] := by
  simp [List.getD_eq_getElem?_getD, List.getElem?_eq_getElem h]
theorem rdOf_lt {α : Type} (d : α) (xs : List α) (i : Nat) (h : i < xs.length) : rdOf d xs (i : Int) = xs[i] := getD_lt xs d i h
theorem ba_ext {a b : ByteArray} (h : a.toList = b.toList) : a = b := by
  rw [Lib.toList_data, Lib.toList_data] at h
  cases a with | mk a => cases b with | mk b =>
  cases a with | mk a => cases b with | mk b =>
  simp_all
theorem ba_iff {a b : ByteArray} : a.toList = b.toList ↔ a = b := ⟨ba_ext, fun h => by rw [h]⟩
theorem drop_cons {α : Type} (xs : List α) (i : Nat) (h : i < xs.length) : xs.drop i = xs[i] :: xs.drop (i + 1) := List.drop_eq_getElem_cons h
theorem bt_nat (s : ByteArray) (i : Nat) (h : i < s.size) : bt s (i : Int) = ((s.data.toList[i]'(by rw [data_length]; exact h)).toNat : Int) := by
  unfold bt
  rw [dif_pos (by simpa using h)]
  simp [ByteArray.getElem_eq_getElem_data]
theorem u8_eq {b c : UInt8} (h : (b.toNat : Int) = (c.toNat : Int)) : b = c := UInt8.toNat_inj.1 (by omega)
theorem u8_ne {b c : UInt8} (h : ¬ (b.toNat : Int) = (c.toNat : Int)) : ¬ c = b := fun e => h (by rw [e])
end Go.Proofs.Ytbbkecdlapemfaa.Pl

/- Written by this session's program (wip/gen): a plain function with the same answers as the Go function, and the proof that the Go code comes to them. Asked: that the plain function has an answer. -/
namespace Go.Proofs.Ytbbkecdlapemfaa.My
open Go.RowKit Go.Proofs.YtbbkecdlapemfaaW.PrintWords Go.Proofs.YtbbkecdlapemfaaW.PrintLast Go.Proofs.YtbbkecdlapemfaaW.PrintMore
attribute [local go_sem] max2_int min2_int max_two min_two max_three min_three max_four min_four
set_option linter.unusedVariables false
set_option linter.unusedSimpArgs false

/-! ### laws_szStringS: function 20 -/
def laws_szStringS.l0 : Nat → List ByteArray → Int → Int → Option (Int)
 | 0, _, _, _ => none
 | k + 1, x0, x1, x5 => if x5 < (x0.length : Int) then (if 0 ≤ x5 then (if (wrap64 (x1 - ((rdOf ByteArray.empty x0 x5).size : Int))) < 0 then (some (-1)) else (laws_szStringS.l0 k x0 (wrap64 (x1 - ((rdOf ByteArray.empty x0 x5).size : Int))) (wrap64 (x5 + 1)))) else (none)) else (some x1)
def laws_szStringS.f (k : Nat) (l0 : List ByteArray) (a1 : Int) : Option (Int) := if (wrap64 (a1 - (l0.length : Int))) < 0 then (some (-1)) else (laws_szStringS.l0 k l0 (wrap64 (a1 - (l0.length : Int))) 0)
set_option maxHeartbeats 8000000 in
set_option maxRecDepth 100000 in
theorem laws_szStringS.calls (k : Nat) (A0 : Option Addr) (c0 : Nat) (l0 : List ByteArray) (a1 : Int) (r : Int) (w : World) (hr0 : Kd.C Kd.string w A0 l0.length l0) (hc0 : l0.length ≤ c0) (h : laws_szStringS.f k l0 a1 = some r) :
  Calls Try.prog 20 #[.slice A0 l0.length c0, .int .i64 a1] w fun e w' => e = .returned (.int .i64 r) ∧ Drawn0 w w' := by
 have HR0 := Aside0.mk hr0
 have HC0 := Aside0.mk hc0
 clear hr0 hc0
 have H : (if (wrap64 (a1 - (l0.length : Int))) < 0 then (some (-1)) else (laws_szStringS.l0 k l0 (wrap64 (a1 - (l0.length : Int))) 0)) = some r := h
 clear h
 by_cases c3 : (wrap64 (a1 - (l0.length : Int))) < 0
 ·rw [if_pos c3] at H
  have c3b0 : decide ((wrap64 (a1 - (l0.length : Int))) < 0) = true := decide_eq_true c3
  clear c3
  obtain rfl := Option.some.inj H
  go_enter Try.func20, Try.ntmps20
  go_wp2
  go_ret
  exact ⟨by first | rfl | (simp; done) | (simp [*]; done), by repeat (first | exact Drawn0.refl _ | apply Drawn0.step)⟩
 ·rw [if_neg c3] at H
  have c3b0 : decide ((wrap64 (a1 - (l0.length : Int))) < 0) = false := decide_eq_false c3
  clear c3
  have H' := Aside0.mk H
  clear H
  go_enter Try.func20, Try.ntmps20
  go_wp2
  go_loopg [1, 5] k (fun kq v1 v5 w' => ∃ (x1_1 : Int) (x5_1 : Int), v1 = .int .i64 x1_1 ∧ v5 = .int .i64 x5_1 ∧ Aside0 (laws_szStringS.l0 kq l0 x1_1 x5_1 = some r) ∧ Aside0 (kq ≤ k) ∧ Drawn0 w w')
  case atStart => exact ⟨(wrap64 (a1 - (l0.length : Int))), (0), zf, zf, H', ⟨Nat.le_refl _⟩, by repeat (first | exact Drawn0.refl _ | apply Drawn0.step)⟩
  case round =>
   clear H'
   try clear c2
   try clear p2
   try clear c3
   try clear c3b0
   obtain ⟨x1_1, x5_1, rfl, rfl, HA, HK1, ⟨m1, rfl⟩⟩ := hrel
   cases gk with
   | zero => exact absurd HA.out (by simp [laws_szStringS.l0])
   | succ k1 =>
    have H := HA.out
    clear HA
    simp only [laws_szStringS.l0] at H
    by_cases c4 : x5_1 < (l0.length : Int)
    ·rw [if_pos c4] at H
     have c4b0 : decide (x5_1 < (l0.length : Int)) = true := decide_eq_true c4
     clear c4
     by_cases c5 : 0 ≤ x5_1
     ·rw [if_pos c5] at H
      have c5b0 : decide (0 ≤ x5_1) = true := decide_eq_true c5
      clear c5
      by_cases c6 : (wrap64 (x1_1 - ((rdOf ByteArray.empty l0 x5_1).size : Int))) < 0
      ·rw [if_pos c6] at H
       have c6b0 : decide ((wrap64 (x1_1 - ((rdOf ByteArray.empty l0 x5_1).size : Int))) < 0) = true := decide_eq_true c6
       clear c6
       obtain rfl := Option.some.inj H
       have p101 : 0 ≤ (x5_1 : Int) := oa
       have q101 : x5_1 < (l0.length : Int) := oa
       obtain ⟨ad101, e101, hx101_0⟩ := Kd.at_string HR0.out x5_1 p101 q101
       cases e101
       replace p101 := eq_true p101
       replace q101 := eq_true q101
       go_wp2
       go_ret
       exact ⟨by first | rfl | (simp; done) | (simp [*]; done), by repeat (first | exact Drawn0.refl _ | apply Drawn0.step)⟩
      ·rw [if_neg c6] at H
       have c6b0 : decide ((wrap64 (x1_1 - ((rdOf ByteArray.empty l0 x5_1).size : Int))) < 0) = false := decide_eq_false c6
       clear c6
       have H' := Aside0.mk H
       clear H
       have p101 : 0 ≤ (x5_1 : Int) := oa
       have q101 : x5_1 < (l0.length : Int) := oa
       obtain ⟨ad101, e101, hx101_0⟩ := Kd.at_string HR0.out x5_1 p101 q101
       cases e101
       replace p101 := eq_true p101
       replace q101 := eq_true q101
       go_wp2
       go_roundg k1
       case measure => have := HK1.out; omega
       case rel => exact ⟨(wrap64 (x1_1 - ((rdOf ByteArray.empty l0 x5_1).size : Int))), (wrap64 (x5_1 + 1)), zf, zf, H', ⟨by have := HK1.out; omega⟩, by repeat (first | exact Drawn0.refl _ | apply Drawn0.step)⟩
     ·rw [if_neg c5] at H
      exact absurd H (by simp)
    ·rw [if_neg c4] at H
     have c4b0 : decide (x5_1 < (l0.length : Int)) = false := decide_eq_false c4
     clear c4
     obtain rfl := Option.some.inj H
     go_wp2
     go_ret
     exact ⟨by first | rfl | (simp; done) | (simp [*]; done), by repeat (first | exact Drawn0.refl _ | apply Drawn0.step)⟩

end Go.Proofs.Ytbbkecdlapemfaa.My

/- Written by this session's program (wip/gen): a plain function with the same answers as the Go function, and the proof that the Go code comes to them. Asked: that the plain function has an answer. -/
namespace Go.Proofs.Ytbbkecdlapemfaa.My
open Go.RowKit Go.Proofs.YtbbkecdlapemfaaW.PrintWords Go.Proofs.YtbbkecdlapemfaaW.PrintLast Go.Proofs.YtbbkecdlapemfaaW.PrintMore
attribute [local go_sem] max2_int min2_int max_two min_two max_three min_three max_four min_four
set_option linter.unusedVariables false
set_option linter.unusedSimpArgs false

/-! ### laws_toStringS: function 22 -/
def laws_toStringS.l0 : Nat → List ByteArray → List ByteArray → Int → Option (List ByteArray)
 | 0, _, _, _ => none
 | k + 1, x0, x3, x4 => if x4 < (x0.length : Int) then (if 0 ≤ x4 then (if x4 < (x3.length : Int) then (laws_toStringS.l0 k x0 (x3.set (x4 : Int).toNat (rdOf ByteArray.empty x0 x4)) (wrap64 (x4 + 1))) else (none)) else (none)) else (some x3)
def laws_toStringS.f (k : Nat) (l0 : List ByteArray) : Option (List ByteArray) := if 0 ≤ (l0.length : Int) then (if ((l0.length : Int) : Int).toNat ≤ 17592186044416 then (laws_toStringS.l0 k l0 (List.replicate ((l0.length : Int) : Int).toNat (⟨#[]⟩ : ByteArray)) 0) else (none)) else (none)
set_option maxHeartbeats 8000000 in
set_option maxRecDepth 100000 in
theorem laws_toStringS.calls (k : Nat) (A0 : Option Addr) (c0 : Nat) (l0 : List ByteArray) (r : List ByteArray) (w : World) (hr0 : Kd.C Kd.string w A0 l0.length l0) (hc0 : l0.length ≤ c0) (h : laws_toStringS.f k l0 = some r) :
  Calls Try.prog 22 #[.slice A0 l0.length c0] w fun e w' => ∃ v0_ : Value, e = .returned (v0_) ∧ Kd.R Kd.string 9 w' w.heap.size (fun _ => True) v0_ r ∧ Below w.heap.size w w' := by
 have HR0 := Aside0.mk hr0
 have HC0 := Aside0.mk hc0
 clear hr0 hc0
 have HB := Aside0.mk (Below.refl w.heap.size w)
 have H : (if 0 ≤ (l0.length : Int) then (if ((l0.length : Int) : Int).toNat ≤ 17592186044416 then (laws_toStringS.l0 k l0 (List.replicate ((l0.length : Int) : Int).toNat (⟨#[]⟩ : ByteArray)) 0) else (none)) else (none)) = some r := h
 clear h
 by_cases c2 : 0 ≤ (l0.length : Int)
 ·rw [if_pos c2] at H
  have c2b0 := eq_true c2
  have c2b1 : decide (0 ≤ (l0.length : Int)) = true := decide_eq_true c2
  clear c2
  by_cases c3 : ((l0.length : Int) : Int).toNat ≤ 17592186044416
  ·rw [if_pos c3] at H
   have c3b0 := eq_true c3
   have c3b1 : decide (((l0.length : Int) : Int).toNat ≤ 17592186044416) = true := decide_eq_true c3
   clear c3
   obtain ⟨y115, hy115⟩ : ∃ y_ : List ByteArray, y_ = (List.replicate ((l0.length : Int) : Int).toNat (⟨#[]⟩ : ByteArray)) := ⟨_, rfl⟩
   replace H : (laws_toStringS.l0 k l0 y115 0) = some r := by first | (rw [hy115]; with_reducible exact H) | (have H2_ := (Option.bind_some _ _).symm.trans H; rw [hy115]; with_reducible exact H2_) | (have H2_ := (Option.bind_some _ _).symm.trans H; with_reducible exact H2_) | with_reducible exact H | (rw [hy115]; exact H) | exact H
   have Ny115 := Aside0.mk hy115
   clear hy115
   have H' := Aside0.mk H
   clear H
   go_enter Try.func22, Try.ntmps22
   go_wp2_with (first | ((with_reducible refine gate_dst (N := 7) rfl ?_); refine Kd.R_make Kd.string _ 9 rfl (N := 7) rfl 29 _ _ rfl (l0.length : Int) rfl rfl Try.underlying29 (.string ⟨#[]⟩) 16 info9 rfl (by decide) (by omega) (⟨#[]⟩ : ByteArray) (ok := fun _ => True) (okp := fun _ => True) rfl (fun _ hk => hk) trivial oa (Nat.le_trans (Nat.mul_le_mul_right _ (oa : (l0.length : Int).toNat ≤ 17592186044416)) (by omega)) (Below.refl _ _) (Nat.le_refl _) ?_; intro v116 w4 ho5 hb hg_ hnew_; clear hg_ hnew_; (first | rw [← Ny115.out] at ho5 | (simp only [Int.reduceToNat] at ho5; rw [← Ny115.out] at ho5)); have n0_ := Aside0.mk (Kd.R_lower ho5 (below_size zb)); have n1_ := Aside0.mk (below_step zb hb); clear HB; have HO117 := n0_; have HB := n1_; clear n0_ n1_; clear hb ho5))
   go_loopg [4] k (fun kq v4 w' => ∃ (x3_1 : List ByteArray) (x4_1 : Int), v4 = .int .i64 x4_1 ∧ Aside0 (laws_toStringS.l0 kq l0 x3_1 x4_1 = some r) ∧ Aside0 (kq ≤ k) ∧ Aside0 (Kd.R Kd.string 9 w' w.heap.size (fun _ => True) v116 x3_1) ∧ Aside0 (Below w.heap.size w w'))
   case atStart => exact ⟨(y115), (0), zf, H', ⟨Nat.le_refl _⟩, ⟨by (with_reducible repeat (first | apply Kd.R_alloc | apply Kd.R_drewN | apply Kd.R_drew)); exact HO117.out⟩, ⟨by repeat (first | (with_reducible first | exact HB.out | apply below_alloc | apply pw_below_drewN | apply below_drew1) | exact HB.out)⟩⟩
   case round =>
    clear H'
    try clear c2
    try clear c2b0
    try clear c2b1
    try clear p2
    try clear c3
    try clear c3b0
    try clear c3b1
    obtain ⟨x3_1, x4_1, rfl, HA, HK1, HO_3, HB⟩ := hrel
    cases gk with
    | zero => exact absurd HA.out (by simp [laws_toStringS.l0])
    | succ k1 =>
     have H := HA.out
     clear HA
     simp only [laws_toStringS.l0] at H
     by_cases c6 : x4_1 < (l0.length : Int)
     ·rw [if_pos c6] at H
      have c6b0 : decide (x4_1 < (l0.length : Int)) = true := decide_eq_true c6
      clear c6
      by_cases c7 : 0 ≤ x4_1
      ·rw [if_pos c7] at H
       have c7b0 : decide (0 ≤ x4_1) = true := decide_eq_true c7
       clear c7
       by_cases c8 : x4_1 < (x3_1.length : Int)
       ·rw [if_pos c8] at H
        have c8b0 : decide (x4_1 < (x3_1.length : Int)) = true := decide_eq_true c8
        clear c8
        obtain ⟨y119, hy119⟩ : ∃ y_ : List ByteArray, y_ = (x3_1.set (x4_1 : Int).toNat (rdOf ByteArray.empty l0 x4_1)) := ⟨_, rfl⟩
        replace H : (laws_toStringS.l0 k1 l0 y119 (wrap64 (x4_1 + 1))) = some r := by first | (rw [hy119]; with_reducible exact H) | (have H2_ := (Option.bind_some _ _).symm.trans H; rw [hy119]; with_reducible exact H2_) | (have H2_ := (Option.bind_some _ _).symm.trans H; with_reducible exact H2_) | with_reducible exact H | (rw [hy119]; exact H) | exact H
        have Ny119 := Aside0.mk hy119
        clear hy119
        have H' := Aside0.mk H
        clear H
        have p118 : 0 ≤ (x4_1 : Int) := oa
        have q118 : x4_1 < (l0.length : Int) := oa
        obtain ⟨ad118, e118, hx118_0⟩ := Kd.at_string HR0.out x4_1 p118 q118
        cases e118
        replace hx118_0 := (HB.out.cell (World.block_lt_of_cell? w _ hx118_0)).trans hx118_0
        replace p118 := eq_true p118
        replace q118 := eq_true q118
        have p9 : 0 ≤ (x4_1 : Int) := oa
        have q9 : (x4_1 : Int) < ((x3_1.length : Int) : Int) := oa
        obtain ⟨go9, co9, eo9, gb9, gl9, cl9, HG9⟩ := Kd.R_form HO_3.out (by omega)
        (first | cases eo9 | (injection eo9 with ea_ en_ ec_; (first | subst ea_ | (injection ea_ with ea_; subst ea_)); subst ec_; clear en_))
        have GB9 := Aside0.mk gb9
        have GG9 := Aside0.mk HG9
        clear gb9 gl9 HG9
        obtain ⟨hx9_0, hf9_0⟩ := Kd.R_celln (⟨#[]⟩ : ByteArray) HO_3.out (x4_1 : Int) p9 q9
        replace p9 := eq_true p9
        replace q9 := eq_true q9
        have HP10 := Kd.R_putg HO_3.out (x4_1 : Int) (rdOf ByteArray.empty l0 x4_1)
        go_wp2_with (first | ((with_reducible refine gate_store (t := 9) (p := 20) rfl ?_); refine store_event (t := 9) (p := 20) (v := ?vo_w11) (w1 := (wr.setCell ⟨go9, (x4_1 : Int).toNat, none⟩ (.string (rdOf ByteArray.empty l0 x4_1)))) ?hg ?ho ?hn ?hr ?_; (case ho => rfl); (case hg => rfl); (case hn => rfl); (case hr => first | (go_simp; done) | (go_simp; rfl)); intro w11 hw; have hg : wr.grownBy w11 (some go9) := (by rw [hw]; exact HP10.2); have hp_ : Kd.R Kd.string 9 w11 w.heap.size (fun _ => True) (.slice (some ⟨go9, 0, none⟩) x3_1.length co9) y119 := (by rw [hw, Ny119.out]; exact HP10.1); clear HP10; have n0_ := Aside0.mk (hp_); have n1_ := Aside0.mk ((by rw [hw]; exact below_set (HB.out) GB9.out : Below w.heap.size w w11)); clear HO_3; clear HB; have HO_3 := n0_; have HB := n1_; clear n0_ n1_; clear hg hw hp_))
        go_roundg k1
        case measure => have := HK1.out; omega
        case rel => exact ⟨(y119), (wrap64 (x4_1 + 1)), zf, H', ⟨by have := HK1.out; omega⟩, ⟨by (with_reducible repeat (first | apply Kd.R_alloc | apply Kd.R_drewN | apply Kd.R_drew)); exact HO_3.out⟩, ⟨by repeat (first | (with_reducible first | exact HB.out | apply below_alloc | apply pw_below_drewN | apply below_drew1) | exact HB.out)⟩⟩
       ·rw [if_neg c8] at H
        exact absurd H (by simp)
      ·rw [if_neg c7] at H
       exact absurd H (by simp)
     ·rw [if_neg c6] at H
      have c6b0 : decide (x4_1 < (l0.length : Int)) = false := decide_eq_false c6
      clear c6
      obtain rfl := Option.some.inj H
      go_wp2
      go_ret
      exact ⟨_, by first | rfl | (simp [errW_none, errW_some] <;> rfl) | (simp [*, errW_none, errW_some] <;> rfl), by (with_reducible repeat (first | apply Kd.R_alloc | apply Kd.R_drewN | apply Kd.R_drew)); exact HO_3.out, by repeat (first | (with_reducible first | exact HB.out | apply below_alloc | apply pw_below_drewN | apply below_drew1) | exact HB.out)⟩
  ·rw [if_neg c3] at H
   exact absurd H (by simp)
 ·rw [if_neg c2] at H
  exact absurd H (by simp)

end Go.Proofs.Ytbbkecdlapemfaa.My

/- Plain Lean: what the laws' own helpers on lists of strings come to. Conditions: lengths and sizes below 2^63. -/
namespace Go.Proofs.Ytbbkecdlapemfaa.Pl
open Go.RowKit Go.Proofs.YtbbkecdlapemfaaW.PrintWords Go.Proofs.YtbbkecdlapemfaaW.PrintLast Go.Proofs.Ytbbkecdlapemfaa.My
set_option linter.unusedVariables false
set_option linter.unusedSimpArgs false

/-- What came in fits. -/
def FitS (l : List ByteArray) : Prop := l.length ≤ 9223372036854775807 ∧ ∀ s ∈ l, s.size ≤ 9223372036854775807
def sumS (l : List ByteArray) : Nat := (l.map ByteArray.size).sum
def szS (l : List ByteArray) : Nat := l.length + sumS l

theorem sumS_drop (l : List ByteArray) (i : Nat) (h : i < l.length) : sumS (l.drop i) = l[i].size + sumS (l.drop (i + 1)) := by
  unfold sumS
  rw [List.drop_eq_getElem_cons h, List.map_cons, List.sum_cons]

theorem sumS_mem (l : List ByteArray) (s : ByteArray) (h : s ∈ l) : s.size ≤ sumS l := by
  unfold sumS
  induction l with
  | nil => simp at h
  | cons a l ih =>
    simp only [List.map_cons, List.sum_cons]
    rcases List.mem_cons.1 h with rfl | h
    · omega
    · have := ih h
      omega

theorem fitS_of_sz {l : List ByteArray} (h : szS l ≤ 9223372036854775807) : FitS l := by
  unfold szS at h
  exact ⟨by omega, fun s hs => by have := sumS_mem l s hs; omega⟩

theorem fitS_of_wl {l : List ByteArray} (h : WL Wstr l) : FitS l := by
  unfold WL Wstr maxLen at h
  exact h

/-- What is left of so many letters and values. -/
def leftOf (a : Int) (n : Nat) (r : Int) : Prop := r < 0 ∨ (0 ≤ r ∧ r + n = a)

theorem szStringS_l0 (l : List ByteArray) (hf : FitS l) : ∀ d i (a : Int), i + d = l.length → 0 ≤ a → a ≤ 1048576 → ∃ r, Ev (fun k => laws_szStringS.l0 k l a (i : Int)) r ∧ leftOf a (sumS (l.drop i)) r := by
  intro d
  have hL := hf.1
  induction d with
  | zero =>
    intro i a hi h0 h1
    refine ⟨a, Ev.step (fun k => laws_szStringS.l0.eq_2 ..) (ev_neg (by omega) (ev_some rfl)), .inr ⟨h0, ?_⟩⟩
    rw [List.drop_of_length_le (by omega)]
    simp [sumS]
  | succ d ih =>
    intro i a hi h0 h1
    have hlt : i < l.length := by omega
    have hs := hf.2 _ (List.getElem_mem hlt)
    rw [sumS_drop l i hlt]
    by_cases h : a - (l[i].size : Int) < 0
    · refine ⟨-1, Ev.step (fun k => laws_szStringS.l0.eq_2 ..) (ev_pos (by omega) (ev_pos (by omega) (ev_pos ?_ (ev_some rfl)))), .inl (by omega)⟩
      rw [rdOf_lt _ _ _ hlt, wrap64_id (by omega) (by omega)]
      exact h
    · obtain ⟨r, hr, hl⟩ := ih (i + 1) (a - (l[i].size : Int)) (by omega) (by omega) (by omega)
      refine ⟨r, Ev.step (fun k => laws_szStringS.l0.eq_2 ..) (ev_pos (by omega) (ev_pos (by omega) (ev_neg ?_ ?_))), ?_⟩
      · rw [rdOf_lt _ _ _ hlt, wrap64_id (by omega) (by omega)]
        exact h
      · rw [rdOf_lt _ _ _ hlt, wrap64_id (by omega) (by omega), wrap_succ i (by omega)]
        exact hr
      · rcases hl with hl | hl
        · exact .inl hl
        · exact .inr (by omega)

theorem szStringS_ev (l : List ByteArray) (hf : FitS l) (a : Int) (h0 : 0 ≤ a) (h1 : a ≤ 1048576) : ∃ r, Ev (fun k => laws_szStringS.f k l a) r ∧ leftOf a (szS l) r := by
  have hL := hf.1
  simp only [laws_szStringS.f]
  rw [wrap64_id (by omega) (by omega)]
  by_cases h : a - (l.length : Int) < 0
  · exact ⟨-1, ev_pos h (ev_some rfl), .inl (by omega)⟩
  · obtain ⟨r, hr, hl⟩ := szStringS_l0 l hf l.length 0 (a - (l.length : Int)) (by omega) (by omega) (by omega)
    refine ⟨r, ev_neg h hr, ?_⟩
    rcases hl with hl | hl
    · exact .inl hl
    · rw [List.drop_zero] at hl
      exact .inr (by unfold szS; omega)

theorem toStringS_l0 (l : List ByteArray) (hL : l.length ≤ 17592186044416) : ∀ d i (o : List ByteArray), i + d = l.length → o.length = l.length → o.take i = l.take i → Ev (fun k => laws_toStringS.l0 k l o (i : Int)) l := by
  intro d
  induction d with
  | zero =>
    intro i o hi hl ht
    refine Ev.step (fun k => laws_toStringS.l0.eq_2 ..) (ev_neg (by omega) (ev_some ?_))
    rw [List.take_of_length_le (by omega), List.take_of_length_le (by omega)] at ht
    exact ht
  | succ d ih =>
    intro i o hi hl ht
    have hlt : i < l.length := by omega
    refine Ev.step (fun k => laws_toStringS.l0.eq_2 ..) (ev_pos (by omega) (ev_pos (by omega) (ev_pos (by omega) ?_)))
    rw [wrap_succ i (by omega), Int.toNat_natCast, rdOf_lt _ _ _ hlt]
    refine ih (i + 1) _ (by omega) (by rw [List.length_set]; exact hl) ?_
    rw [List.take_succ_eq_append_getElem (by rw [List.length_set]; omega), List.take_succ_eq_append_getElem hlt, List.getElem_set_self, List.take_set_of_le (Nat.le_refl i), ht]

theorem toStringS_ev (l : List ByteArray) (hL : l.length ≤ 17592186044416) : Ev (fun k => laws_toStringS.f k l) l := by
  simp only [laws_toStringS.f]
  refine ev_pos (by omega) (ev_pos (by omega) ?_)
  exact toStringS_l0 l hL l.length 0 _ (by omega) (by simp) rfl

theorem eqStringS_l0 (a b : List ByteArray) (hab : a.length = b.length) (hL : a.length ≤ 9223372036854775807) : ∀ d i, i + d = a.length → Ev (fun k => laws_eqStringS.l0 k a b (i : Int)) (decide (a.drop i = b.drop i)) := by
  intro d
  induction d with
  | zero =>
    intro i hi
    refine Ev.step (fun k => laws_eqStringS.l0.eq_2 ..) (ev_neg (by omega) (ev_some ?_))
    rw [List.drop_of_length_le (by omega), List.drop_of_length_le (by omega)]
    simp
  | succ d ih =>
    intro i hi
    have h1 : i < a.length := by omega
    have h2 : i < b.length := by omega
    refine Ev.step (fun k => laws_eqStringS.l0.eq_2 ..) (ev_pos (by omega) (ev_pos (by omega) (ev_pos (by omega) ?_)))
    rw [rdOf_lt _ _ _ h1, rdOf_lt _ _ _ h2, drop_cons a i h1, drop_cons b i h2]
    refine ev_ite (fun h => ?_) (fun h => ev_some ?_)
    · rw [wrap_succ i (by omega)]
      refine ev_to (ih (i + 1) (by omega)) ?_
      rw [ba_ext h]
      simp only [List.cons.injEq, true_and]
    · have : ¬ a[i] = b[i] := fun e => h (by rw [e])
      simp only [List.cons.injEq, this, false_and, decide_false]

theorem eqStringS_ev (a b : List ByteArray) (hL : a.length ≤ 9223372036854775807) : Ev (fun k => laws_eqStringS.f k a b) (decide (a = b)) := by
  simp only [laws_eqStringS.f]
  refine ev_ite (fun h => ?_) (fun h => ev_some ?_)
  · exact eqStringS_l0 a b (by omega) hL a.length 0 (by omega)
  · have : ¬ a = b := fun e => h (by rw [e])
    simp [this]
end Go.Proofs.Ytbbkecdlapemfaa.Pl

/- Plain Lean: what a whole number that came in is bounded by. No condition. -/
namespace Go.Proofs.Ytbbkecdlapemfaa.Pl
open Go.RowKit Go.Proofs.YtbbkecdlapemfaaW.PrintWords Go.Proofs.YtbbkecdlapemfaaW.PrintLast Go.Proofs.Ytbbkecdlapemfaa.My
theorem wint_bounds {z : Int} (h : Wint z) : -9223372036854775808 ≤ z ∧ z ≤ 9223372036854775807 := by
  have h' : (Lit.int .i64 z).wf = true := h
  simp [Lit.wf, show IntKind.i64.min = -9223372036854775808 from rfl, show IntKind.i64.max = 9223372036854775807 from rfl] at h'
  omega
end Go.Proofs.Ytbbkecdlapemfaa.Pl

/- Plain Lean: what the laws' helpers on rows come to. Conditions: lengths and sizes below 2^63. -/
namespace Go.Proofs.Ytbbkecdlapemfaa.Pl
open Go.RowKit Go.Proofs.YtbbkecdlapemfaaW.PrintWords Go.Proofs.YtbbkecdlapemfaaW.PrintLast Go.Proofs.Ytbbkecdlapemfaa.My
set_option linter.unusedVariables false
set_option linter.unusedSimpArgs false

abbrev LR := S128
abbrev IR := S129
def toR (x : LR) : IR := ⟨x.f0, x.f1⟩
def FitR (l : List LR) : Prop := l.length ≤ 9223372036854775807 ∧ ∀ x ∈ l, Wint x.f0 ∧ x.f1.size ≤ 9223372036854775807
def szR (l : List LR) : Nat := l.length + (l.map fun x => x.f1.size).sum
theorem fitR_of_wl {l : List LR} (h : WL W128 l) : FitR l := by
  refine ⟨h.1, fun x hx => ?_⟩
  obtain ⟨h0, h1⟩ := h.2 x hx
  exact ⟨h0, h1⟩
theorem sumR_drop (l : List LR) (i : Nat) (h : i < l.length) : ((l.drop i).map fun x => x.f1.size).sum = l[i].f1.size + ((l.drop (i + 1)).map fun x => x.f1.size).sum := by
  rw [List.drop_eq_getElem_cons h, List.map_cons, List.sum_cons]
theorem rdLR (l : List LR) (i : Nat) (h : i < l.length) : rd_T128 l (i : Int) = l[i] := getD_lt l _ i h
theorem rdIR (l : List IR) (i : Nat) (h : i < l.length) : rd_T129 l (i : Int) = l[i] := getD_lt l _ i h

theorem szRowS_l0 (l : List LR) (hf : FitR l) : ∀ d i (a : Int), i + d = l.length → 0 ≤ a → a ≤ 1048576 → ∃ r, Ev (fun k => laws_szRowS.l0 k l a (i : Int)) r ∧ leftOf a (((l.drop i).map fun x => x.f1.size).sum) r := by
  intro d
  have hL := hf.1
  induction d with
  | zero =>
    intro i a hi h0 h1
    refine ⟨a, Ev.step (fun k => laws_szRowS.l0.eq_2 ..) (ev_neg (by omega) (ev_some rfl)), .inr ⟨h0, ?_⟩⟩
    rw [List.drop_of_length_le (by omega)]
    simp
  | succ d ih =>
    intro i a hi h0 h1
    have hlt : i < l.length := by omega
    have hs := (hf.2 _ (List.getElem_mem hlt)).2
    rw [sumR_drop l i hlt]
    have hz : laws_szRow.f (rd_T128 l (i : Int)).f0 (rd_T128 l (i : Int)).f1 a = some (if a - (l[i].f1.size : Int) < 0 then -1 else a - (l[i].f1.size : Int)) := by
      rw [rdLR l i hlt]
      simp only [laws_szRow.f]
      rw [wrap64_id (by omega) (by omega)]
      split <;> rfl
    by_cases h : a - (l[i].f1.size : Int) < 0
    · rw [if_pos h] at hz
      exact ⟨-1, Ev.step (fun k => laws_szRowS.l0.eq_2 ..) (ev_pos (by omega) (ev_pos (by omega) (ev_bind (ev_const hz) (ev_pos (by omega) (ev_some rfl))))), .inl (by omega)⟩
    · rw [if_neg h] at hz
      obtain ⟨r, hr, hl⟩ := ih (i + 1) (a - (l[i].f1.size : Int)) (by omega) (by omega) (by omega)
      refine ⟨r, Ev.step (fun k => laws_szRowS.l0.eq_2 ..) (ev_pos (by omega) (ev_pos (by omega) (ev_bind (ev_const hz) (ev_neg h ?_)))), ?_⟩
      · rw [wrap_succ i (by omega)]
        exact hr
      · rcases hl with hl | hl
        · exact .inl hl
        · exact .inr (by omega)
theorem szRowS_ev (l : List LR) (hf : FitR l) (a : Int) (h0 : 0 ≤ a) (h1 : a ≤ 1048576) : ∃ r, Ev (fun k => laws_szRowS.f k l a) r ∧ leftOf a (szR l) r := by
  have hL := hf.1
  simp only [laws_szRowS.f]
  rw [wrap64_id (by omega) (by omega)]
  by_cases h : a - (l.length : Int) < 0
  · exact ⟨-1, ev_pos h (ev_some rfl), .inl (by omega)⟩
  · obtain ⟨r, hr, hl⟩ := szRowS_l0 l hf l.length 0 (a - (l.length : Int)) (by omega) (by omega) (by omega)
    refine ⟨r, ev_neg h hr, ?_⟩
    rcases hl with hl | hl
    · exact .inl hl
    · rw [List.drop_zero] at hl
      exact .inr (by unfold szR; omega)

theorem toRowS_l0 (l : List LR) (hL : l.length ≤ 1048576) : ∀ d i (o : List IR), i + d = l.length → o.length = l.length → o.take i = (l.map toR).take i → Ev (fun k => laws_toRowS.l0 k l o (i : Int)) (l.map toR) := by
  intro d
  induction d with
  | zero =>
    intro i o hi hl ht
    refine Ev.step (fun k => laws_toRowS.l0.eq_2 ..) (ev_neg (by omega) (ev_some ?_))
    rw [List.take_of_length_le (by omega), List.take_of_length_le (by rw [List.length_map]; omega)] at ht
    exact ht
  | succ d ih =>
    intro i o hi hl ht
    have hlt : i < l.length := by omega
    have hx : laws_toRow.f (rd_T128 l (i : Int)).f0 (rd_T128 l (i : Int)).f1 = some (l[i].f0, l[i].f1) := by
      rw [rdLR l i hlt]
      rfl
    refine Ev.step (fun k => laws_toRowS.l0.eq_2 ..) (ev_pos (by omega) (ev_pos (by omega) (ev_bind (ev_const hx) (ev_pos (by omega) ?_))))
    rw [wrap_succ i (by omega), Int.toNat_natCast]
    refine ih (i + 1) _ (by omega) (by rw [List.length_set]; exact hl) ?_
    rw [List.take_succ_eq_append_getElem (by rw [List.length_set]; omega), List.take_succ_eq_append_getElem (by rw [List.length_map]; exact hlt), List.getElem_set_self, List.take_set_of_le (Nat.le_refl i), ht, List.getElem_map]
    rfl
theorem toRowS_ev (l : List LR) (hL : l.length ≤ 1048576) : Ev (fun k => laws_toRowS.f k l) (l.map toR) := by
  simp only [laws_toRowS.f]
  refine ev_pos (by omega) (ev_pos (by omega) ?_)
  exact toRowS_l0 l hL l.length 0 _ (by omega) (by simp) rfl

/-- Rows that came in fit. -/
def FitIR (l : List IR) : Prop := l.length ≤ 9223372036854775807 ∧ ∀ x ∈ l, (-9223372036854775808 ≤ x.f0 ∧ x.f0 ≤ 9223372036854775807) ∧ x.f1.size ≤ 9223372036854775807
theorem fitIR_of {l : List LR} (h : FitR l) : FitIR (l.map toR) := by
  refine ⟨by rw [List.length_map]; exact h.1, fun x hx => ?_⟩
  obtain ⟨y, hy, rfl⟩ := List.mem_map.1 hx
  exact ⟨wint_bounds (h.2 y hy).1, (h.2 y hy).2⟩
theorem ir_ext {x y : IR} (h0 : x.f0 = y.f0) (h1 : x.f1 = y.f1) : x = y := by
  cases x; cases y; simp_all
instance : DecidableEq IR := fun x y => decidable_of_iff (x.f0 = y.f0 ∧ x.f1 = y.f1) ⟨fun ⟨a, b⟩ => ir_ext a b, fun h => by rw [h]; exact ⟨rfl, rfl⟩⟩
theorem eqRow_eq (x y : IR) : laws_eqRow.f x.f0 x.f1 y.f0 y.f1 = some (decide (x = y)) := by
  simp only [laws_eqRow.f]
  by_cases h0 : x.f0 = y.f0
  · rw [if_pos h0]
    by_cases h1 : x.f1.toList = y.f1.toList
    · rw [if_pos h1, ir_ext h0 (ba_ext h1)]
      simp
    · rw [if_neg h1]
      have : ¬ x = y := fun e => h1 (by rw [e])
      simp [this]
  · rw [if_neg h0]
    have : ¬ x = y := fun e => h0 (by rw [e])
    simp [this]
theorem eqRowS_l0 (a b : List IR) (hab : a.length = b.length) (hL : a.length ≤ 9223372036854775807) : ∀ d i, i + d = a.length → Ev (fun k => laws_eqRowS.l0 k a b (i : Int)) (decide (a.drop i = b.drop i)) := by
  intro d
  induction d with
  | zero =>
    intro i hi
    refine Ev.step (fun k => laws_eqRowS.l0.eq_2 ..) (ev_neg (by omega) (ev_some ?_))
    rw [List.drop_of_length_le (by omega), List.drop_of_length_le (by omega)]
    simp
  | succ d ih =>
    intro i hi
    have h1 : i < a.length := by omega
    have h2 : i < b.length := by omega
    refine Ev.step (fun k => laws_eqRowS.l0.eq_2 ..) (ev_pos (by omega) (ev_pos (by omega) (ev_pos (by omega) ?_)))
    simp only [rdIR _ _ h1, rdIR _ _ h2, drop_cons a i h1, drop_cons b i h2]
    refine ev_bind (ev_const (eqRow_eq _ _)) (ev_ite (fun h => ?_) (fun h => ev_some ?_))
    · rw [wrap_succ i (by omega)]
      refine ev_to (ih (i + 1) (by omega)) ?_
      rw [of_decide_eq_true h]
      simp only [List.cons.injEq, true_and]
    · have : ¬ a[i] = b[i] := fun e => h (decide_eq_true e)
      simp only [List.cons.injEq, this, false_and, decide_false]
theorem eqRowS_ev (a b : List IR) (hL : a.length ≤ 9223372036854775807) : Ev (fun k => laws_eqRowS.f k a b) (decide (a = b)) := by
  simp only [laws_eqRowS.f]
  refine ev_ite (fun h => ?_) (fun h => ev_some ?_)
  · exact eqRowS_l0 a b (by omega) hL a.length 0 (by omega)
  · have : ¬ a = b := fun e => h (by rw [e])
    simp [this]
end Go.Proofs.Ytbbkecdlapemfaa.Pl

/- Plain Lean: whether a number lies between two. No condition. -/
namespace Go.Proofs.Ytbbkecdlapemfaa.Pl
open Go.RowKit Go.Proofs.YtbbkecdlapemfaaW.PrintWords Go.Proofs.YtbbkecdlapemfaaW.PrintLast Go.Proofs.Ytbbkecdlapemfaa.My
set_option linter.unusedVariables false
set_option linter.unusedSimpArgs false

def inB (n lo hi : Int) : Bool := decide (lo ≤ n) && decide (n ≤ hi)
theorem inB_iff (a b c : Int) : inB a b c = true ↔ b ≤ a ∧ a ≤ c := by
  unfold inB
  rw [Bool.and_eq_true, decide_eq_true_eq, decide_eq_true_eq]
theorem impl_in_eq (a b c : Int) : impl_in.f a b c = some (inB a b c) := by
  unfold impl_in.f inB
  by_cases h : b ≤ a
  · rw [if_pos h]; simp [h]
  · rw [if_neg (by omega)]; simp [h]
theorem spec_l1In_eq (a b c : Int) : spec_l1In.f a b c = some (inB a b c) := by
  unfold spec_l1In.f inB
  by_cases h : b ≤ a
  · rw [if_pos h]; simp [h]
  · rw [if_neg (by omega)]; simp [h]
end Go.Proofs.Ytbbkecdlapemfaa.Pl

/- Written by this session's program (wip/gen): a plain function with the same answers as the Go function, and the proof that the Go code comes to them. Asked: that the plain function has an answer. -/
namespace Go.Proofs.Ytbbkecdlapemfaa.My
open Go.RowKit Go.Proofs.YtbbkecdlapemfaaW.PrintWords Go.Proofs.YtbbkecdlapemfaaW.PrintLast Go.Proofs.YtbbkecdlapemfaaW.PrintMore
attribute [local go_sem] max2_int min2_int max_two min_two max_three min_three max_four min_four
set_option linter.unusedVariables false
set_option linter.unusedSimpArgs false

/-! ### spec_l1Good: function 72 -/
def spec_l1Good.l0 : Nat → List ByteArray → List ByteArray → Int → Int → Option (Bool)
 | 0, _, _, _, _ => none
 | k + 1, x0, x5, x6, x7 => if x7 < x6 then (if 0 ≤ x7 then (if x7 < (x5.length : Int) then ((spec_l1Line.f k (rdOf ByteArray.empty x5 x7)).bind fun t278 => (if t278 = true then (if x7 < (wrap64 ((x0.length : Int) - 1)) then ((spec_l1Ends.f (rdOf ByteArray.empty x5 x7)).bind fun t279 => (if t279 = true then (spec_l1Good.l0 k x0 x5 x6 (wrap64 (x7 + 1))) else (some false))) else (spec_l1Good.l0 k x0 x5 x6 (wrap64 (x7 + 1)))) else (some false))) else (none)) else (none)) else (some (decide ((x0.length : Int) ≤ 40)))
def spec_l1Good.f (k : Nat) (l0 : List ByteArray) : Option (Bool) := spec_l1Good.l0 k l0 l0 (l0.length : Int) 0
set_option maxHeartbeats 8000000 in
set_option maxRecDepth 100000 in
theorem spec_l1Good.calls (k : Nat) (A0 : Option Addr) (c0 : Nat) (l0 : List ByteArray) (r : Bool) (w : World) (hr0 : Kd.C Kd.string w A0 l0.length l0) (hc0 : l0.length ≤ c0) (h : spec_l1Good.f k l0 = some r) :
  Calls Try.prog 72 #[.slice A0 l0.length c0] w fun e w' => e = .returned (.bool r) ∧ Drawn0 w w' := by
 have HR0 := Aside0.mk hr0
 have HC0 := Aside0.mk hc0
 clear hr0 hc0
 have H : (spec_l1Good.l0 k l0 l0 (l0.length : Int) 0) = some r := h
 clear h
 have H' := Aside0.mk H
 clear H
 go_enter Try.func72, Try.ntmps72
 go_wp2
 go_loopg [7] k (fun kq v7 w' => ∃ (x7_1 : Int), v7 = .int .i64 x7_1 ∧ Aside0 (spec_l1Good.l0 kq l0 l0 (l0.length : Int) x7_1 = some r) ∧ Aside0 (kq ≤ k) ∧ Drawn0 w w')
 case atStart => exact ⟨(0), zf, H', ⟨Nat.le_refl _⟩, by repeat (first | exact Drawn0.refl _ | apply Drawn0.step)⟩
 case round =>
  clear H'
  obtain ⟨x7_1, rfl, HA, HK1, ⟨m1, rfl⟩⟩ := hrel
  cases gk with
  | zero => exact absurd HA.out (by simp [spec_l1Good.l0])
  | succ k1 =>
   have H := HA.out
   clear HA
   simp only [spec_l1Good.l0] at H
   by_cases c2 : x7_1 < (l0.length : Int)
   ·rw [if_pos c2] at H
    have c2b0 : decide (x7_1 < (l0.length : Int)) = true := decide_eq_true c2
    clear c2
    by_cases c3 : 0 ≤ x7_1
    ·rw [if_pos c3] at H
     have c3b0 : decide (0 ≤ x7_1) = true := decide_eq_true c3
     clear c3
     by_cases c4 : x7_1 < (l0.length : Int)
     ·rw [if_pos c4] at H
      have c4b0 : decide (x7_1 < (l0.length : Int)) = true := decide_eq_true c4
      clear c4
      replace H := Option.bind_eq_some_iff.mp H
      obtain ⟨t278, A50, H⟩ := H
      replace H : (if t278 = true then (if x7_1 < (wrap64 ((l0.length : Int) - 1)) then ((spec_l1Ends.f (rdOf ByteArray.empty l0 x7_1)).bind fun t279 => (if t279 = true then (spec_l1Good.l0 k1 l0 l0 (l0.length : Int) (wrap64 (x7_1 + 1))) else (some false))) else (spec_l1Good.l0 k1 l0 l0 (l0.length : Int) (wrap64 (x7_1 + 1)))) else (some false)) = some r := H
      have A5 := Aside0.mk A50
      clear A50
      by_cases c6 : t278 = true
      ·subst c6
       have H1 : (if x7_1 < (wrap64 ((l0.length : Int) - 1)) then ((spec_l1Ends.f (rdOf ByteArray.empty l0 x7_1)).bind fun t279 => (if t279 = true then (spec_l1Good.l0 k1 l0 l0 (l0.length : Int) (wrap64 (x7_1 + 1))) else (some false))) else (spec_l1Good.l0 k1 l0 l0 (l0.length : Int) (wrap64 (x7_1 + 1)))) = some r := by rw [if_pos rfl] at H; exact H
       clear H
       have H := H1
       clear H1
       by_cases c7 : x7_1 < (wrap64 ((l0.length : Int) - 1))
       ·rw [if_pos c7] at H
        have c7b0 : decide (x7_1 < (wrap64 ((l0.length : Int) - 1))) = true := decide_eq_true c7
        clear c7
        replace H := Option.bind_eq_some_iff.mp H
        obtain ⟨t279, A80, H⟩ := H
        replace H : (if t279 = true then (spec_l1Good.l0 k1 l0 l0 (l0.length : Int) (wrap64 (x7_1 + 1))) else (some false)) = some r := H
        have A8 := Aside0.mk A80
        clear A80
        by_cases c9 : t279 = true
        ·subst c9
         have H1 : (spec_l1Good.l0 k1 l0 l0 (l0.length : Int) (wrap64 (x7_1 + 1))) = some r := by rw [if_pos rfl] at H; exact H
         clear H
         have H := H1
         clear H1
         have H' := Aside0.mk H
         clear H
         have p277 : 0 ≤ (x7_1 : Int) := oa
         have q277 : x7_1 < (l0.length : Int) := oa
         obtain ⟨ad277, e277, hx277_0⟩ := Kd.at_string HR0.out x7_1 p277 q277
         cases e277
         replace p277 := eq_true p277
         replace q277 := eq_true q277
         go_wp2_with (first | ((with_reducible refine gateC (f := 87) rfl ?_); refine goesL_ (some 13) rfl rfl Try.func87 (by kernel_rfl) rfl #[.string (rdOf ByteArray.empty l0 x7_1)] rfl zm ?_; (with_reducible refine (spec_l1Line.calls k1 (rdOf ByteArray.empty l0 x7_1) true _ A5.out).mono ?_); rintro e w' ⟨rfl, ⟨nd, rfl⟩⟩; refine ⟨_, rfl, ?_⟩) | (go_at_call 117; (with_reducible refine (spec_l1Ends.calls (rdOf ByteArray.empty l0 x7_1) true _ A8.out).mono ?_); rintro e w' ⟨rfl, ⟨nd, rfl⟩⟩))
         go_roundg k1
         case measure => have := HK1.out; omega
         case rel => exact ⟨(wrap64 (x7_1 + 1)), zf, H', ⟨by have := HK1.out; omega⟩, by repeat (first | exact Drawn0.refl _ | apply Drawn0.step)⟩
        ·replace c9 := Bool.eq_false_iff.mpr c9
         subst c9
         have H1 : (some false) = some r := by rw [if_neg (show ¬ (false = true) by decide)] at H; exact H
         clear H
         have H := H1
         clear H1
         obtain rfl := Option.some.inj H
         have p277 : 0 ≤ (x7_1 : Int) := oa
         have q277 : x7_1 < (l0.length : Int) := oa
         obtain ⟨ad277, e277, hx277_0⟩ := Kd.at_string HR0.out x7_1 p277 q277
         cases e277
         replace p277 := eq_true p277
         replace q277 := eq_true q277
         go_wp2_with (first | ((with_reducible refine gateC (f := 87) rfl ?_); refine goesL_ (some 13) rfl rfl Try.func87 (by kernel_rfl) rfl #[.string (rdOf ByteArray.empty l0 x7_1)] rfl zm ?_; (with_reducible refine (spec_l1Line.calls k1 (rdOf ByteArray.empty l0 x7_1) true _ A5.out).mono ?_); rintro e w' ⟨rfl, ⟨nd, rfl⟩⟩; refine ⟨_, rfl, ?_⟩) | (go_at_call 117; (with_reducible refine (spec_l1Ends.calls (rdOf ByteArray.empty l0 x7_1) false _ A8.out).mono ?_); rintro e w' ⟨rfl, ⟨nd, rfl⟩⟩))
         go_ret
         exact ⟨by first | rfl | (simp; done) | (simp [*]; done), by repeat (first | exact Drawn0.refl _ | apply Drawn0.step)⟩
       ·rw [if_neg c7] at H
        have c7b0 : decide (x7_1 < (wrap64 ((l0.length : Int) - 1))) = false := decide_eq_false c7
        clear c7
        have H' := Aside0.mk H
        clear H
        have p277 : 0 ≤ (x7_1 : Int) := oa
        have q277 : x7_1 < (l0.length : Int) := oa
        obtain ⟨ad277, e277, hx277_0⟩ := Kd.at_string HR0.out x7_1 p277 q277
        cases e277
        replace p277 := eq_true p277
        replace q277 := eq_true q277
        go_wp2_with (first | ((with_reducible refine gateC (f := 87) rfl ?_); refine goesL_ (some 13) rfl rfl Try.func87 (by kernel_rfl) rfl #[.string (rdOf ByteArray.empty l0 x7_1)] rfl zm ?_; (with_reducible refine (spec_l1Line.calls k1 (rdOf ByteArray.empty l0 x7_1) true _ A5.out).mono ?_); rintro e w' ⟨rfl, ⟨nd, rfl⟩⟩; refine ⟨_, rfl, ?_⟩))
        go_roundg k1
        case measure => have := HK1.out; omega
        case rel => exact ⟨(wrap64 (x7_1 + 1)), zf, H', ⟨by have := HK1.out; omega⟩, by repeat (first | exact Drawn0.refl _ | apply Drawn0.step)⟩
      ·replace c6 := Bool.eq_false_iff.mpr c6
       subst c6
       have H1 : (some false) = some r := by rw [if_neg (show ¬ (false = true) by decide)] at H; exact H
       clear H
       have H := H1
       clear H1
       obtain rfl := Option.some.inj H
       have p277 : 0 ≤ (x7_1 : Int) := oa
       have q277 : x7_1 < (l0.length : Int) := oa
       obtain ⟨ad277, e277, hx277_0⟩ := Kd.at_string HR0.out x7_1 p277 q277
       cases e277
       replace p277 := eq_true p277
       replace q277 := eq_true q277
       go_wp2_with (first | ((with_reducible refine gateC (f := 87) rfl ?_); refine goesL_ (some 13) rfl rfl Try.func87 (by kernel_rfl) rfl #[.string (rdOf ByteArray.empty l0 x7_1)] rfl zm ?_; (with_reducible refine (spec_l1Line.calls k1 (rdOf ByteArray.empty l0 x7_1) false _ A5.out).mono ?_); rintro e w' ⟨rfl, ⟨nd, rfl⟩⟩; refine ⟨_, rfl, ?_⟩))
       go_ret
       exact ⟨by first | rfl | (simp; done) | (simp [*]; done), by repeat (first | exact Drawn0.refl _ | apply Drawn0.step)⟩
     ·rw [if_neg c4] at H
      exact absurd H (by simp)
    ·rw [if_neg c3] at H
     exact absurd H (by simp)
   ·rw [if_neg c2] at H
    have c2b0 : decide (x7_1 < (l0.length : Int)) = false := decide_eq_false c2
    clear c2
    obtain rfl := Option.some.inj H
    go_wp2
    go_ret
    exact ⟨by first | rfl | (simp; done) | (simp [*]; done), by repeat (first | exact Drawn0.refl _ | apply Drawn0.step)⟩

end Go.Proofs.Ytbbkecdlapemfaa.My

/- Plain Lean: chapter 1: what a line and good lines are, for the program and the reference. Conditions: lengths and sizes below 2^63. -/
namespace Go.Proofs.Ytbbkecdlapemfaa.Pl
open Go.RowKit Go.Proofs.YtbbkecdlapemfaaW.PrintWords Go.Proofs.YtbbkecdlapemfaaW.PrintLast Go.Proofs.Ytbbkecdlapemfaa.My
set_option linter.unusedVariables false
set_option linter.unusedSimpArgs false

/-- A line. -/
def isLn (s : ByteArray) : Bool := !(s.data.toList.dropLast.contains 10) && inB s.size 1 30
/-- Its last byte is 10. -/
def ends (s : ByteArray) : Bool := s.data.toList.getLast? == some 10
def good (l : List ByteArray) : Bool := decide (l.length ≤ 40) && (l.all isLn && l.dropLast.all ends)

theorem toList_one (c : UInt8) : (⟨#[c]⟩ : ByteArray).toList = [c] := by rw [Lib.toList_data]
theorem size_one (c : UInt8) : (⟨#[c]⟩ : ByteArray).size = 1 := rfl
theorem bt_one (c : UInt8) : bt ⟨#[c]⟩ 0 = (c.toNat : Int) := rfl

theorem index_ev (s : ByteArray) (c : UInt8) : Ev (fun k => strings_Index.f k s ⟨#[c]⟩) (Lib.indexByte s.data.toList c) := by
  have hj : ∀ b : Bool, (b = true → Lib.indexByte s.data.toList c = 0) → Ev (fun k => stringslite_Index.j0 k s ⟨#[c]⟩ 1 b) (Lib.indexByte s.data.toList c) := by
    intro b hb
    refine Ev.step (fun k => stringslite_Index.j0.eq_2 ..) ?_
    refine ev_ite (fun h => ev_some (hb h).symm) (fun _ => ?_)
    refine ev_pos rfl (ev_pos (by rw [size_one]; decide) ?_)
    refine ev_const ?_
    rw [bt_one]
    simp [stringslite_IndexByte.f]
  have h2 : Ev (fun k => stringslite_Index.f k s ⟨#[c]⟩) (Lib.indexByte s.data.toList c) := by
    simp only [stringslite_Index.f]
    refine ev_neg (by rw [size_one]; decide) ?_
    refine hj _ (fun h => ?_)
    have e : s.data.toList = [c] := by
      have := beq_iff_eq.1 h
      rw [toList_one, Lib.toList_data] at this
      exact this.symm
    rw [e]
    simp [Lib.indexByte]
  simp only [strings_Index.f]
  exact ev_bind h2 (ev_some rfl)

theorem indexByte_nonneg (l : List UInt8) (c : UInt8) : decide (Lib.indexByte l c ≥ 0) = l.contains c := by
  induction l with
  | nil => simp [Lib.indexByte]
  | cons b l ih =>
    have hge := Lib.indexByte_ge l c
    unfold Lib.indexByte
    by_cases h : (b == c) = true
    · have : b = c := beq_iff_eq.1 h
      simp [this]
    · have hb : (b == c) = false := by simpa using h
      have hne : ¬ c = b := fun e => h (by simp [e])
      rw [List.contains_cons, ← ih]
      simp only [hb]
      by_cases h2 : Lib.indexByte l c = -1
      · simp [h2, hne]
      · have h3 : (Lib.indexByte l c == -1) = false := by simpa using h2
        simp only [h3]
        have : Lib.indexByte l c ≥ 0 := by omega
        simp [hne, this]
        omega

theorem contains_ev (s : ByteArray) (c : UInt8) : Ev (fun k => strings_Contains.f k s ⟨#[c]⟩) (s.data.toList.contains c) := by
  simp only [strings_Contains.f]
  exact ev_bind (index_ev s c) (ev_some (indexByte_nonneg _ _))

theorem extract_data (s : ByteArray) (a b : Nat) : (s.extract a b).data.toList = (s.data.toList.take b).drop a := by
  rw [ByteArray.data_extract, Array.toList_extract, List.extract_eq_take_drop, ← List.drop_take]

theorem isLine_ev (s : ByteArray) (hs : s.size ≤ 9223372036854775807) : Ev (fun k => impl_isLine.f k s) (isLn s) := by
  simp only [impl_isLine.f, impl_in_eq, Option.bind_some]
  refine ev_ite (fun h => ?_) (fun h => ev_some (by unfold isLn; simp at h; simp [h]))
  have h1 : 1 ≤ s.size ∧ s.size ≤ 30 := by
    simp [inB] at h
    omega
  rw [wrap_pred s.size (by omega) hs]
  refine ev_pos (by omega) (ev_pos (by omega) ?_)
  refine ev_bind (contains_ev _ 10) (ev_some ?_)
  rw [Int.toNat_natCast, extract_data, List.drop_zero, ← data_length, ← List.dropLast_eq_take]
  unfold isLn
  rw [h]
  simp

theorem l1Line_l0 (s : ByteArray) (hs : s.size ≤ 9223372036854775807) : ∀ d i, i + d = s.size - 1 → Ev (fun k => spec_l1Line.l0 k s (i : Int)) (!((s.data.toList.dropLast.drop i).contains 10) && inB s.size 1 30) := by
  intro d
  have hl : s.data.toList.length = s.size := data_length s
  induction d with
  | zero =>
    intro i hi
    refine Ev.step (fun k => spec_l1Line.l0.eq_2 ..) ?_
    refine ev_neg (by rw [wrap64_id (by omega) (by omega)]; omega) ?_
    refine ev_const ?_
    rw [spec_l1In_eq, List.drop_of_length_le (by rw [List.length_dropLast]; omega)]
    rfl
  | succ d ih =>
    intro i hi
    refine Ev.step (fun k => spec_l1Line.l0.eq_2 ..) ?_
    refine ev_pos (by rw [wrap64_id (by omega) (by omega)]; omega) (ev_pos (by omega) (ev_pos (by omega) ?_))
    have hd : s.data.toList.dropLast.drop i = s.data.toList[i] :: s.data.toList.dropLast.drop (i + 1) := by
      rw [List.drop_eq_getElem_cons (by rw [List.length_dropLast]; omega), List.getElem_dropLast]
    rw [hd, List.contains_cons, bt_nat s i (by omega)]
    refine ev_ite (fun h => ev_some ?_) (fun h => ?_)
    · have : s.data.toList[i] = 10 := u8_eq h
      rw [this]
      simp
    · rw [wrap_succ i (by omega)]
      refine ev_to (ih (i + 1) (by omega)) ?_
      have : ((10 : UInt8) == s.data.toList[i]) = false := by
        rw [beq_eq_false_iff_ne]
        exact u8_ne h
      rw [this, Bool.false_or]

theorem l1Line_ev (s : ByteArray) (hs : s.size ≤ 9223372036854775807) : Ev (fun k => spec_l1Line.f k s) (isLn s) := by
  simp only [spec_l1Line.f]
  exact l1Line_l0 s hs (s.size - 1) 0 (by omega)

theorem isLn_size {s : ByteArray} (h : isLn s = true) : 1 ≤ s.size ∧ s.size ≤ 30 := by
  simp [isLn, inB] at h
  omega

theorem ends_last {s : ByteArray} (h : 1 ≤ s.size) : ends s = (bt s ((s.size - 1 : Nat) : Int) == 10) := by
  have hl : s.data.toList.length = s.size := data_length s
  have hq : s.data.toList.getLast? = some (s.data.toList[s.size - 1]'(by omega)) := by
    rw [List.getLast?_eq_getElem?, List.getElem?_eq_getElem (by omega)]
    simp only [hl]
  unfold ends
  rw [bt_nat s _ (by omega), hq]
  rw [Bool.eq_iff_iff]
  simp only [beq_iff_eq, Option.some.injEq]
  constructor
  · intro e; rw [e]; rfl
  · intro e; exact u8_eq e

theorem l1Ends_eq (s : ByteArray) (h : 1 ≤ s.size) (hs : s.size ≤ 9223372036854775807) : spec_l1Ends.f s = some (ends s) := by
  unfold spec_l1Ends.f
  rw [wrap_pred s.size (by omega) hs, if_pos (by omega), if_pos (by omega), ends_last h]

theorem hasSuffix_eq (s : ByteArray) (c : UInt8) (hs : s.size ≤ 9223372036854775807) : strings_HasSuffix.f s ⟨#[c]⟩ = some (s.data.toList.getLast? == some c) := by
  have hl : s.data.toList.length = s.size := data_length s
  unfold strings_HasSuffix.f stringslite_HasSuffix.f
  rw [size_one]
  by_cases h : 1 ≤ s.size
  · rw [if_pos (by omega), show ((1 : Nat) : Int) = 1 from rfl, wrap_pred s.size (by omega) hs, if_pos (by omega), if_pos (by omega), Option.bind_some, toList_one, Lib.toList_data, Int.toNat_natCast, extract_data, ← hl, List.take_length]
    have e : s.data.toList.drop (s.data.toList.length - 1) = [s.data.toList[s.data.toList.length - 1]'(by omega)] := by
      rw [List.drop_eq_getElem_cons (by omega), List.drop_of_length_le (by omega)]
    rw [e, List.getLast?_eq_getElem?, List.getElem?_eq_getElem (by omega)]
    congr 1
    rw [Bool.eq_iff_iff]
    simp
  · rw [if_neg (by omega), Option.bind_some]
    have : s.data.toList = [] := List.eq_nil_of_length_eq_zero (by omega)
    simp [this]

theorem isEnded_eq (s : ByteArray) (hs : s.size ≤ 9223372036854775807) : impl_isEnded.f s = some (ends s) := by
  unfold impl_isEnded.f
  rw [hasSuffix_eq s 10 hs]
  rfl

theorem areLines_l0 (l : List ByteArray) (hf : FitS l) : ∀ d i, i + d = l.length → ∃ j : Int, Ev (fun k => slices_IndexFunc_string_string__impl_areLines_1.l0 k l (l.length : Int) (i : Int)) j ∧ decide (j ≥ 0) = !((l.drop i).all isLn) := by
  intro d
  induction d with
  | zero =>
    intro i hi
    refine ⟨-1, Ev.step (fun k => slices_IndexFunc_string_string__impl_areLines_1.l0.eq_2 ..) (ev_neg (by omega) (ev_some rfl)), ?_⟩
    rw [List.drop_of_length_le (by omega)]
    rfl
  | succ d ih =>
    intro i hi
    have hlt : i < l.length := by omega
    have hev : Ev (fun k => impl_areLines_1.f k (rdOf ByteArray.empty l (i : Int))) (!isLn l[i]) := by
      rw [rdOf_lt _ _ _ hlt]
      simp only [impl_areLines_1.f]
      exact ev_bind (isLine_ev _ (hf.2 _ (List.getElem_mem _))) (ev_some rfl)
    obtain ⟨j, hj, hjj⟩ := ih (i + 1) (by omega)
    rw [drop_cons l i hlt, List.all_cons]
    by_cases h : isLn l[i] = true
    · refine ⟨j, Ev.step (fun k => slices_IndexFunc_string_string__impl_areLines_1.l0.eq_2 ..) (ev_pos (by omega) (ev_pos (by omega) (ev_pos (by omega) (ev_bind hev (ev_neg (by simp [h]) ?_))))), by rw [hjj, h]; simp⟩
      rw [wrap_succ i (by have := hf.1; omega)]
      exact hj
    · refine ⟨(i : Int), Ev.step (fun k => slices_IndexFunc_string_string__impl_areLines_1.l0.eq_2 ..) (ev_pos (by omega) (ev_pos (by omega) (ev_pos (by omega) (ev_bind hev (ev_pos (by simp [h]) (ev_some rfl)))))), ?_⟩
      simp [h]

theorem areLines_ev (l : List ByteArray) (hf : FitS l) : Ev (fun k => impl_areLines.f k l) (decide (l.length ≤ 40) && l.all isLn) := by
  simp only [impl_areLines.f]
  refine ev_ite (fun h => ?_) (fun h => ev_some ?_)
  · obtain ⟨j, hj, hjj⟩ := areLines_l0 l hf l.length 0 (by omega)
    simp only [slices_ContainsFunc_string_string__impl_areLines_1.f, slices_IndexFunc_string_string__impl_areLines_1.f]
    refine ev_bind (ev_bind hj (ev_some rfl)) (ev_some ?_)
    have : l.length ≤ 40 := by omega
    rw [hjj]
    simp [this]
  · have : ¬ l.length ≤ 40 := by omega
    simp [this]

theorem goodLines_l0 (l : List ByteArray) (hf : FitS l) : ∀ d i, i + d = l.length → Ev (fun k => impl_goodLines.l0 k l l (l.length : Int) (i : Int)) ((l.dropLast.drop i).all ends) := by
  intro d
  have hL := hf.1
  induction d with
  | zero =>
    intro i hi
    refine Ev.step (fun k => impl_goodLines.l0.eq_2 ..) (ev_neg (by omega) (ev_some ?_))
    rw [List.drop_of_length_le (by rw [List.length_dropLast]; omega)]
    rfl
  | succ d ih =>
    intro i hi
    have hlt : i < l.length := by omega
    refine Ev.step (fun k => impl_goodLines.l0.eq_2 ..) (ev_pos (by omega) (ev_pos (by omega) (ev_pos (by omega) ?_)))
    rw [wrap_pred l.length (by omega) hL, rdOf_lt _ _ _ hlt, isEnded_eq _ (hf.2 _ (List.getElem_mem _)), wrap_succ i (by omega)]
    simp only [Option.bind_some]
    refine ev_ite (fun h => ?_) (fun h => ?_)
    · have hd : l.dropLast.drop i = l[i] :: l.dropLast.drop (i + 1) := by
        rw [List.drop_eq_getElem_cons (by rw [List.length_dropLast]; omega), List.getElem_dropLast]
      rw [hd, List.all_cons]
      refine ev_ite (fun h => ?_) (fun h => ev_some (by simp [h]))
      rw [h, Bool.true_and]
      exact ih (i + 1) (by omega)
    · have e1 : l.dropLast.drop i = [] := List.drop_of_length_le (by rw [List.length_dropLast]; omega)
      have e2 : l.dropLast.drop (i + 1) = [] := List.drop_of_length_le (by rw [List.length_dropLast]; omega)
      have := ih (i + 1) (by omega)
      rw [e2] at this
      rw [e1]
      exact this

theorem goodLines_ev (l : List ByteArray) (hf : FitS l) : Ev (fun k => impl_goodLines.f k l) (good l) := by
  simp only [impl_goodLines.f]
  refine ev_bind (areLines_ev l hf) (ev_ite (fun h => ?_) (fun h => ev_some ?_))
  · refine ev_to (goodLines_l0 l hf l.length 0 (by omega)) ?_
    rw [List.drop_zero]
    unfold good
    rw [← Bool.and_assoc, h, Bool.true_and]
  · unfold good
    rw [← Bool.and_assoc]
    simp at h
    simp
    intro h1 h2
    exact absurd (h h1) (by simpa using h2)

theorem l1Good_l0 (l : List ByteArray) (hf : FitS l) : ∀ d i, i + d = l.length → Ev (fun k => spec_l1Good.l0 k l l (l.length : Int) (i : Int)) ((l.drop i).all isLn && (l.dropLast.drop i).all ends && decide (l.length ≤ 40)) := by
  intro d
  have hL := hf.1
  induction d with
  | zero =>
    intro i hi
    refine Ev.step (fun k => spec_l1Good.l0.eq_2 ..) (ev_neg (by omega) (ev_some ?_))
    rw [List.drop_of_length_le (by omega), List.drop_of_length_le (by rw [List.length_dropLast]; omega)]
    simp
    omega
  | succ d ih =>
    intro i hi
    have hlt : i < l.length := by omega
    refine Ev.step (fun k => spec_l1Good.l0.eq_2 ..) (ev_pos (by omega) (ev_pos (by omega) (ev_pos (by omega) ?_)))
    simp only [rdOf_lt _ _ _ hlt]
    rw [wrap_pred l.length (by omega) hL, wrap_succ i (by omega), drop_cons l i hlt, List.all_cons]
    refine ev_bind (l1Line_ev _ (hf.2 _ (List.getElem_mem _))) (ev_ite (fun h => ?_) (fun h => ev_some (by simp [h])))
    rw [h, Bool.true_and, l1Ends_eq _ (isLn_size h).1 (hf.2 _ (List.getElem_mem _))]
    simp only [Option.bind_some]
    refine ev_ite (fun h => ?_) (fun h => ?_)
    · have hd : l.dropLast.drop i = l[i] :: l.dropLast.drop (i + 1) := by
        rw [List.drop_eq_getElem_cons (by rw [List.length_dropLast]; omega), List.getElem_dropLast]
      rw [hd, List.all_cons]
      refine ev_ite (fun h => ?_) (fun h => ev_some (by simp [h]))
      rw [h, Bool.true_and]
      exact ih (i + 1) (by omega)
    · have e1 : l.dropLast.drop i = [] := List.drop_of_length_le (by rw [List.length_dropLast]; omega)
      have e2 : l.dropLast.drop (i + 1) = [] := List.drop_of_length_le (by rw [List.length_dropLast]; omega)
      have := ih (i + 1) (by omega)
      rw [e2] at this
      rw [e1]
      exact this

theorem l1Good_ev (l : List ByteArray) (hf : FitS l) : Ev (fun k => spec_l1Good.f k l) (good l) := by
  simp only [spec_l1Good.f]
  refine ev_to (l1Good_l0 l hf l.length 0 (by omega)) ?_
  rw [List.drop_zero, List.drop_zero]
  unfold good
  rw [Bool.and_comm]
end Go.Proofs.Ytbbkecdlapemfaa.Pl

/- Plain Lean: whether lines are good, as chapter 5 of the reference asks. Conditions: lengths and sizes below 2^63. -/
namespace Go.Proofs.Ytbbkecdlapemfaa.Pl
open Go.RowKit Go.Proofs.YtbbkecdlapemfaaW.PrintWords Go.Proofs.YtbbkecdlapemfaaW.PrintLast Go.Proofs.Ytbbkecdlapemfaa.My
set_option linter.unusedVariables false
set_option linter.unusedSimpArgs false

theorem l5Lines_l0 (l : List ByteArray) (hf : FitS l) : ∀ d i, i + d = l.length → Ev (fun k => spec_l5Lines.l0 k l l (l.length : Int) (i : Int)) ((l.drop i).all isLn && (l.dropLast.drop i).all ends && decide (l.length ≤ 40)) := by
  intro d
  have hL := hf.1
  induction d with
  | zero =>
    intro i hi
    refine Ev.step (fun k => spec_l5Lines.l0.eq_2 ..) (ev_neg (by omega) (ev_some ?_))
    rw [List.drop_of_length_le (by omega), List.drop_of_length_le (by rw [List.length_dropLast]; omega)]
    simp
    omega
  | succ d ih =>
    intro i hi
    have hlt : i < l.length := by omega
    refine Ev.step (fun k => spec_l5Lines.l0.eq_2 ..) (ev_pos (by omega) (ev_pos (by omega) (ev_pos (by omega) ?_)))
    simp only [rdOf_lt _ _ _ hlt]
    rw [wrap_pred l.length (by omega) hL, wrap_succ i (by omega), drop_cons l i hlt, List.all_cons]
    refine ev_bind (l1Line_ev _ (hf.2 _ (List.getElem_mem _))) (ev_ite (fun h => ?_) (fun h => ev_some (by simp [h])))
    rw [h, Bool.true_and, l1Ends_eq _ (isLn_size h).1 (hf.2 _ (List.getElem_mem _))]
    simp only [Option.bind_some]
    refine ev_ite (fun h => ?_) (fun h => ?_)
    · have hd : l.dropLast.drop i = l[i] :: l.dropLast.drop (i + 1) := by
        rw [List.drop_eq_getElem_cons (by rw [List.length_dropLast]; omega), List.getElem_dropLast]
      rw [hd, List.all_cons]
      refine ev_ite (fun h => ?_) (fun h => ev_some (by simp [h]))
      rw [h, Bool.true_and]
      exact ih (i + 1) (by omega)
    · have e1 : l.dropLast.drop i = [] := List.drop_of_length_le (by rw [List.length_dropLast]; omega)
      have e2 : l.dropLast.drop (i + 1) = [] := List.drop_of_length_le (by rw [List.length_dropLast]; omega)
      have := ih (i + 1) (by omega)
      rw [e2] at this
      rw [e1]
      exact this

theorem l5Lines_ev (l : List ByteArray) (hf : FitS l) : Ev (fun k => spec_l5Lines.f k l) (good l) := by
  simp only [spec_l5Lines.f]
  refine ev_to (l5Lines_l0 l hf l.length 0 (by omega)) ?_
  rw [List.drop_zero, List.drop_zero]
  unfold good
  rw [Bool.and_comm]

end Go.Proofs.Ytbbkecdlapemfaa.Pl

/- Plain Lean: chapter 6: whether a group is good, for the program and the reference. Conditions: lengths and sizes below 2^63, at most 2^20 rows. -/
namespace Go.Proofs.Ytbbkecdlapemfaa.Pl
open Go.RowKit Go.Proofs.YtbbkecdlapemfaaW.PrintWords Go.Proofs.YtbbkecdlapemfaaW.PrintLast Go.Proofs.Ytbbkecdlapemfaa.My
set_option linter.unusedVariables false
set_option linter.unusedSimpArgs false

/-- The lines of the rows that are not of a kind. -/
def sideL (n : Int) (rows : List IR) : List ByteArray := (rows.filter fun r => !(decide (r.f0 = n))).map fun r => r.f1
theorem sideL_cons (n : Int) (r : IR) (t : List IR) : sideL n (r :: t) = if r.f0 = n then sideL n t else r.f1 :: sideL n t := by
  unfold sideL
  rw [List.filter_cons]
  by_cases h : r.f0 = n
  · rw [if_pos h, decide_eq_true h]
    rfl
  · rw [if_neg h, decide_eq_false h]
    rfl
theorem sideL_len (n : Int) (rows : List IR) : (sideL n rows).length ≤ rows.length := by
  unfold sideL
  rw [List.length_map]
  exact List.length_filter_le _ _
theorem sideL_fit (n : Int) {rows : List IR} (hf : FitIR rows) : FitS (sideL n rows) := by
  refine ⟨Nat.le_trans (sideL_len n rows) hf.1, fun s hs => ?_⟩
  obtain ⟨r, hr, rfl⟩ := List.mem_map.1 hs
  exact (hf.2 r (List.mem_filter.1 hr).1).2
theorem sideOf_l0 (n : Int) (rows : List IR) (hL : rows.length ≤ 1048576) : ∀ d i (acc : List ByteArray), i + d = rows.length → acc.length ≤ i → Ev (fun k => impl_sideOf.l0 k n acc rows (rows.length : Int) (i : Int)) (acc ++ sideL n (rows.drop i)) := by
  intro d
  induction d with
  | zero =>
    intro i acc hi ha
    refine Ev.step (fun k => impl_sideOf.l0.eq_2 ..) (ev_neg (by omega) (ev_some ?_))
    rw [List.drop_of_length_le (by omega)]
    simp [sideL]
  | succ d ih =>
    intro i acc hi ha
    have hlt : i < rows.length := by omega
    refine Ev.step (fun k => impl_sideOf.l0.eq_2 ..) (ev_pos (by omega) (ev_pos (by omega) (ev_pos (by omega) ?_)))
    simp only [rdIR rows i hlt]
    rw [drop_cons rows i hlt, wrap_succ i (by omega)]
    refine ev_ite (fun h => ev_to (ih (i + 1) acc (by omega) (by omega)) ?_) (fun h => ev_pos (by omega) (ev_to (ih (i + 1) _ (by omega) (by rw [List.length_append, List.length_singleton]; omega)) ?_))
    · rw [sideL_cons, if_pos h]
    · rw [sideL_cons, if_neg h, List.append_assoc]
      rfl
theorem l6Old_l0 (rows : List IR) (hL : rows.length ≤ 1048576) : ∀ d i (acc : List ByteArray), i + d = rows.length → acc.length ≤ i → Ev (fun k => spec_l6Old.l0 k  acc rows (rows.length : Int) (i : Int)) (acc ++ sideL 3 (rows.drop i)) := by
  intro d
  induction d with
  | zero =>
    intro i acc hi ha
    refine Ev.step (fun k => spec_l6Old.l0.eq_2 ..) (ev_neg (by omega) (ev_some ?_))
    rw [List.drop_of_length_le (by omega)]
    simp [sideL]
  | succ d ih =>
    intro i acc hi ha
    have hlt : i < rows.length := by omega
    refine Ev.step (fun k => spec_l6Old.l0.eq_2 ..) (ev_pos (by omega) (ev_pos (by omega) (ev_pos (by omega) ?_)))
    simp only [rdIR rows i hlt]
    rw [drop_cons rows i hlt, wrap_succ i (by omega)]
    refine ev_ite (fun h => ev_to (ih (i + 1) acc (by omega) (by omega)) ?_) (fun h => ev_pos (by omega) (ev_to (ih (i + 1) _ (by omega) (by rw [List.length_append, List.length_singleton]; omega)) ?_))
    · rw [sideL_cons, if_pos h]
    · rw [sideL_cons, if_neg h, List.append_assoc]
      rfl
theorem l6New_l0 (rows : List IR) (hL : rows.length ≤ 1048576) : ∀ d i (acc : List ByteArray), i + d = rows.length → acc.length ≤ i → Ev (fun k => spec_l6New.l0 k  acc rows (rows.length : Int) (i : Int)) (acc ++ sideL 2 (rows.drop i)) := by
  intro d
  induction d with
  | zero =>
    intro i acc hi ha
    refine Ev.step (fun k => spec_l6New.l0.eq_2 ..) (ev_neg (by omega) (ev_some ?_))
    rw [List.drop_of_length_le (by omega)]
    simp [sideL]
  | succ d ih =>
    intro i acc hi ha
    have hlt : i < rows.length := by omega
    refine Ev.step (fun k => spec_l6New.l0.eq_2 ..) (ev_pos (by omega) (ev_pos (by omega) (ev_pos (by omega) ?_)))
    simp only [rdIR rows i hlt]
    rw [drop_cons rows i hlt, wrap_succ i (by omega)]
    refine ev_ite (fun h => ev_to (ih (i + 1) acc (by omega) (by omega)) ?_) (fun h => ev_pos (by omega) (ev_to (ih (i + 1) _ (by omega) (by rw [List.length_append, List.length_singleton]; omega)) ?_))
    · rw [sideL_cons, if_pos h]
    · rw [sideL_cons, if_neg h, List.append_assoc]
      rfl
theorem sideOf_ev (n : Int) (rows : List IR) (hL : rows.length ≤ 1048576) : Ev (fun k => impl_sideOf.f k rows n) (sideL n rows) := by
  simp only [impl_sideOf.f]
  exact sideOf_l0 n rows hL rows.length 0 [] (by omega) (Nat.zero_le _)
theorem old_ev (a b : Int) (rows : List IR) (hL : rows.length ≤ 1048576) : Ev (fun k => impl_Group_old.f k a b rows) (sideL 3 rows) := by
  simp only [impl_Group_old.f]
  exact ev_bind (sideOf_ev 3 rows hL) (ev_some rfl)
theorem fresh_ev (a b : Int) (rows : List IR) (hL : rows.length ≤ 1048576) : Ev (fun k => impl_Group_fresh.f k a b rows) (sideL 2 rows) := by
  simp only [impl_Group_fresh.f]
  exact ev_bind (sideOf_ev 2 rows hL) (ev_some rfl)
theorem l6Old_ev (a b : Int) (rows : List IR) (hL : rows.length ≤ 1048576) : Ev (fun k => spec_l6Old.f k a b rows) (sideL 3 rows) := by
  simp only [spec_l6Old.f]
  exact l6Old_l0 rows hL rows.length 0 [] (by omega) (Nat.zero_le _)
theorem l6New_ev (a b : Int) (rows : List IR) (hL : rows.length ≤ 1048576) : Ev (fun k => spec_l6New.f k a b rows) (sideL 2 rows) := by
  simp only [spec_l6New.f]
  exact l6New_l0 rows hL rows.length 0 [] (by omega) (Nat.zero_le _)

/-- Rows are rows, none that goes right behind one that comes; p is the kind of the one ahead. -/
def rowsB : Int → List IR → Bool
  | _, [] => true
  | p, r :: t => inB r.f0 1 3 && (isLn r.f1 && (!(decide (r.f0 = 2 ∧ p = 3)) && rowsB r.f0 t))
def tailI (a b : Int) (rows : List IR) (x : Bool) : Bool := x && (good (sideL 3 rows) && (good (sideL 2 rows) && (decide (a + ((sideL 3 rows).length : Int) ≤ 1000) && decide (b + ((sideL 2 rows).length : Int) ≤ 1000))))
def tailS (a b : Int) (rows : List IR) (x : Bool) : Bool := x && (inB a 0 999 && (inB b 0 999 && (decide (a + ((sideL 3 rows).length : Int) ≤ 1000) && (decide (b + ((sideL 2 rows).length : Int) ≤ 1000) && (decide ((rows.length : Int) ≤ 80) && (good (sideL 3 rows) && good (sideL 2 rows)))))))
theorem tailI_ev (rows : List IR) (hf : FitIR rows) (hL : rows.length ≤ 1048576) (a b : Int) (ha : 0 ≤ a ∧ a ≤ 999) (hb : 0 ≤ b ∧ b ≤ 999) (x : Bool) :
    Ev (fun k => (impl_Group_old.f k a b rows).bind fun t793 => ((impl_Group_fresh.f k a b rows).bind fun t796 => (if x = true then ((impl_goodLines.f k t793).bind fun t799 => (if t799 = true then ((impl_goodLines.f k t796).bind fun t800 => (if t800 = true then (if (wrap64 (a + (t793.length : Int))) ≤ 1000 then (some (decide ((wrap64 (b + (t796.length : Int))) ≤ 1000))) else (some false)) else (some false))) else (some false))) else (some false)))) (tailI a b rows x) := by
  have h3 := sideL_len 3 rows
  have h2 := sideL_len 2 rows
  unfold tailI
  refine ev_bind (old_ev a b rows hL) (ev_bind (fresh_ev a b rows hL) (ev_ite (fun hx => ?_) (fun hx => ev_some (by rw [Bool.not_eq_true] at hx; rw [hx]; rfl))))
  rw [hx, Bool.true_and]
  refine ev_bind (goodLines_ev _ (sideL_fit 3 hf)) (ev_ite (fun h => ?_) (fun h => ev_some (by rw [Bool.not_eq_true] at h; rw [h]; rfl)))
  rw [h, Bool.true_and]
  refine ev_bind (goodLines_ev _ (sideL_fit 2 hf)) (ev_ite (fun h => ?_) (fun h => ev_some (by rw [Bool.not_eq_true] at h; rw [h]; rfl)))
  rw [h, Bool.true_and, wrap64_id (by omega) (by omega), wrap64_id (by omega) (by omega)]
  refine ev_ite (fun h => ev_some ?_) (fun h => ev_some ?_)
  · rw [decide_eq_true h, Bool.true_and]
  · rw [decide_eq_false h, Bool.false_and]
theorem tailS_ev (rows : List IR) (hf : FitIR rows) (hL : rows.length ≤ 1048576) (a b : Int) (x : Bool) :
    Ev (fun k => if x = true then ((spec_l1In.f a 0 999).bind fun t712 => (if t712 = true then ((spec_l1In.f b 0 999).bind fun t713 => (if t713 = true then ((spec_l6Old.f k a b rows).bind fun t714 => (if (wrap64 (a + (t714.length : Int))) ≤ 1000 then ((spec_l6New.f k a b rows).bind fun t717 => (if (wrap64 (b + (t717.length : Int))) ≤ 1000 then (if (rows.length : Int) ≤ 80 then ((spec_l6Old.f k a b rows).bind fun t720 => ((spec_l5Lines.f k t720).bind fun t723 => (if t723 = true then ((spec_l6New.f k a b rows).bind fun t724 => ((spec_l5Lines.f k t724).bind fun t727 => (some t727))) else (some false)))) else (some false)) else (some false))) else (some false))) else (some false))) else (some false))) else (some false)) (tailS a b rows x) := by
  have h3 := sideL_len 3 rows
  have h2 := sideL_len 2 rows
  unfold tailS
  refine ev_ite (fun hx => ?_) (fun hx => ev_some (by rw [Bool.not_eq_true] at hx; rw [hx]; rfl))
  rw [hx, Bool.true_and]
  simp only [spec_l1In_eq, Option.bind_some]
  refine ev_ite (fun h => ?_) (fun h => ev_some (by rw [Bool.not_eq_true] at h; rw [h]; rfl))
  rw [h, Bool.true_and]
  have ha := (inB_iff ..).1 h
  refine ev_ite (fun h => ?_) (fun h => ev_some (by rw [Bool.not_eq_true] at h; rw [h]; rfl))
  rw [h, Bool.true_and]
  have hb := (inB_iff ..).1 h
  refine ev_bind (l6Old_ev a b rows hL) ?_
  rw [wrap64_id (by omega) (by omega)]
  refine ev_ite (fun h => ?_) (fun h => ev_some (by rw [decide_eq_false h]; rfl))
  rw [decide_eq_true h, Bool.true_and]
  refine ev_bind (l6New_ev a b rows hL) ?_
  rw [wrap64_id (by omega) (by omega)]
  refine ev_ite (fun h => ?_) (fun h => ev_some (by rw [decide_eq_false h]; rfl))
  rw [decide_eq_true h, Bool.true_and]
  refine ev_ite (fun h => ?_) (fun h => ev_some (by rw [decide_eq_false h]; rfl))
  rw [decide_eq_true h, Bool.true_and]
  refine ev_bind (l6Old_ev a b rows hL) (ev_bind (l5Lines_ev _ (sideL_fit 3 hf)) (ev_ite (fun h => ?_) (fun h => ev_some (by rw [Bool.not_eq_true] at h; rw [h]; rfl))))
  rw [h, Bool.true_and]
  exact ev_bind (l6New_ev a b rows hL) (ev_bind (l5Lines_ev _ (sideL_fit 2 hf)) (ev_some rfl))
theorem goodGroup_l0 (rows : List IR) (hf : FitIR rows) (hL : rows.length ≤ 1048576) (a b : Int) (ha : 0 ≤ a ∧ a ≤ 999) (hb : 0 ≤ b ∧ b ≤ 999) : ∀ d i (x : Bool) (p : Int), i + d = rows.length → (i = 0 → p = 0) → (∀ h : 0 < i, ∀ h2 : i - 1 < rows.length, rows[i - 1].f0 = p) →
    Ev (fun k => impl_goodGroup.l0 k x rows (rows.length : Int) (i : Int) a b rows) (rowsB p (rows.drop i) && tailI a b rows (x || (rows.drop i).any (fun r => r.f0 != 1))) := by
  intro d
  induction d with
  | zero =>
    intro i x p hi hp0 hp
    refine Ev.step (fun k => impl_goodGroup.l0.eq_2 ..) (ev_neg (by omega) ?_)
    rw [List.drop_of_length_le (by omega)]
    simp only [rowsB, List.any_nil, Bool.or_false, Bool.true_and]
    exact tailI_ev rows hf hL a b ha hb x
  | succ d ih =>
    intro i x p hi hp0 hp
    have hlt : i < rows.length := by omega
    have hfi := hf.2 _ (List.getElem_mem hlt)
    refine Ev.step (fun k => impl_goodGroup.l0.eq_2 ..) (ev_pos (by omega) (ev_pos (by omega) (ev_pos (by omega) ?_)))
    simp only [rdIR rows i hlt, impl_in_eq, Option.bind_some]
    rw [drop_cons rows i hlt]
    simp only [rowsB, List.any_cons]
    refine ev_ite (fun h1 => ?_) (fun h1 => ev_some (by rw [Bool.not_eq_true] at h1; rw [h1]; rfl))
    rw [h1, Bool.true_and]
    refine ev_bind (isLine_ev _ hfi.2) (ev_ite (fun h2 => ?_) (fun h2 => ev_some (by rw [Bool.not_eq_true] at h2; rw [h2]; rfl)))
    rw [h2, Bool.true_and, wrap_succ i (by omega)]
    have hnext : Ev (fun k => if x = true then impl_goodGroup.l0 k true rows (rows.length : Int) ((i + 1 : Nat) : Int) a b rows else impl_goodGroup.l0 k (rows[i].f0 != 1) rows (rows.length : Int) ((i + 1 : Nat) : Int) a b rows) (rowsB rows[i].f0 (rows.drop (i + 1)) && tailI a b rows (x || (rows[i].f0 != 1 || (rows.drop (i + 1)).any (fun r => r.f0 != 1)))) := by
      refine ev_ite (fun hx => ?_) (fun hx => ?_)
      · refine ev_to (ih (i + 1) true rows[i].f0 (by omega) (by omega) (fun _ _ => rfl)) ?_
        rw [hx, Bool.true_or, Bool.true_or]
      · rw [Bool.not_eq_true] at hx
        refine ev_to (ih (i + 1) (rows[i].f0 != 1) rows[i].f0 (by omega) (by omega) (fun _ _ => rfl)) ?_
        rw [hx, Bool.false_or]
    refine ev_ite (fun h3 => ev_ite (fun h4 => ?_) (fun h4 => ?_)) (fun h3 => ?_)
    · have hw : wrap64 ((i : Int) - 1) = ((i - 1 : Nat) : Int) := wrap_pred i (by omega) (by omega)
      have hpv := hp (by omega) (by omega)
      rw [hw]
      refine ev_pos (by omega) (ev_pos (by omega) ?_)
      simp only [rdIR rows (i - 1) (by omega)]
      refine ev_ite (fun h5 => ev_some ?_) (fun h5 => ?_)
      · rw [show decide (rows[i].f0 = 2 ∧ p = 3) = true from decide_eq_true ⟨h4, by rw [← hpv]; exact h5⟩]
        rfl
      · rw [show decide (rows[i].f0 = 2 ∧ p = 3) = false from decide_eq_false (fun e => h5 (by rw [hpv]; exact e.2))]
        simpa using hnext
    · rw [show decide (rows[i].f0 = 2 ∧ p = 3) = false from decide_eq_false (fun e => h4 e.1)]
      simpa using hnext
    · rw [show decide (rows[i].f0 = 2 ∧ p = 3) = false from decide_eq_false (fun e => by have := hp0 (by omega); omega)]
      simpa using hnext
theorem l6Group_l0 (rows : List IR) (hf : FitIR rows) (hL : rows.length ≤ 1048576) (a b : Int) : ∀ d i (x : Bool) (p : Int), i + d = rows.length → (i = 0 → p = 0) → (∀ h : 0 < i, ∀ h2 : i - 1 < rows.length, rows[i - 1].f0 = p) →
    Ev (fun k => spec_l6Group.l0 k x rows (rows.length : Int) (i : Int) a b rows) (rowsB p (rows.drop i) && tailS a b rows (x || (rows.drop i).any (fun r => r.f0 != 1))) := by
  intro d
  induction d with
  | zero =>
    intro i x p hi hp0 hp
    refine Ev.step (fun k => spec_l6Group.l0.eq_2 ..) (ev_neg (by omega) ?_)
    rw [List.drop_of_length_le (by omega)]
    simp only [rowsB, List.any_nil, Bool.or_false, Bool.true_and]
    exact tailS_ev rows hf hL a b x
  | succ d ih =>
    intro i x p hi hp0 hp
    have hlt : i < rows.length := by omega
    have hfi := hf.2 _ (List.getElem_mem hlt)
    refine Ev.step (fun k => spec_l6Group.l0.eq_2 ..) (ev_pos (by omega) (ev_pos (by omega) (ev_pos (by omega) ?_)))
    simp only [rdIR rows i hlt, spec_l1In_eq, Option.bind_some]
    rw [drop_cons rows i hlt]
    simp only [rowsB, List.any_cons]
    refine ev_ite (fun h1 => ?_) (fun h1 => ev_some (by rw [Bool.not_eq_true] at h1; rw [h1]; rfl))
    rw [h1, Bool.true_and]
    refine ev_bind (l1Line_ev _ hfi.2) (ev_ite (fun h2 => ?_) (fun h2 => ev_some (by rw [Bool.not_eq_true] at h2; rw [h2]; rfl)))
    rw [h2, Bool.true_and, wrap_succ i (by omega)]
    have hnext : Ev (fun k => if x = true then spec_l6Group.l0 k true rows (rows.length : Int) ((i + 1 : Nat) : Int) a b rows else spec_l6Group.l0 k (rows[i].f0 != 1) rows (rows.length : Int) ((i + 1 : Nat) : Int) a b rows) (rowsB rows[i].f0 (rows.drop (i + 1)) && tailS a b rows (x || (rows[i].f0 != 1 || (rows.drop (i + 1)).any (fun r => r.f0 != 1)))) := by
      refine ev_ite (fun hx => ?_) (fun hx => ?_)
      · refine ev_to (ih (i + 1) true rows[i].f0 (by omega) (by omega) (fun _ _ => rfl)) ?_
        rw [hx, Bool.true_or, Bool.true_or]
      · rw [Bool.not_eq_true] at hx
        refine ev_to (ih (i + 1) (rows[i].f0 != 1) rows[i].f0 (by omega) (by omega) (fun _ _ => rfl)) ?_
        rw [hx, Bool.false_or]
    refine ev_ite (fun h3 => ev_ite (fun h4 => ?_) (fun h4 => ?_)) (fun h3 => ?_)
    · have hw : wrap64 ((i : Int) - 1) = ((i - 1 : Nat) : Int) := wrap_pred i (by omega) (by omega)
      have hpv := hp (by omega) (by omega)
      rw [hw]
      refine ev_pos (by omega) (ev_pos (by omega) ?_)
      simp only [rdIR rows (i - 1) (by omega)]
      refine ev_ite (fun h5 => ev_some ?_) (fun h5 => ?_)
      · rw [show decide (rows[i].f0 = 2 ∧ p = 3) = true from decide_eq_true ⟨h4, by rw [← hpv]; exact h5⟩]
        rfl
      · rw [show decide (rows[i].f0 = 2 ∧ p = 3) = false from decide_eq_false (fun e => h5 (by rw [hpv]; exact e.2))]
        simpa using hnext
    · rw [show decide (rows[i].f0 = 2 ∧ p = 3) = false from decide_eq_false (fun e => h4 e.1)]
      simpa using hnext
    · rw [show decide (rows[i].f0 = 2 ∧ p = 3) = false from decide_eq_false (fun e => by have := hp0 (by omega); omega)]
      simpa using hnext

/-- A group is good. -/
def groupB (a b : Int) (rows : List IR) : Bool := rowsB 0 rows && tailS a b rows (rows.any (fun r => r.f0 != 1))
theorem l6Group_ev (a b : Int) (rows : List IR) (hf : FitIR rows) (hL : rows.length ≤ 1048576) : Ev (fun k => spec_l6Group.f k a b rows) (groupB a b rows) := by
  simp only [spec_l6Group.f]
  exact ev_to (l6Group_l0 rows hf hL a b rows.length 0 false 0 (by omega) (fun _ => rfl) (fun h => by omega)) (by simp [groupB])
theorem tails (a b : Int) (rows : List IR) (h1 : inB a 0 999 = true) (h2 : inB b 0 999 = true) (h3 : inB (rows.length : Int) 1 80 = true) (x : Bool) : tailI a b rows x = tailS a b rows x := by
  unfold tailI tailS
  have h4 := (inB_iff ..).1 h3
  rw [h1, h2, decide_eq_true (show (rows.length : Int) ≤ 80 from h4.2)]
  simp only [Bool.true_and]
  cases x <;> cases good (sideL 3 rows) <;> cases good (sideL 2 rows) <;> simp
theorem goodGroup_ev (a b : Int) (rows : List IR) (hf : FitIR rows) (hL : rows.length ≤ 1048576) : Ev (fun k => impl_goodGroup.f k a b rows) (groupB a b rows) := by
  simp only [impl_goodGroup.f, impl_in_eq, Option.bind_some]
  have hno : groupB a b rows = false → Ev (fun k => impl_goodGroup.j0 k true a b rows) (groupB a b rows) := fun e => by
    rw [e]
    exact Ev.step (fun k => impl_goodGroup.j0.eq_2 ..) (ev_pos rfl (ev_some rfl))
  have nota : inB a 0 999 = false → groupB a b rows = false := fun e => by unfold groupB tailS; rw [e]; simp
  have notb : inB b 0 999 = false → groupB a b rows = false := fun e => by unfold groupB tailS; rw [e]; simp
  have notl : inB (rows.length : Int) 1 80 = false → groupB a b rows = false := fun e => by
    unfold groupB tailS
    by_cases h : (rows.length : Int) ≤ 80
    · have : rows.length = 0 := by
        have := mt (inB_iff (rows.length : Int) 1 80).2 (by rw [e]; simp)
        omega
      rw [List.length_eq_zero_iff.1 this]
      simp
    · rw [decide_eq_false h]
      simp
  refine ev_ite (fun h1 => ev_ite (fun h2 => ?_) (fun h2 => hno (notb (by rw [Bool.not_eq_true] at h2; exact h2)))) (fun h1 => hno (nota (by rw [Bool.not_eq_true] at h1; exact h1)))
  cases h3 : inB (rows.length : Int) 1 80 with
  | false => exact hno (notl h3)
  | true =>
    refine Ev.step (fun k => impl_goodGroup.j0.eq_2 ..) (ev_neg (by simp) ?_)
    refine ev_to (goodGroup_l0 rows hf hL a b ((inB_iff ..).1 h1) ((inB_iff ..).1 h2) rows.length 0 false 0 (by omega) (fun _ => rfl) (fun h => by omega)) ?_
    rw [tails a b rows h1 h2 h3]
    simp [groupB]
theorem groupB_facts {a b : Int} {rows : List IR} (h : groupB a b rows = true) : 0 ≤ a ∧ a ≤ 999 ∧ 0 ≤ b ∧ b ≤ 999 ∧ rows.length ≤ 80 ∧ good (sideL 3 rows) = true ∧ good (sideL 2 rows) = true ∧ a + ((sideL 3 rows).length : Int) ≤ 1000 ∧ b + ((sideL 2 rows).length : Int) ≤ 1000 := by
  unfold groupB tailS at h
  simp only [Bool.and_eq_true, decide_eq_true_eq, inB_iff] at h
  obtain ⟨_, _, h1, h2, h3, h4, h5, h6, h7⟩ := h
  exact ⟨h1.1, h1.2, h2.1, h2.2, by omega, h6, h7, h3, h4⟩
end Go.Proofs.Ytbbkecdlapemfaa.Pl

/- Plain Lean: what the laws' helpers on one group come to. Conditions: lengths and sizes below 2^63. -/
namespace Go.Proofs.Ytbbkecdlapemfaa.Pl
open Go.RowKit Go.Proofs.YtbbkecdlapemfaaW.PrintWords Go.Proofs.YtbbkecdlapemfaaW.PrintLast Go.Proofs.Ytbbkecdlapemfaa.My
set_option linter.unusedVariables false
set_option linter.unusedSimpArgs false

theorem szGroup_ev (p q : Int) (l : List LR) (hf : FitR l) (a : Int) (h0 : 0 ≤ a) (h1 : a ≤ 1048576) : ∃ r, Ev (fun k => laws_szGroup.f k p q l a) r ∧ leftOf a (szR l) r := by
  obtain ⟨r, hr, hl⟩ := szRowS_ev l hf a h0 h1
  simp only [laws_szGroup.f]
  by_cases h : r < 0
  · exact ⟨-1, ev_bind hr (ev_pos h (ev_some rfl)), .inl (by omega)⟩
  · exact ⟨r, ev_bind hr (ev_neg h (ev_some rfl)), hl⟩
theorem toGroup_ev (p q : Int) (l : List LR) (hL : l.length ≤ 1048576) : Ev (fun k => laws_toGroup.f k p q l) (p, q, l.map toR) := by
  simp only [laws_toGroup.f]
  exact ev_bind (toRowS_ev l hL) (ev_some rfl)
end Go.Proofs.Ytbbkecdlapemfaa.Pl

/- Plain Lean: the marks by which the laws see whether memory is shared. Conditions: lengths below 2^40. -/
namespace Go.Proofs.Ytbbkecdlapemfaa.Pl
open Go.RowKit Go.Proofs.YtbbkecdlapemfaaW.PrintWords Go.Proofs.YtbbkecdlapemfaaW.PrintLast Go.Proofs.Ytbbkecdlapemfaa.My
set_option linter.unusedVariables false
set_option linter.unusedSimpArgs false

theorem strOfNums_size (l : List Int) : (strOfNums l).size = l.length := by
  unfold strOfNums
  rw [← data_length]
  simp

theorem tdiv10 (n : Int) (h : 0 ≤ n) : Int.tdiv n 10 = n / 10 := by
  rw [Int.tdiv_eq_ediv_of_nonneg h]

theorem markText_l0 : ∀ (d : Nat) (n : Int) (t : ByteArray), 0 ≤ n → n.toNat ≤ d → n ≤ 4611686018427387904 → t.size + n.toNat ≤ 4611686018427387905 → ∃ r, Ev (fun k => laws_markText.l0 k n t) r := by
  intro d
  induction d with
  | zero =>
    intro n t h0 hd h1 h2
    exact ⟨_, Ev.step (fun k => laws_markText.l0.eq_2 ..) (ev_neg (by omega) (ev_pos (by omega) (ev_some rfl)))⟩
  | succ d ih =>
    intro n t h0 hd h1 h2
    by_cases h : 0 < n
    · have e : wrap64 (Int.tdiv n 10) = n / 10 := by rw [tdiv10 n h0, wrap64_id (by omega) (by omega)]
      obtain ⟨r, hr⟩ := ih (n / 10) (strOfNums [(wrap64 (48 + (Int.tmod n 10))) % 256] ++ t) (by omega) (by omega) (by omega) (by
        rw [ByteArray.size_append, strOfNums_size, List.length_singleton]
        omega)
      refine ⟨r, Ev.step (fun k => laws_markText.l0.eq_2 ..) (ev_pos h ?_)⟩
      simp only [Option.bind_some]
      refine ev_pos ?_ ?_
      · rw [strOfNums_size, List.length_singleton]
        omega
      · rw [e]
        exact hr
    · exact ⟨_, Ev.step (fun k => laws_markText.l0.eq_2 ..) (ev_neg (by omega) (ev_pos (by omega) (ev_some rfl)))⟩

theorem markText_some (n : Int) (h0 : 0 ≤ n) (h1 : n ≤ 4611686018427387904) : ∃ r, Ev (fun k => laws_markText.f k n) r := by
  simp only [laws_markText.f]
  by_cases h : n ≤ 0
  · exact ⟨_, ev_pos h (ev_some rfl)⟩
  · obtain ⟨r, hr⟩ := markText_l0 n.toNat n ⟨#[]⟩ h0 (Nat.le_refl _) h1 (by
      show (0 : Nat) + n.toNat ≤ _
      omega)
    exact ⟨r, ev_neg h hr⟩

/-- The mark of a number. -/
noncomputable def mark (n : Nat) : ByteArray := open Classical in if h : ∃ r, Ev (fun k => laws_markText.f k (n : Int)) r then h.choose else ⟨#[]⟩
theorem mark_ev (n : Nat) (h : n ≤ 4611686018427387904) : Ev (fun k => laws_markText.f k (n : Int)) (mark n) := by
  have hs := markText_some (n : Int) (by omega) (by omega)
  unfold mark
  rw [dif_pos hs]
  exact hs.choose_spec

/-- So many marks from one on. -/
noncomputable def marks (m n : Nat) : List ByteArray := (List.range n).map fun i => mark (m + i)
theorem marks_length (m n : Nat) : (marks m n).length = n := by simp [marks]
theorem marks_get (m n i : Nat) (h : i < n) : (marks m n)[i]'(by rw [marks_length]; exact h) = mark (m + i) := by simp [marks]

theorem markStringS_l0 (n m : Nat) (hn : n ≤ 1099511627776) (hm : m ≤ 1099511627776) : ∀ d i (o : List ByteArray), i + d = n → o.length = n → o.take i = (marks m n).take i →
    Ev (fun k => laws_markStringS.l0 k o ((m + i : Nat) : Int) (i : Int)) (((m + n : Nat) : Int), marks m n) := by
  intro d
  induction d with
  | zero =>
    intro i o hi hl ht
    refine Ev.step (fun k => laws_markStringS.l0.eq_2 ..) (ev_neg (by omega) (ev_some ?_))
    rw [List.take_of_length_le (by omega), List.take_of_length_le (by rw [marks_length]; omega)] at ht
    rw [ht, show i = n from by omega]
  | succ d ih =>
    intro i o hi hl ht
    refine Ev.step (fun k => laws_markStringS.l0.eq_2 ..) (ev_pos (by omega) (ev_bind (mark_ev (m + i) (by omega)) (ev_pos (by omega) ?_)))
    rw [wrap_succ i (by omega), wrap_succ (m + i) (by omega), Int.toNat_natCast]
    refine ih (i + 1) _ (by omega) (by rw [List.length_set]; exact hl) ?_
    rw [List.take_succ_eq_append_getElem (by rw [List.length_set]; omega), List.take_succ_eq_append_getElem (by rw [marks_length]; omega), List.getElem_set_self, List.take_set_of_le (Nat.le_refl i), ht, marks_get m n i (by omega)]

theorem markStringS_ev (l : List ByteArray) (m : Nat) (hn : l.length ≤ 1099511627776) (hm : m ≤ 1099511627776) : Ev (fun k => laws_markStringS.f k l (m : Int)) (((m + l.length : Nat) : Int), marks m l.length) := by
  simp only [laws_markStringS.f]
  exact markStringS_l0 l.length m hn hm l.length 0 l (by omega) rfl rfl

theorem heldStringS_l0 (n m : Nat) (hn : n ≤ 1099511627776) (hm : m ≤ 1099511627776) : ∀ d i, i + d = n → Ev (fun k => laws_heldStringS.l0 k (marks m n) ((m + i : Nat) : Int) (i : Int)) ((m + n : Nat) : Int) := by
  intro d
  induction d with
  | zero =>
    intro i hi
    refine Ev.step (fun k => laws_heldStringS.l0.eq_2 ..) (ev_neg (by rw [marks_length]; omega) (ev_some ?_))
    rw [show i = n from by omega]
  | succ d ih =>
    intro i hi
    refine Ev.step (fun k => laws_heldStringS.l0.eq_2 ..) (ev_pos (by rw [marks_length]; omega) (ev_pos (by omega) (ev_bind (mark_ev (m + i) (by omega)) (ev_pos ?_ ?_))))
    · rw [rdOf_lt _ _ _ (by rw [marks_length]; omega), marks_get m n i (by omega)]
    · rw [wrap_succ i (by omega), wrap_succ (m + i) (by omega)]
      exact ih (i + 1) (by omega)

theorem heldStringS_ev (m n : Nat) (hn : n ≤ 1099511627776) (hm : m ≤ 1099511627776) : Ev (fun k => laws_heldStringS.f k (marks m n) (m : Int)) ((m + n : Nat) : Int) := by
  simp only [laws_heldStringS.f]
  exact heldStringS_l0 n m hn hm n 0 (by omega)
end Go.Proofs.Ytbbkecdlapemfaa.Pl

/- Plain Lean: the marks of rows, and that they are told again. Conditions: lengths below 2^40. -/
namespace Go.Proofs.Ytbbkecdlapemfaa.Pl
open Go.RowKit Go.Proofs.YtbbkecdlapemfaaW.PrintWords Go.Proofs.YtbbkecdlapemfaaW.PrintLast Go.Proofs.Ytbbkecdlapemfaa.My
set_option linter.unusedVariables false
set_option linter.unusedSimpArgs false

noncomputable def mkRs (m n : Nat) : List IR := (List.range n).map fun i => (⟨((m + 2 * i : Nat) : Int), mark (m + 2 * i + 1)⟩ : IR)
theorem mkRs_length (m n : Nat) : (mkRs m n).length = n := by simp [mkRs]
theorem mkRs_get (m n i : Nat) (h : i < n) : (mkRs m n)[i]'(by rw [mkRs_length]; exact h) = (⟨((m + 2 * i : Nat) : Int), mark (m + 2 * i + 1)⟩ : IR) := by simp [mkRs]
theorem mk_bd (m n i q d : Nat) (hq : q = m + 2 * i) (hi : i + (d + 1) = n) (hn : n ≤ 1099511627776) (hm : m ≤ 1099511627776) : q < 9223372036854775807 ∧ q + 1 < 9223372036854775807 ∧ q + 1 ≤ 4611686018427387904 ∧ i < 9223372036854775807 ∧ i < n ∧ q + 1 + 1 = m + 2 * (i + 1) := by omega
theorem markRowS_l0 (n m : Nat) (hn : n ≤ 1099511627776) (hm : m ≤ 1099511627776) : ∀ d i q (o : List IR), q = m + 2 * i → i + d = n → o.length = n → o.take i = (mkRs m n).take i →
    Ev (fun k => laws_markRowS.l0 k o (q : Int) (i : Int)) (((m + 2 * n : Nat) : Int), mkRs m n) := by
  intro d
  induction d with
  | zero =>
    intro i q o hq hi hl ht
    refine Ev.step (fun k => laws_markRowS.l0.eq_2 ..) (ev_neg (by omega) (ev_some ?_))
    rw [List.take_of_length_le (by omega), List.take_of_length_le (by rw [mkRs_length]; omega)] at ht
    rw [ht, hq, show i = n from by omega]
  | succ d ih =>
    intro i q o hq hi hl ht
    obtain ⟨b1, b2, b3, b4, b5, b6⟩ := mk_bd m n i q d hq hi hn hm
    refine Ev.step (fun k => laws_markRowS.l0.eq_2 ..) (ev_pos (by omega) (ev_pos (by omega) (ev_bind (ev_some rfl) ?_)))
    rw [wrap_succ q b1, wrap_succ (q + 1) b2, wrap_succ i b4, Int.toNat_natCast]
    rw [rdIR o i (by omega)]
    refine ev_bind (mark_ev (q + 1) b3) ?_
    rw [rdIR (o.set i _) i (by rw [List.length_set]; omega), List.getElem_set_self, List.set_set]
    refine ih (i + 1) _ _ b6 (by omega) (by rw [List.length_set]; exact hl) ?_
    rw [List.take_succ_eq_append_getElem (by rw [List.length_set]; omega), List.take_succ_eq_append_getElem (by rw [mkRs_length]; omega), List.getElem_set_self, List.take_set_of_le (Nat.le_refl i), ht, mkRs_get m n i b5, hq]
theorem markRowS_ev (l : List IR) (m : Nat) (hn : l.length ≤ 1099511627776) (hm : m ≤ 1099511627776) : Ev (fun k => laws_markRowS.f k l (m : Int)) (((m + 2 * l.length : Nat) : Int), mkRs m l.length) := by
  simp only [laws_markRowS.f]
  exact markRowS_l0 l.length m hn hm l.length 0 m l (by omega) (by omega) rfl rfl
end Go.Proofs.Ytbbkecdlapemfaa.Pl

/- NewOf's law, in plain Lean. Conditions: lengths and sizes below 2^63. -/
namespace Go.Proofs.Ytbbkecdlapemfaa.Pure
open Go.RowKit Go.Proofs.Ytbbkecdlapemfaa.My Go.Proofs.Ytbbkecdlapemfaa.Pl Go.Proofs.YtbbkecdlapemfaaW.PrintWords Go.Proofs.YtbbkecdlapemfaaW.PrintLast
def sideR (a b : Int) (rows : List IR) : List ByteArray × Bool := if groupB a b rows = true then (sideL 2 rows, true) else ([], false)
theorem impl_ev (a b : Int) (rows : List IR) (hf : FitIR rows) (hL : rows.length ≤ 1048576) : Ev (fun k => impl_NewOf.f k a b rows) (sideR a b rows) := by
  simp only [impl_NewOf.f]
  unfold sideR
  refine ev_bind (goodGroup_ev a b rows hf hL) (ev_ite (fun h => ?_) (fun h => ev_some (by rw [if_neg h])))
  rw [if_pos h]
  exact ev_bind (fresh_ev a b rows hL) (ev_some rfl)
theorem spec_ev (a b : Int) (rows : List IR) (hf : FitIR rows) (hL : rows.length ≤ 1048576) : Ev (fun k => spec_NewOf.f k a b rows) (sideR a b rows) := by
  simp only [spec_NewOf.f]
  unfold sideR
  refine ev_bind (l6Group_ev a b rows hf hL) (ev_ite (fun h => ?_) (fun h => ev_some (by rw [if_neg h])))
  rw [if_pos h]
  exact ev_bind (l6New_ev a b rows hL) (ev_some rfl)
theorem FnExactNewOf : laws_FnExactNewOf.Pure := by
  intro g hg
  obtain ⟨h0, h1, h2⟩ := hg
  have fr := fitR_of_wl h2
  refine Ev.rounds (r := true) ?_
  simp only [laws_FnExactNewOf.f]
  obtain ⟨r, hr, hl⟩ := szGroup_ev g.f0 g.f1 g.f2 fr 1048576 (by omega) (by omega)
  refine ev_bind hr (ev_ite (fun _ => ev_some rfl) (fun h => ?_))
  have hz : szR g.f2 ≤ 1048576 := by rcases hl with hl | hl <;> omega
  have hL : g.f2.length ≤ 1048576 := by unfold szR at hz; omega
  have hf := fitIR_of fr
  have hM : (g.f2.map toR).length ≤ 1048576 := by rw [List.length_map]; exact hL
  have tg := toGroup_ev g.f0 g.f1 g.f2 hL
  have ei := impl_ev g.f0 g.f1 _ hf hM
  have es := spec_ev g.f0 g.f1 _ hf hM
  have hv : (sideR g.f0 g.f1 (g.f2.map toR)).1.length ≤ 1048576 := by
    unfold sideR
    split
    · exact Nat.le_trans (sideL_len _ _) hM
    · exact Nat.zero_le _
  generalize hR : sideR g.f0 g.f1 (g.f2.map toR) = R at *
  have eq1 : Ev (fun k => laws_eqStringS.f k R.1 R.1) true := ev_to (eqStringS_ev _ _ (by omega)) (by simp)
  have eg : Ev (fun k => laws_eqGroup.f k g.f0 g.f1 (g.f2.map toR) g.f0 g.f1 (g.f2.map toR)) true := by
    refine ev_pos rfl (ev_pos rfl (ev_bind (eqRowS_ev _ _ (by omega)) (ev_pos (by simp) (ev_some rfl))))
  have mg := markRowS_ev (g.f2.map toR) 1 (by omega) (by omega)
  have ms := markStringS_ev R.1 1 (by omega) (by omega)
  have hs := heldStringS_ev 1 R.1.length (by omega) (by omega)
  have fin : Ev (fun k => laws_FnExactNewOf.j2 k (marks 1 R.1.length) ((1 + R.1.length : Nat) : Int) false) true :=
    Ev.step (fun k => laws_FnExactNewOf.j2.eq_2 ..) (ev_neg (by simp) (ev_bind hs (ev_neg (by omega) (ev_pos rfl (ev_some rfl)))))
  have mid : Ev (fun k => laws_FnExactNewOf.j1 k R.1 R.2 R.1 false g.f0 g.f1 g.f2) true := by
    refine Ev.step (fun k => laws_FnExactNewOf.j1.eq_2 ..) (ev_neg (by simp) (ev_bind ms (ev_bind hs (ev_neg (by omega) (ev_pos rfl (ev_bind tg (ev_bind ei (ev_bind eq1 (ev_pos rfl ?_)))))))))
    rw [bne_self_eq_false]
    exact fin
  refine ev_bind tg (ev_bind es (ev_bind tg (ev_bind ei (ev_bind eq1 (ev_pos rfl ?_)))))
  rw [bne_self_eq_false]
  refine Ev.step (fun k => laws_FnExactNewOf.j0.eq_2 ..) (ev_neg (by simp) (ev_bind tg (ev_bind eg (ev_pos rfl ?_))))
  refine ev_bind (g := fun k => laws_markGroup.f k g.f0 g.f1 (g.f2.map toR) 1) (a := (((1 + 2 * (g.f2.map toR).length : Nat) : Int), mkRs 1 (g.f2.map toR).length)) ?_ (ev_neg (by omega) (ev_bind eq1 (ev_pos rfl ?_)))
  · simp only [laws_markGroup.f]
    exact ev_bind mg (ev_some rfl)
  · rw [bne_self_eq_false]
    exact mid
end Go.Proofs.Ytbbkecdlapemfaa.Pure

/- The Go function loop.example/g00825/laws.FnExactNewOf returns true for every input, and each argument reads afterwards as it read before. No condition. -/
namespace Go.Proofs.Ytbbkecdlapemfaa.fnExactNewOf
open Go.ChangeShapes Go.WideShapes Go.ChangeAt Go.RowKit Go.Joins Go.Proofs.Ytbbkecdlapemfaa.Opens Go.Proofs.Ytbbkecdlapemfaa.My
open Go.ChangeMaps (open_string shut_string)
set_option linter.unusedVariables false
set_option linter.unusedSimpArgs false
theorem own : ownKnob Try.prog.godebug = none := by kernel_rfl
theorem laidOut : laidOutB Try.prog = true := by kernel_rfl
set_option maxRecDepth 100000 in
theorem lifted (os : Os) (started : os.Started) (H : Type) (enc : TypeId × Value → H) :
    ReturnsInHanded {} Try.checked os 10 .any (Rows.fnExactNewOfSpec.pre6 enc Try.prog Try.f10 Rows.fnExactNewOfRow.domain false) (Rows.fnExactNewOfSpec.post enc Try.prog Try.f10 false true false false) := by
  refine returnsInHanded_of_change_sized (C := Try.checked) own started (by kernel_rfl) Try.func10
    (ChangeSpec.witness6 (enc := enc) (C := Try.checked) false ⟨#[], #[.agg #[.int .i64 0, .int .i64 0, .slice none 0 0]], []⟩ 8 (by kernel_rfl) (by kernel_rfl) (by kernel_rfl) (by kernel_rfl)) ?_
  intro W base args ds gs before hval0 hW hcnd hsz0 _
  have hval : ∀ (j : Nat) t v, Try.f10.params[j]? = some t → args[j]? = some v → Value.okWide Try.prog W .any base t v := hval0
  have hW' := hW
  obtain ⟨p, q, hA0, hV, rfl, hfz, hnd⟩ := hW
  have hA : DataW.TrodAll enc Try.prog W 0 (fun _ => true) true Try.f10.params.toList args.toList ds p := hA0
  rw [Try.params10] at hA hval
  obtain ⟨v0, vs0, d0, ds0, p0, q0, hargs, rfl, rfl, h0, r0⟩ := trodAll_cons hA
  obtain ⟨rfl, rfl, rfl⟩ := trodAll_nil r0
  obtain rfl : args = #[v0] := by cases args; simp_all
  obtain ⟨rfl, rfl⟩ := trodVars_none hV
  obtain ⟨c0_0, c0_1, c0_2, y0_0, y0_1, y0_2, m0, rfl, _, _, _, _, _⟩ := open_agg3 Try.underlying65 (by kernel_rfl) (by kernel_rfl : Try.prog.cellsOf 65 = 3) (hval 0 65 v0 rfl rfl) h0
  have k0 := h0
  have lt0 : ∀ x ∈ p0, x.block < W.heap.size := by obtain ⟨m, hm⟩ := k0; exact DataW.trod_lt m _ _ _ hm
  obtain ⟨s0, hK0, q0_⟩ : ∃ a : S65, k65.K W a (Value.agg #[c0_0, c0_1, c0_2]).cells.toList ∧ W65 a := by
    obtain ⟨m, hm⟩ := h0
    exact opens65 _ _ _ _ _ _ _ _ _ hm
  obtain ⟨B0_2, b0_2, e0, hc0_2, hr0_2⟩ := k65_open hK0
  simp [Value.cells] at e0
  obtain ⟨rfl, rfl, rfl⟩ := e0
  clear hA0 hval0 hsz0
  obtain ⟨kr, hk⟩ := Pure.FnExactNewOf s0 q0_
  refine (laws_FnExactNewOf.calls kr s0.f0 s0.f1 _ _ s0.f2 true W hr0_2 hc0_2 hk).mono fun e W' hh => ?_
  obtain ⟨rfl, hd⟩ := hh
  have bel : Below W.heap.size W W' := hd
  exact ⟨_, rfl, _, _, _, [], _, [], hW', trodAll_mk1 (shut_bool Try.underlying4 _), (trodAll_cons_mk (Below.trod laidOut (by kernel_rfl) (of_decide_eq_true (by kernel_rfl)) k0 bel lt0) trodAll_mk0), rfl, bel.frame _, fun h => by cases h⟩
theorem over : Rows.fnExactNewOfRow.holds Try.pinned (OpenSpec.ofChange Rows.fnExactNewOfSpec) :=
  OpenClaim.holds_of_wide 10 Try.f10 rfl rfl rfl rfl rfl rfl rfl ⟨rfl, rfl, rfl, rfl, rfl⟩ rfl rfl rfl rfl rfl (by kernel_rfl) Try.func10 (by kernel_rfl)
    (of_decide_eq_true (by kernel_rfl)) (by unfold Func.isWrapper; first | (rw [if_pos (by decide +kernel)]; kernel_rfl) | (rw [if_neg (by decide +kernel)]; exact ⟨rfl, rfl⟩))
    (fun os started H enc _ => lifted os started H enc)
theorem proved : Rows.FnExactNewOfSaid := over
#print axioms proved
end Go.Proofs.Ytbbkecdlapemfaa.fnExactNewOf
namespace Go.Proofs.Ytbbkecdlapemfaa
/-- The row, under a short name, for the claim. -/
theorem fnExactNewOf_holds : Rows.FnExactNewOfSaid := fnExactNewOf.proved
end Go.Proofs.Ytbbkecdlapemfaa
