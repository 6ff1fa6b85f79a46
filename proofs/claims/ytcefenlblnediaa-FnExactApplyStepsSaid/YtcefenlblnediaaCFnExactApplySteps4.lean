/- Part 4 of 6 of a proof of this sentence: The Go function loop.example/g00825/laws.FnExactApplySteps returns true for every input, and each argument reads afterwards as it read before. No condition. -/
import Derived.Test.YtcefenlblnediaaCFnExactApplySteps3
/- Written by this session's program (wip/gen): a plain function with the same answers as the Go function, and the proof that the Go code comes to them. Asked: that the plain function has an answer. -/
namespace Go.Proofs.Ytcefenlblnediaa.My
open Go.RowKit Go.Proofs.YtcefenlblnediaaW.PrintWords Go.Proofs.YtcefenlblnediaaW.PrintLast Go.Proofs.YtcefenlblnediaaW.PrintMore
attribute [local go_sem] max2_int min2_int max_two min_two max_three min_three max_four min_four
set_option linter.unusedVariables false
set_option linter.unusedSimpArgs false

/-! ### impl_patched: function 101 -/
def impl_patched.l0 : Nat → List ByteArray → List ByteArray → Int → List (S111) → Int → Int → Option (List ByteArray)
 | 0, _, _, _, _, _, _ => none
 | k + 1, x0, x5, x6, x10, x11, x12 => if x12 < x11 then (if 0 ≤ x12 then (if x12 < (x10.length : Int) then (if 0 ≤ x6 then (if x6 ≤ ((rd_T111 x10 x12).f0) then (if ((rd_T111 x10 x12).f0) ≤ (x0.length : Int) then (if x5.length + ((x0.take (((rd_T111 x10 x12).f0) : Int).toNat).drop (x6 : Int).toNat).length < 8796093022208 then ((some (x5 ++ ((x0.take (((rd_T111 x10 x12).f0) : Int).toNat).drop (x6 : Int).toNat) : List ByteArray)).bind fun y443 => (if y443.length + ((rd_T111 x10 x12).f2).length < 8796093022208 then (impl_patched.l0 k x0 (y443 ++ ((rd_T111 x10 x12).f2)) (wrap64 (((rd_T111 x10 x12).f0) + ((rd_T111 x10 x12).f1))) x10 x11 (wrap64 (x12 + 1))) else (none))) else (none)) else (none)) else (none)) else (none)) else (none)) else (none)) else (if 0 ≤ x6 then (if x6 ≤ (x0.length : Int) then (if x5.length + (x0.drop (x6 : Int).toNat).length < 8796093022208 then (some (x5 ++ (x0.drop (x6 : Int).toNat))) else (none)) else (none)) else (none))
def impl_patched.f (k : Nat) (l0 : List ByteArray) (l1 : List (S111)) : Option (List ByteArray) := impl_patched.l0 k l0 (([] : List ByteArray)) 0 l1 (l1.length : Int) 0
def impl_patched.T5 : Bool × List (List Nat × List Nat) := (true, [([], []), ([], []), ([], []), ([], []), ([3], [3]), ([1, 2, 4], [1, 2, 4]), ([0, 5], [0, 5]), ([], []), ([7], [7]), ([6, 8, 6], [6, 8]), ([9, 9, 0, 1, 2, 3, 4, 5, 6, 7, 8, 9], [0, 9])])
def impl_patched.B5 : List Nat := [0, 0, 0, 0, 8, 30, 63, 0, 128, 511, 1023]
theorem impl_patched.tab5 : rtab .any (opsOf Try.f101 5) = impl_patched.T5 := by kernel_rfl
theorem impl_patched.bits5 : waitsOk impl_patched.T5.2 impl_patched.B5 = true := by kernel_rfl
set_option maxHeartbeats 8000000 in
set_option maxRecDepth 100000 in
theorem impl_patched.calls (k : Nat) (A0 : Option Addr) (c0 : Nat) (l0 : List ByteArray) (A1 : Option Addr) (c1 : Nat) (l1 : List (S111)) (r : List ByteArray) (w : World) (hr0 : Kd.C Kd.string w A0 l0.length l0) (hc0 : l0.length ≤ c0) (hr1 : Kd.C k111 w A1 l1.length l1) (hc1 : l1.length ≤ c1) (h : impl_patched.f k l0 l1 = some r) :
  Calls Try.prog 101 #[.slice A0 l0.length c0, .slice A1 l1.length c1] w fun e w' => ∃ v0_ : Value, e = .returned (v0_) ∧ Kd.R Kd.string 9 w' w.heap.size (fun _ => True) v0_ r ∧ Below w.heap.size w w' := by
 have hu111 := Try.underlying111
 have HR0 := Aside0.mk hr0
 have HC0 := Aside0.mk hc0
 clear hr0 hc0
 have HR1 := Aside0.mk hr1
 have HC1 := Aside0.mk hc1
 clear hr1 hc1
 have HB := Aside0.mk (Below.refl w.heap.size w)
 have H : (impl_patched.l0 k l0 (([] : List ByteArray)) 0 l1 (l1.length : Int) 0) = some r := h
 clear h
 obtain ⟨y437, hy437⟩ : ∃ y_ : List ByteArray, y_ = (([] : List ByteArray)) := ⟨_, rfl⟩
 replace H : (impl_patched.l0 k l0 y437 0 l1 (l1.length : Int) 0) = some r := by first | (rw [hy437]; with_reducible exact H) | (have H2_ := (Option.bind_some _ _).symm.trans H; rw [hy437]; with_reducible exact H2_) | (have H2_ := (Option.bind_some _ _).symm.trans H; with_reducible exact H2_) | with_reducible exact H | (rw [hy437]; exact H) | exact H
 have Ny437 := Aside0.mk hy437
 clear hy437
 have H' := Aside0.mk H
 clear H
 go_enter Try.func101, Try.ntmps101
 go_wp2_with (first | ((with_reducible refine gate_dst (N := 9) rfl ?_); refine Kd.R_lit Kd.string _ 9 ?hg (N := 9) ?hd (xs := ([] : List ByteArray)) (inner := []) (ok := fun _ => True) (okp := fun _ => True) ?hr ?hp (fun _ hk => hk) trivial (Below.refl _ _) (Nat.le_refl _) (by simp) ?_; (case hd => rfl); (case hg => rfl); (case hr => first | (go_simp; done) | (go_simp; rfl)); (case hp => exact (Reps.none _ _)); intro v438 w3 ho4 hb hg_ hnew_; clear hg_ hnew_; (first | rw [← Ny437.out] at ho4 | (simp only [Int.reduceToNat] at ho4; rw [← Ny437.out] at ho4)); have n0_ := Aside0.mk (Kd.R_lower ho4 (below_size zb)); have n1_ := Aside0.mk (below_step zb hb); clear HB; have HO439 := n0_; have HB := n1_; clear n0_ n1_; clear hb ho4))
 go_loopg [5, 6, 12] k (fun kq v5 v6 v12 w' => ∃ (x5_1 : List ByteArray) (x6_1 : Int) (x12_1 : Int), v6 = .int .i64 x6_1 ∧ v12 = .int .i64 x12_1 ∧ Aside0 (impl_patched.l0 kq l0 x5_1 x6_1 l1 (l1.length : Int) x12_1 = some r) ∧ Aside0 (kq ≤ k) ∧ Aside0 (Kd.R Kd.string 9 w' w.heap.size (fun _ => True) v5 x5_1) ∧ Aside0 (Below w.heap.size w w'))
 case atStart => exact ⟨(y437), (0), (0), zf, zf, H', ⟨Nat.le_refl _⟩, ⟨by (with_reducible repeat (first | apply Kd.R_alloc | apply Kd.R_drewN | apply Kd.R_drew)); exact HO439.out⟩, ⟨by repeat (first | (with_reducible first | exact HB.out | apply below_alloc | apply pw_below_drewN | apply below_drew1) | exact HB.out)⟩⟩
 case round =>
  clear H'
  try clear c1
  try clear p2
  obtain ⟨x5_1, x6_1, x12_1, rfl, rfl, HA, HK1, HO_5, HB⟩ := hrel
  cases gk with
  | zero => exact absurd HA.out (by simp [impl_patched.l0])
  | succ k1 =>
   have H := HA.out
   clear HA
   simp only [impl_patched.l0] at H
   by_cases c5 : x12_1 < (l1.length : Int)
   ·rw [if_pos c5] at H
    have c5b0 : decide (x12_1 < (l1.length : Int)) = true := decide_eq_true c5
    clear c5
    by_cases c6 : 0 ≤ x12_1
    ·rw [if_pos c6] at H
     have c6b0 : decide (0 ≤ x12_1) = true := decide_eq_true c6
     clear c6
     by_cases c7 : x12_1 < (l1.length : Int)
     ·rw [if_pos c7] at H
      have c7b0 : decide (x12_1 < (l1.length : Int)) = true := decide_eq_true c7
      clear c7
      by_cases c8 : 0 ≤ x6_1
      ·rw [if_pos c8] at H
       have c8b0 := eq_true c8
       have c8b1 : decide (0 ≤ x6_1) = true := decide_eq_true c8
       clear c8
       by_cases c9 : x6_1 ≤ ((rd_T111 l1 x12_1).f0)
       ·rw [if_pos c9] at H
        have c9b0 := eq_true c9
        have c9b1 : decide (x6_1 ≤ ((rd_T111 l1 x12_1).f0)) = true := decide_eq_true c9
        clear c9
        by_cases c10 : ((rd_T111 l1 x12_1).f0) ≤ (l0.length : Int)
        ·rw [if_pos c10] at H
         have c10b0 := eq_true c10
         have c10b1 : decide (((rd_T111 l1 x12_1).f0) ≤ (l0.length : Int)) = true := decide_eq_true c10
         clear c10
         by_cases c11 : x5_1.length + ((l0.take (((rd_T111 l1 x12_1).f0) : Int).toNat).drop (x6_1 : Int).toNat).length < 8796093022208
         ·rw [if_pos c11] at H
          have LMc11 := Aside0.mk c11
          clear c11
          obtain ⟨y443, hy443⟩ : ∃ y_ : List ByteArray, y_ = (x5_1 ++ ((l0.take (((rd_T111 l1 x12_1).f0) : Int).toNat).drop (x6_1 : Int).toNat)) := ⟨_, rfl⟩
          replace H : (if y443.length + ((rd_T111 l1 x12_1).f2).length < 8796093022208 then (impl_patched.l0 k1 l0 (y443 ++ ((rd_T111 l1 x12_1).f2)) (wrap64 (((rd_T111 l1 x12_1).f0) + ((rd_T111 l1 x12_1).f1))) l1 (l1.length : Int) (wrap64 (x12_1 + 1))) else (none)) = some r := by first | (rw [hy443]; with_reducible exact H) | (have H2_ := (Option.bind_some _ _).symm.trans H; rw [hy443]; with_reducible exact H2_) | (have H2_ := (Option.bind_some _ _).symm.trans H; with_reducible exact H2_) | with_reducible exact H | (rw [hy443]; exact H) | exact H
          have Ny443 := Aside0.mk hy443
          clear hy443
          by_cases c12 : y443.length + ((rd_T111 l1 x12_1).f2).length < 8796093022208
          ·rw [if_pos c12] at H
           have LMc12 := Aside0.mk c12
           clear c12
           obtain ⟨y446, hy446⟩ : ∃ y_ : List ByteArray, y_ = (y443 ++ ((rd_T111 l1 x12_1).f2)) := ⟨_, rfl⟩
           replace H : (impl_patched.l0 k1 l0 y446 (wrap64 (((rd_T111 l1 x12_1).f0) + ((rd_T111 l1 x12_1).f1))) l1 (l1.length : Int) (wrap64 (x12_1 + 1))) = some r := by first | (rw [hy446]; with_reducible exact H) | (have H2_ := (Option.bind_some _ _).symm.trans H; rw [hy446]; with_reducible exact H2_) | (have H2_ := (Option.bind_some _ _).symm.trans H; with_reducible exact H2_) | with_reducible exact H | (rw [hy446]; exact H) | exact H
           have Ny446 := Aside0.mk hy446
           clear hy446
           have H' := Aside0.mk H
           clear H
           have p440 : 0 ≤ (x12_1 : Int) := oa
           have q440 : x12_1 < (l1.length : Int) := oa
           obtain ⟨ad440, A440_2, c440_2, e440, hx440_0, hx440_1, hx440_2, hl440_2, hi440_2⟩ := at_T111 HR1.out x12_1 p440 q440
           cases e440
           replace hx440_0 := (HB.out.cell (World.block_lt_of_cell? w _ hx440_0)).trans hx440_0
           replace hx440_1 := (HB.out.cell (World.block_lt_of_cell? w _ hx440_1)).trans hx440_1
           replace hx440_2 := (HB.out.cell (World.block_lt_of_cell? w _ hx440_2)).trans hx440_2
           have HR440_2 := Aside0.mk hi440_2
           have HC440_2 := Aside0.mk hl440_2
           clear hi440_2 hl440_2
           replace p440 := eq_true p440
           replace q440 := eq_true q440
           try go_wp2_with (first | ((with_reducible refine gate_dst (N := 8) rfl ?_); refine box_event ?hg (N := 8) ?hd (cs := #[.int .i64 0, .int .i64 0, .slice none 0 0]) (t := 111) ?hr ?_; (case hd => rfl); (case hg => rfl); (case hr => first | (go_simp; done) | (go_simp; rfl)); intro gb441 hg w13 hbox hb; have n0_ := Aside0.mk (Kd.R_below (zr HO_5.out) hb); have n1_ := Aside0.mk (below_step zb hb); have n2_ := Aside0.mk (hbox); have n3_ := Aside0.mk ((by rw [hg]; exact (below_size zb) : w.heap.size ≤ gb441)); have n4_ := Aside0.mk ((by rw [hg]; exact (below_size zb) : w.heap.size ≤ gb441)); clear HO_5; clear HB; have HO_5 := n0_; have HB := n1_; have BK441 := n2_; have GW441 := n3_; have GE441 := n4_; clear n0_ n1_ n2_ n3_ n4_; clear hb hbox hg; have hcz14_0 : w13.cell? ⟨gb441, 0, none⟩ = some (.int .i64 0) := (blk_cell BK441.out 0).trans rfl; have hcz14_1 : w13.cell? ⟨gb441, 1, none⟩ = some (.int .i64 0) := (blk_cell BK441.out 1).trans rfl; have hcz14_2 : w13.cell? ⟨gb441, 2, none⟩ = some (.slice none 0 0) := (blk_cell BK441.out 2).trans rfl; have hfz14_0 := blk_frozen BK441.out 0; have hfz14_1 := blk_frozen BK441.out 1; have hfz14_2 := blk_frozen BK441.out 2))
           have n0_ : Aside0 (Kd.R Kd.string 9 (((w13.setCell ⟨gb441, 0, none⟩ (.int .i64 ((rd_T111 l1 x12_1).f0))).setCell ⟨gb441, 1, none⟩ (.int .i64 ((rd_T111 l1 x12_1).f1))).setCell ⟨gb441, 2, none⟩ (.slice A440_2 ((rd_T111 l1 x12_1).f2).length c440_2)) w.heap.size (fun _ => True) u5 x5_1) := ⟨by (with_reducible repeat (first | apply Kd.R_alloc | apply Kd.R_drewN | apply Kd.R_drew)); exact Kd.R_mono (Kd.R_far (p := ⟨gb441, 2, none⟩) (Kd.R_far (p := ⟨gb441, 1, none⟩) (Kd.R_far (p := ⟨gb441, 0, none⟩) (Kd.R_types HO_5.out BK441.out (by decide)) (fun _ hk => hk.2) (.int .i64 ((rd_T111 l1 x12_1).f0))) (fun _ hk => hk.2) (.int .i64 ((rd_T111 l1 x12_1).f1))) (fun _ hk => hk.2) (.slice A440_2 ((rd_T111 l1 x12_1).f2).length c440_2)) (fun _ hk => trivial)⟩
           have n1_ : Aside0 ((((w13.setCell ⟨gb441, 0, none⟩ (.int .i64 ((rd_T111 l1 x12_1).f0))).setCell ⟨gb441, 1, none⟩ (.int .i64 ((rd_T111 l1 x12_1).f1))).setCell ⟨gb441, 2, none⟩ (.slice A440_2 ((rd_T111 l1 x12_1).f2).length c440_2)).heap[gb441]? = some (.cells #[.int .i64 ((rd_T111 l1 x12_1).f0), .int .i64 ((rd_T111 l1 x12_1).f1), .slice A440_2 ((rd_T111 l1 x12_1).f2).length c440_2] 111 (0, 0))) := ⟨by (with_reducible repeat (first | refine blk_drewN ?_ _ | refine blk_drew ?_ | refine blk_alloc ?_ _)); refine blk_put (cs := #[.int .i64 ((rd_T111 l1 x12_1).f0), .int .i64 ((rd_T111 l1 x12_1).f1), .slice none 0 0]) ?_ 2 _ rfl; (with_reducible repeat (first | refine blk_drewN ?_ _ | refine blk_drew ?_ | refine blk_alloc ?_ _)); refine blk_put (cs := #[.int .i64 ((rd_T111 l1 x12_1).f0), .int .i64 0, .slice none 0 0]) ?_ 1 _ rfl; (with_reducible repeat (first | refine blk_drewN ?_ _ | refine blk_drew ?_ | refine blk_alloc ?_ _)); refine blk_put (cs := #[.int .i64 0, .int .i64 0, .slice none 0 0]) ?_ 0 _ rfl; (with_reducible repeat (first | refine blk_drewN ?_ _ | refine blk_drew ?_ | refine blk_alloc ?_ _)); exact BK441.out⟩
           have n2_ : Aside0 (Below w.heap.size w (((w13.setCell ⟨gb441, 0, none⟩ (.int .i64 ((rd_T111 l1 x12_1).f0))).setCell ⟨gb441, 1, none⟩ (.int .i64 ((rd_T111 l1 x12_1).f1))).setCell ⟨gb441, 2, none⟩ (.slice A440_2 ((rd_T111 l1 x12_1).f2).length c440_2))) := ⟨by repeat (first | (with_reducible first | exact HB.out | apply below_alloc | apply pw_below_drewN | apply below_drew1 | refine below_set ?_ GE441.out) | exact HB.out)⟩
           (try clear HO_5)
           (try clear BK441)
           (try clear HB)
           (try simp only [show ∀ (w_ : World) (n_ : Nat) (p_ : Addr) (v_ : Value), (w_.drewN n_).setCell p_ v_ = (w_.setCell p_ v_).drewN n_ from fun _ _ _ _ => rfl])
           generalize (((w13.setCell ⟨gb441, 0, none⟩ (.int .i64 ((rd_T111 l1 x12_1).f0))).setCell ⟨gb441, 1, none⟩ (.int .i64 ((rd_T111 l1 x12_1).f1))).setCell ⟨gb441, 2, none⟩ (.slice A440_2 ((rd_T111 l1 x12_1).f2).length c440_2)) = w15 at n0_ n1_ n2_ ⊢
           have HO_5 := n0_
           have BK441 := n1_
           have HB := n2_
           clear n0_ n1_ n2_
           have n0_ := Aside0.mk (Kd.R_drew HO_5.out)
           have n1_ := Aside0.mk (blk_drew BK441.out)
           have n2_ := Aside0.mk (below_drew1 HB.out)
           clear HO_5
           clear BK441
           clear HB
           have HO_5 := n0_
           have BK441 := n1_
           have HB := n2_
           clear n0_ n1_ n2_
           obtain ⟨i017, hi017, _, hsz17, _⟩ := info_parts info9
           obtain ⟨A17, hcut17, hA17, hC17⟩ := print_mid_of (P := Try.prog) Value.string (⟨#[]⟩ : ByteArray) 22 9 .i64 .i64 Try.underlying22 hi017 hsz17 A0 c0 l0 x6_1 ((rd_T111 l1 x12_1).f0) oa (by first | omega | exact oa) oa HC0.out
           have HR442 := Aside0.mk (Kd.C_of_reads (h1 := fun _ => rfl) (hA17 _ (Kd.reads_of_C HR0.out)))
           have HC442 := Aside0.mk hC17
           clear hA17 hC17 hi017 hsz17
           refine start_ (n := 11) (S := fun w' => w'.cell? ⟨gb441, 0, none⟩ = some (.int .i64 ((rd_T111 l1 x12_1).f0)) ∧ w'.cell? ⟨gb441, 1, none⟩ = some (.int .i64 ((rd_T111 l1 x12_1).f1)) ∧ w'.cell? ⟨gb441, 2, none⟩ = some (.slice A440_2 ((rd_T111 l1 x12_1).f2).length c440_2)) (ds := []) #[O,O,O,O,O,O,O,O,O,O,O] (by kernel_rfl) rfl rfl ⟨(blk_cell BK441.out 0).trans rfl, (blk_cell BK441.out 1).trans rfl, (blk_cell BK441.out 2).trans rfl⟩ (fun hHeld => ?_); refine with_tabW impl_patched.tab5 impl_patched.bits5 (fun HT_ HW_ => ?_)
           generalize w15.drew = w16 at HO_5 BK441 HB HR442 hHeld ⊢
           refine pure_ (i := 0) (N := some 16) (v := ?_) (a' := ?_) #[Y,O,O,O,O,O,O,O,O,O,O] rfl rfl zx (fun _ _ _ h => h) (Or.inl ⟨by rfl, ?_⟩) ?_ ?_
           rotate_left; (intro w'; go_simp; with_reducible rfl); rotate_left; (simp only [Act.put,qa,qb,qc,i64_w,i32_w]; rfl)
           refine pure_ (i := 1) (N := some 17) (v := ?_) (a' := ?_) #[Y,Y,O,O,O,O,O,O,O,O,O] rfl rfl zx (fun _ _ _ h => h) (Or.inl ⟨by rfl, ?_⟩) ?_ ?_
           rotate_left; (intro w'; go_simp; with_reducible rfl); rotate_left; (simp only [Act.put,qa,qb,qc,i64_w,i32_w]; rfl)
           refine pure_ (i := 2) (N := some 18) (v := ?_) (a' := ?_) #[Y,Y,Y,O,O,O,O,O,O,O,O] rfl rfl zx (fun _ _ _ h => h) (Or.inl ⟨by rfl, ?_⟩) ?_ ?_
           rotate_left; (intro w'; go_simp; with_reducible rfl); rotate_left; (simp only [Act.put,qa,qb,qc,i64_w,i32_w]; rfl)
           refine pure_ (i := 3) (N := some 19) (v := ?_) (a' := ?_) #[Y,Y,Y,Y,O,O,O,O,O,O,O] rfl rfl zx (fun _ _ _ h => h) (Or.inl ⟨by rfl, ?_⟩) ?_ ?_
           rotate_left; (intro w'; go_simp; with_reducible rfl); rotate_left; (simp only [Act.put,qa,qb,qc,i64_w,i32_w]; rfl)
           refine pure_ (i := 7) (N := some 23) (v := ?_) (a' := ?_) #[Y,Y,Y,Y,O,O,O,Y,O,O,O] rfl rfl zx (fun _ _ _ h => h) (Or.inl ⟨by rfl, ?_⟩) ?_ ?_
           rotate_left; (intro w'; go_simp; with_reducible rfl); rotate_left; (simp only [Act.put,qa,qb,qc,i64_w,i32_w]; rfl)
           refine take_ (i := 4) (N := some 20) (v := ?_) (a' := ?_) #[Y,Y,Y,Y,Y,O,O,Y,O,O,O] rfl rfl (take_ofW HT_.out HW_.out (by kernel_rfl)) (fun _ _ _ h => h) (Or.inl ⟨by rfl, ?_⟩) hHeld ?_ ?_
           rotate_left; (rintro w' ⟨s0, s1, s2⟩; go_simp; with_reducible rfl); rotate_left; (simp only [Act.put,qa,qb,qc,i64_w,i32_w]; rfl)
           refine pure_ (i := 5) (N := some 21) (v := ?_) (a' := ?_) #[Y,Y,Y,Y,Y,Y,O,Y,O,O,O] rfl rfl zx (fun _ _ _ h => h) (Or.inl ⟨by rfl, ?_⟩) ?_ ?_
           rotate_left; (intro w'; go_simp; with_reducible rfl); rotate_left; (simp only [Act.put,qa,qb,qc,i64_w,i32_w]; rfl)
           refine take_ (i := 8) (N := some 24) (v := ?_) (a' := ?_) #[Y,Y,Y,Y,Y,Y,O,Y,Y,O,O] rfl rfl (take_ofW HT_.out HW_.out (by kernel_rfl)) (fun _ _ _ h => h) (Or.inl ⟨by rfl, ?_⟩) hHeld ?_ ?_
           rotate_left; (rintro w' ⟨s0, s1, s2⟩; go_simp; with_reducible rfl); rotate_left; (simp only [Act.put,qa,qb,qc,i64_w,i32_w]; rfl)
           refine one_ (i := 6) (N := some 22) #[Y,Y,Y,Y,Y,Y,Y,Y,Y,O,O] rfl rfl (one_of HT_.out (by kernel_rfl)) (by decide) (fun K hK => ?_)
           refine Kd.R_append_rows_step Kd.string (w0 := w) w.heap.size (by rfl) (.tmp 16) (.tmp 21) 22 9 (.string ⟨#[]⟩) 16 rfl Try.underlying22 info9 rfl (by decide) (by omega) u5 x5_1 ((l0.take (((rd_T111 l1 x12_1).f0) : Int).toNat).drop (x6_1 : Int).toNat) _ _ _ (fun _ => True) (fun _ => False) rfl rfl ?aO ?aR (fun _ _ h => h) (fun _ h => h.elim) ?aF ?aB ?aS ?aL ?_
           (case aR => first | (rw [← show ((l0.take (((rd_T111 l1 x12_1).f0) : Int).toNat).drop (x6_1 : Int).toNat).length = (((rd_T111 l1 x12_1).f0).toNat - x6_1.toNat) from (by rw [List.length_drop, List.length_take]; have h_ : (((rd_T111 l1 x12_1).f0) : Int) ≤ (l0.length : Int) := oa; omega)]; exact zq (Kd.C_below HR442.out HB.out)) | (exact zq (Kd.C_below HR442.out HB.out)))
           (case aB => exact (by repeat (first | (with_reducible first | exact HB.out | apply below_alloc | apply pw_below_drewN | apply below_drew1 | refine below_set ?_ GE441.out) | exact HB.out)))
           (case aF => exact (fun _ _ => trivial))
           (case aO => exact (zr HO_5.out))
           (case aS => exact (below_size (by repeat (first | (with_reducible first | exact HB.out | apply below_alloc | apply pw_below_drewN | apply below_drew1 | refine below_set ?_ GE441.out) | exact HB.out))))
           (case aL => have := LMc11.out; have hlx_ := (show ((l0.take (((rd_T111 l1 x12_1).f0) : Int).toNat).drop (x6_1 : Int).toNat).length = (((rd_T111 l1 x12_1).f0).toNat - x6_1.toNat) from (by rw [List.length_drop, List.length_take]; have h_ : (((rd_T111 l1 x12_1).f0) : Int) ≤ (l0.length : Int) := oa; omega)); omega)
           intro v444 w18 ho hb hg hat
           rw [← Ny443.out] at ho
           have n0_ := Aside0.mk (blk_grown (g := gb441) (o := .cells #[.int .i64 ((rd_T111 l1 x12_1).f0), .int .i64 ((rd_T111 l1 x12_1).f1), .slice A440_2 ((rd_T111 l1 x12_1).f2).length c440_2] 111 (0, 0)) (zk BK441.out) hg (Kd.R_ne HO_5.out BK441.out (by decide)))
           have n1_ := Aside0.mk (hb)
           have n2_ := Aside0.mk (ho)
           clear BK441
           clear HB
           clear HO_5
           have BK441 := n0_
           have HB := n1_
           have HO445 := n2_
           clear n0_ n1_ n2_
           clear ho hb hg hat
           refine hK.out _ _ ⟨(blk_cell BK441.out 0).trans rfl, (blk_cell BK441.out 1).trans rfl, (blk_cell BK441.out 2).trans rfl⟩ (fun hHeld => ?_)
           clear hK K
           refine norm_ (a' := ?_) ?_ ?_
           rotate_left
           ·show Act.put _ (some 22) _ = _
            simp only [Act.put,qa,qb,qc,i64_w,i32_w]
            rfl
           refine one_ (i := 9) (N := some 25) #[Y,Y,Y,Y,Y,Y,Y,Y,Y,Y,O] rfl rfl (one_of HT_.out (by kernel_rfl)) (by decide) (fun K hK => ?_)
           refine Kd.R_append_rows_step Kd.string (w0 := w) w.heap.size (by rfl) (.tmp 22) (.tmp 24) 22 9 (.string ⟨#[]⟩) 16 rfl Try.underlying22 info9 rfl (by decide) (by omega) v444 y443 ((rd_T111 l1 x12_1).f2) _ _ _ (fun _ => True) (fun _ => False) rfl rfl ?aO ?aR (fun _ _ h => h) (fun _ h => h.elim) ?aF ?aB ?aS ?aL ?_
           (case aR => exact zq (Kd.C_below HR440_2.out HB.out))
           (case aB => exact (by repeat (first | (with_reducible first | exact HB.out | apply below_alloc | apply pw_below_drewN | apply below_drew1 | refine below_set ?_ GE441.out) | exact HB.out)))
           (case aF => exact (fun _ _ => trivial))
           (case aO => exact (zr HO445.out))
           (case aS => exact (below_size (by repeat (first | (with_reducible first | exact HB.out | apply below_alloc | apply pw_below_drewN | apply below_drew1 | refine below_set ?_ GE441.out) | exact HB.out))))
           (case aL => have := LMc12.out; omega)
           intro v447 w19 ho hb hg hat
           rw [← Ny446.out] at ho
           have n0_ := Aside0.mk (blk_grown (g := gb441) (o := .cells #[.int .i64 ((rd_T111 l1 x12_1).f0), .int .i64 ((rd_T111 l1 x12_1).f1), .slice A440_2 ((rd_T111 l1 x12_1).f2).length c440_2] 111 (0, 0)) (zk BK441.out) hg (Kd.R_ne HO445.out BK441.out (by decide)))
           have n1_ := Aside0.mk (hb)
           have n2_ := Aside0.mk (ho)
           clear BK441
           clear HB
           clear HO445
           have BK441 := n0_
           have HB := n1_
           have HO448 := n2_
           clear n0_ n1_ n2_
           clear ho hb hg hat
           refine hK.out _ _ ⟨(blk_cell BK441.out 0).trans rfl, (blk_cell BK441.out 1).trans rfl, (blk_cell BK441.out 2).trans rfl⟩ (fun hHeld => ?_)
           clear hK K
           refine norm_ (a' := ?_) ?_ ?_
           rotate_left
           ·show Act.put _ (some 25) _ = _
            simp only [Act.put,qa,qb,qc,i64_w,i32_w]
            rfl
           refine pure_ (i := 10) (N := some 5) (v := ?_) (a' := ?_) #[Y,Y,Y,Y,Y,Y,Y,Y,Y,Y,Y] rfl rfl zx (fun _ _ _ h => h) (Or.inl ⟨by rfl, ?_⟩) ?_ ?_
           rotate_left; (intro w'; go_simp; with_reducible rfl); rotate_left; (simp only [Act.put,qa,qb,qc,i64_w,i32_w]; rfl)
           refine done_ (done_of HT_.out (by kernel_rfl)) ?_
           have hcz20_0 : w19.cell? ⟨gb441, 0, none⟩ = some (.int .i64 ((rd_T111 l1 x12_1).f0)) := (blk_cell BK441.out 0).trans rfl
           have hcz20_1 : w19.cell? ⟨gb441, 1, none⟩ = some (.int .i64 ((rd_T111 l1 x12_1).f1)) := (blk_cell BK441.out 1).trans rfl
           have hcz20_2 : w19.cell? ⟨gb441, 2, none⟩ = some (.slice A440_2 ((rd_T111 l1 x12_1).f2).length c440_2) := (blk_cell BK441.out 2).trans rfl
           have hfz20_0 := blk_frozen BK441.out 0
           have hfz20_1 := blk_frozen BK441.out 1
           have hfz20_2 := blk_frozen BK441.out 2
           try go_wp2
           go_roundg k1
           case measure => have := HK1.out; omega
           case rel => exact ⟨(y446), (wrap64 (((rd_T111 l1 x12_1).f0) + ((rd_T111 l1 x12_1).f1))), (wrap64 (x12_1 + 1)), zf, zf, H', ⟨by have := HK1.out; omega⟩, ⟨by (with_reducible repeat (first | apply Kd.R_alloc | apply Kd.R_drewN | apply Kd.R_drew)); exact HO448.out⟩, ⟨by repeat (first | (with_reducible first | exact HB.out | apply below_alloc | apply pw_below_drewN | apply below_drew1 | refine below_set ?_ GE441.out) | exact HB.out)⟩⟩
          ·rw [if_neg c12] at H
           exact absurd H (by simp)
         ·rw [if_neg c11] at H
          exact absurd H (by simp)
        ·rw [if_neg c10] at H
         exact absurd H (by simp)
       ·rw [if_neg c9] at H
        exact absurd H (by simp)
      ·rw [if_neg c8] at H
       exact absurd H (by simp)
     ·rw [if_neg c7] at H
      exact absurd H (by simp)
    ·rw [if_neg c6] at H
     exact absurd H (by simp)
   ·rw [if_neg c5] at H
    have c5b0 : decide (x12_1 < (l1.length : Int)) = false := decide_eq_false c5
    clear c5
    by_cases c21 : 0 ≤ x6_1
    ·rw [if_pos c21] at H
     have c21b0 := eq_true c21
     have c21b1 : decide (0 ≤ x6_1) = true := decide_eq_true c21
     clear c21
     by_cases c22 : x6_1 ≤ (l0.length : Int)
     ·rw [if_pos c22] at H
      have c22b0 := eq_true c22
      have c22b1 : decide (x6_1 ≤ (l0.length : Int)) = true := decide_eq_true c22
      clear c22
      by_cases c23 : x5_1.length + (l0.drop (x6_1 : Int).toNat).length < 8796093022208
      ·rw [if_pos c23] at H
       have LMc23 := Aside0.mk c23
       clear c23
       obtain ⟨y450, hy450⟩ : ∃ y_ : List ByteArray, y_ = (x5_1 ++ (l0.drop (x6_1 : Int).toNat)) := ⟨_, rfl⟩
       replace H : (some y450) = some r := by first | (rw [hy450]; with_reducible exact H) | (have H2_ := (Option.bind_some _ _).symm.trans H; rw [hy450]; with_reducible exact H2_) | (have H2_ := (Option.bind_some _ _).symm.trans H; with_reducible exact H2_) | with_reducible exact H | (rw [hy450]; exact H) | exact H
       have Ny450 := Aside0.mk hy450
       clear hy450
       obtain rfl := Option.some.inj H
       obtain ⟨i024, hi024, _, hsz24, _⟩ := info_parts info9
       obtain ⟨A24, hcut24, hA24, hC24⟩ := print_drop_of (P := Try.prog) Value.string (⟨#[]⟩ : ByteArray) 22 9 .i64 Try.underlying22 hi024 hsz24 A0 c0 l0 x6_1 oa oa HC0.out
       have HR449 := Aside0.mk (Kd.C_of_reads (h1 := fun _ => rfl) (hA24 _ (Kd.reads_of_C HR0.out)))
       have HC449 := Aside0.mk hC24
       clear hA24 hC24 hi024 hsz24
       go_wp2_with (first | ((with_reducible refine gateB (b := .append) (xs := #[.tmp 32, .tmp 35]) rfl ?_); at_builtin; refine Kd.R_append_rows Kd.string (w0 := w) w.heap.size rfl (.tmp 32) (.tmp 35) 22 9 (.string ⟨#[]⟩) 16 rfl Try.underlying22 info9 rfl (by decide) (by omega) u5 x5_1 (l0.drop (x6_1 : Int).toNat) _ _ _ (fun _ => True) (fun _ => False) rfl rfl ?aO ?aR (fun _ _ h => h) (fun _ h => h.elim) ?aF ?aB ?aS ?aL ?_; (case aR => first | (rw [← show (l0.drop (x6_1 : Int).toNat).length = (l0.length - x6_1.toNat) from List.length_drop]; exact zq (Kd.C_below HR449.out HB.out)) | (exact zq (Kd.C_below HR449.out HB.out))); (case aB => exact zb); (case aF => exact (fun _ _ => trivial)); (case aO => exact (zr HO_5.out)); (case aS => exact (below_size zb)); (case aL => have := LMc23.out; have hlx_ := (show (l0.drop (x6_1 : Int).toNat).length = (l0.length - x6_1.toNat) from List.length_drop); omega); intro v451 w25 ho hb hg hat; rw [← Ny450.out] at ho; have n0_ := Aside0.mk (hb); have n1_ := Aside0.mk (ho); clear HB; clear HO_5; have HB := n0_; have HO452 := n1_; clear n0_ n1_; clear ho hb hg hat))
       go_ret
       exact ⟨_, by first | rfl | (simp [errW_none, errW_some] <;> rfl) | (simp [*, errW_none, errW_some] <;> rfl), by (with_reducible repeat (first | apply Kd.R_alloc | apply Kd.R_drewN | apply Kd.R_drew)); exact HO452.out, by repeat (first | (with_reducible first | exact HB.out | apply below_alloc | apply pw_below_drewN | apply below_drew1) | exact HB.out)⟩
      ·rw [if_neg c23] at H
       exact absurd H (by simp)
     ·rw [if_neg c22] at H
      exact absurd H (by simp)
    ·rw [if_neg c21] at H
     exact absurd H (by simp)

end Go.Proofs.Ytcefenlblnediaa.My

/- Written by this session's program (wip/gen): a plain function with the same answers as the Go function, and the proof that the Go code comes to them. Asked: that the plain function has an answer. -/
namespace Go.Proofs.Ytcefenlblnediaa.My
open Go.RowKit Go.Proofs.YtcefenlblnediaaW.PrintWords Go.Proofs.YtcefenlblnediaaW.PrintLast Go.Proofs.YtcefenlblnediaaW.PrintMore
attribute [local go_sem] max2_int min2_int max_two min_two max_three min_three max_four min_four
set_option linter.unusedVariables false
set_option linter.unusedSimpArgs false

/-! ### impl_Patch: function 35 -/
def impl_Patch.j0 : Nat → List ByteArray → List (S111) → Bool → Option (List ByteArray × Bool)
 | 0, _, _, _ => none
 | k + 1, x0, x1, x16 => if x16 = true then (some (([] : List ByteArray), false)) else ((impl_patched.f k x0 x1).bind fun t455 => ((impl_goodLines.f k t455).bind fun t458 => (if t458 = true then (some (t455, true)) else (some (([] : List ByteArray), false)))))
def impl_Patch.f (k : Nat) (l0 : List ByteArray) (l1 : List (S111)) : Option (List ByteArray × Bool) := (impl_goodLines.f k l0).bind fun t453 => (if t453 = true then ((impl_goodHunks.f k (l0.length : Int) l1).bind fun t454 => (impl_Patch.j0 k l0 l1 (!t454))) else (impl_Patch.j0 k l0 l1 true))
set_option maxHeartbeats 8000000 in
set_option maxRecDepth 100000 in
theorem impl_Patch.calls (k : Nat) (A0 : Option Addr) (c0 : Nat) (l0 : List ByteArray) (A1 : Option Addr) (c1 : Nat) (l1 : List (S111)) (r1 : List ByteArray) (r2 : Bool) (w : World) (hr0 : Kd.C Kd.string w A0 l0.length l0) (hc0 : l0.length ≤ c0) (hr1 : Kd.C k111 w A1 l1.length l1) (hc1 : l1.length ≤ c1) (h : impl_Patch.f k l0 l1 = some (r1, r2)) :
  Calls Try.prog 35 #[.slice A0 l0.length c0, .slice A1 l1.length c1] w fun e w' => ∃ v0_ : Value, e = .returned (.tuple #[v0_, .bool r2]) ∧ Kd.R Kd.string 9 w' w.heap.size (fun _ => True) v0_ r1 ∧ Below w.heap.size w w' := by
 have HR0 := Aside0.mk hr0
 have HC0 := Aside0.mk hc0
 clear hr0 hc0
 have HR1 := Aside0.mk hr1
 have HC1 := Aside0.mk hc1
 clear hr1 hc1
 have HB := Aside0.mk (Below.refl w.heap.size w)
 have H : ((impl_goodLines.f k l0).bind fun t453 => (if t453 = true then ((impl_goodHunks.f k (l0.length : Int) l1).bind fun t454 => (impl_Patch.j0 k l0 l1 (!t454))) else (impl_Patch.j0 k l0 l1 true))) = some (r1, r2) := h
 clear h
 have HC3 := Aside0.mk H
 clear H
 go_enter Try.func35, Try.ntmps35
 go_upto_region 1 with (fail)
 go_cut [16] (fun v16 wc => ∃ (kq : Nat) (x16_2 : Bool), v16 = .bool x16_2 ∧ Aside0 (impl_Patch.j0 kq l0 l1 x16_2 = some (r1, r2)) ∧ Aside0 (kq ≤ k) ∧ Aside0 (Below w.heap.size w wc))
 case first =>
  have H := HC3.out
  clear HC3
  replace H := Option.bind_eq_some_iff.mp H
  obtain ⟨t453, A40, H⟩ := H
  replace H : (if t453 = true then ((impl_goodHunks.f k (l0.length : Int) l1).bind fun t454 => (impl_Patch.j0 k l0 l1 (!t454))) else (impl_Patch.j0 k l0 l1 true)) = some (r1, r2) := H
  have A4 := Aside0.mk A40
  clear A40
  by_cases c5 : t453 = true
  ·subst c5
   have H1 : ((impl_goodHunks.f k (l0.length : Int) l1).bind fun t454 => (impl_Patch.j0 k l0 l1 (!t454))) = some (r1, r2) := by rw [if_pos rfl] at H; exact H
   clear H
   have H := H1
   clear H1
   replace H := Option.bind_eq_some_iff.mp H
   obtain ⟨t454, A60, H⟩ := H
   replace H : (impl_Patch.j0 k l0 l1 (!t454)) = some (r1, r2) := H
   have A6 := Aside0.mk A60
   clear A60
   have H' := Aside0.mk H
   clear H
   go_wp2_with (first | ((with_reducible refine gateC (f := 80) rfl ?_); refine goesL_ (some 8) rfl rfl Try.func80 (by kernel_rfl) rfl #[.slice A0 l0.length c0] rfl zm ?_; (with_reducible refine (impl_goodLines.calls k _ _ l0 true _ ?side1 ?side2 A4.out).mono ?_); (case side1 => exact zq (Kd.C_below HR0.out HB.out)); (case side2 => exact HC0.out); rintro e w' ⟨rfl, ⟨nd, rfl⟩⟩; refine ⟨_, rfl, ?_⟩) | (go_at_call 96; (with_reducible refine (impl_goodHunks.calls k (l0.length : Int) _ _ l1 t454 _ ?side1 ?side2 A6.out).mono ?_); (case side1 => repeat (first | exact (Kd.C_below HR1.out zb) | (with_reducible refine Kd.C_alloc ?_ _) | (with_reducible refine Kd.C_drewN ?_ _) | (with_reducible refine Kd.C_drew ?_))); (case side2 => exact HC1.out); rintro e w7 ⟨rfl, hb⟩; have n0_ := Aside0.mk (below_step zb hb); clear HB; have HB := n0_; clear n0_; (try clear hb); (try clear hb2); (try clear hk); (try clear hi)))
   go_meet
   case rel => exact ⟨_, (!t454), zf, H', ⟨by first | omega | exact Nat.le_refl _⟩, ⟨by repeat (first | (with_reducible first | exact HB.out | apply below_alloc | apply pw_below_drewN | apply below_drew1) | exact HB.out)⟩⟩
  ·replace c5 := Bool.eq_false_iff.mpr c5
   subst c5
   have H1 : (impl_Patch.j0 k l0 l1 true) = some (r1, r2) := by rw [if_neg (show ¬ (false = true) by decide)] at H; exact H
   clear H
   have H := H1
   clear H1
   have H' := Aside0.mk H
   clear H
   go_wp2_with (first | ((with_reducible refine gateC (f := 80) rfl ?_); refine goesL_ (some 8) rfl rfl Try.func80 (by kernel_rfl) rfl #[.slice A0 l0.length c0] rfl zm ?_; (with_reducible refine (impl_goodLines.calls k _ _ l0 false _ ?side1 ?side2 A4.out).mono ?_); (case side1 => exact zq (Kd.C_below HR0.out HB.out)); (case side2 => exact HC0.out); rintro e w' ⟨rfl, ⟨nd, rfl⟩⟩; refine ⟨_, rfl, ?_⟩))
   go_meet
   case rel => exact ⟨_, (true), zf, H', ⟨by first | omega | exact Nat.le_refl _⟩, ⟨by repeat (first | (with_reducible first | exact HB.out | apply below_alloc | apply pw_below_drewN | apply below_drew1) | exact HB.out)⟩⟩
 case rest =>
  clear HC3
  try clear c1
  try clear p2
  try clear c3
  try clear c5
  obtain ⟨kq, x16_2, rfl, HA, HJ2, HB⟩ := hcut
  cases kq with
  | zero => exact absurd HA.out (by simp [impl_Patch.j0])
  | succ kj2 =>
   have H := HA.out
   clear HA
   simp only [impl_Patch.j0] at H
   by_cases c8 : x16_2 = true
   ·subst c8
    have H1 : (some (([] : List ByteArray), false)) = some (r1, r2) := by rw [if_pos rfl] at H; exact H
    clear H
    have H := H1
    clear H1
    simp only [Option.some.injEq, Prod.mk.injEq] at H
    obtain ⟨rfl, rfl⟩ := H
    go_wp2
    go_ret2
    exact ⟨_, by first | rfl | (simp [errW_none, errW_some] <;> rfl) | (simp [*, errW_none, errW_some] <;> rfl), by first | exact Kd.R_nil _ _ _ _ _ | exact Kd.Q_nil _ _ _ _ _ | exact Kd.S_nil _ _ _ _ _, by repeat (first | (with_reducible first | exact HB.out | apply below_alloc | apply pw_below_drewN | apply below_drew1) | exact HB.out)⟩
   ·replace c8 := Bool.eq_false_iff.mpr c8
    subst c8
    have H1 : ((impl_patched.f kj2 l0 l1).bind fun t455 => ((impl_goodLines.f kj2 t455).bind fun t458 => (if t458 = true then (some (t455, true)) else (some (([] : List ByteArray), false))))) = some (r1, r2) := by rw [if_neg (show ¬ (false = true) by decide)] at H; exact H
    clear H
    have H := H1
    clear H1
    replace H := Option.bind_eq_some_iff.mp H
    obtain ⟨t455, A90, H⟩ := H
    replace H : ((impl_goodLines.f kj2 t455).bind fun t458 => (if t458 = true then (some (t455, true)) else (some (([] : List ByteArray), false)))) = some (r1, r2) := H
    have A9 := Aside0.mk A90
    clear A90
    replace H := Option.bind_eq_some_iff.mp H
    obtain ⟨t458, A100, H⟩ := H
    replace H : (if t458 = true then (some (t455, true)) else (some (([] : List ByteArray), false))) = some (r1, r2) := H
    have A10 := Aside0.mk A100
    clear A100
    by_cases c11 : t458 = true
    ·subst c11
     have H1 : (some (t455, true)) = some (r1, r2) := by rw [if_pos rfl] at H; exact H
     clear H
     have H := H1
     clear H1
     simp only [Option.some.injEq, Prod.mk.injEq] at H
     obtain ⟨rfl, rfl⟩ := H
     go_wp2_with (first | ((with_reducible refine gateC (f := 101) rfl ?_); refine goesL_ (some 19) rfl rfl Try.func101 (by kernel_rfl) rfl #[.slice A0 l0.length c0, .slice A1 l1.length c1] rfl zm ?_; (with_reducible refine (impl_patched.calls kj2 _ _ l0 _ _ l1 t455 _ ?side1 ?side2 ?side3 ?side4 A9.out).mono ?_); (case side1 => exact zq (Kd.C_below HR0.out HB.out)); (case side2 => exact HC0.out); (case side3 => exact zq (Kd.C_below HR1.out HB.out)); (case side4 => exact HC1.out); rintro e w12 ⟨v456, rfl, ho0, hb⟩; refine ⟨_, rfl, ?_⟩; have n0_ := Aside0.mk (Kd.R_lower ho0 (below_size zb)); have n1_ := Aside0.mk (below_step zb hb); clear HB; have HO457 := n0_; have HB := n1_; clear n0_ n1_; (try clear hb); (try clear hb2); (try clear hk); (try clear hi); (try clear ho0); obtain ⟨Ao13, co13, eo13⟩ := Kd.R_slice HO457.out; subst eo13) | ((with_reducible refine gateC (f := 80) rfl ?_); refine goesL_ (some 21) rfl rfl Try.func80 (by kernel_rfl) rfl #[.slice Ao13 t455.length co13] rfl zm ?_; (with_reducible refine (impl_goodLines.calls kj2 _ _ t455 true _ ?side1 ?side2 A10.out).mono ?_); (case side1 => repeat (first | exact (Kd.R_reads' HO457.out).2.2 | (with_reducible refine Kd.C_alloc ?_ _) | (with_reducible refine Kd.C_drewN ?_ _) | (with_reducible refine Kd.C_drew ?_))); (case side2 => exact (Kd.R_reads' HO457.out).2.1); rintro e w' ⟨rfl, ⟨nd, rfl⟩⟩; refine ⟨_, rfl, ?_⟩))
     go_ret2
     exact ⟨_, by first | rfl | (simp [errW_none, errW_some] <;> rfl) | (simp [*, errW_none, errW_some] <;> rfl), by (with_reducible repeat (first | apply Kd.R_alloc | apply Kd.R_drewN | apply Kd.R_drew)); exact HO457.out, by repeat (first | (with_reducible first | exact HB.out | apply below_alloc | apply pw_below_drewN | apply below_drew1) | exact HB.out)⟩
    ·replace c11 := Bool.eq_false_iff.mpr c11
     subst c11
     have H1 : (some (([] : List ByteArray), false)) = some (r1, r2) := by rw [if_neg (show ¬ (false = true) by decide)] at H; exact H
     clear H
     have H := H1
     clear H1
     simp only [Option.some.injEq, Prod.mk.injEq] at H
     obtain ⟨rfl, rfl⟩ := H
     go_wp2_with (first | ((with_reducible refine gateC (f := 101) rfl ?_); refine goesL_ (some 19) rfl rfl Try.func101 (by kernel_rfl) rfl #[.slice A0 l0.length c0, .slice A1 l1.length c1] rfl zm ?_; (with_reducible refine (impl_patched.calls kj2 _ _ l0 _ _ l1 t455 _ ?side1 ?side2 ?side3 ?side4 A9.out).mono ?_); (case side1 => exact zq (Kd.C_below HR0.out HB.out)); (case side2 => exact HC0.out); (case side3 => exact zq (Kd.C_below HR1.out HB.out)); (case side4 => exact HC1.out); rintro e w14 ⟨v456, rfl, ho0, hb⟩; refine ⟨_, rfl, ?_⟩; have n0_ := Aside0.mk (Kd.R_lower ho0 (below_size zb)); have n1_ := Aside0.mk (below_step zb hb); clear HB; have HO457 := n0_; have HB := n1_; clear n0_ n1_; (try clear hb); (try clear hb2); (try clear hk); (try clear hi); (try clear ho0); obtain ⟨Ao15, co15, eo15⟩ := Kd.R_slice HO457.out; subst eo15) | ((with_reducible refine gateC (f := 80) rfl ?_); refine goesL_ (some 21) rfl rfl Try.func80 (by kernel_rfl) rfl #[.slice Ao15 t455.length co15] rfl zm ?_; (with_reducible refine (impl_goodLines.calls kj2 _ _ t455 false _ ?side1 ?side2 A10.out).mono ?_); (case side1 => repeat (first | exact (Kd.R_reads' HO457.out).2.2 | (with_reducible refine Kd.C_alloc ?_ _) | (with_reducible refine Kd.C_drewN ?_ _) | (with_reducible refine Kd.C_drew ?_))); (case side2 => exact (Kd.R_reads' HO457.out).2.1); rintro e w' ⟨rfl, ⟨nd, rfl⟩⟩; refine ⟨_, rfl, ?_⟩))
     go_ret2
     exact ⟨_, by first | rfl | (simp [errW_none, errW_some] <;> rfl) | (simp [*, errW_none, errW_some] <;> rfl), by first | exact Kd.R_nil _ _ _ _ _ | exact Kd.Q_nil _ _ _ _ _ | exact Kd.S_nil _ _ _ _ _, by repeat (first | (with_reducible first | exact HB.out | apply below_alloc | apply pw_below_drewN | apply below_drew1) | exact HB.out)⟩

end Go.Proofs.Ytcefenlblnediaa.My

/- Written by this session's program (wip/gen): a plain function with the same answers as the Go function, and the proof that the Go code comes to them. Asked: that the plain function has an answer. -/
namespace Go.Proofs.Ytcefenlblnediaa.My
open Go.RowKit Go.Proofs.YtcefenlblnediaaW.PrintWords Go.Proofs.YtcefenlblnediaaW.PrintLast Go.Proofs.YtcefenlblnediaaW.PrintMore
attribute [local go_sem] max2_int min2_int max_two min_two max_three min_three max_four min_four
set_option linter.unusedVariables false
set_option linter.unusedSimpArgs false

/-! ### impl_isTold: function 172 -/
def impl_isTold.j0 : Nat → Int → Int → List ByteArray → Bool → Option (Bool)
 | 0, _, _, _, _ => none
 | k + 1, x0, x1, x2, x19 => if x19 = true then (some false) else (if (x2.length : Int) = 0 then (some (x0 == x1)) else (if x0 ≥ 1 then (some ((wrap64 ((wrap64 (x1 - x0)) + 1)) == (x2.length : Int))) else (some false)))
def impl_isTold.f (k : Nat) (a0 : Int) (a1 : Int) (l2 : List ByteArray) : Option (Bool) := (impl_in.f a0 0 1000).bind fun t1260 => (if t1260 = true then ((impl_in.f a1 0 1000).bind fun t1261 => (if t1261 = true then ((impl_goodLines.f k l2).bind fun t1262 => (impl_isTold.j0 k a0 a1 l2 (!t1262))) else (impl_isTold.j0 k a0 a1 l2 true))) else (impl_isTold.j0 k a0 a1 l2 true))
set_option maxHeartbeats 8000000 in
set_option maxRecDepth 100000 in
theorem impl_isTold.calls (k : Nat) (a0 : Int) (a1 : Int) (A2 : Option Addr) (c2 : Nat) (l2 : List ByteArray) (r : Bool) (w : World) (hr2 : Kd.C Kd.string w A2 l2.length l2) (hc2 : l2.length ≤ c2) (h : impl_isTold.f k a0 a1 l2 = some r) :
  Calls Try.prog 172 #[.int .i64 a0, .int .i64 a1, .slice A2 l2.length c2] w fun e w' => e = .returned (.bool r) ∧ Drawn0 w w' := by
 have HR2 := Aside0.mk hr2
 have HC2 := Aside0.mk hc2
 clear hr2 hc2
 have H : ((impl_in.f a0 0 1000).bind fun t1260 => (if t1260 = true then ((impl_in.f a1 0 1000).bind fun t1261 => (if t1261 = true then ((impl_goodLines.f k l2).bind fun t1262 => (impl_isTold.j0 k a0 a1 l2 (!t1262))) else (impl_isTold.j0 k a0 a1 l2 true))) else (impl_isTold.j0 k a0 a1 l2 true))) = some r := h
 clear h
 have HC4 := Aside0.mk H
 clear H
 go_enter Try.func172, Try.ntmps172
 go_upto_region 1 with (fail)
 go_cut [19] (fun v19 wc => ∃ (kq : Nat) (x19_3 : Bool), v19 = .bool x19_3 ∧ Aside0 (impl_isTold.j0 kq a0 a1 l2 x19_3 = some r) ∧ Aside0 (kq ≤ k) ∧ Drawn0 w wc)
 case first =>
  have H := HC4.out
  clear HC4
  replace H := Option.bind_eq_some_iff.mp H
  obtain ⟨t1260, A50, H⟩ := H
  replace H : (if t1260 = true then ((impl_in.f a1 0 1000).bind fun t1261 => (if t1261 = true then ((impl_goodLines.f k l2).bind fun t1262 => (impl_isTold.j0 k a0 a1 l2 (!t1262))) else (impl_isTold.j0 k a0 a1 l2 true))) else (impl_isTold.j0 k a0 a1 l2 true)) = some r := H
  have A5 := Aside0.mk A50
  clear A50
  by_cases c6 : t1260 = true
  ·subst c6
   have H1 : ((impl_in.f a1 0 1000).bind fun t1261 => (if t1261 = true then ((impl_goodLines.f k l2).bind fun t1262 => (impl_isTold.j0 k a0 a1 l2 (!t1262))) else (impl_isTold.j0 k a0 a1 l2 true))) = some r := by rw [if_pos rfl] at H; exact H
   clear H
   have H := H1
   clear H1
   replace H := Option.bind_eq_some_iff.mp H
   obtain ⟨t1261, A70, H⟩ := H
   replace H : (if t1261 = true then ((impl_goodLines.f k l2).bind fun t1262 => (impl_isTold.j0 k a0 a1 l2 (!t1262))) else (impl_isTold.j0 k a0 a1 l2 true)) = some r := H
   have A7 := Aside0.mk A70
   clear A70
   by_cases c8 : t1261 = true
   ·subst c8
    have H1 : ((impl_goodLines.f k l2).bind fun t1262 => (impl_isTold.j0 k a0 a1 l2 (!t1262))) = some r := by rw [if_pos rfl] at H; exact H
    clear H
    have H := H1
    clear H1
    replace H := Option.bind_eq_some_iff.mp H
    obtain ⟨t1262, A90, H⟩ := H
    replace H : (impl_isTold.j0 k a0 a1 l2 (!t1262)) = some r := H
    have A9 := Aside0.mk A90
    clear A90
    have H' := Aside0.mk H
    clear H
    go_wp2_with (first | ((with_reducible refine gateC (f := 102) rfl ?_); refine goesL_ (some 8) rfl rfl Try.func102 (by kernel_rfl) rfl #[.int .i64 a0, .int .i64 0, .int .i64 1000] rfl zm ?_; (with_reducible refine (impl_in.calls a0 0 1000 true _ A5.out).mono ?_); rintro e w' ⟨rfl, ⟨nd, rfl⟩⟩; refine ⟨_, rfl, ?_⟩) | (go_at_call 102; (with_reducible refine (impl_in.calls a1 0 1000 true _ A7.out).mono ?_); rintro e w' ⟨rfl, ⟨nd, rfl⟩⟩) | (go_at_call 80; (with_reducible refine (impl_goodLines.calls k _ _ l2 t1262 _ ?side1 ?side2 A9.out).mono ?_); (case side1 => exact zq HR2.out); (case side2 => exact HC2.out); rintro e w' ⟨rfl, ⟨nd, rfl⟩⟩))
    go_meet
    case rel => exact ⟨_, (!t1262), zf, H', ⟨by first | omega | exact Nat.le_refl _⟩, by repeat (first | exact Drawn0.refl _ | apply Drawn0.step)⟩
   ·replace c8 := Bool.eq_false_iff.mpr c8
    subst c8
    have H1 : (impl_isTold.j0 k a0 a1 l2 true) = some r := by rw [if_neg (show ¬ (false = true) by decide)] at H; exact H
    clear H
    have H := H1
    clear H1
    have H' := Aside0.mk H
    clear H
    go_wp2_with (first | ((with_reducible refine gateC (f := 102) rfl ?_); refine goesL_ (some 8) rfl rfl Try.func102 (by kernel_rfl) rfl #[.int .i64 a0, .int .i64 0, .int .i64 1000] rfl zm ?_; (with_reducible refine (impl_in.calls a0 0 1000 true _ A5.out).mono ?_); rintro e w' ⟨rfl, ⟨nd, rfl⟩⟩; refine ⟨_, rfl, ?_⟩) | (go_at_call 102; (with_reducible refine (impl_in.calls a1 0 1000 false _ A7.out).mono ?_); rintro e w' ⟨rfl, ⟨nd, rfl⟩⟩))
    go_meet
    case rel => exact ⟨_, (true), zf, H', ⟨by first | omega | exact Nat.le_refl _⟩, by repeat (first | exact Drawn0.refl _ | apply Drawn0.step)⟩
  ·replace c6 := Bool.eq_false_iff.mpr c6
   subst c6
   have H1 : (impl_isTold.j0 k a0 a1 l2 true) = some r := by rw [if_neg (show ¬ (false = true) by decide)] at H; exact H
   clear H
   have H := H1
   clear H1
   have H' := Aside0.mk H
   clear H
   go_wp2_with (first | ((with_reducible refine gateC (f := 102) rfl ?_); refine goesL_ (some 8) rfl rfl Try.func102 (by kernel_rfl) rfl #[.int .i64 a0, .int .i64 0, .int .i64 1000] rfl zm ?_; (with_reducible refine (impl_in.calls a0 0 1000 false _ A5.out).mono ?_); rintro e w' ⟨rfl, ⟨nd, rfl⟩⟩; refine ⟨_, rfl, ?_⟩))
   go_meet
   case rel => exact ⟨_, (true), zf, H', ⟨by first | omega | exact Nat.le_refl _⟩, by repeat (first | exact Drawn0.refl _ | apply Drawn0.step)⟩
 case rest =>
  clear HC4
  try clear c1
  try clear c2
  try clear p2
  try clear c6
  try clear c8
  obtain ⟨kq, x19_3, rfl, HA, HJ3, ⟨mc3, rfl⟩⟩ := hcut
  cases kq with
  | zero => exact absurd HA.out (by simp [impl_isTold.j0])
  | succ kj3 =>
   have H := HA.out
   clear HA
   simp only [impl_isTold.j0] at H
   by_cases c10 : x19_3 = true
   ·subst c10
    have H1 : (some false) = some r := by rw [if_pos rfl] at H; exact H
    clear H
    have H := H1
    clear H1
    obtain rfl := Option.some.inj H
    go_wp2
    go_ret
    exact ⟨by first | rfl | (simp; done) | (simp [*]; done), by repeat (first | exact Drawn0.refl _ | apply Drawn0.step)⟩
   ·replace c10 := Bool.eq_false_iff.mpr c10
    subst c10
    have H1 : (if (l2.length : Int) = 0 then (some (a0 == a1)) else (if a0 ≥ 1 then (some ((wrap64 ((wrap64 (a1 - a0)) + 1)) == (l2.length : Int))) else (some false))) = some r := by rw [if_neg (show ¬ (false = true) by decide)] at H; exact H
    clear H
    have H := H1
    clear H1
    by_cases c11 : (l2.length : Int) = 0
    ·rw [if_pos c11] at H
     have c11b0 : ((l2.length : Int) == 0) = true := beq_iff_eq.mpr c11
     have c11b1 : ((l2.length : Int) != 0) = false := bne_eq_false_iff_eq.mpr c11
     clear c11
     obtain rfl := Option.some.inj H
     go_wp2
     go_ret
     exact ⟨by first | rfl | (simp; done) | (simp [*]; done), by repeat (first | exact Drawn0.refl _ | apply Drawn0.step)⟩
    ·rw [if_neg c11] at H
     have c11b0 : ((l2.length : Int) == 0) = false := beq_eq_false_iff_ne.mpr c11
     have c11b1 : ((l2.length : Int) != 0) = true := bne_iff_ne.mpr c11
     have c11b2 : ¬ (l2 = []) := fun h_ => c11 (by rw [h_]; rfl)
     by_cases c12 : a0 ≥ 1
     ·rw [if_pos c12] at H
      have c12b0 : decide (1 ≤ a0) = true := decide_eq_true c12
      clear c12
      obtain rfl := Option.some.inj H
      go_wp2
      go_ret
      exact ⟨by first | rfl | (simp; done) | (simp [*]; done), by repeat (first | exact Drawn0.refl _ | apply Drawn0.step)⟩
     ·rw [if_neg c12] at H
      have c12b0 : decide (1 ≤ a0) = false := decide_eq_false c12
      clear c12
      obtain rfl := Option.some.inj H
      go_wp2
      go_ret
      exact ⟨by first | rfl | (simp; done) | (simp [*]; done), by repeat (first | exact Drawn0.refl _ | apply Drawn0.step)⟩

end Go.Proofs.Ytcefenlblnediaa.My

/- Written by this session's program (wip/gen): a plain function with the same answers as the Go function, and the proof that the Go code comes to them. Asked: that the plain function has an answer. -/
namespace Go.Proofs.Ytcefenlblnediaa.My
open Go.RowKit Go.Proofs.YtcefenlblnediaaW.PrintWords Go.Proofs.YtcefenlblnediaaW.PrintLast Go.Proofs.YtcefenlblnediaaW.PrintMore
attribute [local go_sem] max2_int min2_int max_two min_two max_three min_three max_four min_four
set_option linter.unusedVariables false
set_option linter.unusedSimpArgs false

/-! ### impl_goodSteps_1: function 171 -/
def impl_goodSteps_1.f (k : Nat) (a0_0 : Int) (a0_1 : Int) (l0_2 : List ByteArray) (a0_3 : Int) (a0_4 : Int) (l0_5 : List ByteArray) : Option (Bool) := (impl_isTold.f k a0_0 a0_1 l0_2).bind fun t1264 => (if t1264 = true then ((impl_isTold.f k a0_3 a0_4 l0_5).bind fun t1265 => (if t1265 = true then (some ((wrap64 ((l0_2.length : Int) + (l0_5.length : Int))) == 0)) else (some true))) else (some true))
set_option maxHeartbeats 8000000 in
set_option maxRecDepth 100000 in
theorem impl_goodSteps_1.calls (k : Nat) (a0_0 : Int) (a0_1 : Int) (A0_2 : Option Addr) (c0_2 : Nat) (l0_2 : List ByteArray) (a0_3 : Int) (a0_4 : Int) (A0_5 : Option Addr) (c0_5 : Nat) (l0_5 : List ByteArray) (r : Bool) (w : World) (hr0_2 : Kd.C Kd.string w A0_2 l0_2.length l0_2) (hc0_2 : l0_2.length ≤ c0_2) (hr0_5 : Kd.C Kd.string w A0_5 l0_5.length l0_5) (hc0_5 : l0_5.length ≤ c0_5) (h : impl_goodSteps_1.f k a0_0 a0_1 l0_2 a0_3 a0_4 l0_5 = some r) :
  Calls Try.prog 171 #[.agg #[.int .i64 a0_0, .int .i64 a0_1, .slice A0_2 l0_2.length c0_2, .int .i64 a0_3, .int .i64 a0_4, .slice A0_5 l0_5.length c0_5]] w fun e w' => e = .returned (.bool r) ∧ Below w.heap.size w w' := by
 have hu144 := Try.underlying144
 have HR0_2 := Aside0.mk hr0_2
 have HC0_2 := Aside0.mk hc0_2
 clear hr0_2 hc0_2
 have HR0_5 := Aside0.mk hr0_5
 have HC0_5 := Aside0.mk hc0_5
 clear hr0_5 hc0_5
 have HB := Aside0.mk (Below.refl w.heap.size w)
 have H : ((impl_isTold.f k a0_0 a0_1 l0_2).bind fun t1264 => (if t1264 = true then ((impl_isTold.f k a0_3 a0_4 l0_5).bind fun t1265 => (if t1265 = true then (some ((wrap64 ((l0_2.length : Int) + (l0_5.length : Int))) == 0)) else (some true))) else (some true))) = some r := h
 clear h
 replace H := Option.bind_eq_some_iff.mp H
 obtain ⟨t1264, A20, H⟩ := H
 replace H : (if t1264 = true then ((impl_isTold.f k a0_3 a0_4 l0_5).bind fun t1265 => (if t1265 = true then (some ((wrap64 ((l0_2.length : Int) + (l0_5.length : Int))) == 0)) else (some true))) else (some true)) = some r := H
 have A2 := Aside0.mk A20
 clear A20
 by_cases c3 : t1264 = true
 ·subst c3
  have H1 : ((impl_isTold.f k a0_3 a0_4 l0_5).bind fun t1265 => (if t1265 = true then (some ((wrap64 ((l0_2.length : Int) + (l0_5.length : Int))) == 0)) else (some true))) = some r := by rw [if_pos rfl] at H; exact H
  clear H
  have H := H1
  clear H1
  replace H := Option.bind_eq_some_iff.mp H
  obtain ⟨t1265, A40, H⟩ := H
  replace H : (if t1265 = true then (some ((wrap64 ((l0_2.length : Int) + (l0_5.length : Int))) == 0)) else (some true)) = some r := H
  have A4 := Aside0.mk A40
  clear A40
  by_cases c5 : t1265 = true
  ·subst c5
   have H1 : (some ((wrap64 ((l0_2.length : Int) + (l0_5.length : Int))) == 0)) = some r := by rw [if_pos rfl] at H; exact H
   clear H
   have H := H1
   clear H1
   obtain rfl := Option.some.inj H
   go_enter Try.func171, Try.ntmps171
   go_wp2_with (first | ((with_reducible refine gate_dst (N := 1) rfl ?_); (try (refine gate_guard (by rfl) ?_; dsimp only)); refine box_event ?hg (N := 1) ?hd (cs := #[.int .i64 a0_0, .int .i64 a0_1, .slice A0_2 l0_2.length c0_2, .int .i64 a0_3, .int .i64 a0_4, .slice A0_5 l0_5.length c0_5]) (t := 144) ?hr ?_; (case hd => rfl); (case hg => rfl); (case hr => first | (go_simp; done) | (go_simp; rfl)); intro gb1263 hg w6 hbox hb; have n0_ := Aside0.mk (below_step zb hb); have n1_ := Aside0.mk (hbox); have n2_ := Aside0.mk ((by rw [hg]; exact (below_size zb) : w.heap.size ≤ gb1263)); have n3_ := Aside0.mk ((by rw [hg]; exact (below_size zb) : w.heap.size ≤ gb1263)); clear HB; have HB := n0_; have BK1263 := n1_; have GW1263 := n2_; have GE1263 := n3_; clear n0_ n1_ n2_ n3_; clear hb hbox hg; have hcz7_0 : w6.cell? ⟨gb1263, 0, none⟩ = some (.int .i64 a0_0) := (blk_cell BK1263.out 0).trans rfl; have hcz7_1 : w6.cell? ⟨gb1263, 1, none⟩ = some (.int .i64 a0_1) := (blk_cell BK1263.out 1).trans rfl; have hcz7_2 : w6.cell? ⟨gb1263, 2, none⟩ = some (.slice A0_2 l0_2.length c0_2) := (blk_cell BK1263.out 2).trans rfl; have hcz7_3 : w6.cell? ⟨gb1263, 3, none⟩ = some (.int .i64 a0_3) := (blk_cell BK1263.out 3).trans rfl; have hcz7_4 : w6.cell? ⟨gb1263, 4, none⟩ = some (.int .i64 a0_4) := (blk_cell BK1263.out 4).trans rfl; have hcz7_5 : w6.cell? ⟨gb1263, 5, none⟩ = some (.slice A0_5 l0_5.length c0_5) := (blk_cell BK1263.out 5).trans rfl; have hfz7_0 := blk_frozen BK1263.out 0; have hfz7_1 := blk_frozen BK1263.out 1; have hfz7_2 := blk_frozen BK1263.out 2; have hfz7_3 := blk_frozen BK1263.out 3; have hfz7_4 := blk_frozen BK1263.out 4; have hfz7_5 := blk_frozen BK1263.out 5) | ((with_reducible refine gateC (f := 172) rfl ?_); refine goesL_ (some 9) rfl rfl Try.func172 (by kernel_rfl) rfl #[.int .i64 a0_0, .int .i64 a0_1, .slice A0_2 l0_2.length c0_2] rfl zm ?_; (with_reducible refine (impl_isTold.calls k a0_0 a0_1 _ _ l0_2 true _ ?side1 ?side2 A2.out).mono ?_); (case side1 => exact zq (Kd.C_below HR0_2.out HB.out)); (case side2 => exact HC0_2.out); rintro e w' ⟨rfl, ⟨nd, rfl⟩⟩; refine ⟨_, rfl, ?_⟩) | (go_at_call 172; (with_reducible refine (impl_isTold.calls k a0_3 a0_4 _ _ l0_5 true _ ?side1 ?side2 A4.out).mono ?_); (case side1 => repeat (first | exact (Kd.C_below HR0_5.out (by repeat (first | (with_reducible first | exact HB.out | apply below_alloc | apply pw_below_drewN | apply below_drew1 | refine below_set ?_ GE1263.out) | exact HB.out))) | (with_reducible refine Kd.C_alloc ?_ _) | (with_reducible refine Kd.C_drewN ?_ _) | (with_reducible refine Kd.C_drew ?_))); (case side2 => exact HC0_5.out); rintro e w' ⟨rfl, ⟨nd, rfl⟩⟩))
   go_ret
   exact ⟨by first | rfl | (simp [errW_none, errW_some] <;> rfl) | (simp [*, errW_none, errW_some] <;> rfl), by repeat (first | (with_reducible first | exact HB.out | apply below_alloc | apply pw_below_drewN | apply below_drew1 | refine below_set ?_ GE1263.out) | exact HB.out)⟩
  ·replace c5 := Bool.eq_false_iff.mpr c5
   subst c5
   have H1 : (some true) = some r := by rw [if_neg (show ¬ (false = true) by decide)] at H; exact H
   clear H
   have H := H1
   clear H1
   obtain rfl := Option.some.inj H
   go_enter Try.func171, Try.ntmps171
   go_wp2_with (first | ((with_reducible refine gate_dst (N := 1) rfl ?_); (try (refine gate_guard (by rfl) ?_; dsimp only)); refine box_event ?hg (N := 1) ?hd (cs := #[.int .i64 a0_0, .int .i64 a0_1, .slice A0_2 l0_2.length c0_2, .int .i64 a0_3, .int .i64 a0_4, .slice A0_5 l0_5.length c0_5]) (t := 144) ?hr ?_; (case hd => rfl); (case hg => rfl); (case hr => first | (go_simp; done) | (go_simp; rfl)); intro gb1263 hg w8 hbox hb; have n0_ := Aside0.mk (below_step zb hb); have n1_ := Aside0.mk (hbox); have n2_ := Aside0.mk ((by rw [hg]; exact (below_size zb) : w.heap.size ≤ gb1263)); have n3_ := Aside0.mk ((by rw [hg]; exact (below_size zb) : w.heap.size ≤ gb1263)); clear HB; have HB := n0_; have BK1263 := n1_; have GW1263 := n2_; have GE1263 := n3_; clear n0_ n1_ n2_ n3_; clear hb hbox hg; have hcz9_0 : w8.cell? ⟨gb1263, 0, none⟩ = some (.int .i64 a0_0) := (blk_cell BK1263.out 0).trans rfl; have hcz9_1 : w8.cell? ⟨gb1263, 1, none⟩ = some (.int .i64 a0_1) := (blk_cell BK1263.out 1).trans rfl; have hcz9_2 : w8.cell? ⟨gb1263, 2, none⟩ = some (.slice A0_2 l0_2.length c0_2) := (blk_cell BK1263.out 2).trans rfl; have hcz9_3 : w8.cell? ⟨gb1263, 3, none⟩ = some (.int .i64 a0_3) := (blk_cell BK1263.out 3).trans rfl; have hcz9_4 : w8.cell? ⟨gb1263, 4, none⟩ = some (.int .i64 a0_4) := (blk_cell BK1263.out 4).trans rfl; have hcz9_5 : w8.cell? ⟨gb1263, 5, none⟩ = some (.slice A0_5 l0_5.length c0_5) := (blk_cell BK1263.out 5).trans rfl; have hfz9_0 := blk_frozen BK1263.out 0; have hfz9_1 := blk_frozen BK1263.out 1; have hfz9_2 := blk_frozen BK1263.out 2; have hfz9_3 := blk_frozen BK1263.out 3; have hfz9_4 := blk_frozen BK1263.out 4; have hfz9_5 := blk_frozen BK1263.out 5) | ((with_reducible refine gateC (f := 172) rfl ?_); refine goesL_ (some 9) rfl rfl Try.func172 (by kernel_rfl) rfl #[.int .i64 a0_0, .int .i64 a0_1, .slice A0_2 l0_2.length c0_2] rfl zm ?_; (with_reducible refine (impl_isTold.calls k a0_0 a0_1 _ _ l0_2 true _ ?side1 ?side2 A2.out).mono ?_); (case side1 => exact zq (Kd.C_below HR0_2.out HB.out)); (case side2 => exact HC0_2.out); rintro e w' ⟨rfl, ⟨nd, rfl⟩⟩; refine ⟨_, rfl, ?_⟩) | (go_at_call 172; (with_reducible refine (impl_isTold.calls k a0_3 a0_4 _ _ l0_5 false _ ?side1 ?side2 A4.out).mono ?_); (case side1 => repeat (first | exact (Kd.C_below HR0_5.out (by repeat (first | (with_reducible first | exact HB.out | apply below_alloc | apply pw_below_drewN | apply below_drew1 | refine below_set ?_ GE1263.out) | exact HB.out))) | (with_reducible refine Kd.C_alloc ?_ _) | (with_reducible refine Kd.C_drewN ?_ _) | (with_reducible refine Kd.C_drew ?_))); (case side2 => exact HC0_5.out); rintro e w' ⟨rfl, ⟨nd, rfl⟩⟩))
   go_ret
   exact ⟨by first | rfl | (simp [errW_none, errW_some] <;> rfl) | (simp [*, errW_none, errW_some] <;> rfl), by repeat (first | (with_reducible first | exact HB.out | apply below_alloc | apply pw_below_drewN | apply below_drew1 | refine below_set ?_ GE1263.out) | exact HB.out)⟩
 ·replace c3 := Bool.eq_false_iff.mpr c3
  subst c3
  have H1 : (some true) = some r := by rw [if_neg (show ¬ (false = true) by decide)] at H; exact H
  clear H
  have H := H1
  clear H1
  obtain rfl := Option.some.inj H
  go_enter Try.func171, Try.ntmps171
  go_wp2_with (first | ((with_reducible refine gate_dst (N := 1) rfl ?_); (try (refine gate_guard (by rfl) ?_; dsimp only)); refine box_event ?hg (N := 1) ?hd (cs := #[.int .i64 a0_0, .int .i64 a0_1, .slice A0_2 l0_2.length c0_2, .int .i64 a0_3, .int .i64 a0_4, .slice A0_5 l0_5.length c0_5]) (t := 144) ?hr ?_; (case hd => rfl); (case hg => rfl); (case hr => first | (go_simp; done) | (go_simp; rfl)); intro gb1263 hg w10 hbox hb; have n0_ := Aside0.mk (below_step zb hb); have n1_ := Aside0.mk (hbox); have n2_ := Aside0.mk ((by rw [hg]; exact (below_size zb) : w.heap.size ≤ gb1263)); have n3_ := Aside0.mk ((by rw [hg]; exact (below_size zb) : w.heap.size ≤ gb1263)); clear HB; have HB := n0_; have BK1263 := n1_; have GW1263 := n2_; have GE1263 := n3_; clear n0_ n1_ n2_ n3_; clear hb hbox hg; have hcz11_0 : w10.cell? ⟨gb1263, 0, none⟩ = some (.int .i64 a0_0) := (blk_cell BK1263.out 0).trans rfl; have hcz11_1 : w10.cell? ⟨gb1263, 1, none⟩ = some (.int .i64 a0_1) := (blk_cell BK1263.out 1).trans rfl; have hcz11_2 : w10.cell? ⟨gb1263, 2, none⟩ = some (.slice A0_2 l0_2.length c0_2) := (blk_cell BK1263.out 2).trans rfl; have hcz11_3 : w10.cell? ⟨gb1263, 3, none⟩ = some (.int .i64 a0_3) := (blk_cell BK1263.out 3).trans rfl; have hcz11_4 : w10.cell? ⟨gb1263, 4, none⟩ = some (.int .i64 a0_4) := (blk_cell BK1263.out 4).trans rfl; have hcz11_5 : w10.cell? ⟨gb1263, 5, none⟩ = some (.slice A0_5 l0_5.length c0_5) := (blk_cell BK1263.out 5).trans rfl; have hfz11_0 := blk_frozen BK1263.out 0; have hfz11_1 := blk_frozen BK1263.out 1; have hfz11_2 := blk_frozen BK1263.out 2; have hfz11_3 := blk_frozen BK1263.out 3; have hfz11_4 := blk_frozen BK1263.out 4; have hfz11_5 := blk_frozen BK1263.out 5) | ((with_reducible refine gateC (f := 172) rfl ?_); refine goesL_ (some 9) rfl rfl Try.func172 (by kernel_rfl) rfl #[.int .i64 a0_0, .int .i64 a0_1, .slice A0_2 l0_2.length c0_2] rfl zm ?_; (with_reducible refine (impl_isTold.calls k a0_0 a0_1 _ _ l0_2 false _ ?side1 ?side2 A2.out).mono ?_); (case side1 => exact zq (Kd.C_below HR0_2.out HB.out)); (case side2 => exact HC0_2.out); rintro e w' ⟨rfl, ⟨nd, rfl⟩⟩; refine ⟨_, rfl, ?_⟩))
  go_ret
  exact ⟨by first | rfl | (simp [errW_none, errW_some] <;> rfl) | (simp [*, errW_none, errW_some] <;> rfl), by repeat (first | (with_reducible first | exact HB.out | apply below_alloc | apply pw_below_drewN | apply below_drew1 | refine below_set ?_ GE1263.out) | exact HB.out)⟩

end Go.Proofs.Ytcefenlblnediaa.My

/- Written by this session's program (wip/gen): a plain function with the same answers as the Go function, and the proof that the Go code comes to them. Asked: that the plain function has an answer. -/
namespace Go.Proofs.Ytcefenlblnediaa.My
open Go.RowKit Go.Proofs.YtcefenlblnediaaW.PrintWords Go.Proofs.YtcefenlblnediaaW.PrintLast Go.Proofs.YtcefenlblnediaaW.PrintMore
attribute [local go_sem] max2_int min2_int max_two min_two max_three min_three max_four min_four
set_option linter.unusedVariables false
set_option linter.unusedSimpArgs false

/-! ### slices_IndexFunc_impl_Step_impl_Step__impl_goodSteps_1: function 173 -/
def slices_IndexFunc_impl_Step_impl_Step__impl_goodSteps_1.l0 : Nat → List (S144) → Int → Int → Option (Int)
 | 0, _, _, _ => none
 | k + 1, x0, x7, x8 => if x8 < x7 then (if 0 ≤ x8 then (if x8 < (x0.length : Int) then ((impl_goodSteps_1.f k ((rd_T144 x0 x8).f0) ((rd_T144 x0 x8).f1) ((rd_T144 x0 x8).f2) ((rd_T144 x0 x8).f3) ((rd_T144 x0 x8).f4) ((rd_T144 x0 x8).f5)).bind fun t1267 => (if t1267 = true then (some x8) else (slices_IndexFunc_impl_Step_impl_Step__impl_goodSteps_1.l0 k x0 x7 (wrap64 (x8 + 1))))) else (none)) else (none)) else (some (-1))
def slices_IndexFunc_impl_Step_impl_Step__impl_goodSteps_1.f (k : Nat) (l0 : List (S144))  : Option (Int) := slices_IndexFunc_impl_Step_impl_Step__impl_goodSteps_1.l0 k l0 (l0.length : Int) 0
set_option maxHeartbeats 8000000 in
set_option maxRecDepth 100000 in
theorem slices_IndexFunc_impl_Step_impl_Step__impl_goodSteps_1.calls (k : Nat) (A0 : Option Addr) (c0 : Nat) (l0 : List (S144))  (r : Int) (w : World) (hr0 : Kd.C k144 w A0 l0.length l0) (hc0 : l0.length ≤ c0) (h : slices_IndexFunc_impl_Step_impl_Step__impl_goodSteps_1.f k l0 = some r) :
  Calls Try.prog 173 #[.slice A0 l0.length c0, .func (.func 171) #[] #[]] w fun e w' => e = .returned (.int .i64 r) ∧ Below w.heap.size w w' := by
 have hu144 := Try.underlying144
 have HR0 := Aside0.mk hr0
 have HC0 := Aside0.mk hc0
 clear hr0 hc0
 have HB := Aside0.mk (Below.refl w.heap.size w)
 have H : (slices_IndexFunc_impl_Step_impl_Step__impl_goodSteps_1.l0 k l0 (l0.length : Int) 0) = some r := h
 clear h
 have H' := Aside0.mk H
 clear H
 go_enter Try.func173, Try.ntmps173
 go_wp2
 go_loopg [8] k (fun kq v8 w' => ∃ (x8_1 : Int), v8 = .int .i64 x8_1 ∧ Aside0 (slices_IndexFunc_impl_Step_impl_Step__impl_goodSteps_1.l0 kq l0 (l0.length : Int) x8_1 = some r) ∧ Aside0 (kq ≤ k) ∧ Aside0 (Below w.heap.size w w'))
 case atStart => exact ⟨(0), zf, H', ⟨Nat.le_refl _⟩, ⟨by repeat (first | (with_reducible first | exact HB.out | apply below_alloc | apply pw_below_drewN | apply below_drew1) | exact HB.out)⟩⟩
 case round =>
  clear H'
  try clear p2
  obtain ⟨x8_1, rfl, HA, HK1, HB⟩ := hrel
  cases gk with
  | zero => exact absurd HA.out (by simp [slices_IndexFunc_impl_Step_impl_Step__impl_goodSteps_1.l0])
  | succ k1 =>
   have H := HA.out
   clear HA
   simp only [slices_IndexFunc_impl_Step_impl_Step__impl_goodSteps_1.l0] at H
   by_cases c3 : x8_1 < (l0.length : Int)
   ·rw [if_pos c3] at H
    have c3b0 : decide (x8_1 < (l0.length : Int)) = true := decide_eq_true c3
    clear c3
    by_cases c4 : 0 ≤ x8_1
    ·rw [if_pos c4] at H
     have c4b0 : decide (0 ≤ x8_1) = true := decide_eq_true c4
     clear c4
     by_cases c5 : x8_1 < (l0.length : Int)
     ·rw [if_pos c5] at H
      have c5b0 : decide (x8_1 < (l0.length : Int)) = true := decide_eq_true c5
      clear c5
      replace H := Option.bind_eq_some_iff.mp H
      obtain ⟨t1267, A60, H⟩ := H
      replace H : (if t1267 = true then (some x8_1) else (slices_IndexFunc_impl_Step_impl_Step__impl_goodSteps_1.l0 k1 l0 (l0.length : Int) (wrap64 (x8_1 + 1)))) = some r := H
      have A6 := Aside0.mk A60
      clear A60
      by_cases c7 : t1267 = true
      ·subst c7
       have H1 : (some x8_1) = some r := by rw [if_pos rfl] at H; exact H
       clear H
       have H := H1
       clear H1
       obtain rfl := Option.some.inj H
       have p1266 : 0 ≤ (x8_1 : Int) := oa
       have q1266 : x8_1 < (l0.length : Int) := oa
       obtain ⟨ad1266, A1266_2, c1266_2, A1266_5, c1266_5, e1266, hx1266_0, hx1266_1, hx1266_2, hx1266_3, hx1266_4, hx1266_5, hl1266_2, hi1266_2, hl1266_5, hi1266_5⟩ := at_T144 HR0.out x8_1 p1266 q1266
       cases e1266
       replace hx1266_0 := (HB.out.cell (World.block_lt_of_cell? w _ hx1266_0)).trans hx1266_0
       replace hx1266_1 := (HB.out.cell (World.block_lt_of_cell? w _ hx1266_1)).trans hx1266_1
       replace hx1266_2 := (HB.out.cell (World.block_lt_of_cell? w _ hx1266_2)).trans hx1266_2
       replace hx1266_3 := (HB.out.cell (World.block_lt_of_cell? w _ hx1266_3)).trans hx1266_3
       replace hx1266_4 := (HB.out.cell (World.block_lt_of_cell? w _ hx1266_4)).trans hx1266_4
       replace hx1266_5 := (HB.out.cell (World.block_lt_of_cell? w _ hx1266_5)).trans hx1266_5
       have HR1266_2 := Aside0.mk hi1266_2
       have HC1266_2 := Aside0.mk hl1266_2
       clear hi1266_2 hl1266_2
       have HR1266_5 := Aside0.mk hi1266_5
       have HC1266_5 := Aside0.mk hl1266_5
       clear hi1266_5 hl1266_5
       replace p1266 := eq_true p1266
       replace q1266 := eq_true q1266
       go_wp2_with (first | (go_at_call 171; (with_reducible refine (impl_goodSteps_1.calls k1 ((rd_T144 l0 x8_1).f0) ((rd_T144 l0 x8_1).f1) _ _ ((rd_T144 l0 x8_1).f2) ((rd_T144 l0 x8_1).f3) ((rd_T144 l0 x8_1).f4) _ _ ((rd_T144 l0 x8_1).f5) true _ ?side1 ?side2 ?side3 ?side4 A6.out).mono ?_); (case side1 => exact zq (Kd.C_below HR1266_2.out HB.out)); (case side2 => exact HC1266_2.out); (case side3 => exact zq (Kd.C_below HR1266_5.out HB.out)); (case side4 => exact HC1266_5.out); rintro e w8 ⟨rfl, hb⟩; have n0_ := Aside0.mk (below_step zb hb); clear HB; have HB := n0_; clear n0_; (try clear hb); (try clear hb2); (try clear hk); (try clear hi)))
       go_ret
       exact ⟨by first | rfl | (simp [errW_none, errW_some] <;> rfl) | (simp [*, errW_none, errW_some] <;> rfl), by repeat (first | (with_reducible first | exact HB.out | apply below_alloc | apply pw_below_drewN | apply below_drew1) | exact HB.out)⟩
      ·replace c7 := Bool.eq_false_iff.mpr c7
       subst c7
       have H1 : (slices_IndexFunc_impl_Step_impl_Step__impl_goodSteps_1.l0 k1 l0 (l0.length : Int) (wrap64 (x8_1 + 1))) = some r := by rw [if_neg (show ¬ (false = true) by decide)] at H; exact H
       clear H
       have H := H1
       clear H1
       have H' := Aside0.mk H
       clear H
       have p1266 : 0 ≤ (x8_1 : Int) := oa
       have q1266 : x8_1 < (l0.length : Int) := oa
       obtain ⟨ad1266, A1266_2, c1266_2, A1266_5, c1266_5, e1266, hx1266_0, hx1266_1, hx1266_2, hx1266_3, hx1266_4, hx1266_5, hl1266_2, hi1266_2, hl1266_5, hi1266_5⟩ := at_T144 HR0.out x8_1 p1266 q1266
       cases e1266
       replace hx1266_0 := (HB.out.cell (World.block_lt_of_cell? w _ hx1266_0)).trans hx1266_0
       replace hx1266_1 := (HB.out.cell (World.block_lt_of_cell? w _ hx1266_1)).trans hx1266_1
       replace hx1266_2 := (HB.out.cell (World.block_lt_of_cell? w _ hx1266_2)).trans hx1266_2
       replace hx1266_3 := (HB.out.cell (World.block_lt_of_cell? w _ hx1266_3)).trans hx1266_3
       replace hx1266_4 := (HB.out.cell (World.block_lt_of_cell? w _ hx1266_4)).trans hx1266_4
       replace hx1266_5 := (HB.out.cell (World.block_lt_of_cell? w _ hx1266_5)).trans hx1266_5
       have HR1266_2 := Aside0.mk hi1266_2
       have HC1266_2 := Aside0.mk hl1266_2
       clear hi1266_2 hl1266_2
       have HR1266_5 := Aside0.mk hi1266_5
       have HC1266_5 := Aside0.mk hl1266_5
       clear hi1266_5 hl1266_5
       replace p1266 := eq_true p1266
       replace q1266 := eq_true q1266
       go_wp2_with (first | (go_at_call 171; (with_reducible refine (impl_goodSteps_1.calls k1 ((rd_T144 l0 x8_1).f0) ((rd_T144 l0 x8_1).f1) _ _ ((rd_T144 l0 x8_1).f2) ((rd_T144 l0 x8_1).f3) ((rd_T144 l0 x8_1).f4) _ _ ((rd_T144 l0 x8_1).f5) false _ ?side1 ?side2 ?side3 ?side4 A6.out).mono ?_); (case side1 => exact zq (Kd.C_below HR1266_2.out HB.out)); (case side2 => exact HC1266_2.out); (case side3 => exact zq (Kd.C_below HR1266_5.out HB.out)); (case side4 => exact HC1266_5.out); rintro e w9 ⟨rfl, hb⟩; have n0_ := Aside0.mk (below_step zb hb); clear HB; have HB := n0_; clear n0_; (try clear hb); (try clear hb2); (try clear hk); (try clear hi)))
       go_roundg k1
       case measure => have := HK1.out; omega
       case rel => exact ⟨(wrap64 (x8_1 + 1)), zf, H', ⟨by have := HK1.out; omega⟩, ⟨by repeat (first | (with_reducible first | exact HB.out | apply below_alloc | apply pw_below_drewN | apply below_drew1) | exact HB.out)⟩⟩
     ·rw [if_neg c5] at H
      exact absurd H (by simp)
    ·rw [if_neg c4] at H
     exact absurd H (by simp)
   ·rw [if_neg c3] at H
    have c3b0 : decide (x8_1 < (l0.length : Int)) = false := decide_eq_false c3
    clear c3
    obtain rfl := Option.some.inj H
    go_wp2
    go_ret
    exact ⟨by first | rfl | (simp [errW_none, errW_some] <;> rfl) | (simp [*, errW_none, errW_some] <;> rfl), by repeat (first | (with_reducible first | exact HB.out | apply below_alloc | apply pw_below_drewN | apply below_drew1) | exact HB.out)⟩

end Go.Proofs.Ytcefenlblnediaa.My

/- Written by this session's program (wip/gen): a plain function with the same answers as the Go function, and the proof that the Go code comes to them. Asked: that the plain function has an answer. -/
namespace Go.Proofs.Ytcefenlblnediaa.My
open Go.RowKit Go.Proofs.YtcefenlblnediaaW.PrintWords Go.Proofs.YtcefenlblnediaaW.PrintLast Go.Proofs.YtcefenlblnediaaW.PrintMore
attribute [local go_sem] max2_int min2_int max_two min_two max_three min_three max_four min_four
set_option linter.unusedVariables false
set_option linter.unusedSimpArgs false

/-! ### slices_ContainsFunc_impl_Step_impl_Step__impl_goodSteps_1: function 129 -/
def slices_ContainsFunc_impl_Step_impl_Step__impl_goodSteps_1.f (k : Nat) (l0 : List (S144))  : Option (Bool) := (slices_IndexFunc_impl_Step_impl_Step__impl_goodSteps_1.f k l0).bind fun t1266 => (some (decide (t1266 ≥ 0)))
set_option maxHeartbeats 8000000 in
set_option maxRecDepth 100000 in
theorem slices_ContainsFunc_impl_Step_impl_Step__impl_goodSteps_1.calls (k : Nat) (A0 : Option Addr) (c0 : Nat) (l0 : List (S144))  (r : Bool) (w : World) (hr0 : Kd.C k144 w A0 l0.length l0) (hc0 : l0.length ≤ c0) (h : slices_ContainsFunc_impl_Step_impl_Step__impl_goodSteps_1.f k l0 = some r) :
  Calls Try.prog 129 #[.slice A0 l0.length c0, .func (.func 171) #[] #[]] w fun e w' => e = .returned (.bool r) ∧ Below w.heap.size w w' := by
 have HR0 := Aside0.mk hr0
 have HC0 := Aside0.mk hc0
 clear hr0 hc0
 have HB := Aside0.mk (Below.refl w.heap.size w)
 have H : ((slices_IndexFunc_impl_Step_impl_Step__impl_goodSteps_1.f k l0).bind fun t1266 => (some (decide (t1266 ≥ 0)))) = some r := h
 clear h
 replace H := Option.bind_eq_some_iff.mp H
 obtain ⟨t1266, A30, H⟩ := H
 replace H : (some (decide (t1266 ≥ 0))) = some r := H
 have A3 := Aside0.mk A30
 clear A30
 obtain rfl := Option.some.inj H
 go_enter Try.func129, Try.ntmps129
 go_wp2_with (first | ((with_reducible refine gateC (f := 173) rfl ?_); refine goesL_ (some 7) rfl rfl Try.func173 (by kernel_rfl) rfl #[.slice A0 l0.length c0, .func (.func 171) #[] #[]] rfl zm ?_; (with_reducible refine (slices_IndexFunc_impl_Step_impl_Step__impl_goodSteps_1.calls k _ _ l0  t1266 _ ?side1 ?side2 A3.out).mono ?_); (case side1 => exact zq HR0.out); (case side2 => exact HC0.out); rintro e w4 ⟨rfl, hb⟩; refine ⟨_, rfl, ?_⟩; have n0_ := Aside0.mk (below_step zb hb); clear HB; have HB := n0_; clear n0_; (try clear hb); (try clear hb2); (try clear hk); (try clear hi)))
 go_ret
 exact ⟨by first | rfl | (simp [errW_none, errW_some] <;> rfl) | (simp [*, errW_none, errW_some] <;> rfl), by repeat (first | (with_reducible first | exact HB.out | apply below_alloc | apply pw_below_drewN | apply below_drew1) | exact HB.out)⟩

end Go.Proofs.Ytcefenlblnediaa.My

/- Written by this session's program (wip/gen): a plain function with the same answers as the Go function, and the proof that the Go code comes to them. Asked: that the plain function has an answer. -/
namespace Go.Proofs.Ytcefenlblnediaa.My
open Go.RowKit Go.Proofs.YtcefenlblnediaaW.PrintWords Go.Proofs.YtcefenlblnediaaW.PrintLast Go.Proofs.YtcefenlblnediaaW.PrintMore
attribute [local go_sem] max2_int min2_int max_two min_two max_three min_three max_four min_four
set_option linter.unusedVariables false
set_option linter.unusedSimpArgs false

/-! ### impl_goodSteps: function 127 -/
def impl_goodSteps.f (k : Nat) (l0 : List (S144)) : Option (Bool) := if (l0.length : Int) ≤ 20 then ((slices_ContainsFunc_impl_Step_impl_Step__impl_goodSteps_1.f k l0).bind fun t1266 => (some (!t1266))) else (some false)
set_option maxHeartbeats 8000000 in
set_option maxRecDepth 100000 in
theorem impl_goodSteps.calls (k : Nat) (A0 : Option Addr) (c0 : Nat) (l0 : List (S144)) (r : Bool) (w : World) (hr0 : Kd.C k144 w A0 l0.length l0) (hc0 : l0.length ≤ c0) (h : impl_goodSteps.f k l0 = some r) :
  Calls Try.prog 127 #[.slice A0 l0.length c0] w fun e w' => e = .returned (.bool r) ∧ Below w.heap.size w w' := by
 have HR0 := Aside0.mk hr0
 have HC0 := Aside0.mk hc0
 clear hr0 hc0
 have HB := Aside0.mk (Below.refl w.heap.size w)
 have H : (if (l0.length : Int) ≤ 20 then ((slices_ContainsFunc_impl_Step_impl_Step__impl_goodSteps_1.f k l0).bind fun t1266 => (some (!t1266))) else (some false)) = some r := h
 clear h
 by_cases c2 : (l0.length : Int) ≤ 20
 ·rw [if_pos c2] at H
  have c2b0 : decide ((l0.length : Int) ≤ 20) = true := decide_eq_true c2
  have c2b1 : decide (l0.length ≤ 20) = true := decide_eq_true (by omega)
  clear c2
  replace H := Option.bind_eq_some_iff.mp H
  obtain ⟨t1266, A30, H⟩ := H
  replace H : (some (!t1266)) = some r := H
  have A3 := Aside0.mk A30
  clear A30
  obtain rfl := Option.some.inj H
  go_enter Try.func127, Try.ntmps127
  go_wp2_with (first | (go_at_call 129; (with_reducible refine (slices_ContainsFunc_impl_Step_impl_Step__impl_goodSteps_1.calls k _ _ l0  t1266 _ ?side1 ?side2 A3.out).mono ?_); (case side1 => exact zq HR0.out); (case side2 => exact HC0.out); rintro e w4 ⟨rfl, hb⟩; have n0_ := Aside0.mk (below_step zb hb); clear HB; have HB := n0_; clear n0_; (try clear hb); (try clear hb2); (try clear hk); (try clear hi)))
  go_ret
  exact ⟨by first | rfl | (simp [errW_none, errW_some] <;> rfl) | (simp [*, errW_none, errW_some] <;> rfl), by repeat (first | (with_reducible first | exact HB.out | apply below_alloc | apply pw_below_drewN | apply below_drew1) | exact HB.out)⟩
 ·rw [if_neg c2] at H
  have c2b0 : decide ((l0.length : Int) ≤ 20) = false := decide_eq_false c2
  have c2b1 : decide (l0.length ≤ 20) = false := decide_eq_false (by omega)
  clear c2
  obtain rfl := Option.some.inj H
  go_enter Try.func127, Try.ntmps127
  go_wp2
  go_ret
  exact ⟨by first | rfl | (simp [errW_none, errW_some] <;> rfl) | (simp [*, errW_none, errW_some] <;> rfl), by repeat (first | (with_reducible first | exact HB.out | apply below_alloc | apply pw_below_drewN | apply below_drew1) | exact HB.out)⟩

end Go.Proofs.Ytcefenlblnediaa.My

/- Written by this session's program (wip/gen): a plain function with the same answers as the Go function, and the proof that the Go code comes to them. Asked: that the plain function has an answer. -/
namespace Go.Proofs.Ytcefenlblnediaa.My
open Go.RowKit Go.Proofs.YtcefenlblnediaaW.PrintWords Go.Proofs.YtcefenlblnediaaW.PrintLast Go.Proofs.YtcefenlblnediaaW.PrintMore
attribute [local go_sem] max2_int min2_int max_two min_two max_three min_three max_four min_four
set_option linter.unusedVariables false
set_option linter.unusedSimpArgs false

/-! ### slices_Clone_string_string: function 108 -/
def slices_Clone_string_string.f (l0 : List ByteArray) : Option (List ByteArray) := (some (([] : List ByteArray) : List ByteArray)).bind fun y462 => (if y462.length + l0.length < 8796093022208 then (some (y462 ++ l0)) else (none))
set_option maxHeartbeats 8000000 in
set_option maxRecDepth 100000 in
theorem slices_Clone_string_string.calls (A0 : Option Addr) (c0 : Nat) (l0 : List ByteArray) (r : List ByteArray) (w : World) (hr0 : Kd.C Kd.string w A0 l0.length l0) (hc0 : l0.length ≤ c0) (h : slices_Clone_string_string.f l0 = some r) :
  Calls Try.prog 108 #[.slice A0 l0.length c0] w fun e w' => ∃ v0_ : Value, e = .returned (v0_) ∧ Kd.R Kd.string 9 w' w.heap.size (fun _ => True) v0_ r ∧ Below w.heap.size w w' := by
 rcases A0 with _ | ad0
 ·obtain rfl : l0 = [] := by
   rcases Nat.eq_zero_or_pos l0.length with h0 | h0
   ·exact List.eq_nil_of_length_eq_zero h0
   ·obtain ⟨ad, e, _⟩ := hr0.2.2 h0
    cases e
  obtain rfl : r = [] := by simpa [slices_Clone_string_string.f] using h.symm
  clear hr0 hc0 h
  have hnil := fun (W : World) (n_ c_ : Nat) => run_eql_slice_nil (P := Try.prog) W _ _ none n_ c_ Try.underlying22
  go_enter Try.func108, Try.ntmps108
  go_wp2
  go_ret
  exact ⟨_, rfl, Kd.R_nil _ _ _ _ _, Below.refl _ _⟩
 have hnil := fun (W : World) (n_ c_ : Nat) => run_eql_slice_nil (P := Try.prog) W _ _ (some ad0) n_ c_ Try.underlying22
 have HR0 := Aside0.mk hr0
 have HC0 := Aside0.mk hc0
 clear hr0 hc0
 have HB := Aside0.mk (Below.refl w.heap.size w)
 have H : ((some (([] : List ByteArray) : List ByteArray)).bind fun y462 => (if y462.length + l0.length < 8796093022208 then (some (y462 ++ l0)) else (none))) = some r := h
 clear h
 obtain ⟨y462, hy462⟩ : ∃ y_ : List ByteArray, y_ = (([] : List ByteArray)) := ⟨_, rfl⟩
 replace H : (if y462.length + l0.length < 8796093022208 then (some (y462 ++ l0)) else (none)) = some r := by first | (rw [hy462]; with_reducible exact H) | (have H2_ := (Option.bind_some _ _).symm.trans H; rw [hy462]; with_reducible exact H2_) | (have H2_ := (Option.bind_some _ _).symm.trans H; with_reducible exact H2_) | with_reducible exact H | (rw [hy462]; exact H) | exact H
 have Ny462 := Aside0.mk hy462
 clear hy462
 by_cases c2 : y462.length + l0.length < 8796093022208
 ·rw [if_pos c2] at H
  have LMc2 := Aside0.mk c2
  clear c2
  obtain ⟨y465, hy465⟩ : ∃ y_ : List ByteArray, y_ = (y462 ++ l0) := ⟨_, rfl⟩
  replace H : (some y465) = some r := by first | (rw [hy465]; with_reducible exact H) | (have H2_ := (Option.bind_some _ _).symm.trans H; rw [hy465]; with_reducible exact H2_) | (have H2_ := (Option.bind_some _ _).symm.trans H; with_reducible exact H2_) | with_reducible exact H | (rw [hy465]; exact H) | exact H
  have Ny465 := Aside0.mk hy465
  clear hy465
  obtain rfl := Option.some.inj H
  go_enter Try.func108, Try.ntmps108
  go_wp2_with (first | ((with_reducible refine gate_dst (N := 5) rfl ?_); refine Kd.R_lit Kd.string _ 9 ?hg (N := 5) ?hd (xs := ([] : List ByteArray)) (inner := []) (ok := fun _ => True) (okp := fun _ => True) ?hr ?hp (fun _ hk => hk) trivial (Below.refl _ _) (Nat.le_refl _) (by simp) ?_; (case hd => rfl); (case hg => rfl); (case hr => first | (go_simp; done) | (go_simp; rfl)); (case hp => exact (Reps.none _ _)); intro v463 w3 ho4 hb hg_ hnew_; clear hg_ hnew_; (first | rw [← Ny462.out] at ho4 | (simp only [Int.reduceToNat] at ho4; rw [← Ny462.out] at ho4)); have n0_ := Aside0.mk (Kd.R_lower ho4 (below_size zb)); have n1_ := Aside0.mk (below_step zb hb); clear HB; have HO464 := n0_; have HB := n1_; clear n0_ n1_; clear hb ho4) | ((with_reducible refine gateB (b := .append) (xs := #[.tmp 5, .tmp 6]) rfl ?_); at_builtin; refine Kd.R_append_rows Kd.string (w0 := w) w.heap.size rfl (.tmp 5) (.tmp 6) 22 9 (.string ⟨#[]⟩) 16 rfl Try.underlying22 info9 rfl (by decide) (by omega) v463 y462 l0 _ _ _ (fun _ => True) (fun _ => False) rfl rfl ?aO ?aR (fun _ _ h => h) (fun _ h => h.elim) ?aF ?aB ?aS ?aL ?_; (case aR => exact zq (Kd.C_below HR0.out HB.out)); (case aB => exact zb); (case aF => exact (fun _ _ => trivial)); (case aO => exact (zr HO464.out)); (case aS => exact (below_size zb)); (case aL => have := LMc2.out; omega); intro v466 w5 ho hb hg hat; rw [← Ny465.out] at ho; have n0_ := Aside0.mk (hb); have n1_ := Aside0.mk (ho); clear HB; clear HO464; have HB := n0_; have HO467 := n1_; clear n0_ n1_; clear ho hb hg hat))
  go_ret
  exact ⟨_, by first | rfl | (simp [errW_none, errW_some] <;> rfl) | (simp [*, errW_none, errW_some] <;> rfl), by (with_reducible repeat (first | apply Kd.R_alloc | apply Kd.R_drewN | apply Kd.R_drew)); exact HO467.out, by repeat (first | (with_reducible first | exact HB.out | apply below_alloc | apply pw_below_drewN | apply below_drew1) | exact HB.out)⟩
 ·rw [if_neg c2] at H
  exact absurd H (by simp)

end Go.Proofs.Ytcefenlblnediaa.My

/- Written by this session's program (wip/gen): a plain function with the same answers as the Go function, and the proof that the Go code comes to them. Asked: that the plain function has an answer. -/
namespace Go.Proofs.Ytcefenlblnediaa.My
open Go.RowKit Go.Proofs.YtcefenlblnediaaW.PrintWords Go.Proofs.YtcefenlblnediaaW.PrintLast Go.Proofs.YtcefenlblnediaaW.PrintMore
attribute [local go_sem] max2_int min2_int max_two min_two max_three min_three max_four min_four
set_option linter.unusedVariables false
set_option linter.unusedSimpArgs false

/-! ### impl_hunksOf: function 128 -/
def impl_hunksOf.l0 : Nat → List (S111) → List (S144) → Int → Int → Option ((List (S111)))
 | 0, _, _, _, _ => none
 | k + 1, x3, x8, x9, x10 => if x10 < x9 then (if 0 ≤ x10 then (if x10 < (x8.length : Int) then (if (((rd_T144 x8 x10).f2).length : Int) > 0 then ((slices_Clone_string_string.f ((rd_T144 x8 x10).f5)).bind fun t1272 => (if x3.length < 3518437208883 then (impl_hunksOf.l0 k (x3 ++ [(⟨wrap64 (((rd_T144 x8 x10).f0) - 1), (((rd_T144 x8 x10).f2).length : Int), t1272⟩ : S111)]) x8 x9 (wrap64 (x10 + 1))) else (none))) else ((slices_Clone_string_string.f ((rd_T144 x8 x10).f5)).bind fun t1278 => (if x3.length < 3518437208883 then (impl_hunksOf.l0 k (x3 ++ [(⟨(rd_T144 x8 x10).f0, (((rd_T144 x8 x10).f2).length : Int), t1278⟩ : S111)]) x8 x9 (wrap64 (x10 + 1))) else (none)))) else (none)) else (none)) else (some x3)
def impl_hunksOf.f (k : Nat) (l0 : List (S144)) : Option ((List (S111))) := impl_hunksOf.l0 k (([] : List (S111))) l0 (l0.length : Int) 0
def impl_hunksOf.T8 : Bool × List (List Nat × List Nat) := (true, [([], []), ([], []), ([], []), ([2], [2]), ([3], [3]), ([], []), ([5], [5]), ([6], [6]), ([1, 4, 7], [1, 4, 7]), ([8], [8]), ([0, 9, 7], [0, 9]), ([10, 10, 0, 1, 2, 3, 4, 5, 6, 7, 8, 9, 10], [0, 10])])
def impl_hunksOf.B8 : List Nat := [0, 0, 0, 4, 12, 0, 32, 96, 254, 510, 1023, 2047]
theorem impl_hunksOf.tab8 : rtab .any (opsOf Try.f128 8) = impl_hunksOf.T8 := by kernel_rfl
theorem impl_hunksOf.bits8 : waitsOk impl_hunksOf.T8.2 impl_hunksOf.B8 = true := by kernel_rfl
set_option maxHeartbeats 8000000 in
set_option maxRecDepth 100000 in
theorem impl_hunksOf.calls (k : Nat) (A0 : Option Addr) (c0 : Nat) (l0 : List (S144)) (r : List (S111)) (w : World) (hr0 : Kd.C k144 w A0 l0.length l0) (hc0 : l0.length ≤ c0) (h : impl_hunksOf.f k l0 = some r) :
  Calls Try.prog 128 #[.slice A0 l0.length c0] w fun e w' => ∃ v0_ : Value, e = .returned (v0_) ∧ Kd.S k111 111 w' w.heap.size (fun _ => True) v0_ r ∧ Below w.heap.size w w' := by
 have hu144 := Try.underlying144
 have hu111 := Try.underlying111
 have HR0 := Aside0.mk hr0
 have HC0 := Aside0.mk hc0
 clear hr0 hc0
 have HB := Aside0.mk (Below.refl w.heap.size w)
 have H : (impl_hunksOf.l0 k (([] : List (S111))) l0 (l0.length : Int) 0) = some r := h
 clear h
 obtain ⟨y1267, hy1267⟩ : ∃ y_ : List (S111), y_ = (([] : List (S111))) := ⟨_, rfl⟩
 replace H : (impl_hunksOf.l0 k y1267 l0 (l0.length : Int) 0) = some r := by first | (rw [hy1267]; with_reducible exact H) | (have H2_ := (Option.bind_some _ _).symm.trans H; rw [hy1267]; with_reducible exact H2_) | (have H2_ := (Option.bind_some _ _).symm.trans H; with_reducible exact H2_) | with_reducible exact H | (rw [hy1267]; exact H) | exact H
 have Ny1267 := Aside0.mk hy1267
 clear hy1267
 have H' := Aside0.mk H
 clear H
 go_enter Try.func128, Try.ntmps128
 go_wp2_with (first | ((with_reducible refine gate_dst (N := 7) rfl ?_); refine Kd.S_lit k111 _ 111 ?hg (N := 7) ?hd (xs := ([] : List (S111))) (inner := []) (ok := fun _ => True) (okp := fun _ => True) ?hr ?hp (fun _ hk => hk) trivial (Below.refl _ _) (Nat.le_refl _) (by simp) ?_; (case hd => rfl); (case hg => rfl); (case hr => first | (go_simp; done) | (go_simp; rfl)); (case hp => exact (Reps.none _ _)); intro v1268 w2 ho3 hb hg_ hnew_; clear hg_ hnew_; (first | rw [← Ny1267.out] at ho3 | (simp only [Int.reduceToNat] at ho3; rw [← Ny1267.out] at ho3)); have n0_ := Aside0.mk (Kd.S_lower ho3 (below_size zb)); have n1_ := Aside0.mk (below_step zb hb); clear HB; have HO1269 := n0_; have HB := n1_; clear n0_ n1_; clear hb ho3))
 go_loopg [3, 10] k (fun kq v3 v10 w' => ∃ (x3_1 : List (S111)) (x10_1 : Int), v10 = .int .i64 x10_1 ∧ Aside0 (impl_hunksOf.l0 kq x3_1 l0 (l0.length : Int) x10_1 = some r) ∧ Aside0 (kq ≤ k) ∧ Aside0 (Kd.S k111 111 w' w.heap.size (fun _ => True) v3 x3_1) ∧ Aside0 (Below w.heap.size w w'))
 case atStart => exact ⟨(y1267), (0), zf, H', ⟨Nat.le_refl _⟩, ⟨by (with_reducible repeat (first | apply Kd.S_alloc | apply Kd.S_drewN | apply Kd.S_drew)); exact HO1269.out⟩, ⟨by repeat (first | (with_reducible first | exact HB.out | apply below_alloc | apply pw_below_drewN | apply below_drew1) | exact HB.out)⟩⟩
 case round =>
  clear H'
  try clear c1
  try clear p2
  obtain ⟨x3_1, x10_1, rfl, HA, HK1, HO_3, HB⟩ := hrel
  cases gk with
  | zero => exact absurd HA.out (by simp [impl_hunksOf.l0])
  | succ k1 =>
   have H := HA.out
   clear HA
   simp only [impl_hunksOf.l0] at H
   by_cases c4 : x10_1 < (l0.length : Int)
   ·rw [if_pos c4] at H
    have c4b0 : decide (x10_1 < (l0.length : Int)) = true := decide_eq_true c4
    clear c4
    by_cases c5 : 0 ≤ x10_1
    ·rw [if_pos c5] at H
     have c5b0 : decide (0 ≤ x10_1) = true := decide_eq_true c5
     clear c5
     by_cases c6 : x10_1 < (l0.length : Int)
     ·rw [if_pos c6] at H
      have c6b0 : decide (x10_1 < (l0.length : Int)) = true := decide_eq_true c6
      clear c6
      by_cases c7 : (((rd_T144 l0 x10_1).f2).length : Int) > 0
      ·rw [if_pos c7] at H
       have c7b0 : decide (0 < (((rd_T144 l0 x10_1).f2).length : Int)) = true := decide_eq_true c7
       have c7b1 : decide (0 < ((rd_T144 l0 x10_1).f2).length) = true := decide_eq_true (by omega)
       clear c7
       replace H := Option.bind_eq_some_iff.mp H
       obtain ⟨t1272, A80, H⟩ := H
       replace H : (if x3_1.length < 3518437208883 then (impl_hunksOf.l0 k1 (x3_1 ++ [(⟨wrap64 (((rd_T144 l0 x10_1).f0) - 1), (((rd_T144 l0 x10_1).f2).length : Int), t1272⟩ : S111)]) l0 (l0.length : Int) (wrap64 (x10_1 + 1))) else (none)) = some r := H
       have A8 := Aside0.mk A80
       clear A80
       by_cases c9 : x3_1.length < 3518437208883
       ·rw [if_pos c9] at H
        have LMc9 := Aside0.mk c9
        clear c9
        obtain ⟨y1275, hy1275⟩ : ∃ y_ : List (S111), y_ = (x3_1 ++ [(⟨wrap64 (((rd_T144 l0 x10_1).f0) - 1), (((rd_T144 l0 x10_1).f2).length : Int), t1272⟩ : S111)]) := ⟨_, rfl⟩
        replace H : (impl_hunksOf.l0 k1 y1275 l0 (l0.length : Int) (wrap64 (x10_1 + 1))) = some r := by first | (rw [hy1275]; with_reducible exact H) | (have H2_ := (Option.bind_some _ _).symm.trans H; rw [hy1275]; with_reducible exact H2_) | (have H2_ := (Option.bind_some _ _).symm.trans H; with_reducible exact H2_) | with_reducible exact H | (rw [hy1275]; exact H) | exact H
        have Ny1275 := Aside0.mk hy1275
        clear hy1275
        have H' := Aside0.mk H
        clear H
        have p1270 : 0 ≤ (x10_1 : Int) := oa
        have q1270 : x10_1 < (l0.length : Int) := oa
        obtain ⟨ad1270, A1270_2, c1270_2, A1270_5, c1270_5, e1270, hx1270_0, hx1270_1, hx1270_2, hx1270_3, hx1270_4, hx1270_5, hl1270_2, hi1270_2, hl1270_5, hi1270_5⟩ := at_T144 HR0.out x10_1 p1270 q1270
        cases e1270
        replace hx1270_0 := (HB.out.cell (World.block_lt_of_cell? w _ hx1270_0)).trans hx1270_0
        replace hx1270_1 := (HB.out.cell (World.block_lt_of_cell? w _ hx1270_1)).trans hx1270_1
        replace hx1270_2 := (HB.out.cell (World.block_lt_of_cell? w _ hx1270_2)).trans hx1270_2
        replace hx1270_3 := (HB.out.cell (World.block_lt_of_cell? w _ hx1270_3)).trans hx1270_3
        replace hx1270_4 := (HB.out.cell (World.block_lt_of_cell? w _ hx1270_4)).trans hx1270_4
        replace hx1270_5 := (HB.out.cell (World.block_lt_of_cell? w _ hx1270_5)).trans hx1270_5
        have HR1270_2 := Aside0.mk hi1270_2
        have HC1270_2 := Aside0.mk hl1270_2
        clear hi1270_2 hl1270_2
        have HR1270_5 := Aside0.mk hi1270_5
        have HC1270_5 := Aside0.mk hl1270_5
        clear hi1270_5 hl1270_5
        replace p1270 := eq_true p1270
        replace q1270 := eq_true q1270
        try go_wp2_with (first | ((with_reducible refine gate_dst (N := 5) rfl ?_); refine box_event ?hg (N := 5) ?hd (cs := #[.int .i64 0, .int .i64 0, .slice none 0 0, .int .i64 0, .int .i64 0, .slice none 0 0]) (t := 144) ?hr ?_; (case hd => rfl); (case hg => rfl); (case hr => first | (go_simp; done) | (go_simp; rfl)); intro gb1271 hg w10 hbox hb; have n0_ := Aside0.mk (Kd.S_below (zs HO_3.out) hb); have n1_ := Aside0.mk (below_step zb hb); have n2_ := Aside0.mk (hbox); have n3_ := Aside0.mk ((by rw [hg]; exact (below_size zb) : w.heap.size ≤ gb1271)); have n4_ := Aside0.mk ((by rw [hg]; exact (below_size zb) : w.heap.size ≤ gb1271)); clear HO_3; clear HB; have HO_3 := n0_; have HB := n1_; have BK1271 := n2_; have GW1271 := n3_; have GE1271 := n4_; clear n0_ n1_ n2_ n3_ n4_; clear hb hbox hg; have hcz11_0 : w10.cell? ⟨gb1271, 0, none⟩ = some (.int .i64 0) := (blk_cell BK1271.out 0).trans rfl; have hcz11_1 : w10.cell? ⟨gb1271, 1, none⟩ = some (.int .i64 0) := (blk_cell BK1271.out 1).trans rfl; have hcz11_2 : w10.cell? ⟨gb1271, 2, none⟩ = some (.slice none 0 0) := (blk_cell BK1271.out 2).trans rfl; have hcz11_3 : w10.cell? ⟨gb1271, 3, none⟩ = some (.int .i64 0) := (blk_cell BK1271.out 3).trans rfl; have hcz11_4 : w10.cell? ⟨gb1271, 4, none⟩ = some (.int .i64 0) := (blk_cell BK1271.out 4).trans rfl; have hcz11_5 : w10.cell? ⟨gb1271, 5, none⟩ = some (.slice none 0 0) := (blk_cell BK1271.out 5).trans rfl; have hfz11_0 := blk_frozen BK1271.out 0; have hfz11_1 := blk_frozen BK1271.out 1; have hfz11_2 := blk_frozen BK1271.out 2; have hfz11_3 := blk_frozen BK1271.out 3; have hfz11_4 := blk_frozen BK1271.out 4; have hfz11_5 := blk_frozen BK1271.out 5))
        have n0_ : Aside0 (Kd.S k111 111 ((((((w10.setCell ⟨gb1271, 0, none⟩ (.int .i64 ((rd_T144 l0 x10_1).f0))).setCell ⟨gb1271, 1, none⟩ (.int .i64 ((rd_T144 l0 x10_1).f1))).setCell ⟨gb1271, 2, none⟩ (.slice A1270_2 ((rd_T144 l0 x10_1).f2).length c1270_2)).setCell ⟨gb1271, 3, none⟩ (.int .i64 ((rd_T144 l0 x10_1).f3))).setCell ⟨gb1271, 4, none⟩ (.int .i64 ((rd_T144 l0 x10_1).f4))).setCell ⟨gb1271, 5, none⟩ (.slice A1270_5 ((rd_T144 l0 x10_1).f5).length c1270_5)) w.heap.size (fun _ => True) u3 x3_1) := ⟨by (with_reducible repeat (first | apply Kd.S_alloc | apply Kd.S_drewN | apply Kd.S_drew)); exact Kd.S_mono (Kd.S_far (p := ⟨gb1271, 5, none⟩) (Kd.S_far (p := ⟨gb1271, 4, none⟩) (Kd.S_far (p := ⟨gb1271, 3, none⟩) (Kd.S_far (p := ⟨gb1271, 2, none⟩) (Kd.S_far (p := ⟨gb1271, 1, none⟩) (Kd.S_far (p := ⟨gb1271, 0, none⟩) (Kd.S_types HO_3.out BK1271.out (by decide)) (fun _ hk => hk.2) (.int .i64 ((rd_T144 l0 x10_1).f0))) (fun _ hk => hk.2) (.int .i64 ((rd_T144 l0 x10_1).f1))) (fun _ hk => hk.2) (.slice A1270_2 ((rd_T144 l0 x10_1).f2).length c1270_2)) (fun _ hk => hk.2) (.int .i64 ((rd_T144 l0 x10_1).f3))) (fun _ hk => hk.2) (.int .i64 ((rd_T144 l0 x10_1).f4))) (fun _ hk => hk.2) (.slice A1270_5 ((rd_T144 l0 x10_1).f5).length c1270_5)) (fun _ hk => trivial)⟩
        have n1_ : Aside0 (((((((w10.setCell ⟨gb1271, 0, none⟩ (.int .i64 ((rd_T144 l0 x10_1).f0))).setCell ⟨gb1271, 1, none⟩ (.int .i64 ((rd_T144 l0 x10_1).f1))).setCell ⟨gb1271, 2, none⟩ (.slice A1270_2 ((rd_T144 l0 x10_1).f2).length c1270_2)).setCell ⟨gb1271, 3, none⟩ (.int .i64 ((rd_T144 l0 x10_1).f3))).setCell ⟨gb1271, 4, none⟩ (.int .i64 ((rd_T144 l0 x10_1).f4))).setCell ⟨gb1271, 5, none⟩ (.slice A1270_5 ((rd_T144 l0 x10_1).f5).length c1270_5)).heap[gb1271]? = some (.cells #[.int .i64 ((rd_T144 l0 x10_1).f0), .int .i64 ((rd_T144 l0 x10_1).f1), .slice A1270_2 ((rd_T144 l0 x10_1).f2).length c1270_2, .int .i64 ((rd_T144 l0 x10_1).f3), .int .i64 ((rd_T144 l0 x10_1).f4), .slice A1270_5 ((rd_T144 l0 x10_1).f5).length c1270_5] 144 (0, 0))) := ⟨by (with_reducible repeat (first | refine blk_drewN ?_ _ | refine blk_drew ?_ | refine blk_alloc ?_ _)); refine blk_put (cs := #[.int .i64 ((rd_T144 l0 x10_1).f0), .int .i64 ((rd_T144 l0 x10_1).f1), .slice A1270_2 ((rd_T144 l0 x10_1).f2).length c1270_2, .int .i64 ((rd_T144 l0 x10_1).f3), .int .i64 ((rd_T144 l0 x10_1).f4), .slice none 0 0]) ?_ 5 _ rfl; (with_reducible repeat (first | refine blk_drewN ?_ _ | refine blk_drew ?_ | refine blk_alloc ?_ _)); refine blk_put (cs := #[.int .i64 ((rd_T144 l0 x10_1).f0), .int .i64 ((rd_T144 l0 x10_1).f1), .slice A1270_2 ((rd_T144 l0 x10_1).f2).length c1270_2, .int .i64 ((rd_T144 l0 x10_1).f3), .int .i64 0, .slice none 0 0]) ?_ 4 _ rfl; (with_reducible repeat (first | refine blk_drewN ?_ _ | refine blk_drew ?_ | refine blk_alloc ?_ _)); refine blk_put (cs := #[.int .i64 ((rd_T144 l0 x10_1).f0), .int .i64 ((rd_T144 l0 x10_1).f1), .slice A1270_2 ((rd_T144 l0 x10_1).f2).length c1270_2, .int .i64 0, .int .i64 0, .slice none 0 0]) ?_ 3 _ rfl; (with_reducible repeat (first | refine blk_drewN ?_ _ | refine blk_drew ?_ | refine blk_alloc ?_ _)); refine blk_put (cs := #[.int .i64 ((rd_T144 l0 x10_1).f0), .int .i64 ((rd_T144 l0 x10_1).f1), .slice none 0 0, .int .i64 0, .int .i64 0, .slice none 0 0]) ?_ 2 _ rfl; (with_reducible repeat (first | refine blk_drewN ?_ _ | refine blk_drew ?_ | refine blk_alloc ?_ _)); refine blk_put (cs := #[.int .i64 ((rd_T144 l0 x10_1).f0), .int .i64 0, .slice none 0 0, .int .i64 0, .int .i64 0, .slice none 0 0]) ?_ 1 _ rfl; (with_reducible repeat (first | refine blk_drewN ?_ _ | refine blk_drew ?_ | refine blk_alloc ?_ _)); refine blk_put (cs := #[.int .i64 0, .int .i64 0, .slice none 0 0, .int .i64 0, .int .i64 0, .slice none 0 0]) ?_ 0 _ rfl; (with_reducible repeat (first | refine blk_drewN ?_ _ | refine blk_drew ?_ | refine blk_alloc ?_ _)); exact BK1271.out⟩
        have n2_ : Aside0 (Below w.heap.size w ((((((w10.setCell ⟨gb1271, 0, none⟩ (.int .i64 ((rd_T144 l0 x10_1).f0))).setCell ⟨gb1271, 1, none⟩ (.int .i64 ((rd_T144 l0 x10_1).f1))).setCell ⟨gb1271, 2, none⟩ (.slice A1270_2 ((rd_T144 l0 x10_1).f2).length c1270_2)).setCell ⟨gb1271, 3, none⟩ (.int .i64 ((rd_T144 l0 x10_1).f3))).setCell ⟨gb1271, 4, none⟩ (.int .i64 ((rd_T144 l0 x10_1).f4))).setCell ⟨gb1271, 5, none⟩ (.slice A1270_5 ((rd_T144 l0 x10_1).f5).length c1270_5))) := ⟨by repeat (first | (with_reducible first | exact HB.out | apply below_alloc | apply pw_below_drewN | apply below_drew1 | refine below_set ?_ GE1271.out) | exact HB.out)⟩
        (try clear HO_3)
        (try clear BK1271)
        (try clear HB)
        (try simp only [show ∀ (w_ : World) (n_ : Nat) (p_ : Addr) (v_ : Value), (w_.drewN n_).setCell p_ v_ = (w_.setCell p_ v_).drewN n_ from fun _ _ _ _ => rfl])
        generalize ((((((w10.setCell ⟨gb1271, 0, none⟩ (.int .i64 ((rd_T144 l0 x10_1).f0))).setCell ⟨gb1271, 1, none⟩ (.int .i64 ((rd_T144 l0 x10_1).f1))).setCell ⟨gb1271, 2, none⟩ (.slice A1270_2 ((rd_T144 l0 x10_1).f2).length c1270_2)).setCell ⟨gb1271, 3, none⟩ (.int .i64 ((rd_T144 l0 x10_1).f3))).setCell ⟨gb1271, 4, none⟩ (.int .i64 ((rd_T144 l0 x10_1).f4))).setCell ⟨gb1271, 5, none⟩ (.slice A1270_5 ((rd_T144 l0 x10_1).f5).length c1270_5)) = w12 at n0_ n1_ n2_ ⊢
        have HO_3 := n0_
        have BK1271 := n1_
        have HB := n2_
        clear n0_ n1_ n2_
        have n0_ := Aside0.mk (Kd.S_drew HO_3.out)
        have n1_ := Aside0.mk (blk_drew BK1271.out)
        have n2_ := Aside0.mk (below_drew1 HB.out)
        clear HO_3
        clear BK1271
        clear HB
        have HO_3 := n0_
        have BK1271 := n1_
        have HB := n2_
        clear n0_ n1_ n2_
        refine start_ (n := 12) (S := fun w' => w'.cell? ⟨gb1271, 0, none⟩ = some (.int .i64 ((rd_T144 l0 x10_1).f0)) ∧ w'.cell? ⟨gb1271, 1, none⟩ = some (.int .i64 ((rd_T144 l0 x10_1).f1)) ∧ w'.cell? ⟨gb1271, 2, none⟩ = some (.slice A1270_2 ((rd_T144 l0 x10_1).f2).length c1270_2) ∧ w'.cell? ⟨gb1271, 3, none⟩ = some (.int .i64 ((rd_T144 l0 x10_1).f3)) ∧ w'.cell? ⟨gb1271, 4, none⟩ = some (.int .i64 ((rd_T144 l0 x10_1).f4)) ∧ w'.cell? ⟨gb1271, 5, none⟩ = some (.slice A1270_5 ((rd_T144 l0 x10_1).f5).length c1270_5)) (ds := []) #[O,O,O,O,O,O,O,O,O,O,O,O] (by kernel_rfl) rfl rfl ⟨(blk_cell BK1271.out 0).trans rfl, (blk_cell BK1271.out 1).trans rfl, (blk_cell BK1271.out 2).trans rfl, (blk_cell BK1271.out 3).trans rfl, (blk_cell BK1271.out 4).trans rfl, (blk_cell BK1271.out 5).trans rfl⟩ (fun hHeld => ?_); refine with_tabW impl_hunksOf.tab8 impl_hunksOf.bits8 (fun HT_ HW_ => ?_)
        generalize w12.drew = w13 at HO_3 BK1271 HB hHeld ⊢
        refine pure_ (i := 0) (N := some 22) (v := ?_) (a' := ?_) #[Y,O,O,O,O,O,O,O,O,O,O,O] rfl rfl zx (fun _ _ _ h => h) (Or.inl ⟨by rfl, ?_⟩) ?_ ?_
        rotate_left; (intro w'; go_simp; with_reducible rfl); rotate_left; (simp only [Act.put,qa,qb,qc,i64_w,i32_w]; rfl)
        refine pure_ (i := 1) (N := some 23) (v := ?_) (a' := ?_) #[Y,Y,O,O,O,O,O,O,O,O,O,O] rfl rfl zx (fun _ _ _ h => h) (Or.inl ⟨by rfl, ?_⟩) ?_ ?_
        rotate_left; (intro w'; go_simp; with_reducible rfl); rotate_left; (simp only [Act.put,qa,qb,qc,i64_w,i32_w]; rfl)
        refine pure_ (i := 2) (N := some 24) (v := ?_) (a' := ?_) #[Y,Y,Y,O,O,O,O,O,O,O,O,O] rfl rfl zx (fun _ _ _ h => h) (Or.inl ⟨by rfl, ?_⟩) ?_ ?_
        rotate_left; (intro w'; go_simp; with_reducible rfl); rotate_left; (simp only [Act.put,qa,qb,qc,i64_w,i32_w]; rfl)
        refine pure_ (i := 5) (N := some 27) (v := ?_) (a' := ?_) #[Y,Y,Y,O,O,Y,O,O,O,O,O,O] rfl rfl zx (fun _ _ _ h => h) (Or.inl ⟨by rfl, ?_⟩) ?_ ?_
        rotate_left; (intro w'; go_simp; with_reducible rfl); rotate_left; (simp only [Act.put,qa,qb,qc,i64_w,i32_w]; rfl)
        refine take_ (i := 3) (N := some 25) (v := ?_) (a' := ?_) #[Y,Y,Y,Y,O,Y,O,O,O,O,O,O] rfl rfl (take_ofW HT_.out HW_.out (by kernel_rfl)) (fun _ _ _ h => h) (Or.inl ⟨by rfl, ?_⟩) hHeld ?_ ?_
        rotate_left; (rintro w' ⟨s0, s1, s2, s3, s4, s5⟩; go_simp; with_reducible rfl); rotate_left; (simp only [Act.put,qa,qb,qc,i64_w,i32_w]; rfl)
        refine pure_ (i := 4) (N := some 26) (v := ?_) (a' := ?_) #[Y,Y,Y,Y,Y,Y,O,O,O,O,O,O] rfl rfl zx (fun _ _ _ h => h) (Or.inl ⟨by rfl, ?_⟩) ?_ ?_
        rotate_left; (intro w'; go_simp; with_reducible rfl); rotate_left; (simp only [Act.put,qa,qb,qc,i64_w,i32_w]; rfl)
        refine take_ (i := 6) (N := some 28) (v := ?_) (a' := ?_) #[Y,Y,Y,Y,Y,Y,Y,O,O,O,O,O] rfl rfl (take_ofW HT_.out HW_.out (by kernel_rfl)) (fun _ _ _ h => h) (Or.inl ⟨by rfl, ?_⟩) hHeld ?_ ?_
        rotate_left; (rintro w' ⟨s0, s1, s2, s3, s4, s5⟩; go_simp; with_reducible rfl); rotate_left; (simp only [Act.put,qa,qb,qc,i64_w,i32_w]; rfl)
        refine one_ (i := 7) (N := some 29) #[Y,Y,Y,Y,Y,Y,Y,Y,O,O,O,O] rfl rfl (one_of HT_.out (by kernel_rfl)) (by decide) (fun K hK => ?_)
        refine goes_ Try.func108 (by kernel_rfl) rfl #[.slice A1270_5 ((rd_T144 l0 x10_1).f5).length c1270_5] (by rfl) rfl rfl zm ?_
        with_reducible refine (slices_Clone_string_string.calls _ _ ((rd_T144 l0 x10_1).f5) t1272 _ ?side1 ?side2 A8.out).mono ?_
        (case side1 => exact zq (Kd.C_below HR1270_5.out HB.out))
        (case side2 => exact HC1270_5.out)
        rintro e w14 ⟨v1273, rfl, ho0, hb⟩
        refine ⟨_, rfl, ?_⟩
        have n0_ := Aside0.mk (Kd.S_elder' (zs HO_3.out) (Kd.R_base ho0) hb)
        have n1_ := Aside0.mk (Kd.R_lower ho0 (below_size (by repeat (first | (with_reducible first | exact HB.out | apply below_alloc | apply pw_below_drewN | apply below_drew1 | refine below_set ?_ GE1271.out) | exact HB.out))))
        have n2_ := Aside0.mk (blk_below (g := gb1271) (o := .cells #[.int .i64 ((rd_T144 l0 x10_1).f0), .int .i64 ((rd_T144 l0 x10_1).f1), .slice A1270_2 ((rd_T144 l0 x10_1).f2).length c1270_2, .int .i64 ((rd_T144 l0 x10_1).f3), .int .i64 ((rd_T144 l0 x10_1).f4), .slice A1270_5 ((rd_T144 l0 x10_1).f5).length c1270_5] 144 (0, 0)) (zk BK1271.out) hb)
        have n3_ := Aside0.mk (below_step (by repeat (first | (with_reducible first | exact HB.out | apply below_alloc | apply pw_below_drewN | apply below_drew1 | refine below_set ?_ GE1271.out) | exact HB.out)) hb)
        clear HO_3
        clear BK1271
        clear HB
        have HO_3 := n0_
        have HO1274 := n1_
        have BK1271 := n2_
        have HB := n3_
        clear n0_ n1_ n2_ n3_
        (try clear hb)
        (try clear hb2)
        (try clear hk)
        (try clear hi)
        (try clear ho0)
        obtain ⟨Ao15, co15, eo15⟩ := Kd.R_slice HO1274.out
        (first | subst eo15 | (injection eo15 with f1_ f2_ f3_; have f4_ := f1_.symm; have f5_ := f3_.symm; clear f1_ f2_ f3_; subst f4_; subst f5_))
        refine hK.out _ _ ⟨(blk_cell BK1271.out 0).trans rfl, (blk_cell BK1271.out 1).trans rfl, (blk_cell BK1271.out 2).trans rfl, (blk_cell BK1271.out 3).trans rfl, (blk_cell BK1271.out 4).trans rfl, (blk_cell BK1271.out 5).trans rfl⟩ (fun hHeld => ?_)
        clear hK K
        refine norm_ (a' := ?_) ?_ ?_
        rotate_left
        ·show Act.put _ (some 29) _ = _
         simp only [Act.put,qa,qb,qc,i64_w,i32_w]
         rfl
        refine pure_ (i := 8) (N := some 30) (v := ?_) (a' := ?_) #[Y,Y,Y,Y,Y,Y,Y,Y,Y,O,O,O] rfl rfl zx (fun _ _ _ h => h) (Or.inl ⟨by rfl, ?_⟩) ?_ ?_
        rotate_left; (intro w'; go_simp; with_reducible rfl); rotate_left; (simp only [Act.put,qa,qb,qc,i64_w,i32_w]; rfl)
        refine one_ (i := 9) (N := some 31) #[Y,Y,Y,Y,Y,Y,Y,Y,Y,Y,O,O] rfl rfl (one_of HT_.out (by kernel_rfl)) (by decide) (fun K hK => ?_)
        refine value_ (w1 := ?_) (v := ?_) (by rfl) rfl ?_ ?_
        rotate_left 2
        ·go_simp
         constructor
         ·rfl
         ·rfl
        refine hK.out _ _ ⟨(blk_cell (blk_alloc BK1271.out _) 0).trans rfl, (blk_cell (blk_alloc BK1271.out _) 1).trans rfl, (blk_cell (blk_alloc BK1271.out _) 2).trans rfl, (blk_cell (blk_alloc BK1271.out _) 3).trans rfl, (blk_cell (blk_alloc BK1271.out _) 4).trans rfl, (blk_cell (blk_alloc BK1271.out _) 5).trans rfl⟩ (fun hHeld => ?_)
        clear hK K
        refine norm_ (a' := ?_) ?_ ?_
        rotate_left
        ·show Act.put _ (some 31) _ = _
         simp only [Act.put,qa,qb,qc,i64_w,i32_w]
         rfl
        refine one_ (i := 10) (N := some 32) #[Y,Y,Y,Y,Y,Y,Y,Y,Y,Y,Y,O] rfl rfl (one_of HT_.out (by kernel_rfl)) (by decide) (fun K hK => ?_)
        refine Kd.S_append_step k111 (w0 := w) w.heap.size (by rfl) (.tmp 22) (.tmp 31) 39 111 (.agg #[(.int .i64 0), (.int .i64 0), (.slice none 0 0)]) 40 rfl Try.underlying39 info111 rfl (by decide) (by omega) u3 x3_1 (⟨wrap64 (((rd_T144 l0 x10_1).f0) - 1), (((rd_T144 l0 x10_1).f2).length : Int), t1272⟩ : S111) [.int .i64 (wrap64 (((rd_T144 l0 x10_1).f0) - 1)), .int .i64 (((rd_T144 l0 x10_1).f2).length : Int), .slice Ao15 t1272.length co15] (fun _ => True) (fun k_ => some k_ = (.slice Ao15 t1272.length co15 : Value).ownBlock) rfl rfl ?aP (fun k_ hk_ => ((Kd.R_mono (ok' := fun k_ => ((fun _ => True)) k_ ∧ some k_ ≠ (u3 : Value).ownBlock) (Kd.R_apart' (HO1274.out) (Kd.S_typed HO_3.out) (by decide)) (fun k_ hk => ⟨trivial, hk.2⟩))).1 k_ hk_.symm) ?aF ?aO ?aB ?aS ?aL ?_
        (case aP => exact k111_mkM _ _ _ (⟨wrap64 (((rd_T144 l0 x10_1).f0) - 1), (((rd_T144 l0 x10_1).f2).length : Int), t1272⟩ : S111) (Kd.R_mono (Kd.R_tight rfl (Kd.R_mono (ok' := fun k_ => ((fun _ => True)) k_ ∧ some k_ ≠ (u3 : Value).ownBlock) (Kd.R_apart' (HO1274.out) (Kd.S_typed HO_3.out) (by decide)) (fun k_ hk => ⟨trivial, hk.2⟩))) (fun _ h_ => h_)))
        (case aB => exact (by repeat (first | (with_reducible first | exact HB.out | apply below_alloc | apply pw_below_drewN | apply below_drew1 | refine below_set ?_ GE1271.out) | exact HB.out)))
        (case aF => exact (fun _ _ => trivial))
        (case aO => exact (by (with_reducible repeat (first | apply Kd.S_alloc | apply Kd.S_drewN | apply Kd.S_drew)); exact Kd.S_mono HO_3.out (fun k_ hk => ⟨trivial, fun e_ => hk.2 e_⟩)))
        (case aS => exact (below_size (by repeat (first | (with_reducible first | exact HB.out | apply below_alloc | apply pw_below_drewN | apply below_drew1 | refine below_set ?_ GE1271.out) | exact HB.out))))
        (case aL => have := LMc9.out; omega)
        intro v1276 w16 ho hb hg hat
        rw [← Ny1275.out] at ho
        have n0_ := Aside0.mk (blk_grown (g := gb1271) (o := .cells #[.int .i64 ((rd_T144 l0 x10_1).f0), .int .i64 ((rd_T144 l0 x10_1).f1), .slice A1270_2 ((rd_T144 l0 x10_1).f2).length c1270_2, .int .i64 ((rd_T144 l0 x10_1).f3), .int .i64 ((rd_T144 l0 x10_1).f4), .slice A1270_5 ((rd_T144 l0 x10_1).f5).length c1270_5] 144 (0, 0)) (zk BK1271.out) hg (Kd.S_ne HO_3.out BK1271.out (by decide)))
        have n1_ := Aside0.mk (hb)
        have n2_ := Aside0.mk (ho)
        clear BK1271
        clear HB
        clear HO_3
        clear HO1274
        have BK1271 := n0_
        have HB := n1_
        have HO1277 := n2_
        clear n0_ n1_ n2_
        clear ho hb hg hat
        refine hK.out _ _ ⟨(blk_cell BK1271.out 0).trans rfl, (blk_cell BK1271.out 1).trans rfl, (blk_cell BK1271.out 2).trans rfl, (blk_cell BK1271.out 3).trans rfl, (blk_cell BK1271.out 4).trans rfl, (blk_cell BK1271.out 5).trans rfl⟩ (fun hHeld => ?_)
        clear hK K
        refine norm_ (a' := ?_) ?_ ?_
        rotate_left
        ·show Act.put _ (some 32) _ = _
         simp only [Act.put,qa,qb,qc,i64_w,i32_w]
         rfl
        refine pure_ (i := 11) (N := some 3) (v := ?_) (a' := ?_) #[Y,Y,Y,Y,Y,Y,Y,Y,Y,Y,Y,Y] rfl rfl zx (fun _ _ _ h => h) (Or.inl ⟨by rfl, ?_⟩) ?_ ?_
        rotate_left; (intro w'; go_simp; with_reducible rfl); rotate_left; (simp only [Act.put,qa,qb,qc,i64_w,i32_w]; rfl)
        refine done_ (done_of HT_.out (by kernel_rfl)) ?_
        try go_wp2
        go_roundg k1
        case measure => have := HK1.out; omega
        case rel => exact ⟨(y1275), (wrap64 (x10_1 + 1)), zf, H', ⟨by have := HK1.out; omega⟩, ⟨by (with_reducible repeat (first | apply Kd.S_alloc | apply Kd.S_drewN | apply Kd.S_drew)); exact HO1277.out⟩, ⟨by repeat (first | (with_reducible first | exact HB.out | apply below_alloc | apply pw_below_drewN | apply below_drew1 | refine below_set ?_ GE1271.out) | exact HB.out)⟩⟩
       ·rw [if_neg c9] at H
        exact absurd H (by simp)
      ·rw [if_neg c7] at H
       have c7b0 : decide (0 < (((rd_T144 l0 x10_1).f2).length : Int)) = false := decide_eq_false c7
       have c7b1 : decide (0 < ((rd_T144 l0 x10_1).f2).length) = false := decide_eq_false (by omega)
       clear c7
       replace H := Option.bind_eq_some_iff.mp H
       obtain ⟨t1278, A170, H⟩ := H
       replace H : (if x3_1.length < 3518437208883 then (impl_hunksOf.l0 k1 (x3_1 ++ [(⟨(rd_T144 l0 x10_1).f0, (((rd_T144 l0 x10_1).f2).length : Int), t1278⟩ : S111)]) l0 (l0.length : Int) (wrap64 (x10_1 + 1))) else (none)) = some r := H
       have A17 := Aside0.mk A170
       clear A170
       by_cases c18 : x3_1.length < 3518437208883
       ·rw [if_pos c18] at H
        have LMc18 := Aside0.mk c18
        clear c18
        obtain ⟨y1281, hy1281⟩ : ∃ y_ : List (S111), y_ = (x3_1 ++ [(⟨(rd_T144 l0 x10_1).f0, (((rd_T144 l0 x10_1).f2).length : Int), t1278⟩ : S111)]) := ⟨_, rfl⟩
        replace H : (impl_hunksOf.l0 k1 y1281 l0 (l0.length : Int) (wrap64 (x10_1 + 1))) = some r := by first | (rw [hy1281]; with_reducible exact H) | (have H2_ := (Option.bind_some _ _).symm.trans H; rw [hy1281]; with_reducible exact H2_) | (have H2_ := (Option.bind_some _ _).symm.trans H; with_reducible exact H2_) | with_reducible exact H | (rw [hy1281]; exact H) | exact H
        have Ny1281 := Aside0.mk hy1281
        clear hy1281
        have H' := Aside0.mk H
        clear H
        have p1270 : 0 ≤ (x10_1 : Int) := oa
        have q1270 : x10_1 < (l0.length : Int) := oa
        obtain ⟨ad1270, A1270_2, c1270_2, A1270_5, c1270_5, e1270, hx1270_0, hx1270_1, hx1270_2, hx1270_3, hx1270_4, hx1270_5, hl1270_2, hi1270_2, hl1270_5, hi1270_5⟩ := at_T144 HR0.out x10_1 p1270 q1270
        cases e1270
        replace hx1270_0 := (HB.out.cell (World.block_lt_of_cell? w _ hx1270_0)).trans hx1270_0
        replace hx1270_1 := (HB.out.cell (World.block_lt_of_cell? w _ hx1270_1)).trans hx1270_1
        replace hx1270_2 := (HB.out.cell (World.block_lt_of_cell? w _ hx1270_2)).trans hx1270_2
        replace hx1270_3 := (HB.out.cell (World.block_lt_of_cell? w _ hx1270_3)).trans hx1270_3
        replace hx1270_4 := (HB.out.cell (World.block_lt_of_cell? w _ hx1270_4)).trans hx1270_4
        replace hx1270_5 := (HB.out.cell (World.block_lt_of_cell? w _ hx1270_5)).trans hx1270_5
        have HR1270_2 := Aside0.mk hi1270_2
        have HC1270_2 := Aside0.mk hl1270_2
        clear hi1270_2 hl1270_2
        have HR1270_5 := Aside0.mk hi1270_5
        have HC1270_5 := Aside0.mk hl1270_5
        clear hi1270_5 hl1270_5
        replace p1270 := eq_true p1270
        replace q1270 := eq_true q1270
        try go_wp2_with (first | ((with_reducible refine gate_dst (N := 5) rfl ?_); refine box_event ?hg (N := 5) ?hd (cs := #[.int .i64 0, .int .i64 0, .slice none 0 0, .int .i64 0, .int .i64 0, .slice none 0 0]) (t := 144) ?hr ?_; (case hd => rfl); (case hg => rfl); (case hr => first | (go_simp; done) | (go_simp; rfl)); intro gb1271 hg w19 hbox hb; have n0_ := Aside0.mk (Kd.S_below (zs HO_3.out) hb); have n1_ := Aside0.mk (below_step zb hb); have n2_ := Aside0.mk (hbox); have n3_ := Aside0.mk ((by rw [hg]; exact (below_size zb) : w.heap.size ≤ gb1271)); have n4_ := Aside0.mk ((by rw [hg]; exact (below_size zb) : w.heap.size ≤ gb1271)); clear HO_3; clear HB; have HO_3 := n0_; have HB := n1_; have BK1271 := n2_; have GW1271 := n3_; have GE1271 := n4_; clear n0_ n1_ n2_ n3_ n4_; clear hb hbox hg; have hcz20_0 : w19.cell? ⟨gb1271, 0, none⟩ = some (.int .i64 0) := (blk_cell BK1271.out 0).trans rfl; have hcz20_1 : w19.cell? ⟨gb1271, 1, none⟩ = some (.int .i64 0) := (blk_cell BK1271.out 1).trans rfl; have hcz20_2 : w19.cell? ⟨gb1271, 2, none⟩ = some (.slice none 0 0) := (blk_cell BK1271.out 2).trans rfl; have hcz20_3 : w19.cell? ⟨gb1271, 3, none⟩ = some (.int .i64 0) := (blk_cell BK1271.out 3).trans rfl; have hcz20_4 : w19.cell? ⟨gb1271, 4, none⟩ = some (.int .i64 0) := (blk_cell BK1271.out 4).trans rfl; have hcz20_5 : w19.cell? ⟨gb1271, 5, none⟩ = some (.slice none 0 0) := (blk_cell BK1271.out 5).trans rfl; have hfz20_0 := blk_frozen BK1271.out 0; have hfz20_1 := blk_frozen BK1271.out 1; have hfz20_2 := blk_frozen BK1271.out 2; have hfz20_3 := blk_frozen BK1271.out 3; have hfz20_4 := blk_frozen BK1271.out 4; have hfz20_5 := blk_frozen BK1271.out 5))
        have n0_ : Aside0 (Kd.S k111 111 ((((((w19.setCell ⟨gb1271, 0, none⟩ (.int .i64 ((rd_T144 l0 x10_1).f0))).setCell ⟨gb1271, 1, none⟩ (.int .i64 ((rd_T144 l0 x10_1).f1))).setCell ⟨gb1271, 2, none⟩ (.slice A1270_2 ((rd_T144 l0 x10_1).f2).length c1270_2)).setCell ⟨gb1271, 3, none⟩ (.int .i64 ((rd_T144 l0 x10_1).f3))).setCell ⟨gb1271, 4, none⟩ (.int .i64 ((rd_T144 l0 x10_1).f4))).setCell ⟨gb1271, 5, none⟩ (.slice A1270_5 ((rd_T144 l0 x10_1).f5).length c1270_5)) w.heap.size (fun _ => True) u3 x3_1) := ⟨by (with_reducible repeat (first | apply Kd.S_alloc | apply Kd.S_drewN | apply Kd.S_drew)); exact Kd.S_mono (Kd.S_far (p := ⟨gb1271, 5, none⟩) (Kd.S_far (p := ⟨gb1271, 4, none⟩) (Kd.S_far (p := ⟨gb1271, 3, none⟩) (Kd.S_far (p := ⟨gb1271, 2, none⟩) (Kd.S_far (p := ⟨gb1271, 1, none⟩) (Kd.S_far (p := ⟨gb1271, 0, none⟩) (Kd.S_types HO_3.out BK1271.out (by decide)) (fun _ hk => hk.2) (.int .i64 ((rd_T144 l0 x10_1).f0))) (fun _ hk => hk.2) (.int .i64 ((rd_T144 l0 x10_1).f1))) (fun _ hk => hk.2) (.slice A1270_2 ((rd_T144 l0 x10_1).f2).length c1270_2)) (fun _ hk => hk.2) (.int .i64 ((rd_T144 l0 x10_1).f3))) (fun _ hk => hk.2) (.int .i64 ((rd_T144 l0 x10_1).f4))) (fun _ hk => hk.2) (.slice A1270_5 ((rd_T144 l0 x10_1).f5).length c1270_5)) (fun _ hk => trivial)⟩
        have n1_ : Aside0 (((((((w19.setCell ⟨gb1271, 0, none⟩ (.int .i64 ((rd_T144 l0 x10_1).f0))).setCell ⟨gb1271, 1, none⟩ (.int .i64 ((rd_T144 l0 x10_1).f1))).setCell ⟨gb1271, 2, none⟩ (.slice A1270_2 ((rd_T144 l0 x10_1).f2).length c1270_2)).setCell ⟨gb1271, 3, none⟩ (.int .i64 ((rd_T144 l0 x10_1).f3))).setCell ⟨gb1271, 4, none⟩ (.int .i64 ((rd_T144 l0 x10_1).f4))).setCell ⟨gb1271, 5, none⟩ (.slice A1270_5 ((rd_T144 l0 x10_1).f5).length c1270_5)).heap[gb1271]? = some (.cells #[.int .i64 ((rd_T144 l0 x10_1).f0), .int .i64 ((rd_T144 l0 x10_1).f1), .slice A1270_2 ((rd_T144 l0 x10_1).f2).length c1270_2, .int .i64 ((rd_T144 l0 x10_1).f3), .int .i64 ((rd_T144 l0 x10_1).f4), .slice A1270_5 ((rd_T144 l0 x10_1).f5).length c1270_5] 144 (0, 0))) := ⟨by (with_reducible repeat (first | refine blk_drewN ?_ _ | refine blk_drew ?_ | refine blk_alloc ?_ _)); refine blk_put (cs := #[.int .i64 ((rd_T144 l0 x10_1).f0), .int .i64 ((rd_T144 l0 x10_1).f1), .slice A1270_2 ((rd_T144 l0 x10_1).f2).length c1270_2, .int .i64 ((rd_T144 l0 x10_1).f3), .int .i64 ((rd_T144 l0 x10_1).f4), .slice none 0 0]) ?_ 5 _ rfl; (with_reducible repeat (first | refine blk_drewN ?_ _ | refine blk_drew ?_ | refine blk_alloc ?_ _)); refine blk_put (cs := #[.int .i64 ((rd_T144 l0 x10_1).f0), .int .i64 ((rd_T144 l0 x10_1).f1), .slice A1270_2 ((rd_T144 l0 x10_1).f2).length c1270_2, .int .i64 ((rd_T144 l0 x10_1).f3), .int .i64 0, .slice none 0 0]) ?_ 4 _ rfl; (with_reducible repeat (first | refine blk_drewN ?_ _ | refine blk_drew ?_ | refine blk_alloc ?_ _)); refine blk_put (cs := #[.int .i64 ((rd_T144 l0 x10_1).f0), .int .i64 ((rd_T144 l0 x10_1).f1), .slice A1270_2 ((rd_T144 l0 x10_1).f2).length c1270_2, .int .i64 0, .int .i64 0, .slice none 0 0]) ?_ 3 _ rfl; (with_reducible repeat (first | refine blk_drewN ?_ _ | refine blk_drew ?_ | refine blk_alloc ?_ _)); refine blk_put (cs := #[.int .i64 ((rd_T144 l0 x10_1).f0), .int .i64 ((rd_T144 l0 x10_1).f1), .slice none 0 0, .int .i64 0, .int .i64 0, .slice none 0 0]) ?_ 2 _ rfl; (with_reducible repeat (first | refine blk_drewN ?_ _ | refine blk_drew ?_ | refine blk_alloc ?_ _)); refine blk_put (cs := #[.int .i64 ((rd_T144 l0 x10_1).f0), .int .i64 0, .slice none 0 0, .int .i64 0, .int .i64 0, .slice none 0 0]) ?_ 1 _ rfl; (with_reducible repeat (first | refine blk_drewN ?_ _ | refine blk_drew ?_ | refine blk_alloc ?_ _)); refine blk_put (cs := #[.int .i64 0, .int .i64 0, .slice none 0 0, .int .i64 0, .int .i64 0, .slice none 0 0]) ?_ 0 _ rfl; (with_reducible repeat (first | refine blk_drewN ?_ _ | refine blk_drew ?_ | refine blk_alloc ?_ _)); exact BK1271.out⟩
        have n2_ : Aside0 (Below w.heap.size w ((((((w19.setCell ⟨gb1271, 0, none⟩ (.int .i64 ((rd_T144 l0 x10_1).f0))).setCell ⟨gb1271, 1, none⟩ (.int .i64 ((rd_T144 l0 x10_1).f1))).setCell ⟨gb1271, 2, none⟩ (.slice A1270_2 ((rd_T144 l0 x10_1).f2).length c1270_2)).setCell ⟨gb1271, 3, none⟩ (.int .i64 ((rd_T144 l0 x10_1).f3))).setCell ⟨gb1271, 4, none⟩ (.int .i64 ((rd_T144 l0 x10_1).f4))).setCell ⟨gb1271, 5, none⟩ (.slice A1270_5 ((rd_T144 l0 x10_1).f5).length c1270_5))) := ⟨by repeat (first | (with_reducible first | exact HB.out | apply below_alloc | apply pw_below_drewN | apply below_drew1 | refine below_set ?_ GE1271.out) | exact HB.out)⟩
        (try clear HO_3)
        (try clear BK1271)
        (try clear HB)
        (try simp only [show ∀ (w_ : World) (n_ : Nat) (p_ : Addr) (v_ : Value), (w_.drewN n_).setCell p_ v_ = (w_.setCell p_ v_).drewN n_ from fun _ _ _ _ => rfl])
        generalize ((((((w19.setCell ⟨gb1271, 0, none⟩ (.int .i64 ((rd_T144 l0 x10_1).f0))).setCell ⟨gb1271, 1, none⟩ (.int .i64 ((rd_T144 l0 x10_1).f1))).setCell ⟨gb1271, 2, none⟩ (.slice A1270_2 ((rd_T144 l0 x10_1).f2).length c1270_2)).setCell ⟨gb1271, 3, none⟩ (.int .i64 ((rd_T144 l0 x10_1).f3))).setCell ⟨gb1271, 4, none⟩ (.int .i64 ((rd_T144 l0 x10_1).f4))).setCell ⟨gb1271, 5, none⟩ (.slice A1270_5 ((rd_T144 l0 x10_1).f5).length c1270_5)) = w21 at n0_ n1_ n2_ ⊢
        have HO_3 := n0_
        have BK1271 := n1_
        have HB := n2_
        clear n0_ n1_ n2_
        have n0_ := Aside0.mk (Kd.S_drew HO_3.out)
        have n1_ := Aside0.mk (blk_drew BK1271.out)
        have n2_ := Aside0.mk (below_drew1 HB.out)
        clear HO_3
        clear BK1271
        clear HB
        have HO_3 := n0_
        have BK1271 := n1_
        have HB := n2_
        clear n0_ n1_ n2_
        refine start_ (n := 12) (S := fun w' => w'.cell? ⟨gb1271, 0, none⟩ = some (.int .i64 ((rd_T144 l0 x10_1).f0)) ∧ w'.cell? ⟨gb1271, 1, none⟩ = some (.int .i64 ((rd_T144 l0 x10_1).f1)) ∧ w'.cell? ⟨gb1271, 2, none⟩ = some (.slice A1270_2 ((rd_T144 l0 x10_1).f2).length c1270_2) ∧ w'.cell? ⟨gb1271, 3, none⟩ = some (.int .i64 ((rd_T144 l0 x10_1).f3)) ∧ w'.cell? ⟨gb1271, 4, none⟩ = some (.int .i64 ((rd_T144 l0 x10_1).f4)) ∧ w'.cell? ⟨gb1271, 5, none⟩ = some (.slice A1270_5 ((rd_T144 l0 x10_1).f5).length c1270_5)) (ds := []) #[O,O,O,O,O,O,O,O,O,O,O,O] (by kernel_rfl) rfl rfl ⟨(blk_cell BK1271.out 0).trans rfl, (blk_cell BK1271.out 1).trans rfl, (blk_cell BK1271.out 2).trans rfl, (blk_cell BK1271.out 3).trans rfl, (blk_cell BK1271.out 4).trans rfl, (blk_cell BK1271.out 5).trans rfl⟩ (fun hHeld => ?_); refine with_tabW impl_hunksOf.tab8 impl_hunksOf.bits8 (fun HT_ HW_ => ?_)
        generalize w21.drew = w22 at HO_3 BK1271 HB hHeld ⊢
        refine pure_ (i := 0) (N := some 22) (v := ?_) (a' := ?_) #[Y,O,O,O,O,O,O,O,O,O,O,O] rfl rfl zx (fun _ _ _ h => h) (Or.inl ⟨by rfl, ?_⟩) ?_ ?_
        rotate_left; (intro w'; go_simp; with_reducible rfl); rotate_left; (simp only [Act.put,qa,qb,qc,i64_w,i32_w]; rfl)
        refine pure_ (i := 1) (N := some 23) (v := ?_) (a' := ?_) #[Y,Y,O,O,O,O,O,O,O,O,O,O] rfl rfl zx (fun _ _ _ h => h) (Or.inl ⟨by rfl, ?_⟩) ?_ ?_
        rotate_left; (intro w'; go_simp; with_reducible rfl); rotate_left; (simp only [Act.put,qa,qb,qc,i64_w,i32_w]; rfl)
        refine pure_ (i := 2) (N := some 24) (v := ?_) (a' := ?_) #[Y,Y,Y,O,O,O,O,O,O,O,O,O] rfl rfl zx (fun _ _ _ h => h) (Or.inl ⟨by rfl, ?_⟩) ?_ ?_
        rotate_left; (intro w'; go_simp; with_reducible rfl); rotate_left; (simp only [Act.put,qa,qb,qc,i64_w,i32_w]; rfl)
        refine pure_ (i := 5) (N := some 27) (v := ?_) (a' := ?_) #[Y,Y,Y,O,O,Y,O,O,O,O,O,O] rfl rfl zx (fun _ _ _ h => h) (Or.inl ⟨by rfl, ?_⟩) ?_ ?_
        rotate_left; (intro w'; go_simp; with_reducible rfl); rotate_left; (simp only [Act.put,qa,qb,qc,i64_w,i32_w]; rfl)
        refine take_ (i := 3) (N := some 25) (v := ?_) (a' := ?_) #[Y,Y,Y,Y,O,Y,O,O,O,O,O,O] rfl rfl (take_ofW HT_.out HW_.out (by kernel_rfl)) (fun _ _ _ h => h) (Or.inl ⟨by rfl, ?_⟩) hHeld ?_ ?_
        rotate_left; (rintro w' ⟨s0, s1, s2, s3, s4, s5⟩; go_simp; with_reducible rfl); rotate_left; (simp only [Act.put,qa,qb,qc,i64_w,i32_w]; rfl)
        refine pure_ (i := 4) (N := some 26) (v := ?_) (a' := ?_) #[Y,Y,Y,Y,Y,Y,O,O,O,O,O,O] rfl rfl zx (fun _ _ _ h => h) (Or.inl ⟨by rfl, ?_⟩) ?_ ?_
        rotate_left; (intro w'; go_simp; with_reducible rfl); rotate_left; (simp only [Act.put,qa,qb,qc,i64_w,i32_w]; rfl)
        refine take_ (i := 6) (N := some 28) (v := ?_) (a' := ?_) #[Y,Y,Y,Y,Y,Y,Y,O,O,O,O,O] rfl rfl (take_ofW HT_.out HW_.out (by kernel_rfl)) (fun _ _ _ h => h) (Or.inl ⟨by rfl, ?_⟩) hHeld ?_ ?_
        rotate_left; (rintro w' ⟨s0, s1, s2, s3, s4, s5⟩; go_simp; with_reducible rfl); rotate_left; (simp only [Act.put,qa,qb,qc,i64_w,i32_w]; rfl)
        refine one_ (i := 7) (N := some 29) #[Y,Y,Y,Y,Y,Y,Y,Y,O,O,O,O] rfl rfl (one_of HT_.out (by kernel_rfl)) (by decide) (fun K hK => ?_)
        refine goes_ Try.func108 (by kernel_rfl) rfl #[.slice A1270_5 ((rd_T144 l0 x10_1).f5).length c1270_5] (by rfl) rfl rfl zm ?_
        with_reducible refine (slices_Clone_string_string.calls _ _ ((rd_T144 l0 x10_1).f5) t1278 _ ?side1 ?side2 A17.out).mono ?_
        (case side1 => exact zq (Kd.C_below HR1270_5.out HB.out))
        (case side2 => exact HC1270_5.out)
        rintro e w23 ⟨v1279, rfl, ho0, hb⟩
        refine ⟨_, rfl, ?_⟩
        have n0_ := Aside0.mk (Kd.S_elder' (zs HO_3.out) (Kd.R_base ho0) hb)
        have n1_ := Aside0.mk (Kd.R_lower ho0 (below_size (by repeat (first | (with_reducible first | exact HB.out | apply below_alloc | apply pw_below_drewN | apply below_drew1 | refine below_set ?_ GE1271.out) | exact HB.out))))
        have n2_ := Aside0.mk (blk_below (g := gb1271) (o := .cells #[.int .i64 ((rd_T144 l0 x10_1).f0), .int .i64 ((rd_T144 l0 x10_1).f1), .slice A1270_2 ((rd_T144 l0 x10_1).f2).length c1270_2, .int .i64 ((rd_T144 l0 x10_1).f3), .int .i64 ((rd_T144 l0 x10_1).f4), .slice A1270_5 ((rd_T144 l0 x10_1).f5).length c1270_5] 144 (0, 0)) (zk BK1271.out) hb)
        have n3_ := Aside0.mk (below_step (by repeat (first | (with_reducible first | exact HB.out | apply below_alloc | apply pw_below_drewN | apply below_drew1 | refine below_set ?_ GE1271.out) | exact HB.out)) hb)
        clear HO_3
        clear BK1271
        clear HB
        have HO_3 := n0_
        have HO1280 := n1_
        have BK1271 := n2_
        have HB := n3_
        clear n0_ n1_ n2_ n3_
        (try clear hb)
        (try clear hb2)
        (try clear hk)
        (try clear hi)
        (try clear ho0)
        obtain ⟨Ao24, co24, eo24⟩ := Kd.R_slice HO1280.out
        (first | subst eo24 | (injection eo24 with f1_ f2_ f3_; have f4_ := f1_.symm; have f5_ := f3_.symm; clear f1_ f2_ f3_; subst f4_; subst f5_))
        refine hK.out _ _ ⟨(blk_cell BK1271.out 0).trans rfl, (blk_cell BK1271.out 1).trans rfl, (blk_cell BK1271.out 2).trans rfl, (blk_cell BK1271.out 3).trans rfl, (blk_cell BK1271.out 4).trans rfl, (blk_cell BK1271.out 5).trans rfl⟩ (fun hHeld => ?_)
        clear hK K
        refine norm_ (a' := ?_) ?_ ?_
        rotate_left
        ·show Act.put _ (some 29) _ = _
         simp only [Act.put,qa,qb,qc,i64_w,i32_w]
         rfl
        refine pure_ (i := 8) (N := some 30) (v := ?_) (a' := ?_) #[Y,Y,Y,Y,Y,Y,Y,Y,Y,O,O,O] rfl rfl zx (fun _ _ _ h => h) (Or.inl ⟨by rfl, ?_⟩) ?_ ?_
        rotate_left; (intro w'; go_simp; with_reducible rfl); rotate_left; (simp only [Act.put,qa,qb,qc,i64_w,i32_w]; rfl)
        refine one_ (i := 9) (N := some 31) #[Y,Y,Y,Y,Y,Y,Y,Y,Y,Y,O,O] rfl rfl (one_of HT_.out (by kernel_rfl)) (by decide) (fun K hK => ?_)
        refine value_ (w1 := ?_) (v := ?_) (by rfl) rfl ?_ ?_
        rotate_left 2
        ·go_simp
         constructor
         ·rfl
         ·rfl
        refine hK.out _ _ ⟨(blk_cell (blk_alloc BK1271.out _) 0).trans rfl, (blk_cell (blk_alloc BK1271.out _) 1).trans rfl, (blk_cell (blk_alloc BK1271.out _) 2).trans rfl, (blk_cell (blk_alloc BK1271.out _) 3).trans rfl, (blk_cell (blk_alloc BK1271.out _) 4).trans rfl, (blk_cell (blk_alloc BK1271.out _) 5).trans rfl⟩ (fun hHeld => ?_)
        clear hK K
        refine norm_ (a' := ?_) ?_ ?_
        rotate_left
        ·show Act.put _ (some 31) _ = _
         simp only [Act.put,qa,qb,qc,i64_w,i32_w]
         rfl
        refine one_ (i := 10) (N := some 32) #[Y,Y,Y,Y,Y,Y,Y,Y,Y,Y,Y,O] rfl rfl (one_of HT_.out (by kernel_rfl)) (by decide) (fun K hK => ?_)
        refine Kd.S_append_step k111 (w0 := w) w.heap.size (by rfl) (.tmp 22) (.tmp 31) 39 111 (.agg #[(.int .i64 0), (.int .i64 0), (.slice none 0 0)]) 40 rfl Try.underlying39 info111 rfl (by decide) (by omega) u3 x3_1 (⟨(rd_T144 l0 x10_1).f0, (((rd_T144 l0 x10_1).f2).length : Int), t1278⟩ : S111) [.int .i64 ((rd_T144 l0 x10_1).f0), .int .i64 (((rd_T144 l0 x10_1).f2).length : Int), .slice Ao24 t1278.length co24] (fun _ => True) (fun k_ => some k_ = (.slice Ao24 t1278.length co24 : Value).ownBlock) rfl rfl ?aP (fun k_ hk_ => ((Kd.R_mono (ok' := fun k_ => ((fun _ => True)) k_ ∧ some k_ ≠ (u3 : Value).ownBlock) (Kd.R_apart' (HO1280.out) (Kd.S_typed HO_3.out) (by decide)) (fun k_ hk => ⟨trivial, hk.2⟩))).1 k_ hk_.symm) ?aF ?aO ?aB ?aS ?aL ?_
        (case aP => exact k111_mkM _ _ _ (⟨(rd_T144 l0 x10_1).f0, (((rd_T144 l0 x10_1).f2).length : Int), t1278⟩ : S111) (Kd.R_mono (Kd.R_tight rfl (Kd.R_mono (ok' := fun k_ => ((fun _ => True)) k_ ∧ some k_ ≠ (u3 : Value).ownBlock) (Kd.R_apart' (HO1280.out) (Kd.S_typed HO_3.out) (by decide)) (fun k_ hk => ⟨trivial, hk.2⟩))) (fun _ h_ => h_)))
        (case aB => exact (by repeat (first | (with_reducible first | exact HB.out | apply below_alloc | apply pw_below_drewN | apply below_drew1 | refine below_set ?_ GE1271.out) | exact HB.out)))
        (case aF => exact (fun _ _ => trivial))
        (case aO => exact (by (with_reducible repeat (first | apply Kd.S_alloc | apply Kd.S_drewN | apply Kd.S_drew)); exact Kd.S_mono HO_3.out (fun k_ hk => ⟨trivial, fun e_ => hk.2 e_⟩)))
        (case aS => exact (below_size (by repeat (first | (with_reducible first | exact HB.out | apply below_alloc | apply pw_below_drewN | apply below_drew1 | refine below_set ?_ GE1271.out) | exact HB.out))))
        (case aL => have := LMc18.out; omega)
        intro v1282 w25 ho hb hg hat
        rw [← Ny1281.out] at ho
        have n0_ := Aside0.mk (blk_grown (g := gb1271) (o := .cells #[.int .i64 ((rd_T144 l0 x10_1).f0), .int .i64 ((rd_T144 l0 x10_1).f1), .slice A1270_2 ((rd_T144 l0 x10_1).f2).length c1270_2, .int .i64 ((rd_T144 l0 x10_1).f3), .int .i64 ((rd_T144 l0 x10_1).f4), .slice A1270_5 ((rd_T144 l0 x10_1).f5).length c1270_5] 144 (0, 0)) (zk BK1271.out) hg (Kd.S_ne HO_3.out BK1271.out (by decide)))
        have n1_ := Aside0.mk (hb)
        have n2_ := Aside0.mk (ho)
        clear BK1271
        clear HB
        clear HO_3
        clear HO1280
        have BK1271 := n0_
        have HB := n1_
        have HO1283 := n2_
        clear n0_ n1_ n2_
        clear ho hb hg hat
        refine hK.out _ _ ⟨(blk_cell BK1271.out 0).trans rfl, (blk_cell BK1271.out 1).trans rfl, (blk_cell BK1271.out 2).trans rfl, (blk_cell BK1271.out 3).trans rfl, (blk_cell BK1271.out 4).trans rfl, (blk_cell BK1271.out 5).trans rfl⟩ (fun hHeld => ?_)
        clear hK K
        refine norm_ (a' := ?_) ?_ ?_
        rotate_left
        ·show Act.put _ (some 32) _ = _
         simp only [Act.put,qa,qb,qc,i64_w,i32_w]
         rfl
        refine pure_ (i := 11) (N := some 3) (v := ?_) (a' := ?_) #[Y,Y,Y,Y,Y,Y,Y,Y,Y,Y,Y,Y] rfl rfl zx (fun _ _ _ h => h) (Or.inl ⟨by rfl, ?_⟩) ?_ ?_
        rotate_left; (intro w'; go_simp; with_reducible rfl); rotate_left; (simp only [Act.put,qa,qb,qc,i64_w,i32_w]; rfl)
        refine done_ (done_of HT_.out (by kernel_rfl)) ?_
        try go_wp2
        go_roundg k1
        case measure => have := HK1.out; omega
        case rel => exact ⟨(y1281), (wrap64 (x10_1 + 1)), zf, H', ⟨by have := HK1.out; omega⟩, ⟨by (with_reducible repeat (first | apply Kd.S_alloc | apply Kd.S_drewN | apply Kd.S_drew)); exact HO1283.out⟩, ⟨by repeat (first | (with_reducible first | exact HB.out | apply below_alloc | apply pw_below_drewN | apply below_drew1 | refine below_set ?_ GE1271.out) | exact HB.out)⟩⟩
       ·rw [if_neg c18] at H
        exact absurd H (by simp)
     ·rw [if_neg c6] at H
      exact absurd H (by simp)
    ·rw [if_neg c5] at H
     exact absurd H (by simp)
   ·rw [if_neg c4] at H
    have c4b0 : decide (x10_1 < (l0.length : Int)) = false := decide_eq_false c4
    clear c4
    obtain rfl := Option.some.inj H
    go_wp2
    go_ret
    exact ⟨_, by first | rfl | (simp [errW_none, errW_some] <;> rfl) | (simp [*, errW_none, errW_some] <;> rfl), by (with_reducible repeat (first | apply Kd.S_alloc | apply Kd.S_drewN | apply Kd.S_drew)); exact HO_3.out, by repeat (first | (with_reducible first | exact HB.out | apply below_alloc | apply pw_below_drewN | apply below_drew1) | exact HB.out)⟩

end Go.Proofs.Ytcefenlblnediaa.My

/- Written by this session's program (wip/gen): a plain function with the same answers as the Go function, and the proof that the Go code comes to them. Asked: that the plain function has an answer. -/
namespace Go.Proofs.Ytcefenlblnediaa.My
open Go.RowKit Go.Proofs.YtcefenlblnediaaW.PrintWords Go.Proofs.YtcefenlblnediaaW.PrintLast Go.Proofs.YtcefenlblnediaaW.PrintMore
attribute [local go_sem] max2_int min2_int max_two min_two max_three min_three max_four min_four
set_option linter.unusedVariables false
set_option linter.unusedSimpArgs false

/-! ### impl_endOf: function 175 -/
def impl_endOf.f (a0 : Int) (a1 : Int) : Option (Int) := some (wrap64 (a0 + a1))
set_option maxHeartbeats 8000000 in
set_option maxRecDepth 100000 in
theorem impl_endOf.calls (a0 : Int) (a1 : Int) (r : Int) (w : World) (h : impl_endOf.f a0 a1 = some r) :
  Calls Try.prog 175 #[.int .i64 a0, .int .i64 a1] w fun e w' => e = .returned (.int .i64 r) ∧ Drawn0 w w' := by
 have H : (some (wrap64 (a0 + a1))) = some r := h
 clear h
 obtain rfl := Option.some.inj H
 go_enter Try.func175, Try.ntmps175
 go_wp2
 go_ret
 exact ⟨by first | rfl | (simp; done) | (simp [*]; done), by repeat (first | exact Drawn0.refl _ | apply Drawn0.step)⟩

end Go.Proofs.Ytcefenlblnediaa.My

/- Written by this session's program (wip/gen): a plain function with the same answers as the Go function, and the proof that the Go code comes to them. Asked: that the plain function has an answer. -/
namespace Go.Proofs.Ytcefenlblnediaa.My
open Go.RowKit Go.Proofs.YtcefenlblnediaaW.PrintWords Go.Proofs.YtcefenlblnediaaW.PrintLast Go.Proofs.YtcefenlblnediaaW.PrintMore
attribute [local go_sem] max2_int min2_int max_two min_two max_three min_three max_four min_four
set_option linter.unusedVariables false
set_option linter.unusedSimpArgs false

/-! ### impl_numberOf: function 174 -/
def impl_numberOf.f (a0 : Int) (a1 : Int) : Option (Int) := if a1 > 0 then (some (wrap64 (a0 + 1))) else (some a0)
set_option maxHeartbeats 8000000 in
set_option maxRecDepth 100000 in
theorem impl_numberOf.calls (a0 : Int) (a1 : Int) (r : Int) (w : World) (h : impl_numberOf.f a0 a1 = some r) :
  Calls Try.prog 174 #[.int .i64 a0, .int .i64 a1] w fun e w' => e = .returned (.int .i64 r) ∧ Drawn0 w w' := by
 have H : (if a1 > 0 then (some (wrap64 (a0 + 1))) else (some a0)) = some r := h
 clear h
 by_cases c3 : a1 > 0
 ·rw [if_pos c3] at H
  have c3b0 : decide (0 < a1) = true := decide_eq_true c3
  clear c3
  obtain rfl := Option.some.inj H
  go_enter Try.func174, Try.ntmps174
  go_wp2
  go_ret
  exact ⟨by first | rfl | (simp; done) | (simp [*]; done), by repeat (first | exact Drawn0.refl _ | apply Drawn0.step)⟩
 ·rw [if_neg c3] at H
  have c3b0 : decide (0 < a1) = false := decide_eq_false c3
  clear c3
  obtain rfl := Option.some.inj H
  go_enter Try.func174, Try.ntmps174
  go_wp2
  go_ret
  exact ⟨by first | rfl | (simp; done) | (simp [*]; done), by repeat (first | exact Drawn0.refl _ | apply Drawn0.step)⟩

end Go.Proofs.Ytcefenlblnediaa.My

/- Written by this session's program (wip/gen): a plain function with the same answers as the Go function, and the proof that the Go code comes to them. Asked: that the plain function has an answer. -/
namespace Go.Proofs.Ytcefenlblnediaa.My
open Go.RowKit Go.Proofs.YtcefenlblnediaaW.PrintWords Go.Proofs.YtcefenlblnediaaW.PrintLast Go.Proofs.YtcefenlblnediaaW.PrintMore
attribute [local go_sem] max2_int min2_int max_two min_two max_three min_three max_four min_four
set_option linter.unusedVariables false
set_option linter.unusedSimpArgs false

/-! ### impl_stepsOf: function 131 -/
def impl_stepsOf.l0 : Nat → List ByteArray → List (S144) → Int → List (S111) → Int → Int → Option ((List (S144)))
 | 0, _, _, _, _, _, _ => none
 | k + 1, x0, x5, x6, x11, x12, x13 => if x13 < x12 then (if 0 ≤ x13 then (if x13 < (x11.length : Int) then ((impl_numberOf.f ((rd_T111 x11 x13).f0) ((rd_T111 x11 x13).f1)).bind fun t1290 => ((impl_endOf.f ((rd_T111 x11 x13).f0) ((rd_T111 x11 x13).f1)).bind fun t1291 => (if 0 ≤ ((rd_T111 x11 x13).f0) then (if ((rd_T111 x11 x13).f0) ≤ (wrap64 (((rd_T111 x11 x13).f0) + ((rd_T111 x11 x13).f1))) then (if (wrap64 (((rd_T111 x11 x13).f0) + ((rd_T111 x11 x13).f1))) ≤ (x0.length : Int) then ((slices_Clone_string_string.f ((x0.take ((wrap64 (((rd_T111 x11 x13).f0) + ((rd_T111 x11 x13).f1))) : Int).toNat).drop (((rd_T111 x11 x13).f0) : Int).toNat)).bind fun t1293 => ((impl_numberOf.f (wrap64 (((rd_T111 x11 x13).f0) + x6)) (((rd_T111 x11 x13).f2).length : Int)).bind fun t1296 => ((impl_endOf.f (wrap64 (((rd_T111 x11 x13).f0) + x6)) (((rd_T111 x11 x13).f2).length : Int)).bind fun t1297 => ((slices_Clone_string_string.f ((rd_T111 x11 x13).f2)).bind fun t1298 => (if x5.length < 1759218604441 then (impl_stepsOf.l0 k x0 (x5 ++ [(⟨t1290, t1291, t1293, t1296, t1297, t1298⟩ : S144)]) (wrap64 (x6 + (wrap64 ((((rd_T111 x11 x13).f2).length : Int) - ((rd_T111 x11 x13).f1))))) x11 x12 (wrap64 (x13 + 1))) else (none)))))) else (none)) else (none)) else (none)))) else (none)) else (none)) else (some x5)
def impl_stepsOf.f (k : Nat) (l0 : List ByteArray) (l1 : List (S111)) : Option ((List (S144))) := impl_stepsOf.l0 k l0 (([] : List (S144))) 0 l1 (l1.length : Int) 0
def impl_stepsOf.T6 : Bool × List (List Nat × List Nat) := (true, [([], []), ([], []), ([1], [1]), ([], []), ([3], [3]), ([2, 4], [2, 4]), ([], []), ([6], [6]), ([], []), ([8], [8]), ([7, 9, 5], [7, 9]), ([], []), ([], []), ([12], [12]), ([], []), ([14], [14]), ([], []), ([16], [16]), ([15, 17], [15, 17]), ([11, 13, 18], [11, 13, 18]), ([19, 10], [19]), ([], []), ([], []), ([22], [22]), ([23], [23]), ([21, 24, 20], [21, 24]), ([], []), ([], []), ([27], [27]), ([28], [28]), ([26, 29, 25], [26, 29]), ([], []), ([31], [31]), ([32, 30], [32]), ([5, 10, 20, 25, 30, 33], [5, 10, 20, 25, 30, 33]), ([34], [34]), ([0, 35, 33], [0, 35]), ([36, 36, 0, 1, 2, 3, 4, 5, 6, 7, 8, 9, 10, 11, 12, 13, 14, 15, 16, 17, 18, 19, 20, 21, 22, 23, 24, 25, 26, 27, 28, 29, 30, 31, 32, 33, 34, 35, 36], [0, 36])])
def impl_stepsOf.B6 : List Nat := [0, 0, 2, 0, 8, 30, 0, 64, 0, 256, 1022, 0, 0, 4096, 0, 16384, 0, 65536, 245760, 522240, 1048574, 0, 0, 4194304, 12582912, 33554430, 0, 0, 134217728, 402653184, 1073741822, 0, 2147483648, 8589934590, 17179869182, 34359738366, 68719476735, 137438953471]
theorem impl_stepsOf.tab6 : rtab .any (opsOf Try.f131 6) = impl_stepsOf.T6 := by kernel_rfl
theorem impl_stepsOf.bits6 : waitsOk impl_stepsOf.T6.2 impl_stepsOf.B6 = true := by kernel_rfl
set_option maxHeartbeats 8000000 in
set_option maxRecDepth 100000 in
theorem impl_stepsOf.calls (k : Nat) (A0 : Option Addr) (c0 : Nat) (l0 : List ByteArray) (A1 : Option Addr) (c1 : Nat) (l1 : List (S111)) (r : List (S144)) (w : World) (hr0 : Kd.C Kd.string w A0 l0.length l0) (hc0 : l0.length ≤ c0) (hr1 : Kd.C k111 w A1 l1.length l1) (hc1 : l1.length ≤ c1) (h : impl_stepsOf.f k l0 l1 = some r) :
  Calls Try.prog 131 #[.slice A0 l0.length c0, .slice A1 l1.length c1] w fun e w' => ∃ v0_ : Value, e = .returned (v0_) ∧ Kd.S k144 144 w' w.heap.size (fun _ => True) v0_ r ∧ Below w.heap.size w w' := by
 have hu111 := Try.underlying111
 have hu144 := Try.underlying144
 have HR0 := Aside0.mk hr0
 have HC0 := Aside0.mk hc0
 clear hr0 hc0
 have HR1 := Aside0.mk hr1
 have HC1 := Aside0.mk hc1
 clear hr1 hc1
 have HB := Aside0.mk (Below.refl w.heap.size w)
 have H : (impl_stepsOf.l0 k l0 (([] : List (S144))) 0 l1 (l1.length : Int) 0) = some r := h
 clear h
 obtain ⟨y1285, hy1285⟩ : ∃ y_ : List (S144), y_ = (([] : List (S144))) := ⟨_, rfl⟩
 replace H : (impl_stepsOf.l0 k l0 y1285 0 l1 (l1.length : Int) 0) = some r := by first | (rw [hy1285]; with_reducible exact H) | (have H2_ := (Option.bind_some _ _).symm.trans H; rw [hy1285]; with_reducible exact H2_) | (have H2_ := (Option.bind_some _ _).symm.trans H; with_reducible exact H2_) | with_reducible exact H | (rw [hy1285]; exact H) | exact H
 have Ny1285 := Aside0.mk hy1285
 clear hy1285
 have H' := Aside0.mk H
 clear H
 go_enter Try.func131, Try.ntmps131
 go_wp2_with (first | ((with_reducible refine gate_dst (N := 10) rfl ?_); refine Kd.S_lit k144 _ 144 ?hg (N := 10) ?hd (xs := ([] : List (S144))) (inner := []) (ok := fun _ => True) (okp := fun _ => True) ?hr ?hp (fun _ hk => hk) trivial (Below.refl _ _) (Nat.le_refl _) (by simp) ?_; (case hd => rfl); (case hg => rfl); (case hr => first | (go_simp; done) | (go_simp; rfl)); (case hp => exact (Reps.none _ _)); intro v1286 w3 ho4 hb hg_ hnew_; clear hg_ hnew_; (first | rw [← Ny1285.out] at ho4 | (simp only [Int.reduceToNat] at ho4; rw [← Ny1285.out] at ho4)); have n0_ := Aside0.mk (Kd.S_lower ho4 (below_size zb)); have n1_ := Aside0.mk (below_step zb hb); clear HB; have HO1287 := n0_; have HB := n1_; clear n0_ n1_; clear hb ho4))
 go_loopg [5, 6, 13] k (fun kq v5 v6 v13 w' => ∃ (x5_1 : List (S144)) (x6_1 : Int) (x13_1 : Int), v6 = .int .i64 x6_1 ∧ v13 = .int .i64 x13_1 ∧ Aside0 (impl_stepsOf.l0 kq l0 x5_1 x6_1 l1 (l1.length : Int) x13_1 = some r) ∧ Aside0 (kq ≤ k) ∧ Aside0 (Kd.S k144 144 w' w.heap.size (fun _ => True) v5 x5_1) ∧ Aside0 (Below w.heap.size w w'))
 case atStart => exact ⟨(y1285), (0), (0), zf, zf, H', ⟨Nat.le_refl _⟩, ⟨by (with_reducible repeat (first | apply Kd.S_alloc | apply Kd.S_drewN | apply Kd.S_drew)); exact HO1287.out⟩, ⟨by repeat (first | (with_reducible first | exact HB.out | apply below_alloc | apply pw_below_drewN | apply below_drew1) | exact HB.out)⟩⟩
 case round =>
  clear H'
  try clear c1
  try clear p2
  obtain ⟨x5_1, x6_1, x13_1, rfl, rfl, HA, HK1, HO_5, HB⟩ := hrel
  cases gk with
  | zero => exact absurd HA.out (by simp [impl_stepsOf.l0])
  | succ k1 =>
   have H := HA.out
   clear HA
   simp only [impl_stepsOf.l0] at H
   by_cases c5 : x13_1 < (l1.length : Int)
   ·rw [if_pos c5] at H
    have c5b0 : decide (x13_1 < (l1.length : Int)) = true := decide_eq_true c5
    clear c5
    by_cases c6 : 0 ≤ x13_1
    ·rw [if_pos c6] at H
     have c6b0 : decide (0 ≤ x13_1) = true := decide_eq_true c6
     clear c6
     by_cases c7 : x13_1 < (l1.length : Int)
     ·rw [if_pos c7] at H
      have c7b0 : decide (x13_1 < (l1.length : Int)) = true := decide_eq_true c7
      clear c7
      replace H := Option.bind_eq_some_iff.mp H
      obtain ⟨t1290, A80, H⟩ := H
      replace H : ((impl_endOf.f ((rd_T111 l1 x13_1).f0) ((rd_T111 l1 x13_1).f1)).bind fun t1291 => (if 0 ≤ ((rd_T111 l1 x13_1).f0) then (if ((rd_T111 l1 x13_1).f0) ≤ (wrap64 (((rd_T111 l1 x13_1).f0) + ((rd_T111 l1 x13_1).f1))) then (if (wrap64 (((rd_T111 l1 x13_1).f0) + ((rd_T111 l1 x13_1).f1))) ≤ (l0.length : Int) then ((slices_Clone_string_string.f ((l0.take ((wrap64 (((rd_T111 l1 x13_1).f0) + ((rd_T111 l1 x13_1).f1))) : Int).toNat).drop (((rd_T111 l1 x13_1).f0) : Int).toNat)).bind fun t1293 => ((impl_numberOf.f (wrap64 (((rd_T111 l1 x13_1).f0) + x6_1)) (((rd_T111 l1 x13_1).f2).length : Int)).bind fun t1296 => ((impl_endOf.f (wrap64 (((rd_T111 l1 x13_1).f0) + x6_1)) (((rd_T111 l1 x13_1).f2).length : Int)).bind fun t1297 => ((slices_Clone_string_string.f ((rd_T111 l1 x13_1).f2)).bind fun t1298 => (if x5_1.length < 1759218604441 then (impl_stepsOf.l0 k1 l0 (x5_1 ++ [(⟨t1290, t1291, t1293, t1296, t1297, t1298⟩ : S144)]) (wrap64 (x6_1 + (wrap64 ((((rd_T111 l1 x13_1).f2).length : Int) - ((rd_T111 l1 x13_1).f1))))) l1 (l1.length : Int) (wrap64 (x13_1 + 1))) else (none)))))) else (none)) else (none)) else (none))) = some r := H
      have A8 := Aside0.mk A80
      clear A80
      replace H := Option.bind_eq_some_iff.mp H
      obtain ⟨t1291, A90, H⟩ := H
      replace H : (if 0 ≤ ((rd_T111 l1 x13_1).f0) then (if ((rd_T111 l1 x13_1).f0) ≤ (wrap64 (((rd_T111 l1 x13_1).f0) + ((rd_T111 l1 x13_1).f1))) then (if (wrap64 (((rd_T111 l1 x13_1).f0) + ((rd_T111 l1 x13_1).f1))) ≤ (l0.length : Int) then ((slices_Clone_string_string.f ((l0.take ((wrap64 (((rd_T111 l1 x13_1).f0) + ((rd_T111 l1 x13_1).f1))) : Int).toNat).drop (((rd_T111 l1 x13_1).f0) : Int).toNat)).bind fun t1293 => ((impl_numberOf.f (wrap64 (((rd_T111 l1 x13_1).f0) + x6_1)) (((rd_T111 l1 x13_1).f2).length : Int)).bind fun t1296 => ((impl_endOf.f (wrap64 (((rd_T111 l1 x13_1).f0) + x6_1)) (((rd_T111 l1 x13_1).f2).length : Int)).bind fun t1297 => ((slices_Clone_string_string.f ((rd_T111 l1 x13_1).f2)).bind fun t1298 => (if x5_1.length < 1759218604441 then (impl_stepsOf.l0 k1 l0 (x5_1 ++ [(⟨t1290, t1291, t1293, t1296, t1297, t1298⟩ : S144)]) (wrap64 (x6_1 + (wrap64 ((((rd_T111 l1 x13_1).f2).length : Int) - ((rd_T111 l1 x13_1).f1))))) l1 (l1.length : Int) (wrap64 (x13_1 + 1))) else (none)))))) else (none)) else (none)) else (none)) = some r := H
      have A9 := Aside0.mk A90
      clear A90
      by_cases c10 : 0 ≤ ((rd_T111 l1 x13_1).f0)
      ·rw [if_pos c10] at H
       have c10b0 := eq_true c10
       have c10b1 : decide (0 ≤ ((rd_T111 l1 x13_1).f0)) = true := decide_eq_true c10
       clear c10
       by_cases c11 : ((rd_T111 l1 x13_1).f0) ≤ (wrap64 (((rd_T111 l1 x13_1).f0) + ((rd_T111 l1 x13_1).f1)))
       ·rw [if_pos c11] at H
        have c11b0 := eq_true c11
        have c11b1 : decide (((rd_T111 l1 x13_1).f0) ≤ (wrap64 (((rd_T111 l1 x13_1).f0) + ((rd_T111 l1 x13_1).f1)))) = true := decide_eq_true c11
        by_cases c12 : (wrap64 (((rd_T111 l1 x13_1).f0) + ((rd_T111 l1 x13_1).f1))) ≤ (l0.length : Int)
        ·rw [if_pos c12] at H
         have c12b0 := eq_true c12
         have c12b1 : decide ((wrap64 (((rd_T111 l1 x13_1).f0) + ((rd_T111 l1 x13_1).f1))) ≤ (l0.length : Int)) = true := decide_eq_true c12
         replace H := Option.bind_eq_some_iff.mp H
         obtain ⟨t1293, A130, H⟩ := H
         replace H : ((impl_numberOf.f (wrap64 (((rd_T111 l1 x13_1).f0) + x6_1)) (((rd_T111 l1 x13_1).f2).length : Int)).bind fun t1296 => ((impl_endOf.f (wrap64 (((rd_T111 l1 x13_1).f0) + x6_1)) (((rd_T111 l1 x13_1).f2).length : Int)).bind fun t1297 => ((slices_Clone_string_string.f ((rd_T111 l1 x13_1).f2)).bind fun t1298 => (if x5_1.length < 1759218604441 then (impl_stepsOf.l0 k1 l0 (x5_1 ++ [(⟨t1290, t1291, t1293, t1296, t1297, t1298⟩ : S144)]) (wrap64 (x6_1 + (wrap64 ((((rd_T111 l1 x13_1).f2).length : Int) - ((rd_T111 l1 x13_1).f1))))) l1 (l1.length : Int) (wrap64 (x13_1 + 1))) else (none))))) = some r := H
         have A13 := Aside0.mk A130
         clear A130
         replace H := Option.bind_eq_some_iff.mp H
         obtain ⟨t1296, A140, H⟩ := H
         replace H : ((impl_endOf.f (wrap64 (((rd_T111 l1 x13_1).f0) + x6_1)) (((rd_T111 l1 x13_1).f2).length : Int)).bind fun t1297 => ((slices_Clone_string_string.f ((rd_T111 l1 x13_1).f2)).bind fun t1298 => (if x5_1.length < 1759218604441 then (impl_stepsOf.l0 k1 l0 (x5_1 ++ [(⟨t1290, t1291, t1293, t1296, t1297, t1298⟩ : S144)]) (wrap64 (x6_1 + (wrap64 ((((rd_T111 l1 x13_1).f2).length : Int) - ((rd_T111 l1 x13_1).f1))))) l1 (l1.length : Int) (wrap64 (x13_1 + 1))) else (none)))) = some r := H
         have A14 := Aside0.mk A140
         clear A140
         replace H := Option.bind_eq_some_iff.mp H
         obtain ⟨t1297, A150, H⟩ := H
         replace H : ((slices_Clone_string_string.f ((rd_T111 l1 x13_1).f2)).bind fun t1298 => (if x5_1.length < 1759218604441 then (impl_stepsOf.l0 k1 l0 (x5_1 ++ [(⟨t1290, t1291, t1293, t1296, t1297, t1298⟩ : S144)]) (wrap64 (x6_1 + (wrap64 ((((rd_T111 l1 x13_1).f2).length : Int) - ((rd_T111 l1 x13_1).f1))))) l1 (l1.length : Int) (wrap64 (x13_1 + 1))) else (none))) = some r := H
         have A15 := Aside0.mk A150
         clear A150
         replace H := Option.bind_eq_some_iff.mp H
         obtain ⟨t1298, A160, H⟩ := H
         replace H : (if x5_1.length < 1759218604441 then (impl_stepsOf.l0 k1 l0 (x5_1 ++ [(⟨t1290, t1291, t1293, t1296, t1297, t1298⟩ : S144)]) (wrap64 (x6_1 + (wrap64 ((((rd_T111 l1 x13_1).f2).length : Int) - ((rd_T111 l1 x13_1).f1))))) l1 (l1.length : Int) (wrap64 (x13_1 + 1))) else (none)) = some r := H
         have A16 := Aside0.mk A160
         clear A160
         by_cases c17 : x5_1.length < 1759218604441
         ·rw [if_pos c17] at H
          have LMc17 := Aside0.mk c17
          clear c17
          obtain ⟨y1301, hy1301⟩ : ∃ y_ : List (S144), y_ = (x5_1 ++ [(⟨t1290, t1291, t1293, t1296, t1297, t1298⟩ : S144)]) := ⟨_, rfl⟩
          replace H : (impl_stepsOf.l0 k1 l0 y1301 (wrap64 (x6_1 + (wrap64 ((((rd_T111 l1 x13_1).f2).length : Int) - ((rd_T111 l1 x13_1).f1))))) l1 (l1.length : Int) (wrap64 (x13_1 + 1))) = some r := by first | (rw [hy1301]; with_reducible exact H) | (have H2_ := (Option.bind_some _ _).symm.trans H; rw [hy1301]; with_reducible exact H2_) | (have H2_ := (Option.bind_some _ _).symm.trans H; with_reducible exact H2_) | with_reducible exact H | (rw [hy1301]; exact H) | exact H
          have Ny1301 := Aside0.mk hy1301
          clear hy1301
          have H' := Aside0.mk H
          clear H
          have p1288 : 0 ≤ (x13_1 : Int) := oa
          have q1288 : x13_1 < (l1.length : Int) := oa
          obtain ⟨ad1288, A1288_2, c1288_2, e1288, hx1288_0, hx1288_1, hx1288_2, hl1288_2, hi1288_2⟩ := at_T111 HR1.out x13_1 p1288 q1288
          cases e1288
          replace hx1288_0 := (HB.out.cell (World.block_lt_of_cell? w _ hx1288_0)).trans hx1288_0
          replace hx1288_1 := (HB.out.cell (World.block_lt_of_cell? w _ hx1288_1)).trans hx1288_1
          replace hx1288_2 := (HB.out.cell (World.block_lt_of_cell? w _ hx1288_2)).trans hx1288_2
          have HR1288_2 := Aside0.mk hi1288_2
          have HC1288_2 := Aside0.mk hl1288_2
          clear hi1288_2 hl1288_2
          replace p1288 := eq_true p1288
          replace q1288 := eq_true q1288
          try go_wp2_with (first | ((with_reducible refine gate_dst (N := 8) rfl ?_); refine box_event ?hg (N := 8) ?hd (cs := #[.int .i64 0, .int .i64 0, .slice none 0 0]) (t := 111) ?hr ?_; (case hd => rfl); (case hg => rfl); (case hr => first | (go_simp; done) | (go_simp; rfl)); intro gb1289 hg w18 hbox hb; have n0_ := Aside0.mk (Kd.S_below (zs HO_5.out) hb); have n1_ := Aside0.mk (below_step zb hb); have n2_ := Aside0.mk (hbox); have n3_ := Aside0.mk ((by rw [hg]; exact (below_size zb) : w.heap.size ≤ gb1289)); have n4_ := Aside0.mk ((by rw [hg]; exact (below_size zb) : w.heap.size ≤ gb1289)); clear HO_5; clear HB; have HO_5 := n0_; have HB := n1_; have BK1289 := n2_; have GW1289 := n3_; have GE1289 := n4_; clear n0_ n1_ n2_ n3_ n4_; clear hb hbox hg; have hcz19_0 : w18.cell? ⟨gb1289, 0, none⟩ = some (.int .i64 0) := (blk_cell BK1289.out 0).trans rfl; have hcz19_1 : w18.cell? ⟨gb1289, 1, none⟩ = some (.int .i64 0) := (blk_cell BK1289.out 1).trans rfl; have hcz19_2 : w18.cell? ⟨gb1289, 2, none⟩ = some (.slice none 0 0) := (blk_cell BK1289.out 2).trans rfl; have hfz19_0 := blk_frozen BK1289.out 0; have hfz19_1 := blk_frozen BK1289.out 1; have hfz19_2 := blk_frozen BK1289.out 2))
          have n0_ : Aside0 (Kd.S k144 144 (((w18.setCell ⟨gb1289, 0, none⟩ (.int .i64 ((rd_T111 l1 x13_1).f0))).setCell ⟨gb1289, 1, none⟩ (.int .i64 ((rd_T111 l1 x13_1).f1))).setCell ⟨gb1289, 2, none⟩ (.slice A1288_2 ((rd_T111 l1 x13_1).f2).length c1288_2)) w.heap.size (fun _ => True) u5 x5_1) := ⟨by (with_reducible repeat (first | apply Kd.S_alloc | apply Kd.S_drewN | apply Kd.S_drew)); exact Kd.S_mono (Kd.S_far (p := ⟨gb1289, 2, none⟩) (Kd.S_far (p := ⟨gb1289, 1, none⟩) (Kd.S_far (p := ⟨gb1289, 0, none⟩) (Kd.S_types HO_5.out BK1289.out (by decide)) (fun _ hk => hk.2) (.int .i64 ((rd_T111 l1 x13_1).f0))) (fun _ hk => hk.2) (.int .i64 ((rd_T111 l1 x13_1).f1))) (fun _ hk => hk.2) (.slice A1288_2 ((rd_T111 l1 x13_1).f2).length c1288_2)) (fun _ hk => trivial)⟩
          have n1_ : Aside0 ((((w18.setCell ⟨gb1289, 0, none⟩ (.int .i64 ((rd_T111 l1 x13_1).f0))).setCell ⟨gb1289, 1, none⟩ (.int .i64 ((rd_T111 l1 x13_1).f1))).setCell ⟨gb1289, 2, none⟩ (.slice A1288_2 ((rd_T111 l1 x13_1).f2).length c1288_2)).heap[gb1289]? = some (.cells #[.int .i64 ((rd_T111 l1 x13_1).f0), .int .i64 ((rd_T111 l1 x13_1).f1), .slice A1288_2 ((rd_T111 l1 x13_1).f2).length c1288_2] 111 (0, 0))) := ⟨by (with_reducible repeat (first | refine blk_drewN ?_ _ | refine blk_drew ?_ | refine blk_alloc ?_ _)); refine blk_put (cs := #[.int .i64 ((rd_T111 l1 x13_1).f0), .int .i64 ((rd_T111 l1 x13_1).f1), .slice none 0 0]) ?_ 2 _ rfl; (with_reducible repeat (first | refine blk_drewN ?_ _ | refine blk_drew ?_ | refine blk_alloc ?_ _)); refine blk_put (cs := #[.int .i64 ((rd_T111 l1 x13_1).f0), .int .i64 0, .slice none 0 0]) ?_ 1 _ rfl; (with_reducible repeat (first | refine blk_drewN ?_ _ | refine blk_drew ?_ | refine blk_alloc ?_ _)); refine blk_put (cs := #[.int .i64 0, .int .i64 0, .slice none 0 0]) ?_ 0 _ rfl; (with_reducible repeat (first | refine blk_drewN ?_ _ | refine blk_drew ?_ | refine blk_alloc ?_ _)); exact BK1289.out⟩
          have n2_ : Aside0 (Below w.heap.size w (((w18.setCell ⟨gb1289, 0, none⟩ (.int .i64 ((rd_T111 l1 x13_1).f0))).setCell ⟨gb1289, 1, none⟩ (.int .i64 ((rd_T111 l1 x13_1).f1))).setCell ⟨gb1289, 2, none⟩ (.slice A1288_2 ((rd_T111 l1 x13_1).f2).length c1288_2))) := ⟨by repeat (first | (with_reducible first | exact HB.out | apply below_alloc | apply pw_below_drewN | apply below_drew1 | refine below_set ?_ GE1289.out) | exact HB.out)⟩
          (try clear HO_5)
          (try clear BK1289)
          (try clear HB)
          (try simp only [show ∀ (w_ : World) (n_ : Nat) (p_ : Addr) (v_ : Value), (w_.drewN n_).setCell p_ v_ = (w_.setCell p_ v_).drewN n_ from fun _ _ _ _ => rfl])
          generalize (((w18.setCell ⟨gb1289, 0, none⟩ (.int .i64 ((rd_T111 l1 x13_1).f0))).setCell ⟨gb1289, 1, none⟩ (.int .i64 ((rd_T111 l1 x13_1).f1))).setCell ⟨gb1289, 2, none⟩ (.slice A1288_2 ((rd_T111 l1 x13_1).f2).length c1288_2)) = w20 at n0_ n1_ n2_ ⊢
          have HO_5 := n0_
          have BK1289 := n1_
          have HB := n2_
          clear n0_ n1_ n2_
          have n0_ := Aside0.mk (Kd.S_drew HO_5.out)
          have n1_ := Aside0.mk (blk_drew BK1289.out)
          have n2_ := Aside0.mk (below_drew1 HB.out)
          clear HO_5
          clear BK1289
          clear HB
          have HO_5 := n0_
          have BK1289 := n1_
          have HB := n2_
          clear n0_ n1_ n2_
          obtain ⟨i022, hi022, _, hsz22, _⟩ := info_parts info9
          obtain ⟨A22, hcut22, hA22, hC22⟩ := print_mid_of (P := Try.prog) Value.string (⟨#[]⟩ : ByteArray) 22 9 .i64 .i64 Try.underlying22 hi022 hsz22 A0 c0 l0 ((rd_T111 l1 x13_1).f0) (wrap64 (((rd_T111 l1 x13_1).f0) + ((rd_T111 l1 x13_1).f1))) oa (by first | omega | exact oa) oa HC0.out
          have HR1292 := Aside0.mk (Kd.C_of_reads (h1 := fun _ => rfl) (hA22 _ (Kd.reads_of_C HR0.out)))
          have HC1292 := Aside0.mk hC22
          clear hA22 hC22 hi022 hsz22
          refine start_ (n := 38) (S := fun w' => w'.cell? ⟨gb1289, 0, none⟩ = some (.int .i64 ((rd_T111 l1 x13_1).f0)) ∧ w'.cell? ⟨gb1289, 1, none⟩ = some (.int .i64 ((rd_T111 l1 x13_1).f1)) ∧ w'.cell? ⟨gb1289, 2, none⟩ = some (.slice A1288_2 ((rd_T111 l1 x13_1).f2).length c1288_2)) (ds := []) #[O,O,O,O,O,O,O,O,O,O,O,O,O,O,O,O,O,O,O,O,O,O,O,O,O,O,O,O,O,O,O,O,O,O,O,O,O,O] (by kernel_rfl) rfl rfl ⟨(blk_cell BK1289.out 0).trans rfl, (blk_cell BK1289.out 1).trans rfl, (blk_cell BK1289.out 2).trans rfl⟩ (fun hHeld => ?_); refine with_tabW impl_stepsOf.tab6 impl_stepsOf.bits6 (fun HT_ HW_ => ?_)
          generalize w20.drew = w21 at HO_5 BK1289 HB HR1292 hHeld ⊢
          refine pure_ (i := 0) (N := some 21) (v := ?_) (a' := ?_) #[Y,O,O,O,O,O,O,O,O,O,O,O,O,O,O,O,O,O,O,O,O,O,O,O,O,O,O,O,O,O,O,O,O,O,O,O,O,O] rfl rfl zx (fun _ _ _ h => h) (Or.inl ⟨by rfl, ?_⟩) ?_ ?_
          rotate_left; (intro w'; go_simp; with_reducible rfl); rotate_left; (simp only [Act.put,qa,qb,qc,i64_w,i32_w]; rfl)
          refine pure_ (i := 1) (N := some 22) (v := ?_) (a' := ?_) #[Y,Y,O,O,O,O,O,O,O,O,O,O,O,O,O,O,O,O,O,O,O,O,O,O,O,O,O,O,O,O,O,O,O,O,O,O,O,O] rfl rfl zx (fun _ _ _ h => h) (Or.inl ⟨by rfl, ?_⟩) ?_ ?_
          rotate_left; (intro w'; go_simp; with_reducible rfl); rotate_left; (simp only [Act.put,qa,qb,qc,i64_w,i32_w]; rfl)
          refine pure_ (i := 3) (N := some 24) (v := ?_) (a' := ?_) #[Y,Y,O,Y,O,O,O,O,O,O,O,O,O,O,O,O,O,O,O,O,O,O,O,O,O,O,O,O,O,O,O,O,O,O,O,O,O,O] rfl rfl zx (fun _ _ _ h => h) (Or.inl ⟨by rfl, ?_⟩) ?_ ?_
          rotate_left; (intro w'; go_simp; with_reducible rfl); rotate_left; (simp only [Act.put,qa,qb,qc,i64_w,i32_w]; rfl)
          refine pure_ (i := 6) (N := some 27) (v := ?_) (a' := ?_) #[Y,Y,O,Y,O,O,Y,O,O,O,O,O,O,O,O,O,O,O,O,O,O,O,O,O,O,O,O,O,O,O,O,O,O,O,O,O,O,O] rfl rfl zx (fun _ _ _ h => h) (Or.inl ⟨by rfl, ?_⟩) ?_ ?_
          rotate_left; (intro w'; go_simp; with_reducible rfl); rotate_left; (simp only [Act.put,qa,qb,qc,i64_w,i32_w]; rfl)
          refine pure_ (i := 8) (N := some 29) (v := ?_) (a' := ?_) #[Y,Y,O,Y,O,O,Y,O,Y,O,O,O,O,O,O,O,O,O,O,O,O,O,O,O,O,O,O,O,O,O,O,O,O,O,O,O,O,O] rfl rfl zx (fun _ _ _ h => h) (Or.inl ⟨by rfl, ?_⟩) ?_ ?_
          rotate_left; (intro w'; go_simp; with_reducible rfl); rotate_left; (simp only [Act.put,qa,qb,qc,i64_w,i32_w]; rfl)
          refine pure_ (i := 11) (N := some 32) (v := ?_) (a' := ?_) #[Y,Y,O,Y,O,O,Y,O,Y,O,O,Y,O,O,O,O,O,O,O,O,O,O,O,O,O,O,O,O,O,O,O,O,O,O,O,O,O,O] rfl rfl zx (fun _ _ _ h => h) (Or.inl ⟨by rfl, ?_⟩) ?_ ?_
          rotate_left; (intro w'; go_simp; with_reducible rfl); rotate_left; (simp only [Act.put,qa,qb,qc,i64_w,i32_w]; rfl)
          refine pure_ (i := 12) (N := some 33) (v := ?_) (a' := ?_) #[Y,Y,O,Y,O,O,Y,O,Y,O,O,Y,Y,O,O,O,O,O,O,O,O,O,O,O,O,O,O,O,O,O,O,O,O,O,O,O,O,O] rfl rfl zx (fun _ _ _ h => h) (Or.inl ⟨by rfl, ?_⟩) ?_ ?_
          rotate_left; (intro w'; go_simp; with_reducible rfl); rotate_left; (simp only [Act.put,qa,qb,qc,i64_w,i32_w]; rfl)
          refine pure_ (i := 14) (N := some 35) (v := ?_) (a' := ?_) #[Y,Y,O,Y,O,O,Y,O,Y,O,O,Y,Y,O,Y,O,O,O,O,O,O,O,O,O,O,O,O,O,O,O,O,O,O,O,O,O,O,O] rfl rfl zx (fun _ _ _ h => h) (Or.inl ⟨by rfl, ?_⟩) ?_ ?_
          rotate_left; (intro w'; go_simp; with_reducible rfl); rotate_left; (simp only [Act.put,qa,qb,qc,i64_w,i32_w]; rfl)
          refine pure_ (i := 16) (N := some 37) (v := ?_) (a' := ?_) #[Y,Y,O,Y,O,O,Y,O,Y,O,O,Y,Y,O,Y,O,Y,O,O,O,O,O,O,O,O,O,O,O,O,O,O,O,O,O,O,O,O,O] rfl rfl zx (fun _ _ _ h => h) (Or.inl ⟨by rfl, ?_⟩) ?_ ?_
          rotate_left; (intro w'; go_simp; with_reducible rfl); rotate_left; (simp only [Act.put,qa,qb,qc,i64_w,i32_w]; rfl)
          refine pure_ (i := 21) (N := some 42) (v := ?_) (a' := ?_) #[Y,Y,O,Y,O,O,Y,O,Y,O,O,Y,Y,O,Y,O,Y,O,O,O,O,Y,O,O,O,O,O,O,O,O,O,O,O,O,O,O,O,O] rfl rfl zx (fun _ _ _ h => h) (Or.inl ⟨by rfl, ?_⟩) ?_ ?_
          rotate_left; (intro w'; go_simp; with_reducible rfl); rotate_left; (simp only [Act.put,qa,qb,qc,i64_w,i32_w]; rfl)
          refine pure_ (i := 22) (N := some 43) (v := ?_) (a' := ?_) #[Y,Y,O,Y,O,O,Y,O,Y,O,O,Y,Y,O,Y,O,Y,O,O,O,O,Y,Y,O,O,O,O,O,O,O,O,O,O,O,O,O,O,O] rfl rfl zx (fun _ _ _ h => h) (Or.inl ⟨by rfl, ?_⟩) ?_ ?_
          rotate_left; (intro w'; go_simp; with_reducible rfl); rotate_left; (simp only [Act.put,qa,qb,qc,i64_w,i32_w]; rfl)
          refine pure_ (i := 26) (N := some 47) (v := ?_) (a' := ?_) #[Y,Y,O,Y,O,O,Y,O,Y,O,O,Y,Y,O,Y,O,Y,O,O,O,O,Y,Y,O,O,O,Y,O,O,O,O,O,O,O,O,O,O,O] rfl rfl zx (fun _ _ _ h => h) (Or.inl ⟨by rfl, ?_⟩) ?_ ?_
          rotate_left; (intro w'; go_simp; with_reducible rfl); rotate_left; (simp only [Act.put,qa,qb,qc,i64_w,i32_w]; rfl)
          refine pure_ (i := 27) (N := some 48) (v := ?_) (a' := ?_) #[Y,Y,O,Y,O,O,Y,O,Y,O,O,Y,Y,O,Y,O,Y,O,O,O,O,Y,Y,O,O,O,Y,Y,O,O,O,O,O,O,O,O,O,O] rfl rfl zx (fun _ _ _ h => h) (Or.inl ⟨by rfl, ?_⟩) ?_ ?_
          rotate_left; (intro w'; go_simp; with_reducible rfl); rotate_left; (simp only [Act.put,qa,qb,qc,i64_w,i32_w]; rfl)
          refine pure_ (i := 31) (N := some 52) (v := ?_) (a' := ?_) #[Y,Y,O,Y,O,O,Y,O,Y,O,O,Y,Y,O,Y,O,Y,O,O,O,O,Y,Y,O,O,O,Y,Y,O,O,O,Y,O,O,O,O,O,O] rfl rfl zx (fun _ _ _ h => h) (Or.inl ⟨by rfl, ?_⟩) ?_ ?_
          rotate_left; (intro w'; go_simp; with_reducible rfl); rotate_left; (simp only [Act.put,qa,qb,qc,i64_w,i32_w]; rfl)
          refine take_ (i := 2) (N := some 23) (v := ?_) (a' := ?_) #[Y,Y,Y,Y,O,O,Y,O,Y,O,O,Y,Y,O,Y,O,Y,O,O,O,O,Y,Y,O,O,O,Y,Y,O,O,O,Y,O,O,O,O,O,O] rfl rfl (take_ofW HT_.out HW_.out (by kernel_rfl)) (fun _ _ _ h => h) (Or.inl ⟨by rfl, ?_⟩) hHeld ?_ ?_
          rotate_left; (rintro w' ⟨s0, s1, s2⟩; go_simp; with_reducible rfl); rotate_left; (simp only [Act.put,qa,qb,qc,i64_w,i32_w]; rfl)
          refine take_ (i := 4) (N := some 25) (v := ?_) (a' := ?_) #[Y,Y,Y,Y,Y,O,Y,O,Y,O,O,Y,Y,O,Y,O,Y,O,O,O,O,Y,Y,O,O,O,Y,Y,O,O,O,Y,O,O,O,O,O,O] rfl rfl (take_ofW HT_.out HW_.out (by kernel_rfl)) (fun _ _ _ h => h) (Or.inl ⟨by rfl, ?_⟩) hHeld ?_ ?_
          rotate_left; (rintro w' ⟨s0, s1, s2⟩; go_simp; with_reducible rfl); rotate_left; (simp only [Act.put,qa,qb,qc,i64_w,i32_w]; rfl)
          refine take_ (i := 7) (N := some 28) (v := ?_) (a' := ?_) #[Y,Y,Y,Y,Y,O,Y,Y,Y,O,O,Y,Y,O,Y,O,Y,O,O,O,O,Y,Y,O,O,O,Y,Y,O,O,O,Y,O,O,O,O,O,O] rfl rfl (take_ofW HT_.out HW_.out (by kernel_rfl)) (fun _ _ _ h => h) (Or.inl ⟨by rfl, ?_⟩) hHeld ?_ ?_
          rotate_left; (rintro w' ⟨s0, s1, s2⟩; go_simp; with_reducible rfl); rotate_left; (simp only [Act.put,qa,qb,qc,i64_w,i32_w]; rfl)
          refine take_ (i := 9) (N := some 30) (v := ?_) (a' := ?_) #[Y,Y,Y,Y,Y,O,Y,Y,Y,Y,O,Y,Y,O,Y,O,Y,O,O,O,O,Y,Y,O,O,O,Y,Y,O,O,O,Y,O,O,O,O,O,O] rfl rfl (take_ofW HT_.out HW_.out (by kernel_rfl)) (fun _ _ _ h => h) (Or.inl ⟨by rfl, ?_⟩) hHeld ?_ ?_
          rotate_left; (rintro w' ⟨s0, s1, s2⟩; go_simp; with_reducible rfl); rotate_left; (simp only [Act.put,qa,qb,qc,i64_w,i32_w]; rfl)
          refine take_ (i := 13) (N := some 34) (v := ?_) (a' := ?_) #[Y,Y,Y,Y,Y,O,Y,Y,Y,Y,O,Y,Y,Y,Y,O,Y,O,O,O,O,Y,Y,O,O,O,Y,Y,O,O,O,Y,O,O,O,O,O,O] rfl rfl (take_ofW HT_.out HW_.out (by kernel_rfl)) (fun _ _ _ h => h) (Or.inl ⟨by rfl, ?_⟩) hHeld ?_ ?_
          rotate_left; (rintro w' ⟨s0, s1, s2⟩; go_simp; with_reducible rfl); rotate_left; (simp only [Act.put,qa,qb,qc,i64_w,i32_w]; rfl)
          refine take_ (i := 15) (N := some 36) (v := ?_) (a' := ?_) #[Y,Y,Y,Y,Y,O,Y,Y,Y,Y,O,Y,Y,Y,Y,Y,Y,O,O,O,O,Y,Y,O,O,O,Y,Y,O,O,O,Y,O,O,O,O,O,O] rfl rfl (take_ofW HT_.out HW_.out (by kernel_rfl)) (fun _ _ _ h => h) (Or.inl ⟨by rfl, ?_⟩) hHeld ?_ ?_
          rotate_left; (rintro w' ⟨s0, s1, s2⟩; go_simp; with_reducible rfl); rotate_left; (simp only [Act.put,qa,qb,qc,i64_w,i32_w]; rfl)
          refine take_ (i := 17) (N := some 38) (v := ?_) (a' := ?_) #[Y,Y,Y,Y,Y,O,Y,Y,Y,Y,O,Y,Y,Y,Y,Y,Y,Y,O,O,O,Y,Y,O,O,O,Y,Y,O,O,O,Y,O,O,O,O,O,O] rfl rfl (take_ofW HT_.out HW_.out (by kernel_rfl)) (fun _ _ _ h => h) (Or.inl ⟨by rfl, ?_⟩) hHeld ?_ ?_
          rotate_left; (rintro w' ⟨s0, s1, s2⟩; go_simp; with_reducible rfl); rotate_left; (simp only [Act.put,qa,qb,qc,i64_w,i32_w]; rfl)
          refine pure_ (i := 18) (N := some 39) (v := ?_) (a' := ?_) #[Y,Y,Y,Y,Y,O,Y,Y,Y,Y,O,Y,Y,Y,Y,Y,Y,Y,Y,O,O,Y,Y,O,O,O,Y,Y,O,O,O,Y,O,O,O,O,O,O] rfl rfl zx (fun _ _ _ h => h) (Or.inl ⟨by rfl, ?_⟩) ?_ ?_
          rotate_left; (intro w'; go_simp; with_reducible rfl); rotate_left; (simp only [Act.put,qa,qb,qc,i64_w,i32_w]; rfl)
          refine pure_ (i := 19) (N := some 40) (v := ?_) (a' := ?_) #[Y,Y,Y,Y,Y,O,Y,Y,Y,Y,O,Y,Y,Y,Y,Y,Y,Y,Y,Y,O,Y,Y,O,O,O,Y,Y,O,O,O,Y,O,O,O,O,O,O] rfl rfl zx (fun _ _ _ h => h) (Or.inl ⟨by rfl, ?_⟩) ?_ ?_
          rotate_left; (intro w'; go_simp; with_reducible rfl); rotate_left; (simp only [Act.put,qa,qb,qc,i64_w,i32_w]; rfl)
          refine take_ (i := 23) (N := some 44) (v := ?_) (a' := ?_) #[Y,Y,Y,Y,Y,O,Y,Y,Y,Y,O,Y,Y,Y,Y,Y,Y,Y,Y,Y,O,Y,Y,Y,O,O,Y,Y,O,O,O,Y,O,O,O,O,O,O] rfl rfl (take_ofW HT_.out HW_.out (by kernel_rfl)) (fun _ _ _ h => h) (Or.inl ⟨by rfl, ?_⟩) hHeld ?_ ?_
          rotate_left; (rintro w' ⟨s0, s1, s2⟩; go_simp; with_reducible rfl); rotate_left; (simp only [Act.put,qa,qb,qc,i64_w,i32_w]; rfl)
          refine pure_ (i := 24) (N := some 45) (v := ?_) (a' := ?_) #[Y,Y,Y,Y,Y,O,Y,Y,Y,Y,O,Y,Y,Y,Y,Y,Y,Y,Y,Y,O,Y,Y,Y,Y,O,Y,Y,O,O,O,Y,O,O,O,O,O,O] rfl rfl zx (fun _ _ _ h => h) (Or.inl ⟨by rfl, ?_⟩) ?_ ?_
          rotate_left; (intro w'; go_simp; with_reducible rfl); rotate_left; (simp only [Act.put,qa,qb,qc,i64_w,i32_w]; rfl)
          refine take_ (i := 28) (N := some 49) (v := ?_) (a' := ?_) #[Y,Y,Y,Y,Y,O,Y,Y,Y,Y,O,Y,Y,Y,Y,Y,Y,Y,Y,Y,O,Y,Y,Y,Y,O,Y,Y,Y,O,O,Y,O,O,O,O,O,O] rfl rfl (take_ofW HT_.out HW_.out (by kernel_rfl)) (fun _ _ _ h => h) (Or.inl ⟨by rfl, ?_⟩) hHeld ?_ ?_
          rotate_left; (rintro w' ⟨s0, s1, s2⟩; go_simp; with_reducible rfl); rotate_left; (simp only [Act.put,qa,qb,qc,i64_w,i32_w]; rfl)
          refine pure_ (i := 29) (N := some 50) (v := ?_) (a' := ?_) #[Y,Y,Y,Y,Y,O,Y,Y,Y,Y,O,Y,Y,Y,Y,Y,Y,Y,Y,Y,O,Y,Y,Y,Y,O,Y,Y,Y,Y,O,Y,O,O,O,O,O,O] rfl rfl zx (fun _ _ _ h => h) (Or.inl ⟨by rfl, ?_⟩) ?_ ?_
          rotate_left; (intro w'; go_simp; with_reducible rfl); rotate_left; (simp only [Act.put,qa,qb,qc,i64_w,i32_w]; rfl)
          refine take_ (i := 32) (N := some 53) (v := ?_) (a' := ?_) #[Y,Y,Y,Y,Y,O,Y,Y,Y,Y,O,Y,Y,Y,Y,Y,Y,Y,Y,Y,O,Y,Y,Y,Y,O,Y,Y,Y,Y,O,Y,Y,O,O,O,O,O] rfl rfl (take_ofW HT_.out HW_.out (by kernel_rfl)) (fun _ _ _ h => h) (Or.inl ⟨by rfl, ?_⟩) hHeld ?_ ?_
          rotate_left; (rintro w' ⟨s0, s1, s2⟩; go_simp; with_reducible rfl); rotate_left; (simp only [Act.put,qa,qb,qc,i64_w,i32_w]; rfl)
          refine one_ (i := 5) (N := some 26) #[Y,Y,Y,Y,Y,Y,Y,Y,Y,Y,O,Y,Y,Y,Y,Y,Y,Y,Y,Y,O,Y,Y,Y,Y,O,Y,Y,Y,Y,O,Y,Y,O,O,O,O,O] rfl rfl (one_of HT_.out (by kernel_rfl)) (by decide) (fun K hK => ?_)
          refine goes_ Try.func174 (by kernel_rfl) rfl #[.int .i64 ((rd_T111 l1 x13_1).f0), .int .i64 ((rd_T111 l1 x13_1).f1)] (by rfl) rfl rfl zm ?_
          with_reducible refine (impl_numberOf.calls ((rd_T111 l1 x13_1).f0) ((rd_T111 l1 x13_1).f1) t1290 _ A8.out).mono ?_
          rintro e w' ⟨rfl, ⟨nd, rfl⟩⟩
          refine ⟨_, rfl, ?_⟩
          refine hK.out _ _ ⟨(blk_cell BK1289.out 0).trans rfl, (blk_cell BK1289.out 1).trans rfl, (blk_cell BK1289.out 2).trans rfl⟩ (fun hHeld => ?_)
          clear hK K
          refine norm_ (a' := ?_) ?_ ?_
          rotate_left
          ·show Act.put _ (some 26) _ = _
           simp only [Act.put,qa,qb,qc,i64_w,i32_w]
           rfl
          refine one_ (i := 10) (N := some 31) #[Y,Y,Y,Y,Y,Y,Y,Y,Y,Y,Y,Y,Y,Y,Y,Y,Y,Y,Y,Y,O,Y,Y,Y,Y,O,Y,Y,Y,Y,O,Y,Y,O,O,O,O,O] rfl rfl (one_of HT_.out (by kernel_rfl)) (by decide) (fun K hK => ?_)
          refine goes_ Try.func175 (by kernel_rfl) rfl #[.int .i64 ((rd_T111 l1 x13_1).f0), .int .i64 ((rd_T111 l1 x13_1).f1)] (by rfl) rfl rfl zm ?_
          with_reducible refine (impl_endOf.calls ((rd_T111 l1 x13_1).f0) ((rd_T111 l1 x13_1).f1) t1291 _ A9.out).mono ?_
          rintro e w' ⟨rfl, ⟨nd, rfl⟩⟩
          refine ⟨_, rfl, ?_⟩
          refine hK.out _ _ ⟨(blk_cell BK1289.out 0).trans rfl, (blk_cell BK1289.out 1).trans rfl, (blk_cell BK1289.out 2).trans rfl⟩ (fun hHeld => ?_)
          clear hK K
          refine norm_ (a' := ?_) ?_ ?_
          rotate_left
          ·show Act.put _ (some 31) _ = _
           simp only [Act.put,qa,qb,qc,i64_w,i32_w]
           rfl
          refine one_ (i := 20) (N := some 41) #[Y,Y,Y,Y,Y,Y,Y,Y,Y,Y,Y,Y,Y,Y,Y,Y,Y,Y,Y,Y,Y,Y,Y,Y,Y,O,Y,Y,Y,Y,O,Y,Y,O,O,O,O,O] rfl rfl (one_of HT_.out (by kernel_rfl)) (by decide) (fun K hK => ?_)
          refine goes_ Try.func108 (by kernel_rfl) rfl #[.slice A22 ((l0.take ((wrap64 (((rd_T111 l1 x13_1).f0) + ((rd_T111 l1 x13_1).f1))) : Int).toNat).drop (((rd_T111 l1 x13_1).f0) : Int).toNat).length (c0 - ((rd_T111 l1 x13_1).f0).toNat)] (by rfl) rfl rfl (by (try simp only [List.map_toArray, List.map_cons, List.map_nil]); first | done | (rw [show ((l0.take ((wrap64 (((rd_T111 l1 x13_1).f0) + ((rd_T111 l1 x13_1).f1))) : Int).toNat).drop (((rd_T111 l1 x13_1).f0) : Int).toNat).length = ((wrap64 (((rd_T111 l1 x13_1).f0) + ((rd_T111 l1 x13_1).f1))).toNat - ((rd_T111 l1 x13_1).f0).toNat) from (by rw [List.length_drop, List.length_take]; have h_ : ((wrap64 (((rd_T111 l1 x13_1).f0) + ((rd_T111 l1 x13_1).f1))) : Int) ≤ (l0.length : Int) := oa; omega)] <;> rfl) | rfl | (simp only [List.length_drop, List.length_take]; rfl)) ?_
          with_reducible refine (slices_Clone_string_string.calls _ _ ((l0.take ((wrap64 (((rd_T111 l1 x13_1).f0) + ((rd_T111 l1 x13_1).f1))) : Int).toNat).drop (((rd_T111 l1 x13_1).f0) : Int).toNat) t1293 _ ?side1 ?side2 A13.out).mono ?_
          (case side1 => repeat (first | exact (Kd.C_below HR1292.out (by repeat (first | (with_reducible first | exact HB.out | apply below_alloc | apply pw_below_drewN | apply below_drew1 | refine below_set ?_ GE1289.out) | exact HB.out))) | (with_reducible refine Kd.C_alloc ?_ _) | (with_reducible refine Kd.C_drewN ?_ _) | (with_reducible refine Kd.C_drew ?_)))
          (case side2 => exact HC1292.out)
          rintro e w23 ⟨v1294, rfl, ho0, hb⟩
          refine ⟨_, rfl, ?_⟩
          have n0_ := Aside0.mk (Kd.S_elder' (zs HO_5.out) (Kd.R_base ho0) hb)
          have n1_ := Aside0.mk (Kd.R_lower ho0 (below_size (by repeat (first | (with_reducible first | exact HB.out | apply below_alloc | apply pw_below_drewN | apply below_drew1 | refine below_set ?_ GE1289.out) | exact HB.out))))
          have n2_ := Aside0.mk (blk_below (g := gb1289) (o := .cells #[.int .i64 ((rd_T111 l1 x13_1).f0), .int .i64 ((rd_T111 l1 x13_1).f1), .slice A1288_2 ((rd_T111 l1 x13_1).f2).length c1288_2] 111 (0, 0)) (zk BK1289.out) hb)
          have n3_ := Aside0.mk (below_step (by repeat (first | (with_reducible first | exact HB.out | apply below_alloc | apply pw_below_drewN | apply below_drew1 | refine below_set ?_ GE1289.out) | exact HB.out)) hb)
          clear HO_5
          clear BK1289
          clear HB
          have HO_5 := n0_
          have HO1295 := n1_
          have BK1289 := n2_
          have HB := n3_
          clear n0_ n1_ n2_ n3_
          (try clear hb)
          (try clear hb2)
          (try clear hk)
          (try clear hi)
          (try clear ho0)
          refine hK.out _ _ ⟨(blk_cell BK1289.out 0).trans rfl, (blk_cell BK1289.out 1).trans rfl, (blk_cell BK1289.out 2).trans rfl⟩ (fun hHeld => ?_)
          clear hK K
          refine norm_ (a' := ?_) ?_ ?_
          rotate_left
          ·show Act.put _ (some 41) _ = _
           simp only [Act.put,qa,qb,qc,i64_w,i32_w]
           rfl
          refine one_ (i := 25) (N := some 46) #[Y,Y,Y,Y,Y,Y,Y,Y,Y,Y,Y,Y,Y,Y,Y,Y,Y,Y,Y,Y,Y,Y,Y,Y,Y,Y,Y,Y,Y,Y,O,Y,Y,O,O,O,O,O] rfl rfl (one_of HT_.out (by kernel_rfl)) (by decide) (fun K hK => ?_)
          refine goes_ Try.func174 (by kernel_rfl) rfl #[.int .i64 (wrap64 (((rd_T111 l1 x13_1).f0) + x6_1)), .int .i64 (((rd_T111 l1 x13_1).f2).length : Int)] (by rfl) rfl rfl zm ?_
          with_reducible refine (impl_numberOf.calls (wrap64 (((rd_T111 l1 x13_1).f0) + x6_1)) (((rd_T111 l1 x13_1).f2).length : Int) t1296 _ A14.out).mono ?_
          rintro e w' ⟨rfl, ⟨nd, rfl⟩⟩
          refine ⟨_, rfl, ?_⟩
          refine hK.out _ _ ⟨(blk_cell BK1289.out 0).trans rfl, (blk_cell BK1289.out 1).trans rfl, (blk_cell BK1289.out 2).trans rfl⟩ (fun hHeld => ?_)
          clear hK K
          refine norm_ (a' := ?_) ?_ ?_
          rotate_left
          ·show Act.put _ (some 46) _ = _
           simp only [Act.put,qa,qb,qc,i64_w,i32_w]
           rfl
          refine one_ (i := 30) (N := some 51) #[Y,Y,Y,Y,Y,Y,Y,Y,Y,Y,Y,Y,Y,Y,Y,Y,Y,Y,Y,Y,Y,Y,Y,Y,Y,Y,Y,Y,Y,Y,Y,Y,Y,O,O,O,O,O] rfl rfl (one_of HT_.out (by kernel_rfl)) (by decide) (fun K hK => ?_)
          refine goes_ Try.func175 (by kernel_rfl) rfl #[.int .i64 (wrap64 (((rd_T111 l1 x13_1).f0) + x6_1)), .int .i64 (((rd_T111 l1 x13_1).f2).length : Int)] (by rfl) rfl rfl zm ?_
          with_reducible refine (impl_endOf.calls (wrap64 (((rd_T111 l1 x13_1).f0) + x6_1)) (((rd_T111 l1 x13_1).f2).length : Int) t1297 _ A15.out).mono ?_
          rintro e w' ⟨rfl, ⟨nd, rfl⟩⟩
          refine ⟨_, rfl, ?_⟩
          refine hK.out _ _ ⟨(blk_cell BK1289.out 0).trans rfl, (blk_cell BK1289.out 1).trans rfl, (blk_cell BK1289.out 2).trans rfl⟩ (fun hHeld => ?_)
          clear hK K
          refine norm_ (a' := ?_) ?_ ?_
          rotate_left
          ·show Act.put _ (some 51) _ = _
           simp only [Act.put,qa,qb,qc,i64_w,i32_w]
           rfl
          refine one_ (i := 33) (N := some 54) #[Y,Y,Y,Y,Y,Y,Y,Y,Y,Y,Y,Y,Y,Y,Y,Y,Y,Y,Y,Y,Y,Y,Y,Y,Y,Y,Y,Y,Y,Y,Y,Y,Y,Y,O,O,O,O] rfl rfl (one_of HT_.out (by kernel_rfl)) (by decide) (fun K hK => ?_)
          refine goes_ Try.func108 (by kernel_rfl) rfl #[.slice A1288_2 ((rd_T111 l1 x13_1).f2).length c1288_2] (by rfl) rfl rfl zm ?_
          with_reducible refine (slices_Clone_string_string.calls _ _ ((rd_T111 l1 x13_1).f2) t1298 _ ?side1 ?side2 A16.out).mono ?_
          (case side1 => repeat (first | exact (Kd.C_below HR1288_2.out (by repeat (first | (with_reducible first | exact HB.out | apply below_alloc | apply pw_below_drewN | apply below_drew1 | refine below_set ?_ GE1289.out) | exact HB.out))) | (with_reducible refine Kd.C_alloc ?_ _) | (with_reducible refine Kd.C_drewN ?_ _) | (with_reducible refine Kd.C_drew ?_)))
          (case side2 => exact HC1288_2.out)
          rintro e w24 ⟨v1299, rfl, ho0, hb⟩
          refine ⟨_, rfl, ?_⟩
          have n0_ := Aside0.mk (Kd.S_elder' (zs HO_5.out) (Kd.R_base ho0) hb)
          have n1_ := Aside0.mk (Kd.R_elder' (zr HO1295.out) (Kd.R_base ho0) hb)
          have n2_ := Aside0.mk (Kd.R_lower (Kd.R_new' ho0 (Kd.R_lt (zr HO1295.out))) (below_size (by repeat (first | (with_reducible first | exact HB.out | apply below_alloc | apply pw_below_drewN | apply below_drew1 | refine below_set ?_ GE1289.out) | exact HB.out))))
          have n3_ := Aside0.mk (blk_below (g := gb1289) (o := .cells #[.int .i64 ((rd_T111 l1 x13_1).f0), .int .i64 ((rd_T111 l1 x13_1).f1), .slice A1288_2 ((rd_T111 l1 x13_1).f2).length c1288_2] 111 (0, 0)) (zk BK1289.out) hb)
          have n4_ := Aside0.mk (below_step (by repeat (first | (with_reducible first | exact HB.out | apply below_alloc | apply pw_below_drewN | apply below_drew1 | refine below_set ?_ GE1289.out) | exact HB.out)) hb)
          clear HO_5
          clear HO1295
          clear BK1289
          clear HB
          have HO_5 := n0_
          have HO1295 := n1_
          have HO1300 := n2_
          have BK1289 := n3_
          have HB := n4_
          clear n0_ n1_ n2_ n3_ n4_
          (try clear hb)
          (try clear hb2)
          (try clear hk)
          (try clear hi)
          (try clear ho0)
          obtain ⟨Ao25, co25, eo25⟩ := Kd.R_slice HO1300.out
          (first | subst eo25 | (injection eo25 with f1_ f2_ f3_; have f4_ := f1_.symm; have f5_ := f3_.symm; clear f1_ f2_ f3_; subst f4_; subst f5_))
          obtain ⟨Ao26, co26, eo26⟩ := Kd.R_slice HO1295.out
          (first | subst eo26 | (injection eo26 with f1_ f2_ f3_; have f4_ := f1_.symm; have f5_ := f3_.symm; clear f1_ f2_ f3_; subst f4_; subst f5_))
          refine hK.out _ _ ⟨(blk_cell BK1289.out 0).trans rfl, (blk_cell BK1289.out 1).trans rfl, (blk_cell BK1289.out 2).trans rfl⟩ (fun hHeld => ?_)
          clear hK K
          refine norm_ (a' := ?_) ?_ ?_
          rotate_left
          ·show Act.put _ (some 54) _ = _
           simp only [Act.put,qa,qb,qc,i64_w,i32_w]
           rfl
          refine pure_ (i := 34) (N := some 55) (v := ?_) (a' := ?_) #[Y,Y,Y,Y,Y,Y,Y,Y,Y,Y,Y,Y,Y,Y,Y,Y,Y,Y,Y,Y,Y,Y,Y,Y,Y,Y,Y,Y,Y,Y,Y,Y,Y,Y,Y,O,O,O] rfl rfl zx (fun _ _ _ h => h) (Or.inl ⟨by rfl, ?_⟩) ?_ ?_
          rotate_left; (intro w'; go_simp; with_reducible rfl); rotate_left; (simp only [Act.put,qa,qb,qc,i64_w,i32_w]; rfl)
          refine one_ (i := 35) (N := some 56) #[Y,Y,Y,Y,Y,Y,Y,Y,Y,Y,Y,Y,Y,Y,Y,Y,Y,Y,Y,Y,Y,Y,Y,Y,Y,Y,Y,Y,Y,Y,Y,Y,Y,Y,Y,Y,O,O] rfl rfl (one_of HT_.out (by kernel_rfl)) (by decide) (fun K hK => ?_)
          refine value_ (w1 := ?_) (v := ?_) (by rfl) rfl ?_ ?_
          rotate_left 2
          ·go_simp
           constructor
           ·rfl
           ·rfl
          refine hK.out _ _ ⟨(blk_cell (blk_alloc BK1289.out _) 0).trans rfl, (blk_cell (blk_alloc BK1289.out _) 1).trans rfl, (blk_cell (blk_alloc BK1289.out _) 2).trans rfl⟩ (fun hHeld => ?_)
          clear hK K
          refine norm_ (a' := ?_) ?_ ?_
          rotate_left
          ·show Act.put _ (some 56) _ = _
           simp only [Act.put,qa,qb,qc,i64_w,i32_w]
           rfl
          refine one_ (i := 36) (N := some 57) #[Y,Y,Y,Y,Y,Y,Y,Y,Y,Y,Y,Y,Y,Y,Y,Y,Y,Y,Y,Y,Y,Y,Y,Y,Y,Y,Y,Y,Y,Y,Y,Y,Y,Y,Y,Y,Y,O] rfl rfl (one_of HT_.out (by kernel_rfl)) (by decide) (fun K hK => ?_)
          refine Kd.S_append_step k144 (w0 := w) w.heap.size (by rfl) (.tmp 21) (.tmp 56) 74 144 (.agg #[(.int .i64 0), (.int .i64 0), (.slice none 0 0), (.int .i64 0), (.int .i64 0), (.slice none 0 0)]) 80 rfl Try.underlying74 info144 rfl (by decide) (by omega) u5 x5_1 (⟨t1290, t1291, t1293, t1296, t1297, t1298⟩ : S144) [.int .i64 t1290, .int .i64 t1291, .slice Ao26 t1293.length co26, .int .i64 t1296, .int .i64 t1297, .slice Ao25 t1298.length co25] (fun _ => True) (fun k_ => some k_ = (.slice Ao26 t1293.length co26 : Value).ownBlock ∨ some k_ = (.slice Ao25 t1298.length co25 : Value).ownBlock) rfl rfl ?aP (fun k_ hk_ => hk_.elim (fun h_ => ((Kd.R_mono (ok' := fun k_ => ((fun _ => True)) k_ ∧ some k_ ≠ (u5 : Value).ownBlock) (Kd.R_apart' (HO1295.out) (Kd.S_typed HO_5.out) (by decide)) (fun k_ hk => ⟨trivial, hk.2⟩))).1 k_ h_.symm) (fun h_ => ((Kd.R_mono (ok' := fun k_ => ((fun _ => True)) k_ ∧ some k_ ≠ (u5 : Value).ownBlock) (Kd.R_apart' (HO1300.out) (Kd.S_typed HO_5.out) (by decide)) (fun k_ hk => ⟨trivial, hk.2⟩))).1 k_ h_.symm)) ?aF ?aO ?aB ?aS ?aL ?_
          (case aP => exact k144_mkM (by with_reducible first | exact sep_nil | exact sep_e (by assumption) | exact sep_f (by assumption) | exact sep_a (by assumption) | exact sep_b (by assumption) | exact sep_a2 (by assumption) | exact sep_b2 (by assumption) | exact sep_c (by assumption) | exact sep_d (by assumption)) _ _ _ (⟨t1290, t1291, t1293, t1296, t1297, t1298⟩ : S144) (Kd.R_mono (Kd.R_tight rfl (Kd.R_mono (ok' := fun k_ => ((fun _ => True)) k_ ∧ some k_ ≠ (u5 : Value).ownBlock) (Kd.R_apart' (HO1295.out) (Kd.S_typed HO_5.out) (by decide)) (fun k_ hk => ⟨trivial, hk.2⟩))) (fun _ h_ => Or.inl h_)) (Kd.R_mono (Kd.R_tight rfl (Kd.R_mono (ok' := fun k_ => ((fun _ => True)) k_ ∧ some k_ ≠ (u5 : Value).ownBlock) (Kd.R_apart' (HO1300.out) (Kd.S_typed HO_5.out) (by decide)) (fun k_ hk => ⟨trivial, hk.2⟩))) (fun _ h_ => Or.inr (h_))))
          (case aB => exact (by repeat (first | (with_reducible first | exact HB.out | apply below_alloc | apply pw_below_drewN | apply below_drew1 | refine below_set ?_ GE1289.out) | exact HB.out)))
          (case aF => exact (fun _ _ => trivial))
          (case aO => exact (by (with_reducible repeat (first | apply Kd.S_alloc | apply Kd.S_drewN | apply Kd.S_drew)); exact Kd.S_mono HO_5.out (fun k_ hk => ⟨trivial, fun e_ => e_.elim (fun h_ => hk.1.2 h_) (fun h_ => hk.2 h_)⟩)))
          (case aS => exact (below_size (by repeat (first | (with_reducible first | exact HB.out | apply below_alloc | apply pw_below_drewN | apply below_drew1 | refine below_set ?_ GE1289.out) | exact HB.out))))
          (case aL => have := LMc17.out; omega)
          intro v1302 w27 ho hb hg hat
          rw [← Ny1301.out] at ho
          have n0_ := Aside0.mk (blk_grown (g := gb1289) (o := .cells #[.int .i64 ((rd_T111 l1 x13_1).f0), .int .i64 ((rd_T111 l1 x13_1).f1), .slice A1288_2 ((rd_T111 l1 x13_1).f2).length c1288_2] 111 (0, 0)) (zk BK1289.out) hg (Kd.S_ne HO_5.out BK1289.out (by decide)))
          have n1_ := Aside0.mk (hb)
          have n2_ := Aside0.mk (ho)
          clear BK1289
          clear HB
          clear HO_5
          clear HO1295
          clear HO1300
          have BK1289 := n0_
          have HB := n1_
          have HO1303 := n2_
          clear n0_ n1_ n2_
          clear ho hb hg hat
          refine hK.out _ _ ⟨(blk_cell BK1289.out 0).trans rfl, (blk_cell BK1289.out 1).trans rfl, (blk_cell BK1289.out 2).trans rfl⟩ (fun hHeld => ?_)
          clear hK K
          refine norm_ (a' := ?_) ?_ ?_
          rotate_left
          ·show Act.put _ (some 57) _ = _
           simp only [Act.put,qa,qb,qc,i64_w,i32_w]
           rfl
          refine pure_ (i := 37) (N := some 5) (v := ?_) (a' := ?_) #[Y,Y,Y,Y,Y,Y,Y,Y,Y,Y,Y,Y,Y,Y,Y,Y,Y,Y,Y,Y,Y,Y,Y,Y,Y,Y,Y,Y,Y,Y,Y,Y,Y,Y,Y,Y,Y,Y] rfl rfl zx (fun _ _ _ h => h) (Or.inl ⟨by rfl, ?_⟩) ?_ ?_
          rotate_left; (intro w'; go_simp; with_reducible rfl); rotate_left; (simp only [Act.put,qa,qb,qc,i64_w,i32_w]; rfl)
          refine done_ (done_of HT_.out (by kernel_rfl)) ?_
          have hcz28_0 : w27.cell? ⟨gb1289, 0, none⟩ = some (.int .i64 ((rd_T111 l1 x13_1).f0)) := (blk_cell BK1289.out 0).trans rfl
          have hcz28_1 : w27.cell? ⟨gb1289, 1, none⟩ = some (.int .i64 ((rd_T111 l1 x13_1).f1)) := (blk_cell BK1289.out 1).trans rfl
          have hcz28_2 : w27.cell? ⟨gb1289, 2, none⟩ = some (.slice A1288_2 ((rd_T111 l1 x13_1).f2).length c1288_2) := (blk_cell BK1289.out 2).trans rfl
          have hfz28_0 := blk_frozen BK1289.out 0
          have hfz28_1 := blk_frozen BK1289.out 1
          have hfz28_2 := blk_frozen BK1289.out 2
          try go_wp2
          go_roundg k1
          case measure => have := HK1.out; omega
          case rel => exact ⟨(y1301), (wrap64 (x6_1 + (wrap64 ((((rd_T111 l1 x13_1).f2).length : Int) - ((rd_T111 l1 x13_1).f1))))), (wrap64 (x13_1 + 1)), zf, zf, H', ⟨by have := HK1.out; omega⟩, ⟨by (with_reducible repeat (first | apply Kd.S_alloc | apply Kd.S_drewN | apply Kd.S_drew)); exact HO1303.out⟩, ⟨by repeat (first | (with_reducible first | exact HB.out | apply below_alloc | apply pw_below_drewN | apply below_drew1 | refine below_set ?_ GE1289.out) | exact HB.out)⟩⟩
         ·rw [if_neg c17] at H
          exact absurd H (by simp)
        ·rw [if_neg c12] at H
         exact absurd H (by simp)
       ·rw [if_neg c11] at H
        exact absurd H (by simp)
      ·rw [if_neg c10] at H
       exact absurd H (by simp)
     ·rw [if_neg c7] at H
      exact absurd H (by simp)
    ·rw [if_neg c6] at H
     exact absurd H (by simp)
   ·rw [if_neg c5] at H
    have c5b0 : decide (x13_1 < (l1.length : Int)) = false := decide_eq_false c5
    clear c5
    obtain rfl := Option.some.inj H
    go_wp2
    go_ret
    exact ⟨_, by first | rfl | (simp [errW_none, errW_some] <;> rfl) | (simp [*, errW_none, errW_some] <;> rfl), by (with_reducible repeat (first | apply Kd.S_alloc | apply Kd.S_drewN | apply Kd.S_drew)); exact HO_5.out, by repeat (first | (with_reducible first | exact HB.out | apply below_alloc | apply pw_below_drewN | apply below_drew1) | exact HB.out)⟩

end Go.Proofs.Ytcefenlblnediaa.My

/- Written by this session's program (wip/gen): a plain function with the same answers as the Go function, and the proof that the Go code comes to them. Asked: that the plain function has an answer. -/
namespace Go.Proofs.Ytcefenlblnediaa.My
open Go.RowKit Go.Proofs.YtcefenlblnediaaW.PrintWords Go.Proofs.YtcefenlblnediaaW.PrintLast Go.Proofs.YtcefenlblnediaaW.PrintMore
attribute [local go_sem] max2_int min2_int max_two min_two max_three min_three max_four min_four
set_option linter.unusedVariables false
set_option linter.unusedSimpArgs false

def stepsFar.f (n : Int) (a0_0 : Int) (a0_1 : Int) (l0_2 : List ByteArray) (a0_3 : Int) (a0_4 : Int) (l0_5 : List ByteArray) : Option Bool := some (decide (a0_1 > n))
set_option maxHeartbeats 8000000 in
set_option maxRecDepth 100000 in
theorem stepsFar.calls (gb : Nat) (AL : Option Addr) (nL cL : Nat) (a0_0 : Int) (a0_1 : Int) (A0_2 : Option Addr) (c0_2 : Nat) (l0_2 : List ByteArray) (a0_3 : Int) (a0_4 : Int) (A0_5 : Option Addr) (c0_5 : Nat) (l0_5 : List ByteArray) (r : Bool) (w : World) (hbx : w.heap[gb]? = some (.cells #[.slice AL nL cL] 22 (0, 0))) (h : stepsFar.f (nL : Int) a0_0 a0_1 l0_2 a0_3 a0_4 l0_5 = some r) :
  Calls Try.prog 130 #[.agg #[.int .i64 a0_0, .int .i64 a0_1, .slice A0_2 l0_2.length c0_2, .int .i64 a0_3, .int .i64 a0_4, .slice A0_5 l0_5.length c0_5], .pointer (some ⟨gb, 0, none⟩)] w fun e w' => e = .returned (.bool r) ∧ Below w.heap.size w w' := by
 have hu144 := Try.underlying144
 have HX := Aside0.mk hbx
 clear hbx
 have HB := Aside0.mk (Below.refl w.heap.size w)
 have H : (some (decide (a0_1 > (nL : Int)))) = some r := h
 clear h
 obtain rfl := Option.some.inj H
 go_enter Try.func130, Try.ntmps130
 go_wp2_with ((with_reducible refine gate_dst (N := 2) rfl ?_); (try (refine gate_guard (by rfl) ?_; dsimp only)); refine box_event ?hg (N := 2) ?hd (cs := #[.int .i64 a0_0, .int .i64 a0_1, .slice A0_2 l0_2.length c0_2, .int .i64 a0_3, .int .i64 a0_4, .slice A0_5 l0_5.length c0_5]) (t := 144) ?hr ?_; (case hd => rfl); (case hg => rfl); (case hr => first | (go_simp; done) | (go_simp; rfl)); intro gb1263 hg w6 hbox hb; have n0_ := Aside0.mk (below_step zb hb); have n1_ := Aside0.mk (hbox); have n2_ := Aside0.mk ((by rw [hg]; exact (below_size zb) : w.heap.size ≤ gb1263)); have n3_ := Aside0.mk ((by rw [hg]; exact (below_size zb) : w.heap.size ≤ gb1263)); clear HB; have HB := n0_; have BK1263 := n1_; have GW1263 := n2_; have GE1263 := n3_; clear n0_ n1_ n2_ n3_; have hcX : w6.cell? ⟨gb, 0, none⟩ = some (.slice AL nL cL) := (blk_cell (blk_below (zk HX.out) hb) 0).trans rfl; clear hb hbox hg; have hcz7_0 : w6.cell? ⟨gb1263, 0, none⟩ = some (.int .i64 a0_0) := (blk_cell BK1263.out 0).trans rfl; have hcz7_1 : w6.cell? ⟨gb1263, 1, none⟩ = some (.int .i64 a0_1) := (blk_cell BK1263.out 1).trans rfl; have hcz7_2 : w6.cell? ⟨gb1263, 2, none⟩ = some (.slice A0_2 l0_2.length c0_2) := (blk_cell BK1263.out 2).trans rfl; have hcz7_3 : w6.cell? ⟨gb1263, 3, none⟩ = some (.int .i64 a0_3) := (blk_cell BK1263.out 3).trans rfl; have hcz7_4 : w6.cell? ⟨gb1263, 4, none⟩ = some (.int .i64 a0_4) := (blk_cell BK1263.out 4).trans rfl; have hcz7_5 : w6.cell? ⟨gb1263, 5, none⟩ = some (.slice A0_5 l0_5.length c0_5) := (blk_cell BK1263.out 5).trans rfl; have hfz7_0 := blk_frozen BK1263.out 0; have hfz7_1 := blk_frozen BK1263.out 1; have hfz7_2 := blk_frozen BK1263.out 2; have hfz7_3 := blk_frozen BK1263.out 3; have hfz7_4 := blk_frozen BK1263.out 4; have hfz7_5 := blk_frozen BK1263.out 5)
 go_ret
 exact ⟨rfl, zb⟩
/-! ### stepsIx: function 173 -/
def stepsIx.l0 (n : Int) : Nat → List (S144) → Int → Int → Option (Int)
 | 0, _, _, _ => none
 | k + 1, x0, x7, x8 => if x8 < x7 then (if 0 ≤ x8 then (if x8 < (x0.length : Int) then ((stepsFar.f n ((rd_T144 x0 x8).f0) ((rd_T144 x0 x8).f1) ((rd_T144 x0 x8).f2) ((rd_T144 x0 x8).f3) ((rd_T144 x0 x8).f4) ((rd_T144 x0 x8).f5)).bind fun t1267 => (if t1267 = true then (some x8) else (stepsIx.l0 n k x0 x7 (wrap64 (x8 + 1))))) else (none)) else (none)) else (some (-1))
def stepsIx.f (k : Nat) (n : Int) (l0 : List (S144))  : Option (Int) := stepsIx.l0 n k l0 (l0.length : Int) 0
set_option maxHeartbeats 8000000 in
set_option maxRecDepth 100000 in
theorem stepsIx.calls (gb : Nat) (AL : Option Addr) (nL cL : Nat) (k : Nat) (A0 : Option Addr) (c0 : Nat) (l0 : List (S144))  (r : Int) (w : World) (hr0 : Kd.C k144 w A0 l0.length l0) (hc0 : l0.length ≤ c0) (hbx : w.heap[gb]? = some (.cells #[.slice AL nL cL] 22 (0, 0))) (h : stepsIx.f k (nL : Int) l0 = some r) :
  Calls Try.prog 173 #[.slice A0 l0.length c0, .func (.func 130) #[] #[.pointer (some ⟨gb, 0, none⟩)]] w fun e w' => e = .returned (.int .i64 r) ∧ Below w.heap.size w w' := by
 have hu144 := Try.underlying144
 have HX := Aside0.mk hbx
 clear hbx
 have HR0 := Aside0.mk hr0
 have HC0 := Aside0.mk hc0
 clear hr0 hc0
 have HB := Aside0.mk (Below.refl w.heap.size w)
 have H : (stepsIx.l0 (nL : Int) k l0 (l0.length : Int) 0) = some r := h
 clear h
 have H' := Aside0.mk H
 clear H
 go_enter Try.func173, Try.ntmps173
 go_wp2
 go_loopg [8] k (fun kq v8 w' => ∃ (x8_1 : Int), v8 = .int .i64 x8_1 ∧ Aside0 (stepsIx.l0 (nL : Int) kq l0 (l0.length : Int) x8_1 = some r) ∧ Aside0 (kq ≤ k) ∧ Aside0 (Below w.heap.size w w'))
 case atStart => exact ⟨(0), zf, H', ⟨Nat.le_refl _⟩, ⟨by repeat (first | (with_reducible first | exact HB.out | apply below_alloc | apply pw_below_drewN | apply below_drew1) | exact HB.out)⟩⟩
 case round =>
  clear H'
  try clear p2
  obtain ⟨x8_1, rfl, HA, HK1, HB⟩ := hrel
  cases gk with
  | zero => exact absurd HA.out (by simp [stepsIx.l0])
  | succ k1 =>
   have H := HA.out
   clear HA
   simp only [stepsIx.l0] at H
   by_cases c3 : x8_1 < (l0.length : Int)
   ·rw [if_pos c3] at H
    have c3b0 : decide (x8_1 < (l0.length : Int)) = true := decide_eq_true c3
    clear c3
    by_cases c4 : 0 ≤ x8_1
    ·rw [if_pos c4] at H
     have c4b0 : decide (0 ≤ x8_1) = true := decide_eq_true c4
     clear c4
     by_cases c5 : x8_1 < (l0.length : Int)
     ·rw [if_pos c5] at H
      have c5b0 : decide (x8_1 < (l0.length : Int)) = true := decide_eq_true c5
      clear c5
      replace H := Option.bind_eq_some_iff.mp H
      obtain ⟨t1267, A60, H⟩ := H
      replace H : (if t1267 = true then (some x8_1) else (stepsIx.l0 (nL : Int) k1 l0 (l0.length : Int) (wrap64 (x8_1 + 1)))) = some r := H
      have A6 := Aside0.mk A60
      clear A60
      by_cases c7 : t1267 = true
      ·subst c7
       have H1 : (some x8_1) = some r := by rw [if_pos rfl] at H; exact H
       clear H
       have H := H1
       clear H1
       obtain rfl := Option.some.inj H
       have p1266 : 0 ≤ (x8_1 : Int) := oa
       have q1266 : x8_1 < (l0.length : Int) := oa
       obtain ⟨ad1266, A1266_2, c1266_2, A1266_5, c1266_5, e1266, hx1266_0, hx1266_1, hx1266_2, hx1266_3, hx1266_4, hx1266_5, hl1266_2, hi1266_2, hl1266_5, hi1266_5⟩ := at_T144 HR0.out x8_1 p1266 q1266
       cases e1266
       replace hx1266_0 := (HB.out.cell (World.block_lt_of_cell? w _ hx1266_0)).trans hx1266_0
       replace hx1266_1 := (HB.out.cell (World.block_lt_of_cell? w _ hx1266_1)).trans hx1266_1
       replace hx1266_2 := (HB.out.cell (World.block_lt_of_cell? w _ hx1266_2)).trans hx1266_2
       replace hx1266_3 := (HB.out.cell (World.block_lt_of_cell? w _ hx1266_3)).trans hx1266_3
       replace hx1266_4 := (HB.out.cell (World.block_lt_of_cell? w _ hx1266_4)).trans hx1266_4
       replace hx1266_5 := (HB.out.cell (World.block_lt_of_cell? w _ hx1266_5)).trans hx1266_5
       have HR1266_2 := Aside0.mk hi1266_2
       have HC1266_2 := Aside0.mk hl1266_2
       clear hi1266_2 hl1266_2
       have HR1266_5 := Aside0.mk hi1266_5
       have HC1266_5 := Aside0.mk hl1266_5
       clear hi1266_5 hl1266_5
       replace p1266 := eq_true p1266
       replace q1266 := eq_true q1266
       go_wp2_with (first | (go_at_call 130; (with_reducible refine (stepsFar.calls gb AL nL cL ((rd_T144 l0 x8_1).f0) ((rd_T144 l0 x8_1).f1) _ _ ((rd_T144 l0 x8_1).f2) ((rd_T144 l0 x8_1).f3) ((rd_T144 l0 x8_1).f4) _ _ ((rd_T144 l0 x8_1).f5) true _ ?sideX A6.out).mono ?_); (case sideX => exact blk_below HX.out zb); rintro e w8 ⟨rfl, hb⟩; have n0_ := Aside0.mk (below_step zb hb); clear HB; have HB := n0_; clear n0_; (try clear hb); (try clear hb2); (try clear hk); (try clear hi)))
       go_ret
       exact ⟨by first | rfl | (simp [errW_none, errW_some] <;> rfl) | (simp [*, errW_none, errW_some] <;> rfl), by repeat (first | (with_reducible first | exact HB.out | apply below_alloc | apply pw_below_drewN | apply below_drew1) | exact HB.out)⟩
      ·replace c7 := Bool.eq_false_iff.mpr c7
       subst c7
       have H1 : (stepsIx.l0 (nL : Int) k1 l0 (l0.length : Int) (wrap64 (x8_1 + 1))) = some r := by rw [if_neg (show ¬ (false = true) by decide)] at H; exact H
       clear H
       have H := H1
       clear H1
       have H' := Aside0.mk H
       clear H
       have p1266 : 0 ≤ (x8_1 : Int) := oa
       have q1266 : x8_1 < (l0.length : Int) := oa
       obtain ⟨ad1266, A1266_2, c1266_2, A1266_5, c1266_5, e1266, hx1266_0, hx1266_1, hx1266_2, hx1266_3, hx1266_4, hx1266_5, hl1266_2, hi1266_2, hl1266_5, hi1266_5⟩ := at_T144 HR0.out x8_1 p1266 q1266
       cases e1266
       replace hx1266_0 := (HB.out.cell (World.block_lt_of_cell? w _ hx1266_0)).trans hx1266_0
       replace hx1266_1 := (HB.out.cell (World.block_lt_of_cell? w _ hx1266_1)).trans hx1266_1
       replace hx1266_2 := (HB.out.cell (World.block_lt_of_cell? w _ hx1266_2)).trans hx1266_2
       replace hx1266_3 := (HB.out.cell (World.block_lt_of_cell? w _ hx1266_3)).trans hx1266_3
       replace hx1266_4 := (HB.out.cell (World.block_lt_of_cell? w _ hx1266_4)).trans hx1266_4
       replace hx1266_5 := (HB.out.cell (World.block_lt_of_cell? w _ hx1266_5)).trans hx1266_5
       have HR1266_2 := Aside0.mk hi1266_2
       have HC1266_2 := Aside0.mk hl1266_2
       clear hi1266_2 hl1266_2
       have HR1266_5 := Aside0.mk hi1266_5
       have HC1266_5 := Aside0.mk hl1266_5
       clear hi1266_5 hl1266_5
       replace p1266 := eq_true p1266
       replace q1266 := eq_true q1266
       go_wp2_with (first | (go_at_call 130; (with_reducible refine (stepsFar.calls gb AL nL cL ((rd_T144 l0 x8_1).f0) ((rd_T144 l0 x8_1).f1) _ _ ((rd_T144 l0 x8_1).f2) ((rd_T144 l0 x8_1).f3) ((rd_T144 l0 x8_1).f4) _ _ ((rd_T144 l0 x8_1).f5) false _ ?sideX A6.out).mono ?_); (case sideX => exact blk_below HX.out zb); rintro e w9 ⟨rfl, hb⟩; have n0_ := Aside0.mk (below_step zb hb); clear HB; have HB := n0_; clear n0_; (try clear hb); (try clear hb2); (try clear hk); (try clear hi)))
       go_roundg k1
       case measure => have := HK1.out; omega
       case rel => exact ⟨(wrap64 (x8_1 + 1)), zf, H', ⟨by have := HK1.out; omega⟩, ⟨by repeat (first | (with_reducible first | exact HB.out | apply below_alloc | apply pw_below_drewN | apply below_drew1) | exact HB.out)⟩⟩
     ·rw [if_neg c5] at H
      exact absurd H (by simp)
    ·rw [if_neg c4] at H
     exact absurd H (by simp)
   ·rw [if_neg c3] at H
    have c3b0 : decide (x8_1 < (l0.length : Int)) = false := decide_eq_false c3
    clear c3
    obtain rfl := Option.some.inj H
    go_wp2
    go_ret
    exact ⟨by first | rfl | (simp [errW_none, errW_some] <;> rfl) | (simp [*, errW_none, errW_some] <;> rfl), by repeat (first | (with_reducible first | exact HB.out | apply below_alloc | apply pw_below_drewN | apply below_drew1) | exact HB.out)⟩

/-! ### stepsCF: function 129 -/
def stepsCF.f (k : Nat) (n : Int) (l0 : List (S144))  : Option (Bool) := (stepsIx.f k n l0).bind fun t1266 => (some (decide (t1266 ≥ 0)))
set_option maxHeartbeats 8000000 in
set_option maxRecDepth 100000 in
theorem stepsCF.calls (gb : Nat) (AL : Option Addr) (nL cL : Nat) (k : Nat) (A0 : Option Addr) (c0 : Nat) (l0 : List (S144))  (r : Bool) (w : World) (hr0 : Kd.C k144 w A0 l0.length l0) (hc0 : l0.length ≤ c0) (hbx : w.heap[gb]? = some (.cells #[.slice AL nL cL] 22 (0, 0))) (h : stepsCF.f k (nL : Int) l0 = some r) :
  Calls Try.prog 129 #[.slice A0 l0.length c0, .func (.func 130) #[] #[.pointer (some ⟨gb, 0, none⟩)]] w fun e w' => e = .returned (.bool r) ∧ Below w.heap.size w w' := by
 have HX := Aside0.mk hbx
 clear hbx
 have HR0 := Aside0.mk hr0
 have HC0 := Aside0.mk hc0
 clear hr0 hc0
 have HB := Aside0.mk (Below.refl w.heap.size w)
 have H : ((stepsIx.f k (nL : Int) l0).bind fun t1266 => (some (decide (t1266 ≥ 0)))) = some r := h
 clear h
 replace H := Option.bind_eq_some_iff.mp H
 obtain ⟨t1266, A30, H⟩ := H
 replace H : (some (decide (t1266 ≥ 0))) = some r := H
 have A3 := Aside0.mk A30
 clear A30
 obtain rfl := Option.some.inj H
 go_enter Try.func129, Try.ntmps129
 go_wp2_with (first | ((with_reducible refine gateC (f := 173) rfl ?_); refine goesL_ (some 7) rfl rfl Try.func173 (by kernel_rfl) rfl #[.slice A0 l0.length c0, .func (.func 130) #[] #[.pointer (some ⟨gb, 0, none⟩)]] rfl zm ?_; (with_reducible refine (stepsIx.calls gb AL nL cL k _ _ l0  t1266 _ ?side1 ?side2 ?sideX A3.out).mono ?_); (case sideX => exact blk_below HX.out zb); (case side1 => exact zq HR0.out); (case side2 => exact HC0.out); rintro e w4 ⟨rfl, hb⟩; refine ⟨_, rfl, ?_⟩; have n0_ := Aside0.mk (below_step zb hb); clear HB; have HB := n0_; clear n0_; (try clear hb); (try clear hb2); (try clear hk); (try clear hi)))
 go_ret
 exact ⟨by first | rfl | (simp [errW_none, errW_some] <;> rfl) | (simp [*, errW_none, errW_some] <;> rfl), by repeat (first | (with_reducible first | exact HB.out | apply below_alloc | apply pw_below_drewN | apply below_drew1) | exact HB.out)⟩

end Go.Proofs.Ytcefenlblnediaa.My

/- Written by this session's program (wip/gen): a plain function with the same answers as the Go function, and the proof that the Go code comes to them. Asked: that the plain function has an answer. -/
namespace Go.Proofs.Ytcefenlblnediaa.My
open Go.RowKit Go.Proofs.YtcefenlblnediaaW.PrintWords Go.Proofs.YtcefenlblnediaaW.PrintLast Go.Proofs.YtcefenlblnediaaW.PrintMore
attribute [local go_sem] max2_int min2_int max_two min_two max_three min_three max_four min_four
set_option linter.unusedVariables false
set_option linter.unusedSimpArgs false

/-! ### slices_Equal_string_string: function 132 -/
def slices_Equal_string_string.l0 : Nat → List ByteArray → List ByteArray → Int → Int → Option (Bool)
 | 0, _, _, _, _ => none
 | k + 1, x0, x1, x12, x13 => if x13 < x12 then (if 0 ≤ x13 then (if x13 < (x0.length : Int) then (if x13 < (x1.length : Int) then (if (rdOf ByteArray.empty x0 x13).toList = (rdOf ByteArray.empty x1 x13).toList then (slices_Equal_string_string.l0 k x0 x1 x12 (wrap64 (x13 + 1))) else (some false)) else (none)) else (none)) else (none)) else (some true)
def slices_Equal_string_string.f (k : Nat) (l0 : List ByteArray) (l1 : List ByteArray) : Option (Bool) := if (l0.length : Int) = (l1.length : Int) then (slices_Equal_string_string.l0 k l0 l1 (l0.length : Int) 0) else (some false)
set_option maxHeartbeats 8000000 in
set_option maxRecDepth 100000 in
theorem slices_Equal_string_string.calls (k : Nat) (A0 : Option Addr) (c0 : Nat) (l0 : List ByteArray) (A1 : Option Addr) (c1 : Nat) (l1 : List ByteArray) (r : Bool) (w : World) (hr0 : Kd.C Kd.string w A0 l0.length l0) (hc0 : l0.length ≤ c0) (hr1 : Kd.C Kd.string w A1 l1.length l1) (hc1 : l1.length ≤ c1) (h : slices_Equal_string_string.f k l0 l1 = some r) :
  Calls Try.prog 132 #[.slice A0 l0.length c0, .slice A1 l1.length c1] w fun e w' => e = .returned (.bool r) ∧ Drawn0 w w' := by
 have HR0 := Aside0.mk hr0
 have HC0 := Aside0.mk hc0
 clear hr0 hc0
 have HR1 := Aside0.mk hr1
 have HC1 := Aside0.mk hc1
 clear hr1 hc1
 have H : (if (l0.length : Int) = (l1.length : Int) then (slices_Equal_string_string.l0 k l0 l1 (l0.length : Int) 0) else (some false)) = some r := h
 clear h
 by_cases c3 : (l0.length : Int) = (l1.length : Int)
 ·rw [if_pos c3] at H
  have c3b0 : ((l0.length : Int) == (l1.length : Int)) = true := beq_iff_eq.mpr c3
  have c3b1 : ((l0.length : Int) != (l1.length : Int)) = false := bne_eq_false_iff_eq.mpr c3
  have c3b2 : (l0.length == l1.length) = true := by first | simpa using c3 | (simp at c3 ⊢; omega)
  clear c3
  have H' := Aside0.mk H
  clear H
  go_enter Try.func132, Try.ntmps132
  go_wp2
  repeat (go_quiet (fail); try go_wp2)
  go_loopg [13] k (fun kq v13 w' => ∃ (x13_1 : Int), v13 = .int .i64 x13_1 ∧ Aside0 (slices_Equal_string_string.l0 kq l0 l1 (l0.length : Int) x13_1 = some r) ∧ Aside0 (kq ≤ k) ∧ Drawn0 w w')
  case atStart => exact ⟨(0), zf, H', ⟨Nat.le_refl _⟩, by repeat (first | exact Drawn0.refl _ | apply Drawn0.step)⟩
  case round =>
   clear H'
   try clear c1
   try clear p2
   try clear c3
   try clear c3b0
   try clear c3b1
   try clear c3b2
   obtain ⟨x13_1, rfl, HA, HK1, ⟨m1, rfl⟩⟩ := hrel
   cases gk with
   | zero => exact absurd HA.out (by simp [slices_Equal_string_string.l0])
   | succ k1 =>
    have H := HA.out
    clear HA
    simp only [slices_Equal_string_string.l0] at H
    by_cases c4 : x13_1 < (l0.length : Int)
    ·rw [if_pos c4] at H
     have c4b0 : decide (x13_1 < (l0.length : Int)) = true := decide_eq_true c4
     clear c4
     by_cases c5 : 0 ≤ x13_1
     ·rw [if_pos c5] at H
      have c5b0 : decide (0 ≤ x13_1) = true := decide_eq_true c5
      clear c5
      by_cases c6 : x13_1 < (l0.length : Int)
      ·rw [if_pos c6] at H
       have c6b0 : decide (x13_1 < (l0.length : Int)) = true := decide_eq_true c6
       clear c6
       by_cases c7 : x13_1 < (l1.length : Int)
       ·rw [if_pos c7] at H
        have c7b0 : decide (x13_1 < (l1.length : Int)) = true := decide_eq_true c7
        clear c7
        by_cases c8 : (rdOf ByteArray.empty l0 x13_1).toList = (rdOf ByteArray.empty l1 x13_1).toList
        ·rw [if_pos c8] at H
         have c8b0 : ((rdOf ByteArray.empty l0 x13_1).toList == (rdOf ByteArray.empty l1 x13_1).toList) = true := beq_iff_eq.mpr c8
         have c8b1 : ((rdOf ByteArray.empty l0 x13_1).toList != (rdOf ByteArray.empty l1 x13_1).toList) = false := bne_eq_false_iff_eq.mpr c8
         clear c8
         have H' := Aside0.mk H
         clear H
         have p970 : 0 ≤ (x13_1 : Int) := oa
         have q970 : x13_1 < (l0.length : Int) := oa
         obtain ⟨ad970, e970, hx970_0⟩ := Kd.at_string HR0.out x13_1 p970 q970
         cases e970
         replace p970 := eq_true p970
         replace q970 := eq_true q970
         have p971 : 0 ≤ (x13_1 : Int) := oa
         have q971 : x13_1 < (l1.length : Int) := oa
         obtain ⟨ad971, e971, hx971_0⟩ := Kd.at_string HR1.out x13_1 p971 q971
         cases e971
         replace p971 := eq_true p971
         replace q971 := eq_true q971
         go_wp2
         repeat (go_quiet (fail); try go_wp2)
         go_roundg k1
         case measure => have := HK1.out; omega
         case rel => exact ⟨(wrap64 (x13_1 + 1)), zf, H', ⟨by have := HK1.out; omega⟩, by repeat (first | exact Drawn0.refl _ | apply Drawn0.step)⟩
        ·rw [if_neg c8] at H
         have c8b0 : ((rdOf ByteArray.empty l0 x13_1).toList == (rdOf ByteArray.empty l1 x13_1).toList) = false := beq_eq_false_iff_ne.mpr c8
         have c8b1 : ((rdOf ByteArray.empty l0 x13_1).toList != (rdOf ByteArray.empty l1 x13_1).toList) = true := bne_iff_ne.mpr c8
         obtain rfl := Option.some.inj H
         have p970 : 0 ≤ (x13_1 : Int) := oa
         have q970 : x13_1 < (l0.length : Int) := oa
         obtain ⟨ad970, e970, hx970_0⟩ := Kd.at_string HR0.out x13_1 p970 q970
         cases e970
         replace p970 := eq_true p970
         replace q970 := eq_true q970
         have p971 : 0 ≤ (x13_1 : Int) := oa
         have q971 : x13_1 < (l1.length : Int) := oa
         obtain ⟨ad971, e971, hx971_0⟩ := Kd.at_string HR1.out x13_1 p971 q971
         cases e971
         replace p971 := eq_true p971
         replace q971 := eq_true q971
         go_wp2
         repeat (go_quiet (fail); try go_wp2)
         go_ret
         exact ⟨by first | rfl | (simp; done) | (simp [*]; done), by repeat (first | exact Drawn0.refl _ | apply Drawn0.step)⟩
       ·rw [if_neg c7] at H
        exact absurd H (by simp)
      ·rw [if_neg c6] at H
       exact absurd H (by simp)
     ·rw [if_neg c5] at H
      exact absurd H (by simp)
    ·rw [if_neg c4] at H
     have c4b0 : decide (x13_1 < (l0.length : Int)) = false := decide_eq_false c4
     clear c4
     obtain rfl := Option.some.inj H
     go_wp2
     repeat (go_quiet (fail); try go_wp2)
     go_ret
     exact ⟨by first | rfl | (simp; done) | (simp [*]; done), by repeat (first | exact Drawn0.refl _ | apply Drawn0.step)⟩
 ·rw [if_neg c3] at H
  have c3b0 : ((l0.length : Int) == (l1.length : Int)) = false := beq_eq_false_iff_ne.mpr c3
  have c3b1 : ((l0.length : Int) != (l1.length : Int)) = true := bne_iff_ne.mpr c3
  have c3b2 : (l0.length == l1.length) = false := by first | simpa using c3 | (simp at c3 ⊢; omega)
  obtain rfl := Option.some.inj H
  go_enter Try.func132, Try.ntmps132
  go_wp2
  repeat (go_quiet (fail); try go_wp2)
  go_ret
  exact ⟨by first | rfl | (simp; done) | (simp [*]; done), by repeat (first | exact Drawn0.refl _ | apply Drawn0.step)⟩

end Go.Proofs.Ytcefenlblnediaa.My

/- Written by this session's program (wip/gen): a plain function with the same answers as the Go function, and the proof that the Go code comes to them. Asked: that the plain function has an answer. -/
namespace Go.Proofs.Ytcefenlblnediaa.My
open Go.RowKit Go.Proofs.YtcefenlblnediaaW.PrintWords Go.Proofs.YtcefenlblnediaaW.PrintLast Go.Proofs.YtcefenlblnediaaW.PrintMore
attribute [local go_sem] max2_int min2_int max_two min_two max_three min_three max_four min_four
set_option linter.unusedVariables false
set_option linter.unusedSimpArgs false

/-! ### impl_StepsHunks: function 64 -/
mutual
def impl_StepsHunks.j0 : Nat → List (S144) → List ByteArray → Bool → Option ((List (S111)) × Int × Bool)
 | 0, _, _, _ => none
 | k + 1, x1, x2, x17 => if x17 = true then (some (([] : List (S111)), 0, false)) else ((impl_hunksOf.f k x1).bind fun t1306 => ((stepsCF.f k (x2.length : Int) x1).bind fun t1309 => (if t1309 = true then (impl_StepsHunks.j1 k x1 x2 t1306 true) else ((impl_goodHunks.f k (x2.length : Int) t1306).bind fun t1310 => (impl_StepsHunks.j1 k x1 x2 t1306 (!t1310))))))
def impl_StepsHunks.j1 : Nat → List (S144) → List ByteArray → List (S111) → Bool → Option ((List (S111)) × Int × Bool)
 | 0, _, _, _, _ => none
 | k + 1, x1, x2, x7, x29 => if x29 = true then (some (([] : List (S111)), 3, true)) else ((impl_stepsOf.f k x2 x7).bind fun t1311 => (impl_StepsHunks.l0 k x1 x7 t1311 (t1311.length : Int) 0))
def impl_StepsHunks.l0 : Nat → List (S144) → List (S111) → List (S144) → Int → Int → Option ((List (S111)) × Int × Bool)
 | 0, _, _, _, _, _ => none
 | k + 1, x1, x7, x32, x33, x34 => if x34 < x33 then (if 0 ≤ x34 then (if x34 < (x32.length : Int) then (if x34 < (x1.length : Int) then ((slices_Equal_string_string.f k ((rd_T144 x32 x34).f2) ((rd_T144 x1 x34).f2)).bind fun t1317 => (if t1317 = true then (if ((rd_T144 x32 x34).f3) = ((rd_T144 x1 x34).f3) then (impl_StepsHunks.l0 k x1 x7 x32 x33 (wrap64 (x34 + 1))) else (some (([] : List (S111)), 2, true))) else (some (([] : List (S111)), 2, true)))) else (none)) else (none)) else (none)) else (some (x7, 0, true))
end
def impl_StepsHunks.f (k : Nat) (l0 : List ByteArray) (l1 : List (S144)) : Option ((List (S111)) × Int × Bool) := (impl_goodLines.f k l0).bind fun t1304 => (if t1304 = true then ((impl_goodSteps.f k l1).bind fun t1305 => (impl_StepsHunks.j0 k l1 l0 (!t1305))) else (impl_StepsHunks.j0 k l1 l0 true))
set_option maxHeartbeats 64000000 in
set_option maxRecDepth 100000 in
theorem impl_StepsHunks.calls (k : Nat) (A0 : Option Addr) (c0 : Nat) (l0 : List ByteArray) (A1 : Option Addr) (c1 : Nat) (l1 : List (S144)) (r1 : List (S111)) (r2 : Int) (r3 : Bool) (w : World) (hr0 : Kd.C Kd.string w A0 l0.length l0) (hc0 : l0.length ≤ c0) (hr1 : Kd.C k144 w A1 l1.length l1) (hc1 : l1.length ≤ c1) (h : impl_StepsHunks.f k l0 l1 = some (r1, r2, r3)) :
  Calls Try.prog 64 #[.slice A0 l0.length c0, .slice A1 l1.length c1] w fun e w' => ∃ v0_ : Value, e = .returned (.tuple #[v0_, .int .i64 r2, .bool r3]) ∧ Kd.S k111 111 w' w.heap.size (fun _ => True) v0_ r1 ∧ Below w.heap.size w w' := by
 have hu144 := Try.underlying144
 have HR0 := Aside0.mk hr0
 have HC0 := Aside0.mk hc0
 clear hr0 hc0
 have HR1 := Aside0.mk hr1
 have HC1 := Aside0.mk hc1
 clear hr1 hc1
 have HB := Aside0.mk (Below.refl w.heap.size w)
 have H : ((impl_goodLines.f k l0).bind fun t1304 => (if t1304 = true then ((impl_goodSteps.f k l1).bind fun t1305 => (impl_StepsHunks.j0 k l1 l0 (!t1305))) else (impl_StepsHunks.j0 k l1 l0 true))) = some (r1, r2, r3) := h
 clear h
 have HC3 := Aside0.mk H
 clear H
 go_enter Try.func64, Try.ntmps64
 go_upto_region 1 with ((with_reducible refine gate_dst (N := 2) rfl ?_); refine box_event ?hg (N := 2) ?hd (cs := #[.slice A0 l0.length c0]) (t := 22) ?hr ?_; (case hd => rfl); (case hg => rfl); (case hr => first | (go_simp; done) | (go_simp; rfl)); intro gb hg w1 hbox hb; have n1_ := Aside0.mk (below_step zb hb); clear HB; have HB := n1_; have BK := Aside0.mk hbox; clear n1_ hbox hb hg; have hcl : w1.cell? ⟨gb, 0, none⟩ = some (.slice A0 l0.length c0) := (blk_cell BK.out 0).trans rfl)
 repeat (go_quiet (fail); go_upto_region 1 with (fail))
 go_cut [17] (fun v17 wc => ∃ (kq : Nat) (x17_2 : Bool), v17 = .bool x17_2 ∧ Aside0 (impl_StepsHunks.j0 kq l1 l0 x17_2 = some (r1, r2, r3)) ∧ Aside0 (kq ≤ k) ∧ Aside0 (Below w.heap.size w wc) ∧ Aside0 (wc.heap[gb]? = some (.cells #[.slice A0 l0.length c0] 22 (0, 0))))
 case first =>
  have H := HC3.out
  clear HC3
  replace H := Option.bind_eq_some_iff.mp H
  obtain ⟨t1304, A40, H⟩ := H
  replace H : (if t1304 = true then ((impl_goodSteps.f k l1).bind fun t1305 => (impl_StepsHunks.j0 k l1 l0 (!t1305))) else (impl_StepsHunks.j0 k l1 l0 true)) = some (r1, r2, r3) := H
  have A4 := Aside0.mk A40
  clear A40
  by_cases c5 : t1304 = true
  ·subst c5
   have H1 : ((impl_goodSteps.f k l1).bind fun t1305 => (impl_StepsHunks.j0 k l1 l0 (!t1305))) = some (r1, r2, r3) := by rw [if_pos rfl] at H; exact H
   clear H
   have H := H1
   clear H1
   replace H := Option.bind_eq_some_iff.mp H
   obtain ⟨t1305, A60, H⟩ := H
   replace H : (impl_StepsHunks.j0 k l1 l0 (!t1305)) = some (r1, r2, r3) := H
   have A6 := Aside0.mk A60
   clear A60
   have H' := Aside0.mk H
   clear H
   go_wp2_with (first | (go_at_call 80; (with_reducible refine (impl_goodLines.calls k _ _ l0 true _ ?side1 ?side2 A4.out).mono ?_); (case side1 => exact zq (Kd.C_below HR0.out HB.out)); (case side2 => exact HC0.out); rintro e w' ⟨rfl, ⟨nd, rfl⟩⟩; (try exact zd)) | (go_at_call 127; (with_reducible refine (impl_goodSteps.calls k _ _ l1 t1305 _ ?side1 ?side2 A6.out).mono ?_); (case side1 => repeat (first | exact (Kd.C_below HR1.out zb) | (with_reducible refine Kd.C_alloc ?_ _) | (with_reducible refine Kd.C_drewN ?_ _) | (with_reducible refine Kd.C_drew ?_))); (case side2 => exact HC1.out); rintro e w7 ⟨rfl, hb⟩; have bk_ := Aside0.mk (blk_below (zk BK.out) hb); clear BK; (try clear hcl); have BK := bk_; clear bk_; have hcl : w7.cell? ⟨gb, 0, none⟩ = some (.slice A0 l0.length c0) := (blk_cell BK.out 0).trans rfl; have n0_ := Aside0.mk (below_step zb hb); clear HB; have HB := n0_; clear n0_; (try clear hb); (try clear hb2); (try clear hk); (try clear hi)))
   repeat (go_quiet (first | (go_at_call 80; (with_reducible refine (impl_goodLines.calls k _ _ l0 true _ ?side1 ?side2 A4.out).mono ?_); (case side1 => exact zq (Kd.C_below HR0.out HB.out)); (case side2 => exact HC0.out); rintro e w' ⟨rfl, ⟨nd, rfl⟩⟩; (try exact zd)) | (go_at_call 127; (with_reducible refine (impl_goodSteps.calls k _ _ l1 t1305 _ ?side1 ?side2 A6.out).mono ?_); (case side1 => repeat (first | exact (Kd.C_below HR1.out zb) | (with_reducible refine Kd.C_alloc ?_ _) | (with_reducible refine Kd.C_drewN ?_ _) | (with_reducible refine Kd.C_drew ?_))); (case side2 => exact HC1.out); rintro e w7 ⟨rfl, hb⟩; have bk_ := Aside0.mk (blk_below (zk BK.out) hb); clear BK; (try clear hcl); have BK := bk_; clear bk_; have hcl : w7.cell? ⟨gb, 0, none⟩ = some (.slice A0 l0.length c0) := (blk_cell BK.out 0).trans rfl; have n0_ := Aside0.mk (below_step zb hb); clear HB; have HB := n0_; clear n0_; (try clear hb); (try clear hb2); (try clear hk); (try clear hi))); try go_wp2_with (first | (go_at_call 80; (with_reducible refine (impl_goodLines.calls k _ _ l0 true _ ?side1 ?side2 A4.out).mono ?_); (case side1 => exact zq (Kd.C_below HR0.out HB.out)); (case side2 => exact HC0.out); rintro e w' ⟨rfl, ⟨nd, rfl⟩⟩; (try exact zd)) | (go_at_call 127; (with_reducible refine (impl_goodSteps.calls k _ _ l1 t1305 _ ?side1 ?side2 A6.out).mono ?_); (case side1 => repeat (first | exact (Kd.C_below HR1.out zb) | (with_reducible refine Kd.C_alloc ?_ _) | (with_reducible refine Kd.C_drewN ?_ _) | (with_reducible refine Kd.C_drew ?_))); (case side2 => exact HC1.out); rintro e w7 ⟨rfl, hb⟩; have bk_ := Aside0.mk (blk_below (zk BK.out) hb); clear BK; (try clear hcl); have BK := bk_; clear bk_; have hcl : w7.cell? ⟨gb, 0, none⟩ = some (.slice A0 l0.length c0) := (blk_cell BK.out 0).trans rfl; have n0_ := Aside0.mk (below_step zb hb); clear HB; have HB := n0_; clear n0_; (try clear hb); (try clear hb2); (try clear hk); (try clear hi))))
   go_meet
   case rel => exact ⟨_, (!t1305), zf, H', ⟨by first | omega | exact Nat.le_refl _⟩, ⟨by repeat (first | (with_reducible first | exact HB.out | apply below_alloc | apply pw_below_drewN | apply below_drew1) | exact HB.out)⟩, ⟨zk BK.out⟩⟩
  ·replace c5 := Bool.eq_false_iff.mpr c5
   subst c5
   have H1 : (impl_StepsHunks.j0 k l1 l0 true) = some (r1, r2, r3) := by rw [if_neg (show ¬ (false = true) by decide)] at H; exact H
   clear H
   have H := H1
   clear H1
   have H' := Aside0.mk H
   clear H
   go_wp2_with (first | (go_at_call 80; (with_reducible refine (impl_goodLines.calls k _ _ l0 false _ ?side1 ?side2 A4.out).mono ?_); (case side1 => exact zq (Kd.C_below HR0.out HB.out)); (case side2 => exact HC0.out); rintro e w' ⟨rfl, ⟨nd, rfl⟩⟩; (try exact zd)))
   repeat (go_quiet (first | (go_at_call 80; (with_reducible refine (impl_goodLines.calls k _ _ l0 false _ ?side1 ?side2 A4.out).mono ?_); (case side1 => exact zq (Kd.C_below HR0.out HB.out)); (case side2 => exact HC0.out); rintro e w' ⟨rfl, ⟨nd, rfl⟩⟩; (try exact zd))); try go_wp2_with (first | (go_at_call 80; (with_reducible refine (impl_goodLines.calls k _ _ l0 false _ ?side1 ?side2 A4.out).mono ?_); (case side1 => exact zq (Kd.C_below HR0.out HB.out)); (case side2 => exact HC0.out); rintro e w' ⟨rfl, ⟨nd, rfl⟩⟩; (try exact zd))))
   go_meet
   case rel => exact ⟨_, (true), zf, H', ⟨by first | omega | exact Nat.le_refl _⟩, ⟨by repeat (first | (with_reducible first | exact HB.out | apply below_alloc | apply pw_below_drewN | apply below_drew1) | exact HB.out)⟩, ⟨zk BK.out⟩⟩
 case rest =>
  clear HC3
  try clear c1
  try clear p2
  try clear c5
  try clear c6
  obtain ⟨kq, x17_2, rfl, HA, HJ2, HB, BK⟩ := hcut
  have hcl := (blk_cell BK.out 0).trans (show (#[Value.slice A0 l0.length c0] : Array Value)[0]? = some (Value.slice A0 l0.length c0) from rfl)
  cases kq with
  | zero => exact absurd HA.out (by simp [impl_StepsHunks.j0])
  | succ kj2 =>
   have H := HA.out
   clear HA
   simp only [impl_StepsHunks.j0] at H
   by_cases c8 : x17_2 = true
   ·subst c8
    have H1 : (some (([] : List (S111)), 0, false)) = some (r1, r2, r3) := by rw [if_pos rfl] at H; exact H
    clear H
    have H := H1
    clear H1
    simp only [Option.some.injEq, Prod.mk.injEq] at H
    obtain ⟨rfl, rfl, rfl⟩ := H
    go_wp2
    repeat (go_quiet (fail); try go_wp2)
    go_ret3
    exact ⟨_, by first | rfl | (simp [errW_none, errW_some] <;> rfl) | (simp [*, errW_none, errW_some] <;> rfl), by first | exact Kd.S_nil _ _ _ _ _ | exact Kd.Q_nil _ _ _ _ _ | exact Kd.R_nil _ _ _ _ _, by repeat (first | (with_reducible first | exact HB.out | apply below_alloc | apply pw_below_drewN | apply below_drew1) | exact HB.out)⟩
   ·replace c8 := Bool.eq_false_iff.mpr c8
    subst c8
    have H1 : ((impl_hunksOf.f kj2 l1).bind fun t1306 => ((stepsCF.f kj2 (l0.length : Int) l1).bind fun t1309 => (if t1309 = true then (impl_StepsHunks.j1 kj2 l1 l0 t1306 true) else ((impl_goodHunks.f kj2 (l0.length : Int) t1306).bind fun t1310 => (impl_StepsHunks.j1 kj2 l1 l0 t1306 (!t1310)))))) = some (r1, r2, r3) := by rw [if_neg (show ¬ (false = true) by decide)] at H; exact H
    clear H
    have H := H1
    clear H1
    replace H := Option.bind_eq_some_iff.mp H
    obtain ⟨t1306, A90, H⟩ := H
    replace H : ((stepsCF.f kj2 (l0.length : Int) l1).bind fun t1309 => (if t1309 = true then (impl_StepsHunks.j1 kj2 l1 l0 t1306 true) else ((impl_goodHunks.f kj2 (l0.length : Int) t1306).bind fun t1310 => (impl_StepsHunks.j1 kj2 l1 l0 t1306 (!t1310))))) = some (r1, r2, r3) := H
    have A9 := Aside0.mk A90
    clear A90
    have HC10 := Aside0.mk H
    clear H
    go_upto_region 4 with (first | (go_at_call 128; (with_reducible refine (impl_hunksOf.calls kj2 _ _ l1 t1306 _ ?side1 ?side2 A9.out).mono ?_); (case side1 => exact zq (Kd.C_below HR1.out HB.out)); (case side2 => exact HC1.out); rintro e w11 ⟨v1307, rfl, ho0, hb⟩; have bk_ := Aside0.mk (blk_below (zk BK.out) hb); clear BK; (try clear hcl); have BK := bk_; clear bk_; have hcl : w11.cell? ⟨gb, 0, none⟩ = some (.slice A0 l0.length c0) := (blk_cell BK.out 0).trans rfl; have n0_ := Aside0.mk (Kd.S_lower ho0 (below_size zb)); have n1_ := Aside0.mk (below_step zb hb); clear HB; have HO1308 := n0_; have HB := n1_; clear n0_ n1_; (try clear hb); (try clear hb2); (try clear hk); (try clear hi); (try clear ho0)))
    repeat (go_quiet (first | (go_at_call 128; (with_reducible refine (impl_hunksOf.calls kj2 _ _ l1 t1306 _ ?side1 ?side2 A9.out).mono ?_); (case side1 => exact zq (Kd.C_below HR1.out HB.out)); (case side2 => exact HC1.out); rintro e w11 ⟨v1307, rfl, ho0, hb⟩; have bk_ := Aside0.mk (blk_below (zk BK.out) hb); clear BK; (try clear hcl); have BK := bk_; clear bk_; have hcl : w11.cell? ⟨gb, 0, none⟩ = some (.slice A0 l0.length c0) := (blk_cell BK.out 0).trans rfl; have n0_ := Aside0.mk (Kd.S_lower ho0 (below_size zb)); have n1_ := Aside0.mk (below_step zb hb); clear HB; have HO1308 := n0_; have HB := n1_; clear n0_ n1_; (try clear hb); (try clear hb2); (try clear hk); (try clear hi); (try clear ho0))); go_upto_region 4 with (first | (go_at_call 128; (with_reducible refine (impl_hunksOf.calls kj2 _ _ l1 t1306 _ ?side1 ?side2 A9.out).mono ?_); (case side1 => exact zq (Kd.C_below HR1.out HB.out)); (case side2 => exact HC1.out); rintro e w11 ⟨v1307, rfl, ho0, hb⟩; have bk_ := Aside0.mk (blk_below (zk BK.out) hb); clear BK; (try clear hcl); have BK := bk_; clear bk_; have hcl : w11.cell? ⟨gb, 0, none⟩ = some (.slice A0 l0.length c0) := (blk_cell BK.out 0).trans rfl; have n0_ := Aside0.mk (Kd.S_lower ho0 (below_size zb)); have n1_ := Aside0.mk (below_step zb hb); clear HB; have HO1308 := n0_; have HB := n1_; clear n0_ n1_; (try clear hb); (try clear hb2); (try clear hk); (try clear hi); (try clear ho0))))
    (try simp only [Act.put, List.setIfInBounds_toArray, List.set_cons_zero, List.set_cons_succ])
    go_cut [29] (fun v29 wc => ∃ (kq : Nat) (x29_9 : Bool), v29 = .bool x29_9 ∧ Aside0 (impl_StepsHunks.j1 kq l1 l0 t1306 x29_9 = some (r1, r2, r3)) ∧ Aside0 (kq ≤ kj2) ∧ Aside0 (Kd.S k111 111 wc w.heap.size (fun _ => True) v1307 t1306) ∧ Aside0 (Below w.heap.size w wc) ∧ Aside0 (wc.heap[gb]? = some (.cells #[.slice A0 l0.length c0] 22 (0, 0))))
    case first =>
     have H := HC10.out
     clear HC10
     replace H := Option.bind_eq_some_iff.mp H
     obtain ⟨t1309, A120, H⟩ := H
     replace H : (if t1309 = true then (impl_StepsHunks.j1 kj2 l1 l0 t1306 true) else ((impl_goodHunks.f kj2 (l0.length : Int) t1306).bind fun t1310 => (impl_StepsHunks.j1 kj2 l1 l0 t1306 (!t1310)))) = some (r1, r2, r3) := H
     have A12 := Aside0.mk A120
     clear A120
     by_cases c13 : t1309 = true
     ·subst c13
      have H1 : (impl_StepsHunks.j1 kj2 l1 l0 t1306 true) = some (r1, r2, r3) := by rw [if_pos rfl] at H; exact H
      clear H
      have H := H1
      clear H1
      have H' := Aside0.mk H
      clear H
      go_wp2_with (first | (go_at_call 129; (with_reducible refine (stepsCF.calls gb A0 l0.length c0 kj2 _ _ l1 true _ ?side1 ?side2 ?side3 A12.out).mono ?_); (case side1 => exact zq (Kd.C_below HR1.out HB.out)); (case side2 => exact HC1.out); (case side3 => exact zk BK.out); rintro e w99 ⟨rfl, hb⟩; have bk_ := Aside0.mk (blk_below (zk BK.out) hb); clear BK; (try clear hcl); have BK := bk_; clear bk_; have hcl : w99.cell? ⟨gb, 0, none⟩ = some (.slice A0 l0.length c0) := (blk_cell BK.out 0).trans rfl; have n0_ := Aside0.mk (Kd.S_below (zs HO1308.out) hb); have n1_ := Aside0.mk (below_step zb hb); clear HO1308; clear HB; have HO1308 := n0_; have HB := n1_; clear n0_ n1_; (try clear hb)))
      repeat (go_quiet (first | (go_at_call 129; (with_reducible refine (stepsCF.calls gb A0 l0.length c0 kj2 _ _ l1 true _ ?side1 ?side2 ?side3 A12.out).mono ?_); (case side1 => exact zq (Kd.C_below HR1.out HB.out)); (case side2 => exact HC1.out); (case side3 => exact zk BK.out); rintro e w99 ⟨rfl, hb⟩; have bk_ := Aside0.mk (blk_below (zk BK.out) hb); clear BK; (try clear hcl); have BK := bk_; clear bk_; have hcl : w99.cell? ⟨gb, 0, none⟩ = some (.slice A0 l0.length c0) := (blk_cell BK.out 0).trans rfl; have n0_ := Aside0.mk (Kd.S_below (zs HO1308.out) hb); have n1_ := Aside0.mk (below_step zb hb); clear HO1308; clear HB; have HO1308 := n0_; have HB := n1_; clear n0_ n1_; (try clear hb))); try go_wp2_with (first | (go_at_call 129; (with_reducible refine (stepsCF.calls gb A0 l0.length c0 kj2 _ _ l1 true _ ?side1 ?side2 ?side3 A12.out).mono ?_); (case side1 => exact zq (Kd.C_below HR1.out HB.out)); (case side2 => exact HC1.out); (case side3 => exact zk BK.out); rintro e w99 ⟨rfl, hb⟩; have bk_ := Aside0.mk (blk_below (zk BK.out) hb); clear BK; (try clear hcl); have BK := bk_; clear bk_; have hcl : w99.cell? ⟨gb, 0, none⟩ = some (.slice A0 l0.length c0) := (blk_cell BK.out 0).trans rfl; have n0_ := Aside0.mk (Kd.S_below (zs HO1308.out) hb); have n1_ := Aside0.mk (below_step zb hb); clear HO1308; clear HB; have HO1308 := n0_; have HB := n1_; clear n0_ n1_; (try clear hb))))
      go_meet
      case rel => exact ⟨_, (true), zf, H', ⟨by have := HJ2.out; first | omega | exact Nat.le_refl _⟩, ⟨by (with_reducible repeat (first | apply Kd.S_alloc | apply Kd.S_drewN | apply Kd.S_drew)); exact HO1308.out⟩, ⟨by repeat (first | (with_reducible first | exact HB.out | apply below_alloc | apply pw_below_drewN | apply below_drew1) | exact HB.out)⟩, ⟨zk BK.out⟩⟩
     ·replace c13 := Bool.eq_false_iff.mpr c13
      subst c13
      have H1 : ((impl_goodHunks.f kj2 (l0.length : Int) t1306).bind fun t1310 => (impl_StepsHunks.j1 kj2 l1 l0 t1306 (!t1310))) = some (r1, r2, r3) := by rw [if_neg (show ¬ (false = true) by decide)] at H; exact H
      clear H
      have H := H1
      clear H1
      replace H := Option.bind_eq_some_iff.mp H
      obtain ⟨t1310, A140, H⟩ := H
      replace H : (impl_StepsHunks.j1 kj2 l1 l0 t1306 (!t1310)) = some (r1, r2, r3) := H
      have A14 := Aside0.mk A140
      clear A140
      have H' := Aside0.mk H
      clear H
      go_wp2_with (first | (go_at_call 129; (with_reducible refine (stepsCF.calls gb A0 l0.length c0 kj2 _ _ l1 false _ ?side1 ?side2 ?side3 A12.out).mono ?_); (case side1 => exact zq (Kd.C_below HR1.out HB.out)); (case side2 => exact HC1.out); (case side3 => exact zk BK.out); rintro e w99 ⟨rfl, hb⟩; have bk_ := Aside0.mk (blk_below (zk BK.out) hb); clear BK; (try clear hcl); have BK := bk_; clear bk_; have hcl : w99.cell? ⟨gb, 0, none⟩ = some (.slice A0 l0.length c0) := (blk_cell BK.out 0).trans rfl; have n0_ := Aside0.mk (Kd.S_below (zs HO1308.out) hb); have n1_ := Aside0.mk (below_step zb hb); clear HO1308; clear HB; have HO1308 := n0_; have HB := n1_; clear n0_ n1_; (try clear hb); obtain ⟨Ao15, co15, eo15⟩ := Kd.S_slice HO1308.out; subst eo15) | (go_at_call 96; (with_reducible refine (impl_goodHunks.calls kj2 (l0.length : Int) _ _ t1306 t1310 _ ?side1 ?side2 A14.out).mono ?_); (case side1 => repeat (first | exact (Kd.S_reads' HO1308.out).2.2 | (with_reducible refine Kd.C_alloc ?_ _) | (with_reducible refine Kd.C_drewN ?_ _) | (with_reducible refine Kd.C_drew ?_))); (case side2 => exact (Kd.S_reads' HO1308.out).2.1); rintro e w16 ⟨rfl, hb⟩; have bk_ := Aside0.mk (blk_below (zk BK.out) hb); clear BK; (try clear hcl); have BK := bk_; clear bk_; have hcl : w16.cell? ⟨gb, 0, none⟩ = some (.slice A0 l0.length c0) := (blk_cell BK.out 0).trans rfl; have n0_ := Aside0.mk (Kd.S_below (zs HO1308.out) hb); have n1_ := Aside0.mk (below_step zb hb); clear HO1308; clear HB; have HO1308 := n0_; have HB := n1_; clear n0_ n1_; (try clear hb); (try clear hb2); (try clear hk); (try clear hi)))
      repeat (go_quiet (first | (go_at_call 129; (with_reducible refine (stepsCF.calls gb A0 l0.length c0 kj2 _ _ l1 false _ ?side1 ?side2 ?side3 A12.out).mono ?_); (case side1 => exact zq (Kd.C_below HR1.out HB.out)); (case side2 => exact HC1.out); (case side3 => exact zk BK.out); rintro e w99 ⟨rfl, hb⟩; have bk_ := Aside0.mk (blk_below (zk BK.out) hb); clear BK; (try clear hcl); have BK := bk_; clear bk_; have hcl : w99.cell? ⟨gb, 0, none⟩ = some (.slice A0 l0.length c0) := (blk_cell BK.out 0).trans rfl; have n0_ := Aside0.mk (Kd.S_below (zs HO1308.out) hb); have n1_ := Aside0.mk (below_step zb hb); clear HO1308; clear HB; have HO1308 := n0_; have HB := n1_; clear n0_ n1_; (try clear hb); obtain ⟨Ao15, co15, eo15⟩ := Kd.S_slice HO1308.out; subst eo15) | (go_at_call 96; (with_reducible refine (impl_goodHunks.calls kj2 (l0.length : Int) _ _ t1306 t1310 _ ?side1 ?side2 A14.out).mono ?_); (case side1 => repeat (first | exact (Kd.S_reads' HO1308.out).2.2 | (with_reducible refine Kd.C_alloc ?_ _) | (with_reducible refine Kd.C_drewN ?_ _) | (with_reducible refine Kd.C_drew ?_))); (case side2 => exact (Kd.S_reads' HO1308.out).2.1); rintro e w16 ⟨rfl, hb⟩; have bk_ := Aside0.mk (blk_below (zk BK.out) hb); clear BK; (try clear hcl); have BK := bk_; clear bk_; have hcl : w16.cell? ⟨gb, 0, none⟩ = some (.slice A0 l0.length c0) := (blk_cell BK.out 0).trans rfl; have n0_ := Aside0.mk (Kd.S_below (zs HO1308.out) hb); have n1_ := Aside0.mk (below_step zb hb); clear HO1308; clear HB; have HO1308 := n0_; have HB := n1_; clear n0_ n1_; (try clear hb); (try clear hb2); (try clear hk); (try clear hi))); try go_wp2_with (first | (go_at_call 129; (with_reducible refine (stepsCF.calls gb A0 l0.length c0 kj2 _ _ l1 false _ ?side1 ?side2 ?side3 A12.out).mono ?_); (case side1 => exact zq (Kd.C_below HR1.out HB.out)); (case side2 => exact HC1.out); (case side3 => exact zk BK.out); rintro e w99 ⟨rfl, hb⟩; have bk_ := Aside0.mk (blk_below (zk BK.out) hb); clear BK; (try clear hcl); have BK := bk_; clear bk_; have hcl : w99.cell? ⟨gb, 0, none⟩ = some (.slice A0 l0.length c0) := (blk_cell BK.out 0).trans rfl; have n0_ := Aside0.mk (Kd.S_below (zs HO1308.out) hb); have n1_ := Aside0.mk (below_step zb hb); clear HO1308; clear HB; have HO1308 := n0_; have HB := n1_; clear n0_ n1_; (try clear hb); obtain ⟨Ao15, co15, eo15⟩ := Kd.S_slice HO1308.out; subst eo15) | (go_at_call 96; (with_reducible refine (impl_goodHunks.calls kj2 (l0.length : Int) _ _ t1306 t1310 _ ?side1 ?side2 A14.out).mono ?_); (case side1 => repeat (first | exact (Kd.S_reads' HO1308.out).2.2 | (with_reducible refine Kd.C_alloc ?_ _) | (with_reducible refine Kd.C_drewN ?_ _) | (with_reducible refine Kd.C_drew ?_))); (case side2 => exact (Kd.S_reads' HO1308.out).2.1); rintro e w16 ⟨rfl, hb⟩; have bk_ := Aside0.mk (blk_below (zk BK.out) hb); clear BK; (try clear hcl); have BK := bk_; clear bk_; have hcl : w16.cell? ⟨gb, 0, none⟩ = some (.slice A0 l0.length c0) := (blk_cell BK.out 0).trans rfl; have n0_ := Aside0.mk (Kd.S_below (zs HO1308.out) hb); have n1_ := Aside0.mk (below_step zb hb); clear HO1308; clear HB; have HO1308 := n0_; have HB := n1_; clear n0_ n1_; (try clear hb); (try clear hb2); (try clear hk); (try clear hi))))
      go_meet
      case rel => exact ⟨_, (!t1310), zf, H', ⟨by have := HJ2.out; first | omega | exact Nat.le_refl _⟩, ⟨by (with_reducible repeat (first | apply Kd.S_alloc | apply Kd.S_drewN | apply Kd.S_drew)); exact HO1308.out⟩, ⟨by repeat (first | (with_reducible first | exact HB.out | apply below_alloc | apply pw_below_drewN | apply below_drew1) | exact HB.out)⟩, ⟨zk BK.out⟩⟩
    case rest =>
     clear HC10
     try clear c1
     try clear p2
     try clear c5
     try clear c6
     try clear c8
     try clear c13
     try clear p2
     obtain ⟨kq, x29_9, rfl, HA, HJ9, HO_7, HB, BK⟩ := hcut
     have hcl := (blk_cell BK.out 0).trans (show (#[Value.slice A0 l0.length c0] : Array Value)[0]? = some (Value.slice A0 l0.length c0) from rfl)
     cases kq with
     | zero => exact absurd HA.out (by simp [impl_StepsHunks.j1])
     | succ kj9 =>
      have H := HA.out
      clear HA
      simp only [impl_StepsHunks.j1] at H
      by_cases c17 : x29_9 = true
      ·subst c17
       have H1 : (some (([] : List (S111)), 3, true)) = some (r1, r2, r3) := by rw [if_pos rfl] at H; exact H
       clear H
       have H := H1
       clear H1
       simp only [Option.some.injEq, Prod.mk.injEq] at H
       obtain ⟨rfl, rfl, rfl⟩ := H
       go_wp2
       repeat (go_quiet (fail); try go_wp2)
       go_ret3
       exact ⟨_, by first | rfl | (simp [errW_none, errW_some] <;> rfl) | (simp [*, errW_none, errW_some] <;> rfl), by first | exact Kd.S_nil _ _ _ _ _ | exact Kd.Q_nil _ _ _ _ _ | exact Kd.R_nil _ _ _ _ _, by repeat (first | (with_reducible first | exact HB.out | apply below_alloc | apply pw_below_drewN | apply below_drew1) | exact HB.out)⟩
      ·replace c17 := Bool.eq_false_iff.mpr c17
       subst c17
       have H1 : ((impl_stepsOf.f kj9 l0 t1306).bind fun t1311 => (impl_StepsHunks.l0 kj9 l1 t1306 t1311 (t1311.length : Int) 0)) = some (r1, r2, r3) := by rw [if_neg (show ¬ (false = true) by decide)] at H; exact H
       clear H
       have H := H1
       clear H1
       replace H := Option.bind_eq_some_iff.mp H
       obtain ⟨t1311, A180, H⟩ := H
       replace H : (impl_StepsHunks.l0 kj9 l1 t1306 t1311 (t1311.length : Int) 0) = some (r1, r2, r3) := H
       have A18 := Aside0.mk A180
       clear A180
       have H' := Aside0.mk H
       clear H
       obtain ⟨Ao19, co19, eo19⟩ := Kd.S_slice HO_7.out
       subst eo19
       go_wp2_with (first | (go_at_call 131; (with_reducible refine (impl_stepsOf.calls kj9 _ _ l0 _ _ t1306 t1311 _ ?side1 ?side2 ?side3 ?side4 A18.out).mono ?_); (case side1 => exact zq (Kd.C_below HR0.out HB.out)); (case side2 => exact HC0.out); (case side3 => repeat (first | exact (Kd.S_reads' HO_7.out).2.2 | (with_reducible refine Kd.C_alloc ?_ _) | (with_reducible refine Kd.C_drewN ?_ _) | (with_reducible refine Kd.C_drew ?_))); (case side4 => exact (Kd.S_reads' HO_7.out).2.1); rintro e w20 ⟨v1312, rfl, ho0, hb⟩; have bk_ := Aside0.mk (blk_below (zk BK.out) hb); clear BK; (try clear hcl); have BK := bk_; clear bk_; have hcl : w20.cell? ⟨gb, 0, none⟩ = some (.slice A0 l0.length c0) := (blk_cell BK.out 0).trans rfl; have n0_ := Aside0.mk (Kd.S_below (zs HO_7.out) hb); have n1_ := Aside0.mk (Kd.S_lower ho0 (below_size zb)); have n2_ := Aside0.mk (below_step zb hb); clear HO_7; clear HB; have HO_7 := n0_; have HO1313 := n1_; have HB := n2_; clear n0_ n1_ n2_; (try clear hb); (try clear hb2); (try clear hk); (try clear hi); (try clear ho0); obtain ⟨Ao21, co21, eo21⟩ := Kd.S_slice HO1313.out; subst eo21))
       repeat (go_quiet (first | (go_at_call 131; (with_reducible refine (impl_stepsOf.calls kj9 _ _ l0 _ _ t1306 t1311 _ ?side1 ?side2 ?side3 ?side4 A18.out).mono ?_); (case side1 => exact zq (Kd.C_below HR0.out HB.out)); (case side2 => exact HC0.out); (case side3 => repeat (first | exact (Kd.S_reads' HO_7.out).2.2 | (with_reducible refine Kd.C_alloc ?_ _) | (with_reducible refine Kd.C_drewN ?_ _) | (with_reducible refine Kd.C_drew ?_))); (case side4 => exact (Kd.S_reads' HO_7.out).2.1); rintro e w20 ⟨v1312, rfl, ho0, hb⟩; have bk_ := Aside0.mk (blk_below (zk BK.out) hb); clear BK; (try clear hcl); have BK := bk_; clear bk_; have hcl : w20.cell? ⟨gb, 0, none⟩ = some (.slice A0 l0.length c0) := (blk_cell BK.out 0).trans rfl; have n0_ := Aside0.mk (Kd.S_below (zs HO_7.out) hb); have n1_ := Aside0.mk (Kd.S_lower ho0 (below_size zb)); have n2_ := Aside0.mk (below_step zb hb); clear HO_7; clear HB; have HO_7 := n0_; have HO1313 := n1_; have HB := n2_; clear n0_ n1_ n2_; (try clear hb); (try clear hb2); (try clear hk); (try clear hi); (try clear ho0); obtain ⟨Ao21, co21, eo21⟩ := Kd.S_slice HO1313.out; subst eo21)); try go_wp2_with (first | (go_at_call 131; (with_reducible refine (impl_stepsOf.calls kj9 _ _ l0 _ _ t1306 t1311 _ ?side1 ?side2 ?side3 ?side4 A18.out).mono ?_); (case side1 => exact zq (Kd.C_below HR0.out HB.out)); (case side2 => exact HC0.out); (case side3 => repeat (first | exact (Kd.S_reads' HO_7.out).2.2 | (with_reducible refine Kd.C_alloc ?_ _) | (with_reducible refine Kd.C_drewN ?_ _) | (with_reducible refine Kd.C_drew ?_))); (case side4 => exact (Kd.S_reads' HO_7.out).2.1); rintro e w20 ⟨v1312, rfl, ho0, hb⟩; have bk_ := Aside0.mk (blk_below (zk BK.out) hb); clear BK; (try clear hcl); have BK := bk_; clear bk_; have hcl : w20.cell? ⟨gb, 0, none⟩ = some (.slice A0 l0.length c0) := (blk_cell BK.out 0).trans rfl; have n0_ := Aside0.mk (Kd.S_below (zs HO_7.out) hb); have n1_ := Aside0.mk (Kd.S_lower ho0 (below_size zb)); have n2_ := Aside0.mk (below_step zb hb); clear HO_7; clear HB; have HO_7 := n0_; have HO1313 := n1_; have HB := n2_; clear n0_ n1_ n2_; (try clear hb); (try clear hb2); (try clear hk); (try clear hi); (try clear ho0); obtain ⟨Ao21, co21, eo21⟩ := Kd.S_slice HO1313.out; subst eo21)))
       go_loopg [34] kj9 (fun kq v34 w' => ∃ (x34_3 : Int), v34 = .int .i64 x34_3 ∧ Aside0 (impl_StepsHunks.l0 kq l1 t1306 t1311 (t1311.length : Int) x34_3 = some (r1, r2, r3)) ∧ Aside0 (kq ≤ kj9) ∧ Aside0 (Kd.S k111 111 w' w.heap.size (fun _ => True) (.slice Ao19 t1306.length co19) t1306) ∧ Aside0 (Kd.S k144 144 w' w.heap.size (fun _ => True) (.slice Ao21 t1311.length co21) t1311) ∧ Aside0 (Below w.heap.size w w'))
       case atStart => exact ⟨(0), zf, H', ⟨Nat.le_refl _⟩, ⟨by (with_reducible repeat (first | apply Kd.S_alloc | apply Kd.S_drewN | apply Kd.S_drew)); exact HO_7.out⟩, ⟨by (with_reducible repeat (first | apply Kd.S_alloc | apply Kd.S_drewN | apply Kd.S_drew)); exact HO1313.out⟩, ⟨by repeat (first | (with_reducible first | exact HB.out | apply below_alloc | apply pw_below_drewN | apply below_drew1) | exact HB.out)⟩⟩
       case round =>
        try clear BK hcl
        try clear HR0 HC0
        clear H'
        try clear c1
        try clear p2
        try clear c5
        try clear c6
        try clear c8
        try clear c13
        try clear c17
        try clear p2
        obtain ⟨x34_3, rfl, HA, HK3, HO_7, HO_32, HB⟩ := hrel
        cases gk with
        | zero => exact absurd HA.out (by simp [impl_StepsHunks.l0])
        | succ k3 =>
         have H := HA.out
         clear HA
         simp only [impl_StepsHunks.l0] at H
         by_cases c22 : x34_3 < (t1311.length : Int)
         ·rw [if_pos c22] at H
          have c22b0 : decide (x34_3 < (t1311.length : Int)) = true := decide_eq_true c22
          clear c22
          by_cases c23 : 0 ≤ x34_3
          ·rw [if_pos c23] at H
           have c23b0 : decide (0 ≤ x34_3) = true := decide_eq_true c23
           clear c23
           by_cases c24 : x34_3 < (t1311.length : Int)
           ·rw [if_pos c24] at H
            have c24b0 : decide (x34_3 < (t1311.length : Int)) = true := decide_eq_true c24
            clear c24
            by_cases c25 : x34_3 < (l1.length : Int)
            ·rw [if_pos c25] at H
             have c25b0 : decide (x34_3 < (l1.length : Int)) = true := decide_eq_true c25
             clear c25
             replace H := Option.bind_eq_some_iff.mp H
             obtain ⟨t1317, A260, H⟩ := H
             replace H : (if t1317 = true then (if ((rd_T144 t1311 x34_3).f3) = ((rd_T144 l1 x34_3).f3) then (impl_StepsHunks.l0 k3 l1 t1306 t1311 (t1311.length : Int) (wrap64 (x34_3 + 1))) else (some (([] : List (S111)), 2, true))) else (some (([] : List (S111)), 2, true))) = some (r1, r2, r3) := H
             have A26 := Aside0.mk A260
             clear A260
             by_cases c27 : t1317 = true
             ·subst c27
              have H1 : (if ((rd_T144 t1311 x34_3).f3) = ((rd_T144 l1 x34_3).f3) then (impl_StepsHunks.l0 k3 l1 t1306 t1311 (t1311.length : Int) (wrap64 (x34_3 + 1))) else (some (([] : List (S111)), 2, true))) = some (r1, r2, r3) := by rw [if_pos rfl] at H; exact H
              clear H
              have H := H1
              clear H1
              by_cases c28 : ((rd_T144 t1311 x34_3).f3) = ((rd_T144 l1 x34_3).f3)
              ·rw [if_pos c28] at H
               have c28b0 : (((rd_T144 t1311 x34_3).f3) == ((rd_T144 l1 x34_3).f3)) = true := beq_iff_eq.mpr c28
               have c28b1 : (((rd_T144 t1311 x34_3).f3) != ((rd_T144 l1 x34_3).f3)) = false := bne_eq_false_iff_eq.mpr c28
               clear c28
               have H' := Aside0.mk H
               clear H
               have p1314 : 0 ≤ (x34_3 : Int) := oa
               have q1314 : x34_3 < (t1311.length : Int) := oa
               obtain ⟨ad1314, A1314_2, c1314_2, A1314_5, c1314_5, e1314, hx1314_0, hx1314_1, hx1314_2, hx1314_3, hx1314_4, hx1314_5, hl1314_2, hi1314_2, hl1314_5, hi1314_5⟩ := at_T144 (Kd.S_reads' HO_32.out).2.2 x34_3 p1314 q1314
               cases e1314
               obtain ⟨ce1314, hce1314, hMe1314, hcc1314⟩ := Kd.S_get HO_32.out z144 x34_3 p1314 (by first | exact q1314 | exact oa | (have e_ := (Kd.S_reads' HO_32.out).1; omega))
               obtain ⟨ve1314_2, ve1314_5, rfl, ge1314_2, ge1314_5⟩ := k144_openM hMe1314
               have hv1314_2 := hcc1314 2 _ rfl
               rw [add_field _ _ 2 (by omega)] at hv1314_2
               replace hv1314_2 := Option.some.inj (hv1314_2.symm.trans hx1314_2)
               rw [hv1314_2] at ge1314_2
               have HL1314_2 := Aside0.mk (show Kd.R Kd.string 9 _ _ _ _ ((rd_T144 t1311 x34_3).f2) from ge1314_2)
               clear hv1314_2 ge1314_2
               have hv1314_5 := hcc1314 5 _ rfl
               rw [add_field _ _ 5 (by omega)] at hv1314_5
               replace hv1314_5 := Option.some.inj (hv1314_5.symm.trans hx1314_5)
               rw [hv1314_5] at ge1314_5
               have HL1314_5 := Aside0.mk (show Kd.R Kd.string 9 _ _ _ _ ((rd_T144 t1311 x34_3).f5) from ge1314_5)
               clear hv1314_5 ge1314_5
               clear hcc1314 hce1314
               have HR1314_2 := Aside0.mk hi1314_2
               have HC1314_2 := Aside0.mk hl1314_2
               clear hi1314_2 hl1314_2
               have HR1314_5 := Aside0.mk hi1314_5
               have HC1314_5 := Aside0.mk hl1314_5
               clear hi1314_5 hl1314_5
               replace p1314 := eq_true p1314
               replace q1314 := eq_true q1314
               go_wp2_with (first | ((with_reducible refine gate_dst (N := 9) rfl ?_); (try (refine gate_guard (by rfl) ?_; dsimp only)); refine box_event ?hg (N := 9) ?hd (cs := #[.int .i64 0, .int .i64 0, .slice none 0 0, .int .i64 0, .int .i64 0, .slice none 0 0]) (t := 144) ?hr ?_; (case hd => rfl); (case hg => rfl); (case hr => first | (go_simp; done) | (go_simp; rfl)); intro gb1315 hg w29 hbox hb; have n0_ := Aside0.mk (Kd.S_below (zs HO_7.out) hb); have n1_ := Aside0.mk (Kd.S_below (Kd.S_elderB (zs HO_32.out) gb1315 (Nat.le_of_eq hg.symm)) hb); have n2_ := Aside0.mk (Kd.R_below (zr HL1314_2.out) hb); have n3_ := Aside0.mk (Kd.R_below (zr HL1314_5.out) hb); have n4_ := Aside0.mk (Kd.C_below (by repeat (first | (with_reducible exact HR1314_2.out) | (with_reducible refine Kd.C_alloc ?_ _) | (with_reducible refine Kd.C_drewN ?_ _) | (with_reducible refine Kd.C_drew ?_) | exact HR1314_2.out)) hb); have n5_ := Aside0.mk (Kd.C_below (by repeat (first | (with_reducible exact HR1314_5.out) | (with_reducible refine Kd.C_alloc ?_ _) | (with_reducible refine Kd.C_drewN ?_ _) | (with_reducible refine Kd.C_drew ?_) | exact HR1314_5.out)) hb); have n6_ := Aside0.mk (below_step zb hb); have n7_ := Aside0.mk (hbox); have n8_ := Aside0.mk ((by rw [hg]; exact (below_size zb) : w.heap.size ≤ gb1315)); have n9_ := Aside0.mk ((by rw [hg]; exact (below_size zb) : w.heap.size ≤ gb1315)); clear HO_7; clear HO_32; clear HL1314_2; clear HL1314_5; clear HR1314_2; clear HR1314_5; clear HB; have HO_7 := n0_; have HO_32 := n1_; have HL1314_2 := n2_; have HL1314_5 := n3_; have HR1314_2 := n4_; have HR1314_5 := n5_; have HB := n6_; have BK1315 := n7_; have GW1315 := n8_; have GE1315 := n9_; clear n0_ n1_ n2_ n3_ n4_ n5_ n6_ n7_ n8_ n9_; clear hb hbox hg; have hcz30_0 : w29.cell? ⟨gb1315, 0, none⟩ = some (.int .i64 0) := (blk_cell BK1315.out 0).trans rfl; have hcz30_1 : w29.cell? ⟨gb1315, 1, none⟩ = some (.int .i64 0) := (blk_cell BK1315.out 1).trans rfl; have hcz30_2 : w29.cell? ⟨gb1315, 2, none⟩ = some (.slice none 0 0) := (blk_cell BK1315.out 2).trans rfl; have hcz30_3 : w29.cell? ⟨gb1315, 3, none⟩ = some (.int .i64 0) := (blk_cell BK1315.out 3).trans rfl; have hcz30_4 : w29.cell? ⟨gb1315, 4, none⟩ = some (.int .i64 0) := (blk_cell BK1315.out 4).trans rfl; have hcz30_5 : w29.cell? ⟨gb1315, 5, none⟩ = some (.slice none 0 0) := (blk_cell BK1315.out 5).trans rfl; have hfz30_0 := blk_frozen BK1315.out 0; have hfz30_1 := blk_frozen BK1315.out 1; have hfz30_2 := blk_frozen BK1315.out 2; have hfz30_3 := blk_frozen BK1315.out 3; have hfz30_4 := blk_frozen BK1315.out 4; have hfz30_5 := blk_frozen BK1315.out 5; have p1316 : 0 ≤ (x34_3 : Int) := oa; have q1316 : x34_3 < (l1.length : Int) := oa; obtain ⟨ad1316, A1316_2, c1316_2, A1316_5, c1316_5, e1316, hx1316_0, hx1316_1, hx1316_2, hx1316_3, hx1316_4, hx1316_5, hl1316_2, hi1316_2, hl1316_5, hi1316_5⟩ := at_T144 HR1.out x34_3 p1316 q1316; cases e1316; have hn1316_0 : ad1316.block ≠ gb1315 := Nat.ne_of_lt (Nat.lt_of_lt_of_le (zl hx1316_0) GW1315.out); have hn1316_1 : ad1316.block ≠ gb1315 := Nat.ne_of_lt (Nat.lt_of_lt_of_le (zl hx1316_0) GW1315.out); have hn1316_2 : ad1316.block ≠ gb1315 := Nat.ne_of_lt (Nat.lt_of_lt_of_le (zl hx1316_0) GW1315.out); have hn1316_3 : ad1316.block ≠ gb1315 := Nat.ne_of_lt (Nat.lt_of_lt_of_le (zl hx1316_0) GW1315.out); have hn1316_4 : ad1316.block ≠ gb1315 := Nat.ne_of_lt (Nat.lt_of_lt_of_le (zl hx1316_0) GW1315.out); have hn1316_5 : ad1316.block ≠ gb1315 := Nat.ne_of_lt (Nat.lt_of_lt_of_le (zl hx1316_0) GW1315.out); replace hx1316_0 := (HB.out.cell (World.block_lt_of_cell? w _ hx1316_0)).trans hx1316_0; replace hx1316_1 := (HB.out.cell (World.block_lt_of_cell? w _ hx1316_1)).trans hx1316_1; replace hx1316_2 := (HB.out.cell (World.block_lt_of_cell? w _ hx1316_2)).trans hx1316_2; have hz1316_2 := fun (n_ : Nat) => (show (w29.drewN n_).cell? _ = some _ from hx1316_2); replace hx1316_3 := (HB.out.cell (World.block_lt_of_cell? w _ hx1316_3)).trans hx1316_3; have hz1316_3 := fun (n_ : Nat) => (show (w29.drewN n_).cell? _ = some _ from hx1316_3); replace hx1316_4 := (HB.out.cell (World.block_lt_of_cell? w _ hx1316_4)).trans hx1316_4; replace hx1316_5 := (HB.out.cell (World.block_lt_of_cell? w _ hx1316_5)).trans hx1316_5; have HR1316_2 := Aside0.mk hi1316_2; have HC1316_2 := Aside0.mk hl1316_2; clear hi1316_2 hl1316_2; have HR1316_5 := Aside0.mk hi1316_5; have HC1316_5 := Aside0.mk hl1316_5; clear hi1316_5 hl1316_5; replace hx1316_2 := (cell_far (p := ⟨gb1315, 0, none⟩) (zn hn1316_0) (.int .i64 ((rd_T144 t1311 x34_3).f0))).trans hx1316_2; replace hx1316_3 := (cell_far (p := ⟨gb1315, 0, none⟩) (zn hn1316_0) (.int .i64 ((rd_T144 t1311 x34_3).f0))).trans hx1316_3; replace hx1316_2 := (cell_far (p := ⟨gb1315, 1, none⟩) (zn hn1316_1) (.int .i64 ((rd_T144 t1311 x34_3).f1))).trans hx1316_2; replace hx1316_3 := (cell_far (p := ⟨gb1315, 1, none⟩) (zn hn1316_1) (.int .i64 ((rd_T144 t1311 x34_3).f1))).trans hx1316_3; replace hx1316_2 := (cell_far (p := ⟨gb1315, 2, none⟩) (zn hn1316_2) (.slice A1314_2 ((rd_T144 t1311 x34_3).f2).length c1314_2)).trans hx1316_2; replace hx1316_3 := (cell_far (p := ⟨gb1315, 2, none⟩) (zn hn1316_2) (.slice A1314_2 ((rd_T144 t1311 x34_3).f2).length c1314_2)).trans hx1316_3; replace hx1316_2 := (cell_far (p := ⟨gb1315, 3, none⟩) (zn hn1316_3) (.int .i64 ((rd_T144 t1311 x34_3).f3))).trans hx1316_2; replace hx1316_3 := (cell_far (p := ⟨gb1315, 3, none⟩) (zn hn1316_3) (.int .i64 ((rd_T144 t1311 x34_3).f3))).trans hx1316_3; replace hx1316_2 := (cell_far (p := ⟨gb1315, 4, none⟩) (zn hn1316_4) (.int .i64 ((rd_T144 t1311 x34_3).f4))).trans hx1316_2; replace hx1316_3 := (cell_far (p := ⟨gb1315, 4, none⟩) (zn hn1316_4) (.int .i64 ((rd_T144 t1311 x34_3).f4))).trans hx1316_3; replace hx1316_2 := (cell_far (p := ⟨gb1315, 5, none⟩) (zn hn1316_5) (.slice A1314_5 ((rd_T144 t1311 x34_3).f5).length c1314_5)).trans hx1316_2; replace hx1316_3 := (cell_far (p := ⟨gb1315, 5, none⟩) (zn hn1316_5) (.slice A1314_5 ((rd_T144 t1311 x34_3).f5).length c1314_5)).trans hx1316_3; have hy1316_2 := fun (n_ : Nat) => ((cell_far (p := ⟨gb1315, 5, none⟩) (zn hn1316_5) (.slice A1314_5 ((rd_T144 t1311 x34_3).f5).length c1314_5)).trans ((cell_far (p := ⟨gb1315, 4, none⟩) (zn hn1316_4) (.int .i64 ((rd_T144 t1311 x34_3).f4))).trans ((cell_far (p := ⟨gb1315, 3, none⟩) (zn hn1316_3) (.int .i64 ((rd_T144 t1311 x34_3).f3))).trans ((cell_far (p := ⟨gb1315, 2, none⟩) (zn hn1316_2) (.slice A1314_2 ((rd_T144 t1311 x34_3).f2).length c1314_2)).trans ((cell_far (p := ⟨gb1315, 1, none⟩) (zn hn1316_1) (.int .i64 ((rd_T144 t1311 x34_3).f1))).trans ((cell_far (p := ⟨gb1315, 0, none⟩) (zn hn1316_0) (.int .i64 ((rd_T144 t1311 x34_3).f0))).trans (hz1316_2 n_))))))); have hy1316_3 := fun (n_ : Nat) => ((cell_far (p := ⟨gb1315, 5, none⟩) (zn hn1316_5) (.slice A1314_5 ((rd_T144 t1311 x34_3).f5).length c1314_5)).trans ((cell_far (p := ⟨gb1315, 4, none⟩) (zn hn1316_4) (.int .i64 ((rd_T144 t1311 x34_3).f4))).trans ((cell_far (p := ⟨gb1315, 3, none⟩) (zn hn1316_3) (.int .i64 ((rd_T144 t1311 x34_3).f3))).trans ((cell_far (p := ⟨gb1315, 2, none⟩) (zn hn1316_2) (.slice A1314_2 ((rd_T144 t1311 x34_3).f2).length c1314_2)).trans ((cell_far (p := ⟨gb1315, 1, none⟩) (zn hn1316_1) (.int .i64 ((rd_T144 t1311 x34_3).f1))).trans ((cell_far (p := ⟨gb1315, 0, none⟩) (zn hn1316_0) (.int .i64 ((rd_T144 t1311 x34_3).f0))).trans (hz1316_3 n_))))))); clear hn1316_0; clear hn1316_1; clear hn1316_2; clear hn1316_3; clear hn1316_4; clear hn1316_5; replace p1316 := eq_true p1316; replace q1316 := eq_true q1316))
               repeat (go_quiet (first | (go_at_call 132; (with_reducible refine (slices_Equal_string_string.calls k3 _ _ ((rd_T144 t1311 x34_3).f2) _ _ ((rd_T144 l1 x34_3).f2) true _ ?side1 ?side2 ?side3 ?side4 A26.out).mono ?_); (case side1 => repeat (first | exact ((Kd.R_reads' (by (with_reducible repeat (first | apply Kd.R_alloc | apply Kd.R_drewN | apply Kd.R_drew)); exact (Kd.R_mono (Kd.R_far (p := ⟨gb1315, 5, none⟩) (Kd.R_far (p := ⟨gb1315, 4, none⟩) (Kd.R_far (p := ⟨gb1315, 3, none⟩) (Kd.R_far (p := ⟨gb1315, 2, none⟩) (Kd.R_far (p := ⟨gb1315, 1, none⟩) (Kd.R_far (p := ⟨gb1315, 0, none⟩) (Kd.R_types HL1314_2.out BK1315.out (by decide)) (fun _ hk => hk.2) (.int .i64 ((rd_T144 t1311 x34_3).f0))) (fun _ hk => hk.2) (.int .i64 ((rd_T144 t1311 x34_3).f1))) (fun _ hk => hk.2) (.slice A1314_2 ((rd_T144 t1311 x34_3).f2).length c1314_2)) (fun _ hk => hk.2) (.int .i64 ((rd_T144 t1311 x34_3).f3))) (fun _ hk => hk.2) (.int .i64 ((rd_T144 t1311 x34_3).f4))) (fun _ hk => hk.2) (.slice A1314_5 ((rd_T144 t1311 x34_3).f5).length c1314_5)) (fun _ h_ => h_.1)))).2.2) | (with_reducible refine Kd.C_alloc ?_ _) | (with_reducible refine Kd.C_drewN ?_ _) | (with_reducible refine Kd.C_drew ?_))); (case side2 => exact HC1314_2.out); (case side3 => exact Kd.C_below HR1316_2.out (by repeat (first | (with_reducible first | exact HB.out | apply below_alloc | apply pw_below_drewN | apply below_drew1 | refine below_set ?_ GE1315.out) | exact HB.out))); (case side4 => exact HC1316_2.out); rintro e w' ⟨rfl, ⟨nd, rfl⟩⟩; (try exact zd))); try go_wp2)
               go_roundg k3
               case measure => have := HJ2.out; have := HJ9.out; have := HK3.out; omega
               case rel => exact ⟨(wrap64 (x34_3 + 1)), zf, H', ⟨by have := HJ2.out; have := HJ9.out; have := HK3.out; omega⟩, ⟨by (with_reducible repeat (first | apply Kd.S_alloc | apply Kd.S_drewN | apply Kd.S_drew)); exact Kd.S_mono (Kd.S_far (p := ⟨gb1315, 5, none⟩) (Kd.S_far (p := ⟨gb1315, 4, none⟩) (Kd.S_far (p := ⟨gb1315, 3, none⟩) (Kd.S_far (p := ⟨gb1315, 2, none⟩) (Kd.S_far (p := ⟨gb1315, 1, none⟩) (Kd.S_far (p := ⟨gb1315, 0, none⟩) (Kd.S_types HO_7.out BK1315.out (by decide)) (fun _ hk => hk.2) (.int .i64 ((rd_T144 t1311 x34_3).f0))) (fun _ hk => hk.2) (.int .i64 ((rd_T144 t1311 x34_3).f1))) (fun _ hk => hk.2) (.slice A1314_2 ((rd_T144 t1311 x34_3).f2).length c1314_2)) (fun _ hk => hk.2) (.int .i64 ((rd_T144 t1311 x34_3).f3))) (fun _ hk => hk.2) (.int .i64 ((rd_T144 t1311 x34_3).f4))) (fun _ hk => hk.2) (.slice A1314_5 ((rd_T144 t1311 x34_3).f5).length c1314_5)) (fun _ hk => trivial)⟩, ⟨by (with_reducible repeat (first | apply Kd.S_alloc | apply Kd.S_drewN | apply Kd.S_drew)); exact Kd.S_mono (Kd.S_far (p := ⟨gb1315, 5, none⟩) (Kd.S_far (p := ⟨gb1315, 4, none⟩) (Kd.S_far (p := ⟨gb1315, 3, none⟩) (Kd.S_far (p := ⟨gb1315, 2, none⟩) (Kd.S_far (p := ⟨gb1315, 1, none⟩) (Kd.S_far (p := ⟨gb1315, 0, none⟩) (Kd.S_mono HO_32.out (fun k_ hk => (⟨hk, hk.2⟩ : _ ∧ k_ ≠ gb1315))) (fun _ hk => hk.2) (.int .i64 ((rd_T144 t1311 x34_3).f0))) (fun _ hk => hk.2) (.int .i64 ((rd_T144 t1311 x34_3).f1))) (fun _ hk => hk.2) (.slice A1314_2 ((rd_T144 t1311 x34_3).f2).length c1314_2)) (fun _ hk => hk.2) (.int .i64 ((rd_T144 t1311 x34_3).f3))) (fun _ hk => hk.2) (.int .i64 ((rd_T144 t1311 x34_3).f4))) (fun _ hk => hk.2) (.slice A1314_5 ((rd_T144 t1311 x34_3).f5).length c1314_5)) (fun _ hk => trivial)⟩, ⟨by repeat (first | (with_reducible first | exact HB.out | apply below_alloc | apply pw_below_drewN | apply below_drew1 | refine below_set ?_ GE1315.out) | exact HB.out)⟩⟩
              ·rw [if_neg c28] at H
               have c28b0 : (((rd_T144 t1311 x34_3).f3) == ((rd_T144 l1 x34_3).f3)) = false := beq_eq_false_iff_ne.mpr c28
               have c28b1 : (((rd_T144 t1311 x34_3).f3) != ((rd_T144 l1 x34_3).f3)) = true := bne_iff_ne.mpr c28
               simp only [Option.some.injEq, Prod.mk.injEq] at H
               obtain ⟨rfl, rfl, rfl⟩ := H
               have p1314 : 0 ≤ (x34_3 : Int) := oa
               have q1314 : x34_3 < (t1311.length : Int) := oa
               obtain ⟨ad1314, A1314_2, c1314_2, A1314_5, c1314_5, e1314, hx1314_0, hx1314_1, hx1314_2, hx1314_3, hx1314_4, hx1314_5, hl1314_2, hi1314_2, hl1314_5, hi1314_5⟩ := at_T144 (Kd.S_reads' HO_32.out).2.2 x34_3 p1314 q1314
               cases e1314
               obtain ⟨ce1314, hce1314, hMe1314, hcc1314⟩ := Kd.S_get HO_32.out z144 x34_3 p1314 (by first | exact q1314 | exact oa | (have e_ := (Kd.S_reads' HO_32.out).1; omega))
               obtain ⟨ve1314_2, ve1314_5, rfl, ge1314_2, ge1314_5⟩ := k144_openM hMe1314
               have hv1314_2 := hcc1314 2 _ rfl
               rw [add_field _ _ 2 (by omega)] at hv1314_2
               replace hv1314_2 := Option.some.inj (hv1314_2.symm.trans hx1314_2)
               rw [hv1314_2] at ge1314_2
               have HL1314_2 := Aside0.mk (show Kd.R Kd.string 9 _ _ _ _ ((rd_T144 t1311 x34_3).f2) from ge1314_2)
               clear hv1314_2 ge1314_2
               have hv1314_5 := hcc1314 5 _ rfl
               rw [add_field _ _ 5 (by omega)] at hv1314_5
               replace hv1314_5 := Option.some.inj (hv1314_5.symm.trans hx1314_5)
               rw [hv1314_5] at ge1314_5
               have HL1314_5 := Aside0.mk (show Kd.R Kd.string 9 _ _ _ _ ((rd_T144 t1311 x34_3).f5) from ge1314_5)
               clear hv1314_5 ge1314_5
               clear hcc1314 hce1314
               have HR1314_2 := Aside0.mk hi1314_2
               have HC1314_2 := Aside0.mk hl1314_2
               clear hi1314_2 hl1314_2
               have HR1314_5 := Aside0.mk hi1314_5
               have HC1314_5 := Aside0.mk hl1314_5
               clear hi1314_5 hl1314_5
               replace p1314 := eq_true p1314
               replace q1314 := eq_true q1314
               go_wp2_with (first | ((with_reducible refine gate_dst (N := 9) rfl ?_); (try (refine gate_guard (by rfl) ?_; dsimp only)); refine box_event ?hg (N := 9) ?hd (cs := #[.int .i64 0, .int .i64 0, .slice none 0 0, .int .i64 0, .int .i64 0, .slice none 0 0]) (t := 144) ?hr ?_; (case hd => rfl); (case hg => rfl); (case hr => first | (go_simp; done) | (go_simp; rfl)); intro gb1315 hg w31 hbox hb; have n0_ := Aside0.mk (Kd.S_below (zs HO_7.out) hb); have n1_ := Aside0.mk (Kd.S_below (Kd.S_elderB (zs HO_32.out) gb1315 (Nat.le_of_eq hg.symm)) hb); have n2_ := Aside0.mk (Kd.R_below (zr HL1314_2.out) hb); have n3_ := Aside0.mk (Kd.R_below (zr HL1314_5.out) hb); have n4_ := Aside0.mk (Kd.C_below (by repeat (first | (with_reducible exact HR1314_2.out) | (with_reducible refine Kd.C_alloc ?_ _) | (with_reducible refine Kd.C_drewN ?_ _) | (with_reducible refine Kd.C_drew ?_) | exact HR1314_2.out)) hb); have n5_ := Aside0.mk (Kd.C_below (by repeat (first | (with_reducible exact HR1314_5.out) | (with_reducible refine Kd.C_alloc ?_ _) | (with_reducible refine Kd.C_drewN ?_ _) | (with_reducible refine Kd.C_drew ?_) | exact HR1314_5.out)) hb); have n6_ := Aside0.mk (below_step zb hb); have n7_ := Aside0.mk (hbox); have n8_ := Aside0.mk ((by rw [hg]; exact (below_size zb) : w.heap.size ≤ gb1315)); have n9_ := Aside0.mk ((by rw [hg]; exact (below_size zb) : w.heap.size ≤ gb1315)); clear HO_7; clear HO_32; clear HL1314_2; clear HL1314_5; clear HR1314_2; clear HR1314_5; clear HB; have HO_7 := n0_; have HO_32 := n1_; have HL1314_2 := n2_; have HL1314_5 := n3_; have HR1314_2 := n4_; have HR1314_5 := n5_; have HB := n6_; have BK1315 := n7_; have GW1315 := n8_; have GE1315 := n9_; clear n0_ n1_ n2_ n3_ n4_ n5_ n6_ n7_ n8_ n9_; clear hb hbox hg; have hcz32_0 : w31.cell? ⟨gb1315, 0, none⟩ = some (.int .i64 0) := (blk_cell BK1315.out 0).trans rfl; have hcz32_1 : w31.cell? ⟨gb1315, 1, none⟩ = some (.int .i64 0) := (blk_cell BK1315.out 1).trans rfl; have hcz32_2 : w31.cell? ⟨gb1315, 2, none⟩ = some (.slice none 0 0) := (blk_cell BK1315.out 2).trans rfl; have hcz32_3 : w31.cell? ⟨gb1315, 3, none⟩ = some (.int .i64 0) := (blk_cell BK1315.out 3).trans rfl; have hcz32_4 : w31.cell? ⟨gb1315, 4, none⟩ = some (.int .i64 0) := (blk_cell BK1315.out 4).trans rfl; have hcz32_5 : w31.cell? ⟨gb1315, 5, none⟩ = some (.slice none 0 0) := (blk_cell BK1315.out 5).trans rfl; have hfz32_0 := blk_frozen BK1315.out 0; have hfz32_1 := blk_frozen BK1315.out 1; have hfz32_2 := blk_frozen BK1315.out 2; have hfz32_3 := blk_frozen BK1315.out 3; have hfz32_4 := blk_frozen BK1315.out 4; have hfz32_5 := blk_frozen BK1315.out 5; have p1316 : 0 ≤ (x34_3 : Int) := oa; have q1316 : x34_3 < (l1.length : Int) := oa; obtain ⟨ad1316, A1316_2, c1316_2, A1316_5, c1316_5, e1316, hx1316_0, hx1316_1, hx1316_2, hx1316_3, hx1316_4, hx1316_5, hl1316_2, hi1316_2, hl1316_5, hi1316_5⟩ := at_T144 HR1.out x34_3 p1316 q1316; cases e1316; have hn1316_0 : ad1316.block ≠ gb1315 := Nat.ne_of_lt (Nat.lt_of_lt_of_le (zl hx1316_0) GW1315.out); have hn1316_1 : ad1316.block ≠ gb1315 := Nat.ne_of_lt (Nat.lt_of_lt_of_le (zl hx1316_0) GW1315.out); have hn1316_2 : ad1316.block ≠ gb1315 := Nat.ne_of_lt (Nat.lt_of_lt_of_le (zl hx1316_0) GW1315.out); have hn1316_3 : ad1316.block ≠ gb1315 := Nat.ne_of_lt (Nat.lt_of_lt_of_le (zl hx1316_0) GW1315.out); have hn1316_4 : ad1316.block ≠ gb1315 := Nat.ne_of_lt (Nat.lt_of_lt_of_le (zl hx1316_0) GW1315.out); have hn1316_5 : ad1316.block ≠ gb1315 := Nat.ne_of_lt (Nat.lt_of_lt_of_le (zl hx1316_0) GW1315.out); replace hx1316_0 := (HB.out.cell (World.block_lt_of_cell? w _ hx1316_0)).trans hx1316_0; replace hx1316_1 := (HB.out.cell (World.block_lt_of_cell? w _ hx1316_1)).trans hx1316_1; replace hx1316_2 := (HB.out.cell (World.block_lt_of_cell? w _ hx1316_2)).trans hx1316_2; have hz1316_2 := fun (n_ : Nat) => (show (w31.drewN n_).cell? _ = some _ from hx1316_2); replace hx1316_3 := (HB.out.cell (World.block_lt_of_cell? w _ hx1316_3)).trans hx1316_3; have hz1316_3 := fun (n_ : Nat) => (show (w31.drewN n_).cell? _ = some _ from hx1316_3); replace hx1316_4 := (HB.out.cell (World.block_lt_of_cell? w _ hx1316_4)).trans hx1316_4; replace hx1316_5 := (HB.out.cell (World.block_lt_of_cell? w _ hx1316_5)).trans hx1316_5; have HR1316_2 := Aside0.mk hi1316_2; have HC1316_2 := Aside0.mk hl1316_2; clear hi1316_2 hl1316_2; have HR1316_5 := Aside0.mk hi1316_5; have HC1316_5 := Aside0.mk hl1316_5; clear hi1316_5 hl1316_5; replace hx1316_2 := (cell_far (p := ⟨gb1315, 0, none⟩) (zn hn1316_0) (.int .i64 ((rd_T144 t1311 x34_3).f0))).trans hx1316_2; replace hx1316_3 := (cell_far (p := ⟨gb1315, 0, none⟩) (zn hn1316_0) (.int .i64 ((rd_T144 t1311 x34_3).f0))).trans hx1316_3; replace hx1316_2 := (cell_far (p := ⟨gb1315, 1, none⟩) (zn hn1316_1) (.int .i64 ((rd_T144 t1311 x34_3).f1))).trans hx1316_2; replace hx1316_3 := (cell_far (p := ⟨gb1315, 1, none⟩) (zn hn1316_1) (.int .i64 ((rd_T144 t1311 x34_3).f1))).trans hx1316_3; replace hx1316_2 := (cell_far (p := ⟨gb1315, 2, none⟩) (zn hn1316_2) (.slice A1314_2 ((rd_T144 t1311 x34_3).f2).length c1314_2)).trans hx1316_2; replace hx1316_3 := (cell_far (p := ⟨gb1315, 2, none⟩) (zn hn1316_2) (.slice A1314_2 ((rd_T144 t1311 x34_3).f2).length c1314_2)).trans hx1316_3; replace hx1316_2 := (cell_far (p := ⟨gb1315, 3, none⟩) (zn hn1316_3) (.int .i64 ((rd_T144 t1311 x34_3).f3))).trans hx1316_2; replace hx1316_3 := (cell_far (p := ⟨gb1315, 3, none⟩) (zn hn1316_3) (.int .i64 ((rd_T144 t1311 x34_3).f3))).trans hx1316_3; replace hx1316_2 := (cell_far (p := ⟨gb1315, 4, none⟩) (zn hn1316_4) (.int .i64 ((rd_T144 t1311 x34_3).f4))).trans hx1316_2; replace hx1316_3 := (cell_far (p := ⟨gb1315, 4, none⟩) (zn hn1316_4) (.int .i64 ((rd_T144 t1311 x34_3).f4))).trans hx1316_3; replace hx1316_2 := (cell_far (p := ⟨gb1315, 5, none⟩) (zn hn1316_5) (.slice A1314_5 ((rd_T144 t1311 x34_3).f5).length c1314_5)).trans hx1316_2; replace hx1316_3 := (cell_far (p := ⟨gb1315, 5, none⟩) (zn hn1316_5) (.slice A1314_5 ((rd_T144 t1311 x34_3).f5).length c1314_5)).trans hx1316_3; have hy1316_2 := fun (n_ : Nat) => ((cell_far (p := ⟨gb1315, 5, none⟩) (zn hn1316_5) (.slice A1314_5 ((rd_T144 t1311 x34_3).f5).length c1314_5)).trans ((cell_far (p := ⟨gb1315, 4, none⟩) (zn hn1316_4) (.int .i64 ((rd_T144 t1311 x34_3).f4))).trans ((cell_far (p := ⟨gb1315, 3, none⟩) (zn hn1316_3) (.int .i64 ((rd_T144 t1311 x34_3).f3))).trans ((cell_far (p := ⟨gb1315, 2, none⟩) (zn hn1316_2) (.slice A1314_2 ((rd_T144 t1311 x34_3).f2).length c1314_2)).trans ((cell_far (p := ⟨gb1315, 1, none⟩) (zn hn1316_1) (.int .i64 ((rd_T144 t1311 x34_3).f1))).trans ((cell_far (p := ⟨gb1315, 0, none⟩) (zn hn1316_0) (.int .i64 ((rd_T144 t1311 x34_3).f0))).trans (hz1316_2 n_))))))); have hy1316_3 := fun (n_ : Nat) => ((cell_far (p := ⟨gb1315, 5, none⟩) (zn hn1316_5) (.slice A1314_5 ((rd_T144 t1311 x34_3).f5).length c1314_5)).trans ((cell_far (p := ⟨gb1315, 4, none⟩) (zn hn1316_4) (.int .i64 ((rd_T144 t1311 x34_3).f4))).trans ((cell_far (p := ⟨gb1315, 3, none⟩) (zn hn1316_3) (.int .i64 ((rd_T144 t1311 x34_3).f3))).trans ((cell_far (p := ⟨gb1315, 2, none⟩) (zn hn1316_2) (.slice A1314_2 ((rd_T144 t1311 x34_3).f2).length c1314_2)).trans ((cell_far (p := ⟨gb1315, 1, none⟩) (zn hn1316_1) (.int .i64 ((rd_T144 t1311 x34_3).f1))).trans ((cell_far (p := ⟨gb1315, 0, none⟩) (zn hn1316_0) (.int .i64 ((rd_T144 t1311 x34_3).f0))).trans (hz1316_3 n_))))))); clear hn1316_0; clear hn1316_1; clear hn1316_2; clear hn1316_3; clear hn1316_4; clear hn1316_5; replace p1316 := eq_true p1316; replace q1316 := eq_true q1316))
               repeat (go_quiet (first | (go_at_call 132; (with_reducible refine (slices_Equal_string_string.calls k3 _ _ ((rd_T144 t1311 x34_3).f2) _ _ ((rd_T144 l1 x34_3).f2) true _ ?side1 ?side2 ?side3 ?side4 A26.out).mono ?_); (case side1 => repeat (first | exact ((Kd.R_reads' (by (with_reducible repeat (first | apply Kd.R_alloc | apply Kd.R_drewN | apply Kd.R_drew)); exact (Kd.R_mono (Kd.R_far (p := ⟨gb1315, 5, none⟩) (Kd.R_far (p := ⟨gb1315, 4, none⟩) (Kd.R_far (p := ⟨gb1315, 3, none⟩) (Kd.R_far (p := ⟨gb1315, 2, none⟩) (Kd.R_far (p := ⟨gb1315, 1, none⟩) (Kd.R_far (p := ⟨gb1315, 0, none⟩) (Kd.R_types HL1314_2.out BK1315.out (by decide)) (fun _ hk => hk.2) (.int .i64 ((rd_T144 t1311 x34_3).f0))) (fun _ hk => hk.2) (.int .i64 ((rd_T144 t1311 x34_3).f1))) (fun _ hk => hk.2) (.slice A1314_2 ((rd_T144 t1311 x34_3).f2).length c1314_2)) (fun _ hk => hk.2) (.int .i64 ((rd_T144 t1311 x34_3).f3))) (fun _ hk => hk.2) (.int .i64 ((rd_T144 t1311 x34_3).f4))) (fun _ hk => hk.2) (.slice A1314_5 ((rd_T144 t1311 x34_3).f5).length c1314_5)) (fun _ h_ => h_.1)))).2.2) | (with_reducible refine Kd.C_alloc ?_ _) | (with_reducible refine Kd.C_drewN ?_ _) | (with_reducible refine Kd.C_drew ?_))); (case side2 => exact HC1314_2.out); (case side3 => exact Kd.C_below HR1316_2.out (by repeat (first | (with_reducible first | exact HB.out | apply below_alloc | apply pw_below_drewN | apply below_drew1 | refine below_set ?_ GE1315.out) | exact HB.out))); (case side4 => exact HC1316_2.out); rintro e w' ⟨rfl, ⟨nd, rfl⟩⟩; (try exact zd))); try go_wp2)
               go_ret3
               exact ⟨_, by first | rfl | (simp [errW_none, errW_some] <;> rfl) | (simp [*, errW_none, errW_some] <;> rfl), by first | exact Kd.S_nil _ _ _ _ _ | exact Kd.Q_nil _ _ _ _ _ | exact Kd.R_nil _ _ _ _ _, by repeat (first | (with_reducible first | exact HB.out | apply below_alloc | apply pw_below_drewN | apply below_drew1 | refine below_set ?_ GE1315.out) | exact HB.out)⟩
             ·replace c27 := Bool.eq_false_iff.mpr c27
              subst c27
              have H1 : (some (([] : List (S111)), 2, true)) = some (r1, r2, r3) := by rw [if_neg (show ¬ (false = true) by decide)] at H; exact H
              clear H
              have H := H1
              clear H1
              simp only [Option.some.injEq, Prod.mk.injEq] at H
              obtain ⟨rfl, rfl, rfl⟩ := H
              have p1314 : 0 ≤ (x34_3 : Int) := oa
              have q1314 : x34_3 < (t1311.length : Int) := oa
              obtain ⟨ad1314, A1314_2, c1314_2, A1314_5, c1314_5, e1314, hx1314_0, hx1314_1, hx1314_2, hx1314_3, hx1314_4, hx1314_5, hl1314_2, hi1314_2, hl1314_5, hi1314_5⟩ := at_T144 (Kd.S_reads' HO_32.out).2.2 x34_3 p1314 q1314
              cases e1314
              obtain ⟨ce1314, hce1314, hMe1314, hcc1314⟩ := Kd.S_get HO_32.out z144 x34_3 p1314 (by first | exact q1314 | exact oa | (have e_ := (Kd.S_reads' HO_32.out).1; omega))
              obtain ⟨ve1314_2, ve1314_5, rfl, ge1314_2, ge1314_5⟩ := k144_openM hMe1314
              have hv1314_2 := hcc1314 2 _ rfl
              rw [add_field _ _ 2 (by omega)] at hv1314_2
              replace hv1314_2 := Option.some.inj (hv1314_2.symm.trans hx1314_2)
              rw [hv1314_2] at ge1314_2
              have HL1314_2 := Aside0.mk (show Kd.R Kd.string 9 _ _ _ _ ((rd_T144 t1311 x34_3).f2) from ge1314_2)
              clear hv1314_2 ge1314_2
              have hv1314_5 := hcc1314 5 _ rfl
              rw [add_field _ _ 5 (by omega)] at hv1314_5
              replace hv1314_5 := Option.some.inj (hv1314_5.symm.trans hx1314_5)
              rw [hv1314_5] at ge1314_5
              have HL1314_5 := Aside0.mk (show Kd.R Kd.string 9 _ _ _ _ ((rd_T144 t1311 x34_3).f5) from ge1314_5)
              clear hv1314_5 ge1314_5
              clear hcc1314 hce1314
              have HR1314_2 := Aside0.mk hi1314_2
              have HC1314_2 := Aside0.mk hl1314_2
              clear hi1314_2 hl1314_2
              have HR1314_5 := Aside0.mk hi1314_5
              have HC1314_5 := Aside0.mk hl1314_5
              clear hi1314_5 hl1314_5
              replace p1314 := eq_true p1314
              replace q1314 := eq_true q1314
              go_wp2_with (first | ((with_reducible refine gate_dst (N := 9) rfl ?_); (try (refine gate_guard (by rfl) ?_; dsimp only)); refine box_event ?hg (N := 9) ?hd (cs := #[.int .i64 0, .int .i64 0, .slice none 0 0, .int .i64 0, .int .i64 0, .slice none 0 0]) (t := 144) ?hr ?_; (case hd => rfl); (case hg => rfl); (case hr => first | (go_simp; done) | (go_simp; rfl)); intro gb1315 hg w33 hbox hb; have n0_ := Aside0.mk (Kd.S_below (zs HO_7.out) hb); have n1_ := Aside0.mk (Kd.S_below (Kd.S_elderB (zs HO_32.out) gb1315 (Nat.le_of_eq hg.symm)) hb); have n2_ := Aside0.mk (Kd.R_below (zr HL1314_2.out) hb); have n3_ := Aside0.mk (Kd.R_below (zr HL1314_5.out) hb); have n4_ := Aside0.mk (Kd.C_below (by repeat (first | (with_reducible exact HR1314_2.out) | (with_reducible refine Kd.C_alloc ?_ _) | (with_reducible refine Kd.C_drewN ?_ _) | (with_reducible refine Kd.C_drew ?_) | exact HR1314_2.out)) hb); have n5_ := Aside0.mk (Kd.C_below (by repeat (first | (with_reducible exact HR1314_5.out) | (with_reducible refine Kd.C_alloc ?_ _) | (with_reducible refine Kd.C_drewN ?_ _) | (with_reducible refine Kd.C_drew ?_) | exact HR1314_5.out)) hb); have n6_ := Aside0.mk (below_step zb hb); have n7_ := Aside0.mk (hbox); have n8_ := Aside0.mk ((by rw [hg]; exact (below_size zb) : w.heap.size ≤ gb1315)); have n9_ := Aside0.mk ((by rw [hg]; exact (below_size zb) : w.heap.size ≤ gb1315)); clear HO_7; clear HO_32; clear HL1314_2; clear HL1314_5; clear HR1314_2; clear HR1314_5; clear HB; have HO_7 := n0_; have HO_32 := n1_; have HL1314_2 := n2_; have HL1314_5 := n3_; have HR1314_2 := n4_; have HR1314_5 := n5_; have HB := n6_; have BK1315 := n7_; have GW1315 := n8_; have GE1315 := n9_; clear n0_ n1_ n2_ n3_ n4_ n5_ n6_ n7_ n8_ n9_; clear hb hbox hg; have hcz34_0 : w33.cell? ⟨gb1315, 0, none⟩ = some (.int .i64 0) := (blk_cell BK1315.out 0).trans rfl; have hcz34_1 : w33.cell? ⟨gb1315, 1, none⟩ = some (.int .i64 0) := (blk_cell BK1315.out 1).trans rfl; have hcz34_2 : w33.cell? ⟨gb1315, 2, none⟩ = some (.slice none 0 0) := (blk_cell BK1315.out 2).trans rfl; have hcz34_3 : w33.cell? ⟨gb1315, 3, none⟩ = some (.int .i64 0) := (blk_cell BK1315.out 3).trans rfl; have hcz34_4 : w33.cell? ⟨gb1315, 4, none⟩ = some (.int .i64 0) := (blk_cell BK1315.out 4).trans rfl; have hcz34_5 : w33.cell? ⟨gb1315, 5, none⟩ = some (.slice none 0 0) := (blk_cell BK1315.out 5).trans rfl; have hfz34_0 := blk_frozen BK1315.out 0; have hfz34_1 := blk_frozen BK1315.out 1; have hfz34_2 := blk_frozen BK1315.out 2; have hfz34_3 := blk_frozen BK1315.out 3; have hfz34_4 := blk_frozen BK1315.out 4; have hfz34_5 := blk_frozen BK1315.out 5; have p1316 : 0 ≤ (x34_3 : Int) := oa; have q1316 : x34_3 < (l1.length : Int) := oa; obtain ⟨ad1316, A1316_2, c1316_2, A1316_5, c1316_5, e1316, hx1316_0, hx1316_1, hx1316_2, hx1316_3, hx1316_4, hx1316_5, hl1316_2, hi1316_2, hl1316_5, hi1316_5⟩ := at_T144 HR1.out x34_3 p1316 q1316; cases e1316; have hn1316_0 : ad1316.block ≠ gb1315 := Nat.ne_of_lt (Nat.lt_of_lt_of_le (zl hx1316_0) GW1315.out); have hn1316_1 : ad1316.block ≠ gb1315 := Nat.ne_of_lt (Nat.lt_of_lt_of_le (zl hx1316_0) GW1315.out); have hn1316_2 : ad1316.block ≠ gb1315 := Nat.ne_of_lt (Nat.lt_of_lt_of_le (zl hx1316_0) GW1315.out); have hn1316_3 : ad1316.block ≠ gb1315 := Nat.ne_of_lt (Nat.lt_of_lt_of_le (zl hx1316_0) GW1315.out); have hn1316_4 : ad1316.block ≠ gb1315 := Nat.ne_of_lt (Nat.lt_of_lt_of_le (zl hx1316_0) GW1315.out); have hn1316_5 : ad1316.block ≠ gb1315 := Nat.ne_of_lt (Nat.lt_of_lt_of_le (zl hx1316_0) GW1315.out); replace hx1316_0 := (HB.out.cell (World.block_lt_of_cell? w _ hx1316_0)).trans hx1316_0; replace hx1316_1 := (HB.out.cell (World.block_lt_of_cell? w _ hx1316_1)).trans hx1316_1; replace hx1316_2 := (HB.out.cell (World.block_lt_of_cell? w _ hx1316_2)).trans hx1316_2; have hz1316_2 := fun (n_ : Nat) => (show (w33.drewN n_).cell? _ = some _ from hx1316_2); replace hx1316_3 := (HB.out.cell (World.block_lt_of_cell? w _ hx1316_3)).trans hx1316_3; have hz1316_3 := fun (n_ : Nat) => (show (w33.drewN n_).cell? _ = some _ from hx1316_3); replace hx1316_4 := (HB.out.cell (World.block_lt_of_cell? w _ hx1316_4)).trans hx1316_4; replace hx1316_5 := (HB.out.cell (World.block_lt_of_cell? w _ hx1316_5)).trans hx1316_5; have HR1316_2 := Aside0.mk hi1316_2; have HC1316_2 := Aside0.mk hl1316_2; clear hi1316_2 hl1316_2; have HR1316_5 := Aside0.mk hi1316_5; have HC1316_5 := Aside0.mk hl1316_5; clear hi1316_5 hl1316_5; replace hx1316_2 := (cell_far (p := ⟨gb1315, 0, none⟩) (zn hn1316_0) (.int .i64 ((rd_T144 t1311 x34_3).f0))).trans hx1316_2; replace hx1316_3 := (cell_far (p := ⟨gb1315, 0, none⟩) (zn hn1316_0) (.int .i64 ((rd_T144 t1311 x34_3).f0))).trans hx1316_3; replace hx1316_2 := (cell_far (p := ⟨gb1315, 1, none⟩) (zn hn1316_1) (.int .i64 ((rd_T144 t1311 x34_3).f1))).trans hx1316_2; replace hx1316_3 := (cell_far (p := ⟨gb1315, 1, none⟩) (zn hn1316_1) (.int .i64 ((rd_T144 t1311 x34_3).f1))).trans hx1316_3; replace hx1316_2 := (cell_far (p := ⟨gb1315, 2, none⟩) (zn hn1316_2) (.slice A1314_2 ((rd_T144 t1311 x34_3).f2).length c1314_2)).trans hx1316_2; replace hx1316_3 := (cell_far (p := ⟨gb1315, 2, none⟩) (zn hn1316_2) (.slice A1314_2 ((rd_T144 t1311 x34_3).f2).length c1314_2)).trans hx1316_3; replace hx1316_2 := (cell_far (p := ⟨gb1315, 3, none⟩) (zn hn1316_3) (.int .i64 ((rd_T144 t1311 x34_3).f3))).trans hx1316_2; replace hx1316_3 := (cell_far (p := ⟨gb1315, 3, none⟩) (zn hn1316_3) (.int .i64 ((rd_T144 t1311 x34_3).f3))).trans hx1316_3; replace hx1316_2 := (cell_far (p := ⟨gb1315, 4, none⟩) (zn hn1316_4) (.int .i64 ((rd_T144 t1311 x34_3).f4))).trans hx1316_2; replace hx1316_3 := (cell_far (p := ⟨gb1315, 4, none⟩) (zn hn1316_4) (.int .i64 ((rd_T144 t1311 x34_3).f4))).trans hx1316_3; replace hx1316_2 := (cell_far (p := ⟨gb1315, 5, none⟩) (zn hn1316_5) (.slice A1314_5 ((rd_T144 t1311 x34_3).f5).length c1314_5)).trans hx1316_2; replace hx1316_3 := (cell_far (p := ⟨gb1315, 5, none⟩) (zn hn1316_5) (.slice A1314_5 ((rd_T144 t1311 x34_3).f5).length c1314_5)).trans hx1316_3; have hy1316_2 := fun (n_ : Nat) => ((cell_far (p := ⟨gb1315, 5, none⟩) (zn hn1316_5) (.slice A1314_5 ((rd_T144 t1311 x34_3).f5).length c1314_5)).trans ((cell_far (p := ⟨gb1315, 4, none⟩) (zn hn1316_4) (.int .i64 ((rd_T144 t1311 x34_3).f4))).trans ((cell_far (p := ⟨gb1315, 3, none⟩) (zn hn1316_3) (.int .i64 ((rd_T144 t1311 x34_3).f3))).trans ((cell_far (p := ⟨gb1315, 2, none⟩) (zn hn1316_2) (.slice A1314_2 ((rd_T144 t1311 x34_3).f2).length c1314_2)).trans ((cell_far (p := ⟨gb1315, 1, none⟩) (zn hn1316_1) (.int .i64 ((rd_T144 t1311 x34_3).f1))).trans ((cell_far (p := ⟨gb1315, 0, none⟩) (zn hn1316_0) (.int .i64 ((rd_T144 t1311 x34_3).f0))).trans (hz1316_2 n_))))))); have hy1316_3 := fun (n_ : Nat) => ((cell_far (p := ⟨gb1315, 5, none⟩) (zn hn1316_5) (.slice A1314_5 ((rd_T144 t1311 x34_3).f5).length c1314_5)).trans ((cell_far (p := ⟨gb1315, 4, none⟩) (zn hn1316_4) (.int .i64 ((rd_T144 t1311 x34_3).f4))).trans ((cell_far (p := ⟨gb1315, 3, none⟩) (zn hn1316_3) (.int .i64 ((rd_T144 t1311 x34_3).f3))).trans ((cell_far (p := ⟨gb1315, 2, none⟩) (zn hn1316_2) (.slice A1314_2 ((rd_T144 t1311 x34_3).f2).length c1314_2)).trans ((cell_far (p := ⟨gb1315, 1, none⟩) (zn hn1316_1) (.int .i64 ((rd_T144 t1311 x34_3).f1))).trans ((cell_far (p := ⟨gb1315, 0, none⟩) (zn hn1316_0) (.int .i64 ((rd_T144 t1311 x34_3).f0))).trans (hz1316_3 n_))))))); clear hn1316_0; clear hn1316_1; clear hn1316_2; clear hn1316_3; clear hn1316_4; clear hn1316_5; replace p1316 := eq_true p1316; replace q1316 := eq_true q1316))
              repeat (go_quiet (first | (go_at_call 132; (with_reducible refine (slices_Equal_string_string.calls k3 _ _ ((rd_T144 t1311 x34_3).f2) _ _ ((rd_T144 l1 x34_3).f2) false _ ?side1 ?side2 ?side3 ?side4 A26.out).mono ?_); (case side1 => repeat (first | exact ((Kd.R_reads' (by (with_reducible repeat (first | apply Kd.R_alloc | apply Kd.R_drewN | apply Kd.R_drew)); exact (Kd.R_mono (Kd.R_far (p := ⟨gb1315, 5, none⟩) (Kd.R_far (p := ⟨gb1315, 4, none⟩) (Kd.R_far (p := ⟨gb1315, 3, none⟩) (Kd.R_far (p := ⟨gb1315, 2, none⟩) (Kd.R_far (p := ⟨gb1315, 1, none⟩) (Kd.R_far (p := ⟨gb1315, 0, none⟩) (Kd.R_types HL1314_2.out BK1315.out (by decide)) (fun _ hk => hk.2) (.int .i64 ((rd_T144 t1311 x34_3).f0))) (fun _ hk => hk.2) (.int .i64 ((rd_T144 t1311 x34_3).f1))) (fun _ hk => hk.2) (.slice A1314_2 ((rd_T144 t1311 x34_3).f2).length c1314_2)) (fun _ hk => hk.2) (.int .i64 ((rd_T144 t1311 x34_3).f3))) (fun _ hk => hk.2) (.int .i64 ((rd_T144 t1311 x34_3).f4))) (fun _ hk => hk.2) (.slice A1314_5 ((rd_T144 t1311 x34_3).f5).length c1314_5)) (fun _ h_ => h_.1)))).2.2) | (with_reducible refine Kd.C_alloc ?_ _) | (with_reducible refine Kd.C_drewN ?_ _) | (with_reducible refine Kd.C_drew ?_))); (case side2 => exact HC1314_2.out); (case side3 => exact Kd.C_below HR1316_2.out (by repeat (first | (with_reducible first | exact HB.out | apply below_alloc | apply pw_below_drewN | apply below_drew1 | refine below_set ?_ GE1315.out) | exact HB.out))); (case side4 => exact HC1316_2.out); rintro e w' ⟨rfl, ⟨nd, rfl⟩⟩; (try exact zd))); try go_wp2)
              go_ret3
              exact ⟨_, by first | rfl | (simp [errW_none, errW_some] <;> rfl) | (simp [*, errW_none, errW_some] <;> rfl), by first | exact Kd.S_nil _ _ _ _ _ | exact Kd.Q_nil _ _ _ _ _ | exact Kd.R_nil _ _ _ _ _, by repeat (first | (with_reducible first | exact HB.out | apply below_alloc | apply pw_below_drewN | apply below_drew1 | refine below_set ?_ GE1315.out) | exact HB.out)⟩
            ·rw [if_neg c25] at H
             exact absurd H (by simp)
           ·rw [if_neg c24] at H
            exact absurd H (by simp)
          ·rw [if_neg c23] at H
           exact absurd H (by simp)
         ·rw [if_neg c22] at H
          have c22b0 : decide (x34_3 < (t1311.length : Int)) = false := decide_eq_false c22
          clear c22
          simp only [Option.some.injEq, Prod.mk.injEq] at H
          obtain ⟨rfl, rfl, rfl⟩ := H
          go_wp2
          repeat (go_quiet (fail); try go_wp2)
          go_ret3
          exact ⟨_, by first | rfl | (simp [errW_none, errW_some] <;> rfl) | (simp [*, errW_none, errW_some] <;> rfl), by (with_reducible repeat (first | apply Kd.S_alloc | apply Kd.S_drewN | apply Kd.S_drew)); exact HO_7.out, by repeat (first | (with_reducible first | exact HB.out | apply below_alloc | apply pw_below_drewN | apply below_drew1) | exact HB.out)⟩

end Go.Proofs.Ytcefenlblnediaa.My

/- Written by this session's program (wip/gen): a plain function with the same answers as the Go function, and the proof that the Go code comes to them. Asked: that the plain function has an answer. -/
namespace Go.Proofs.Ytcefenlblnediaa.My
open Go.RowKit Go.Proofs.YtcefenlblnediaaW.PrintWords Go.Proofs.YtcefenlblnediaaW.PrintLast Go.Proofs.YtcefenlblnediaaW.PrintMore
attribute [local go_sem] max2_int min2_int max_two min_two max_three min_three max_four min_four
set_option linter.unusedVariables false
set_option linter.unusedSimpArgs false

/-! ### impl_ApplySteps: function 68 -/
def impl_ApplySteps.j0 : Nat → List ByteArray → List (S111) → Int → Bool → Bool → Option (List ByteArray × Int × Bool)
 | 0, _, _, _, _, _ => none
 | k + 1, x0, x7, x8, x9, x24 => if x24 = true then (some (([] : List ByteArray), x8, x9)) else ((impl_Patch.f k x0 x7).bind fun bt1392 => (if bt1392.2 = true then (some (bt1392.1, 0, true)) else (some (([] : List ByteArray), 2, true))))
def impl_ApplySteps.f (k : Nat) (l0 : List ByteArray) (l1 : List (S144)) : Option (List ByteArray × Int × Bool) := (impl_StepsHunks.f k l0 l1).bind fun bt1387 => (if bt1387.2.2 = true then (impl_ApplySteps.j0 k l0 bt1387.1 bt1387.2.1 bt1387.2.2 (bt1387.2.1 != 0)) else (impl_ApplySteps.j0 k l0 bt1387.1 bt1387.2.1 bt1387.2.2 true))
set_option maxHeartbeats 8000000 in
set_option maxRecDepth 100000 in
theorem impl_ApplySteps.calls (k : Nat) (A0 : Option Addr) (c0 : Nat) (l0 : List ByteArray) (A1 : Option Addr) (c1 : Nat) (l1 : List (S144)) (r1 : List ByteArray) (r2 : Int) (r3 : Bool) (w : World) (hr0 : Kd.C Kd.string w A0 l0.length l0) (hc0 : l0.length ≤ c0) (hr1 : Kd.C k144 w A1 l1.length l1) (hc1 : l1.length ≤ c1) (h : impl_ApplySteps.f k l0 l1 = some (r1, r2, r3)) :
  Calls Try.prog 68 #[.slice A0 l0.length c0, .slice A1 l1.length c1] w fun e w' => ∃ v0_ : Value, e = .returned (.tuple #[v0_, .int .i64 r2, .bool r3]) ∧ Kd.R Kd.string 9 w' w.heap.size (fun _ => True) v0_ r1 ∧ Below w.heap.size w w' := by
 have HR0 := Aside0.mk hr0
 have HC0 := Aside0.mk hc0
 clear hr0 hc0
 have HR1 := Aside0.mk hr1
 have HC1 := Aside0.mk hc1
 clear hr1 hc1
 have HB := Aside0.mk (Below.refl w.heap.size w)
 have H : ((impl_StepsHunks.f k l0 l1).bind fun bt1387 => (if bt1387.2.2 = true then (impl_ApplySteps.j0 k l0 bt1387.1 bt1387.2.1 bt1387.2.2 (bt1387.2.1 != 0)) else (impl_ApplySteps.j0 k l0 bt1387.1 bt1387.2.1 bt1387.2.2 true))) = some (r1, r2, r3) := h
 clear h
 replace H := Option.bind_eq_some_iff.mp H
 obtain ⟨⟨t1387, t1388, t1389⟩, A30, H⟩ := H
 replace H : (if t1389 = true then (impl_ApplySteps.j0 k l0 t1387 t1388 t1389 (t1388 != 0)) else (impl_ApplySteps.j0 k l0 t1387 t1388 t1389 true)) = some (r1, r2, r3) := H
 have A3 := Aside0.mk A30
 clear A30
 have HC4 := Aside0.mk H
 clear H
 go_enter Try.func68, Try.ntmps68
 go_upto_region 2 with (first | ((with_reducible refine gateC (f := 64) rfl ?_); refine goesL_ (some 15) rfl rfl Try.func64 (by kernel_rfl) rfl #[.slice A0 l0.length c0, .slice A1 l1.length c1] rfl zm ?_; (with_reducible refine (impl_StepsHunks.calls k _ _ l0 _ _ l1 t1387 t1388 t1389 _ ?side1 ?side2 ?side3 ?side4 A3.out).mono ?_); (case side1 => exact zq HR0.out); (case side2 => exact HC0.out); (case side3 => exact zq HR1.out); (case side4 => exact HC1.out); rintro e w5 ⟨v1390, rfl, ho0, hb⟩; refine ⟨_, rfl, ?_⟩; have n0_ := Aside0.mk (Kd.S_lower ho0 (below_size zb)); have n1_ := Aside0.mk (below_step zb hb); clear HB; have HO1391 := n0_; have HB := n1_; clear n0_ n1_; (try clear hb); (try clear hb2); (try clear hk); (try clear hi); (try clear ho0)))
 (try simp only [Act.put, List.setIfInBounds_toArray, List.set_cons_zero, List.set_cons_succ])
 go_cut [24] (fun v24 wc => ∃ (kq : Nat) (x24_3 : Bool), v24 = .bool x24_3 ∧ Aside0 (impl_ApplySteps.j0 kq l0 t1387 t1388 t1389 x24_3 = some (r1, r2, r3)) ∧ Aside0 (kq ≤ k) ∧ Aside0 (Kd.S k111 111 wc w.heap.size (fun _ => True) v1390 t1387) ∧ Aside0 (Below w.heap.size w wc))
 case first =>
  have H := HC4.out
  clear HC4
  by_cases c6 : t1389 = true
  ·subst c6
   have H1 : (impl_ApplySteps.j0 k l0 t1387 t1388 true (t1388 != 0)) = some (r1, r2, r3) := by rw [if_pos rfl] at H; exact H
   clear H
   have H := H1
   clear H1
   have H' := Aside0.mk H
   clear H
   go_wp2
   go_meet
   case rel => exact ⟨_, ((t1388 != 0)), zf, H', ⟨by first | omega | exact Nat.le_refl _⟩, ⟨by (with_reducible repeat (first | apply Kd.S_alloc | apply Kd.S_drewN | apply Kd.S_drew)); exact HO1391.out⟩, ⟨by repeat (first | (with_reducible first | exact HB.out | apply below_alloc | apply pw_below_drewN | apply below_drew1) | exact HB.out)⟩⟩
  ·replace c6 := Bool.eq_false_iff.mpr c6
   subst c6
   have H1 : (impl_ApplySteps.j0 k l0 t1387 t1388 false true) = some (r1, r2, r3) := by rw [if_neg (show ¬ (false = true) by decide)] at H; exact H
   clear H
   have H := H1
   clear H1
   have H' := Aside0.mk H
   clear H
   go_wp2
   go_meet
   case rel => exact ⟨_, (true), zf, H', ⟨by first | omega | exact Nat.le_refl _⟩, ⟨by (with_reducible repeat (first | apply Kd.S_alloc | apply Kd.S_drewN | apply Kd.S_drew)); exact HO1391.out⟩, ⟨by repeat (first | (with_reducible first | exact HB.out | apply below_alloc | apply pw_below_drewN | apply below_drew1) | exact HB.out)⟩⟩
 case rest =>
  clear HC4
  try clear c1
  try clear p2
  try clear c6
  obtain ⟨kq, x24_3, rfl, HA, HJ3, HO_7, HB⟩ := hcut
  cases kq with
  | zero => exact absurd HA.out (by simp [impl_ApplySteps.j0])
  | succ kj3 =>
   have H := HA.out
   clear HA
   simp only [impl_ApplySteps.j0] at H
   by_cases c7 : x24_3 = true
   ·subst c7
    have H1 : (some (([] : List ByteArray), t1388, t1389)) = some (r1, r2, r3) := by rw [if_pos rfl] at H; exact H
    clear H
    have H := H1
    clear H1
    simp only [Option.some.injEq, Prod.mk.injEq] at H
    obtain ⟨rfl, rfl, rfl⟩ := H
    go_wp2
    go_ret3
    exact ⟨_, by first | rfl | (simp [errW_none, errW_some] <;> rfl) | (simp [*, errW_none, errW_some] <;> rfl), by first | exact Kd.R_nil _ _ _ _ _ | exact Kd.Q_nil _ _ _ _ _ | exact Kd.S_nil _ _ _ _ _, by repeat (first | (with_reducible first | exact HB.out | apply below_alloc | apply pw_below_drewN | apply below_drew1) | exact HB.out)⟩
   ·replace c7 := Bool.eq_false_iff.mpr c7
    subst c7
    have H1 : ((impl_Patch.f kj3 l0 t1387).bind fun bt1392 => (if bt1392.2 = true then (some (bt1392.1, 0, true)) else (some (([] : List ByteArray), 2, true)))) = some (r1, r2, r3) := by rw [if_neg (show ¬ (false = true) by decide)] at H; exact H
    clear H
    have H := H1
    clear H1
    replace H := Option.bind_eq_some_iff.mp H
    obtain ⟨⟨t1392, t1393⟩, A80, H⟩ := H
    replace H : (if t1393 = true then (some (t1392, 0, true)) else (some (([] : List ByteArray), 2, true))) = some (r1, r2, r3) := H
    have A8 := Aside0.mk A80
    clear A80
    by_cases c9 : t1393 = true
    ·subst c9
     have H1 : (some (t1392, 0, true)) = some (r1, r2, r3) := by rw [if_pos rfl] at H; exact H
     clear H
     have H := H1
     clear H1
     simp only [Option.some.injEq, Prod.mk.injEq] at H
     obtain ⟨rfl, rfl, rfl⟩ := H
     obtain ⟨Ao10, co10, eo10⟩ := Kd.S_slice HO_7.out
     subst eo10
     go_wp2_with (first | ((with_reducible refine gateC (f := 35) rfl ?_); refine goesL_ (some 30) rfl rfl Try.func35 (by kernel_rfl) rfl #[.slice A0 l0.length c0, .slice Ao10 t1387.length co10] rfl zm ?_; (with_reducible refine (impl_Patch.calls kj3 _ _ l0 _ _ t1387 t1392 true _ ?side1 ?side2 ?side3 ?side4 A8.out).mono ?_); (case side1 => exact zq (Kd.C_below HR0.out HB.out)); (case side2 => exact HC0.out); (case side3 => repeat (first | exact (Kd.S_reads' HO_7.out).2.2 | (with_reducible refine Kd.C_alloc ?_ _) | (with_reducible refine Kd.C_drewN ?_ _) | (with_reducible refine Kd.C_drew ?_))); (case side4 => exact (Kd.S_reads' HO_7.out).2.1); rintro e w11 ⟨v1394, rfl, ho0, hb⟩; refine ⟨_, rfl, ?_⟩; have n0_ := Aside0.mk (Kd.S_elder' (zs HO_7.out) (Kd.R_base ho0) hb); have n1_ := Aside0.mk (Kd.R_lower ho0 (below_size zb)); have n2_ := Aside0.mk (below_step zb hb); clear HO_7; clear HB; have HO_7 := n0_; have HO1395 := n1_; have HB := n2_; clear n0_ n1_ n2_; (try clear hb); (try clear hb2); (try clear hk); (try clear hi); (try clear ho0)))
     go_ret3
     exact ⟨_, by first | rfl | (simp [errW_none, errW_some] <;> rfl) | (simp [*, errW_none, errW_some] <;> rfl), by (with_reducible repeat (first | apply Kd.R_alloc | apply Kd.R_drewN | apply Kd.R_drew)); exact HO1395.out, by repeat (first | (with_reducible first | exact HB.out | apply below_alloc | apply pw_below_drewN | apply below_drew1) | exact HB.out)⟩
    ·replace c9 := Bool.eq_false_iff.mpr c9
     subst c9
     have H1 : (some (([] : List ByteArray), 2, true)) = some (r1, r2, r3) := by rw [if_neg (show ¬ (false = true) by decide)] at H; exact H
     clear H
     have H := H1
     clear H1
     simp only [Option.some.injEq, Prod.mk.injEq] at H
     obtain ⟨rfl, rfl, rfl⟩ := H
     obtain ⟨Ao12, co12, eo12⟩ := Kd.S_slice HO_7.out
     subst eo12
     go_wp2_with (first | ((with_reducible refine gateC (f := 35) rfl ?_); refine goesL_ (some 30) rfl rfl Try.func35 (by kernel_rfl) rfl #[.slice A0 l0.length c0, .slice Ao12 t1387.length co12] rfl zm ?_; (with_reducible refine (impl_Patch.calls kj3 _ _ l0 _ _ t1387 t1392 false _ ?side1 ?side2 ?side3 ?side4 A8.out).mono ?_); (case side1 => exact zq (Kd.C_below HR0.out HB.out)); (case side2 => exact HC0.out); (case side3 => repeat (first | exact (Kd.S_reads' HO_7.out).2.2 | (with_reducible refine Kd.C_alloc ?_ _) | (with_reducible refine Kd.C_drewN ?_ _) | (with_reducible refine Kd.C_drew ?_))); (case side4 => exact (Kd.S_reads' HO_7.out).2.1); rintro e w13 ⟨v1394, rfl, ho0, hb⟩; refine ⟨_, rfl, ?_⟩; have n0_ := Aside0.mk (Kd.S_elder' (zs HO_7.out) (Kd.R_base ho0) hb); have n1_ := Aside0.mk (Kd.R_lower ho0 (below_size zb)); have n2_ := Aside0.mk (below_step zb hb); clear HO_7; clear HB; have HO_7 := n0_; have HO1395 := n1_; have HB := n2_; clear n0_ n1_ n2_; (try clear hb); (try clear hb2); (try clear hk); (try clear hi); (try clear ho0)))
     go_ret3
     exact ⟨_, by first | rfl | (simp [errW_none, errW_some] <;> rfl) | (simp [*, errW_none, errW_some] <;> rfl), by first | exact Kd.R_nil _ _ _ _ _ | exact Kd.Q_nil _ _ _ _ _ | exact Kd.S_nil _ _ _ _ _, by repeat (first | (with_reducible first | exact HB.out | apply below_alloc | apply pw_below_drewN | apply below_drew1) | exact HB.out)⟩

end Go.Proofs.Ytcefenlblnediaa.My
