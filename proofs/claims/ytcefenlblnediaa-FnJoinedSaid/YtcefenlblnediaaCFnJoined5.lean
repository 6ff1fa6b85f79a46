/- Part 5 of 6 of a proof of this sentence: The Go function loop.example/g00825/laws.FnJoined returns true for every input, and each argument reads afterwards as it read before. No condition. -/
import Derived.Test.YtcefenlblnediaaCFnJoined4
/- Written by this session's program (wip/gen): a plain function with the same answers as the Go function, and the proof that the Go code comes to them. Asked: that the plain function has an answer. -/
namespace Go.Proofs.Ytcefenlblnediaa.My
open Go.RowKit Go.Proofs.YtcefenlblnediaaW.PrintWords Go.Proofs.YtcefenlblnediaaW.PrintLast Go.Proofs.YtcefenlblnediaaW.PrintMore
attribute [local go_sem] max2_int min2_int max_two min_two max_three min_three max_four min_four
set_option linter.unusedVariables false
set_option linter.unusedSimpArgs false

/-! ### spec_l1Cur_anyHunks: function 100 -/
def spec_l1Cur_anyHunks.f (k : Nat) (s0_0 : List Int) (s0_1 : Int) (s0_2 : Int) (l1 : List ByteArray) : Option ((List (S111)) × Int × Int) := (spec_l1Cur_hunks.f k s0_0 s0_1 s0_2 l1).bind fun bt689 => (if (bt689.1.length : Int) > 0 then ((spec_l1Cur_pick.f s0_0 bt689.2.1 bt689.2.2 (bt689.1.length : Int)).bind fun bt694 => ((spec_l1Cur_pick.f s0_0 bt694.2.1 bt694.2.2 25).bind fun bt697 => (if bt697.1 = 0 then ((spec_l1Cur_among.f s0_0 bt697.2.1 bt697.2.2 (([(-1), 40, 3] : List Int))).bind fun bt703 => (if 0 ≤ bt694.1 then (if bt694.1 < (bt689.1.length : Int) then (some ((bt689.1.set (bt694.1 : Int).toNat (⟨bt703.1, (rd_T111 bt689.1 bt694.1).f1, (rd_T111 bt689.1 bt694.1).f2⟩ : S111)), bt703.2.1, bt703.2.2)) else (none)) else (none))) else (if bt697.1 = 1 then (if 0 ≤ bt694.1 then (if bt694.1 < (bt689.1.length : Int) then (some ((bt689.1.set (bt694.1 : Int).toNat (⟨(rd_T111 bt689.1 bt694.1).f0, wrap64 (((rd_T111 bt689.1 bt694.1).f1) + 3), (rd_T111 bt689.1 bt694.1).f2⟩ : S111)), bt697.2.1, bt697.2.2)) else (none)) else (none)) else (if bt697.1 = 2 then (if 0 ≤ bt694.1 then (if bt694.1 < (bt689.1.length : Int) then (some ((bt689.1.set (bt694.1 : Int).toNat (⟨(rd_T111 bt689.1 bt694.1).f0, (rd_T111 bt689.1 bt694.1).f1, (([(⟨#[]⟩ : ByteArray)] : List ByteArray))⟩ : S111)), bt697.2.1, bt697.2.2)) else (none)) else (none)) else (if bt697.1 = 3 then (if 0 ≤ bt694.1 then (if bt694.1 < (bt689.1.length : Int) then (if ((rd_T111 bt689.1 bt694.1).f2).length < 8796093022208 then (some ((bt689.1.set (bt694.1 : Int).toNat (⟨(rd_T111 bt689.1 bt694.1).f0, (rd_T111 bt689.1 bt694.1).f1, (((rd_T111 bt689.1 bt694.1).f2) ++ [(⟨#[101, 110, 100]⟩ : ByteArray)])⟩ : S111)), bt697.2.1, bt697.2.2)) else (none)) else (none)) else (none)) else (some (bt689.1, bt697.2.1, bt697.2.2)))))))) else (some (bt689.1, bt689.2.1, bt689.2.2)))
set_option maxHeartbeats 8000000 in
set_option maxRecDepth 100000 in
theorem spec_l1Cur_anyHunks.calls (k : Nat) (g : Nat) (s0_0 : List Int) (s0_1 : Int) (s0_2 : Int) (A1 : Option Addr) (c1 : Nat) (l1 : List ByteArray) (r1 : List (S111)) (r2 : Int) (r3 : Int) (w0 w : World) (hI : IsS122 w0 w g s0_0 s0_1 s0_2) (hB : Below w0.heap.size w0 w) (hr1 : Kd.C Kd.string w A1 l1.length l1) (hc1 : l1.length ≤ c1) (hf1 : ∀ ad, A1 = some ad → 0 < l1.length → ad.block ≠ g) (h : spec_l1Cur_anyHunks.f k s0_0 s0_1 s0_2 l1 = some (r1, r2, r3)) :
  Calls Try.prog 100 #[.pointer (some ⟨g, 0, none⟩), .slice A1 l1.length c1] w fun e w' => ∃ v0_ : Value, e = .returned (v0_) ∧ Kd.S k111 111 w' w.heap.size (fun _ => True) v0_ r1 ∧ IsS122 w0 w' g s0_0 r2 r3 ∧ Below w0.heap.size w0 w' ∧ KeepBut w w' g none := by
 have HR1 := Aside0.mk hr1
 have HC1 := Aside0.mk hc1
 clear hr1 hc1
 have HI0 := Aside0.mk hI
 have HK := Aside0.mk (KeepBut.refl w g none)
 have HL := Aside0.mk hB.size
 clear hI
 have HW0 := Aside0.mk hB.size
 have HB := Aside0.mk hB
 clear hB
 have H : ((spec_l1Cur_hunks.f k s0_0 s0_1 s0_2 l1).bind fun bt689 => (if (bt689.1.length : Int) > 0 then ((spec_l1Cur_pick.f s0_0 bt689.2.1 bt689.2.2 (bt689.1.length : Int)).bind fun bt694 => ((spec_l1Cur_pick.f s0_0 bt694.2.1 bt694.2.2 25).bind fun bt697 => (if bt697.1 = 0 then ((spec_l1Cur_among.f s0_0 bt697.2.1 bt697.2.2 (([(-1), 40, 3] : List Int))).bind fun bt703 => (if 0 ≤ bt694.1 then (if bt694.1 < (bt689.1.length : Int) then (some ((bt689.1.set (bt694.1 : Int).toNat (⟨bt703.1, (rd_T111 bt689.1 bt694.1).f1, (rd_T111 bt689.1 bt694.1).f2⟩ : S111)), bt703.2.1, bt703.2.2)) else (none)) else (none))) else (if bt697.1 = 1 then (if 0 ≤ bt694.1 then (if bt694.1 < (bt689.1.length : Int) then (some ((bt689.1.set (bt694.1 : Int).toNat (⟨(rd_T111 bt689.1 bt694.1).f0, wrap64 (((rd_T111 bt689.1 bt694.1).f1) + 3), (rd_T111 bt689.1 bt694.1).f2⟩ : S111)), bt697.2.1, bt697.2.2)) else (none)) else (none)) else (if bt697.1 = 2 then (if 0 ≤ bt694.1 then (if bt694.1 < (bt689.1.length : Int) then (some ((bt689.1.set (bt694.1 : Int).toNat (⟨(rd_T111 bt689.1 bt694.1).f0, (rd_T111 bt689.1 bt694.1).f1, (([(⟨#[]⟩ : ByteArray)] : List ByteArray))⟩ : S111)), bt697.2.1, bt697.2.2)) else (none)) else (none)) else (if bt697.1 = 3 then (if 0 ≤ bt694.1 then (if bt694.1 < (bt689.1.length : Int) then (if ((rd_T111 bt689.1 bt694.1).f2).length < 8796093022208 then (some ((bt689.1.set (bt694.1 : Int).toNat (⟨(rd_T111 bt689.1 bt694.1).f0, (rd_T111 bt689.1 bt694.1).f1, (((rd_T111 bt689.1 bt694.1).f2) ++ [(⟨#[101, 110, 100]⟩ : ByteArray)])⟩ : S111)), bt697.2.1, bt697.2.2)) else (none)) else (none)) else (none)) else (some (bt689.1, bt697.2.1, bt697.2.2)))))))) else (some (bt689.1, bt689.2.1, bt689.2.2)))) = some (r1, r2, r3) := h
 clear h
 replace H := Option.bind_eq_some_iff.mp H
 obtain ⟨⟨t689, t692, t693⟩, A30, H⟩ := H
 replace H : (if (t689.length : Int) > 0 then ((spec_l1Cur_pick.f s0_0 t692 t693 (t689.length : Int)).bind fun bt694 => ((spec_l1Cur_pick.f s0_0 bt694.2.1 bt694.2.2 25).bind fun bt697 => (if bt697.1 = 0 then ((spec_l1Cur_among.f s0_0 bt697.2.1 bt697.2.2 (([(-1), 40, 3] : List Int))).bind fun bt703 => (if 0 ≤ bt694.1 then (if bt694.1 < (t689.length : Int) then (some ((t689.set (bt694.1 : Int).toNat (⟨bt703.1, (rd_T111 t689 bt694.1).f1, (rd_T111 t689 bt694.1).f2⟩ : S111)), bt703.2.1, bt703.2.2)) else (none)) else (none))) else (if bt697.1 = 1 then (if 0 ≤ bt694.1 then (if bt694.1 < (t689.length : Int) then (some ((t689.set (bt694.1 : Int).toNat (⟨(rd_T111 t689 bt694.1).f0, wrap64 (((rd_T111 t689 bt694.1).f1) + 3), (rd_T111 t689 bt694.1).f2⟩ : S111)), bt697.2.1, bt697.2.2)) else (none)) else (none)) else (if bt697.1 = 2 then (if 0 ≤ bt694.1 then (if bt694.1 < (t689.length : Int) then (some ((t689.set (bt694.1 : Int).toNat (⟨(rd_T111 t689 bt694.1).f0, (rd_T111 t689 bt694.1).f1, (([(⟨#[]⟩ : ByteArray)] : List ByteArray))⟩ : S111)), bt697.2.1, bt697.2.2)) else (none)) else (none)) else (if bt697.1 = 3 then (if 0 ≤ bt694.1 then (if bt694.1 < (t689.length : Int) then (if ((rd_T111 t689 bt694.1).f2).length < 8796093022208 then (some ((t689.set (bt694.1 : Int).toNat (⟨(rd_T111 t689 bt694.1).f0, (rd_T111 t689 bt694.1).f1, (((rd_T111 t689 bt694.1).f2) ++ [(⟨#[101, 110, 100]⟩ : ByteArray)])⟩ : S111)), bt697.2.1, bt697.2.2)) else (none)) else (none)) else (none)) else (some (t689, bt697.2.1, bt697.2.2)))))))) else (some (t689, t692, t693))) = some (r1, r2, r3) := H
 have A3 := Aside0.mk A30
 clear A30
 by_cases c4 : (t689.length : Int) > 0
 ·rw [if_pos c4] at H
  have c4b0 : decide (0 < (t689.length : Int)) = true := decide_eq_true c4
  have c4b1 : decide (0 < t689.length) = true := decide_eq_true (by omega)
  clear c4
  replace H := Option.bind_eq_some_iff.mp H
  obtain ⟨⟨t694, t695, t696⟩, A50, H⟩ := H
  replace H : ((spec_l1Cur_pick.f s0_0 t695 t696 25).bind fun bt697 => (if bt697.1 = 0 then ((spec_l1Cur_among.f s0_0 bt697.2.1 bt697.2.2 (([(-1), 40, 3] : List Int))).bind fun bt703 => (if 0 ≤ t694 then (if t694 < (t689.length : Int) then (some ((t689.set (t694 : Int).toNat (⟨bt703.1, (rd_T111 t689 t694).f1, (rd_T111 t689 t694).f2⟩ : S111)), bt703.2.1, bt703.2.2)) else (none)) else (none))) else (if bt697.1 = 1 then (if 0 ≤ t694 then (if t694 < (t689.length : Int) then (some ((t689.set (t694 : Int).toNat (⟨(rd_T111 t689 t694).f0, wrap64 (((rd_T111 t689 t694).f1) + 3), (rd_T111 t689 t694).f2⟩ : S111)), bt697.2.1, bt697.2.2)) else (none)) else (none)) else (if bt697.1 = 2 then (if 0 ≤ t694 then (if t694 < (t689.length : Int) then (some ((t689.set (t694 : Int).toNat (⟨(rd_T111 t689 t694).f0, (rd_T111 t689 t694).f1, (([(⟨#[]⟩ : ByteArray)] : List ByteArray))⟩ : S111)), bt697.2.1, bt697.2.2)) else (none)) else (none)) else (if bt697.1 = 3 then (if 0 ≤ t694 then (if t694 < (t689.length : Int) then (if ((rd_T111 t689 t694).f2).length < 8796093022208 then (some ((t689.set (t694 : Int).toNat (⟨(rd_T111 t689 t694).f0, (rd_T111 t689 t694).f1, (((rd_T111 t689 t694).f2) ++ [(⟨#[101, 110, 100]⟩ : ByteArray)])⟩ : S111)), bt697.2.1, bt697.2.2)) else (none)) else (none)) else (none)) else (some (t689, bt697.2.1, bt697.2.2))))))) = some (r1, r2, r3) := H
  have A5 := Aside0.mk A50
  clear A50
  replace H := Option.bind_eq_some_iff.mp H
  obtain ⟨⟨t697, t698, t699⟩, A60, H⟩ := H
  replace H : (if t697 = 0 then ((spec_l1Cur_among.f s0_0 t698 t699 (([(-1), 40, 3] : List Int))).bind fun bt703 => (if 0 ≤ t694 then (if t694 < (t689.length : Int) then (some ((t689.set (t694 : Int).toNat (⟨bt703.1, (rd_T111 t689 t694).f1, (rd_T111 t689 t694).f2⟩ : S111)), bt703.2.1, bt703.2.2)) else (none)) else (none))) else (if t697 = 1 then (if 0 ≤ t694 then (if t694 < (t689.length : Int) then (some ((t689.set (t694 : Int).toNat (⟨(rd_T111 t689 t694).f0, wrap64 (((rd_T111 t689 t694).f1) + 3), (rd_T111 t689 t694).f2⟩ : S111)), t698, t699)) else (none)) else (none)) else (if t697 = 2 then (if 0 ≤ t694 then (if t694 < (t689.length : Int) then (some ((t689.set (t694 : Int).toNat (⟨(rd_T111 t689 t694).f0, (rd_T111 t689 t694).f1, (([(⟨#[]⟩ : ByteArray)] : List ByteArray))⟩ : S111)), t698, t699)) else (none)) else (none)) else (if t697 = 3 then (if 0 ≤ t694 then (if t694 < (t689.length : Int) then (if ((rd_T111 t689 t694).f2).length < 8796093022208 then (some ((t689.set (t694 : Int).toNat (⟨(rd_T111 t689 t694).f0, (rd_T111 t689 t694).f1, (((rd_T111 t689 t694).f2) ++ [(⟨#[101, 110, 100]⟩ : ByteArray)])⟩ : S111)), t698, t699)) else (none)) else (none)) else (none)) else (some (t689, t698, t699)))))) = some (r1, r2, r3) := H
  have A6 := Aside0.mk A60
  clear A60
  by_cases c7 : t697 = 0
  ·rw [if_pos c7] at H
   have c7b0 : (t697 == 0) = true := beq_iff_eq.mpr c7
   have c7b1 : (t697 != 0) = false := bne_eq_false_iff_eq.mpr c7
   clear c7
   obtain ⟨y700, hy700⟩ : ∃ y_ : List Int, y_ = (([(-1), 40, 3] : List Int)) := ⟨_, rfl⟩
   replace H : ((spec_l1Cur_among.f s0_0 t698 t699 y700).bind fun bt703 => (if 0 ≤ t694 then (if t694 < (t689.length : Int) then (some ((t689.set (t694 : Int).toNat (⟨bt703.1, (rd_T111 t689 t694).f1, (rd_T111 t689 t694).f2⟩ : S111)), bt703.2.1, bt703.2.2)) else (none)) else (none))) = some (r1, r2, r3) := by first | (rw [hy700]; with_reducible exact H) | (have H2_ := (Option.bind_some _ _).symm.trans H; rw [hy700]; with_reducible exact H2_) | (have H2_ := (Option.bind_some _ _).symm.trans H; with_reducible exact H2_) | with_reducible exact H | (rw [hy700]; exact H) | exact H
   have Ny700 := Aside0.mk hy700
   clear hy700
   replace H := Option.bind_eq_some_iff.mp H
   obtain ⟨⟨t703, t704, t705⟩, A80, H⟩ := H
   replace H : (if 0 ≤ t694 then (if t694 < (t689.length : Int) then (some ((t689.set (t694 : Int).toNat (⟨t703, (rd_T111 t689 t694).f1, (rd_T111 t689 t694).f2⟩ : S111)), t704, t705)) else (none)) else (none)) = some (r1, r2, r3) := H
   have A8 := Aside0.mk A80
   clear A80
   by_cases c9 : 0 ≤ t694
   ·rw [if_pos c9] at H
    have c9b0 : decide (0 ≤ t694) = true := decide_eq_true c9
    clear c9
    by_cases c10 : t694 < (t689.length : Int)
    ·rw [if_pos c10] at H
     have c10b0 : decide (t694 < (t689.length : Int)) = true := decide_eq_true c10
     clear c10
     obtain ⟨y706, hy706⟩ : ∃ y_ : List (S111), y_ = (t689.set (t694 : Int).toNat (⟨t703, (rd_T111 t689 t694).f1, (rd_T111 t689 t694).f2⟩ : S111)) := ⟨_, rfl⟩
     replace H : (some (y706, t704, t705)) = some (r1, r2, r3) := by first | (rw [hy706]; with_reducible exact H) | (have H2_ := (Option.bind_some _ _).symm.trans H; rw [hy706]; with_reducible exact H2_) | (have H2_ := (Option.bind_some _ _).symm.trans H; with_reducible exact H2_) | with_reducible exact H | (rw [hy706]; exact H) | exact H
     have Ny706 := Aside0.mk hy706
     clear hy706
     simp only [Option.some.injEq, Prod.mk.injEq] at H
     obtain ⟨rfl, rfl, rfl⟩ := H
     go_enter Try.func100, Try.ntmps100
     go_wp2_with (first | ((with_reducible refine gateC (f := 159) rfl ?_); refine goesL_ (some 9) rfl rfl Try.func159 (by kernel_rfl) rfl #[.pointer (some ⟨g, 0, none⟩), .slice A1 l1.length c1] rfl zm ?_; (with_reducible refine (spec_l1Cur_hunks.calls k g s0_0 s0_1 s0_2 _ _ l1 t689 t692 t693 w0 _ ?side1 ?side2 ?side3 ?side4 ?side5 A3.out).mono ?_); (case side1 => exact zi); (case side2 => exact zj); (case side3 => exact Kd.C_keep (⟨#[]⟩ : ByteArray) HR1.out zh hf1); (case side4 => exact HC1.out); (case side5 => exact hf1); rintro e w12 ⟨v690, rfl, ho0, hi, hb, hk⟩; refine ⟨_, rfl, ?_⟩; have n0_ := Aside0.mk (Kd.S_lower ho0 (keep_size (w := w) (g := g) (row := none) zh)); have n1_ := Aside0.mk (KeepBut.trans zh hk (.inl rfl)); have n2_ := Aside0.mk (hb); have n3_ := Aside0.mk (hi); clear HK; clear HB; clear HI0; have HO691 := n0_; have HK := n1_; have HB := n2_; have HI0 := n3_; clear n0_ n1_ n2_ n3_; (try clear hb); (try clear hb2); (try clear hk); (try clear hi); (try clear ho0); obtain ⟨Ao13, co13, eo13⟩ := Kd.S_slice HO691.out; subst eo13) | ((with_reducible refine gateC (f := 113) rfl ?_); refine goesL_ (some 16) rfl rfl Try.func113 (by kernel_rfl) rfl #[.pointer (some ⟨g, 0, none⟩), .int .i64 (t689.length : Int)] rfl zm ?_; (with_reducible refine (spec_l1Cur_pick.calls g s0_0 t692 t693 (t689.length : Int) t694 t695 t696 w0 _ ?side1 ?side2 A5.out).mono ?_); (case side1 => exact zi); (case side2 => exact zj); rintro e w14 ⟨rfl, hi, hb, hk⟩; refine ⟨_, rfl, ?_⟩; have n0_ := Aside0.mk (Kd.S_mono (Kd.S_keep (IsS122.apartS (show IsS122 w0 _ g s0_0 t692 t693 from zi) (zs HO691.out) (by decide)) hk (fun _ h => h.2)) (fun _ h => h.1)); have n1_ := Aside0.mk (KeepBut.trans zh hk (.inl rfl)); have n2_ := Aside0.mk (hb); have n3_ := Aside0.mk (hi); clear HO691; clear HK; clear HB; clear HI0; have HO691 := n0_; have HK := n1_; have HB := n2_; have HI0 := n3_; clear n0_ n1_ n2_ n3_; (try clear hb); (try clear hb2); (try clear hk); (try clear hi)) | ((with_reducible refine gateC (f := 113) rfl ?_); refine goesL_ (some 18) rfl rfl Try.func113 (by kernel_rfl) rfl #[.pointer (some ⟨g, 0, none⟩), .int .i64 25] rfl zm ?_; (with_reducible refine (spec_l1Cur_pick.calls g s0_0 t695 t696 25 t697 t698 t699 w0 _ ?side1 ?side2 A6.out).mono ?_); (case side1 => exact zi); (case side2 => exact zj); rintro e w15 ⟨rfl, hi, hb, hk⟩; refine ⟨_, rfl, ?_⟩; have n0_ := Aside0.mk (Kd.S_mono (Kd.S_keep (IsS122.apartS (show IsS122 w0 _ g s0_0 t695 t696 from zi) (zs HO691.out) (by decide)) hk (fun _ h => h.2)) (fun _ h => h.1)); have n1_ := Aside0.mk (KeepBut.trans zh hk (.inl rfl)); have n2_ := Aside0.mk (hb); have n3_ := Aside0.mk (hi); clear HO691; clear HK; clear HB; clear HI0; have HO691 := n0_; have HK := n1_; have HB := n2_; have HI0 := n3_; clear n0_ n1_ n2_ n3_; (try clear hb); (try clear hb2); (try clear hk); (try clear hi)) | ((with_reducible refine gate_dst (N := 24) rfl ?_); refine Kd.R_lit (Kd.int .i64) _ 3 ?hg (N := 24) ?hd (xs := ([(-1), 40, 3] : List Int)) (inner := [.int .i64 (-1), .int .i64 40, .int .i64 3]) (ok := fun _ => True) (okp := fun _ => True) ?hr ?hp (fun _ hk => hk) trivial (Below.refl _ _) (Nat.le_refl _) (by simp) ?_; (case hd => rfl); (case hg => rfl); (case hr => first | (go_simp; done) | (go_simp; rfl)); (case hp => exact (Reps.one (show Kd.M (Kd.int .i64) _ _ _ (-1) [.int .i64 (-1)] from rfl) (Reps.one (show Kd.M (Kd.int .i64) _ _ _ 40 [.int .i64 40] from rfl) (Reps.one (show Kd.M (Kd.int .i64) _ _ _ 3 [.int .i64 3] from rfl) (Reps.none _ _))))); intro v701 w16 ho17 hb hg_ hnew_; clear hg_ hnew_; (first | rw [← Ny700.out] at ho17 | (simp only [Int.reduceToNat] at ho17; rw [← Ny700.out] at ho17)); have n0_ := Aside0.mk (Kd.S_below (zs HO691.out) hb); have n1_ := Aside0.mk (Kd.R_lower ho17 (keep_size (w := w) (g := g) (row := none) zh)); have n2_ := Aside0.mk (IsS122.below zi hb); have n3_ := Aside0.mk (KeepBut.trans zh (KeepBut.of_below hb g none) (.inl rfl)); have n4_ := Aside0.mk (below_step zj hb); clear HO691; clear HI0; clear HK; clear HB; have HO691 := n0_; have HO702 := n1_; have HI0 := n2_; have HK := n3_; have HB := n4_; clear n0_ n1_ n2_ n3_ n4_; clear hb ho17; obtain ⟨Ao18, co18, eo18⟩ := Kd.R_slice HO702.out; subst eo18) | ((with_reducible refine gateC (f := 160) rfl ?_); refine goesL_ (some 25) rfl rfl Try.func160 (by kernel_rfl) rfl #[.pointer (some ⟨g, 0, none⟩), .slice Ao18 y700.length co18] rfl zm ?_; (with_reducible refine (spec_l1Cur_among.calls g s0_0 t698 t699 _ _ y700 t703 t704 t705 w0 _ ?side1 ?side2 ?side3 ?side4 ?side5 A8.out).mono ?_); (case side1 => exact zi); (case side2 => exact zj); (case side3 => repeat (first | exact (Kd.R_reads' HO702.out).2.2 | (with_reducible refine Kd.C_alloc ?_ _) | (with_reducible refine Kd.C_drewN ?_ _) | (with_reducible refine Kd.C_drew ?_))); (case side4 => exact (Kd.R_reads' HO702.out).2.1); (case side5 => exact far_slice (IsS122.own_ne HI0.out HO702.out (by decide))); rintro e w19 ⟨rfl, hi, hb, hk⟩; refine ⟨_, rfl, ?_⟩; have n0_ := Aside0.mk (Kd.S_mono (Kd.S_keep (IsS122.apartS (show IsS122 w0 _ g s0_0 t698 t699 from zi) (zs HO691.out) (by decide)) hk (fun _ h => h.2)) (fun _ h => h.1)); have n1_ := Aside0.mk (Kd.R_mono (Kd.R_keep (IsS122.apart (show IsS122 w0 _ g s0_0 t698 t699 from zi) (zr HO702.out) (by decide)) hk (fun _ h => h.2)) (fun _ h => h.1)); have n2_ := Aside0.mk (KeepBut.trans zh hk (.inl rfl)); have n3_ := Aside0.mk (hb); have n4_ := Aside0.mk (hi); clear HO691; clear HO702; clear HK; clear HB; clear HI0; have HO691 := n0_; have HO702 := n1_; have HK := n2_; have HB := n3_; have HI0 := n4_; clear n0_ n1_ n2_ n3_ n4_; (try clear hb); (try clear hb2); (try clear hk); (try clear hi); have p11 : 0 ≤ (t694 : Int) := oa; have q11 : (t694 : Int) < ((t689.length : Int) : Int) := oa; obtain ⟨go11, co11, eo11, gb11, gl11, cl11, HG11⟩ := Kd.S_form HO691.out (by omega); (first | cases eo11 | (injection eo11 with ea_ en_ ec_; (first | subst ea_ | (injection ea_ with ea_; subst ea_)); subst ec_; clear en_)); have GB11 := Aside0.mk gb11; have GG11 := Aside0.mk HG11; clear gb11 gl11 HG11; obtain ⟨_, ce11, hcl11, hM11, hcc11, hfr11, _, _⟩ := Kd.S_elem HO691.out z111 (t694 : Int) p11 q11; obtain ⟨ve11_2, rfl, ge11_2⟩ := k111_openM hM11; have hx11_0 : w19.cell? ⟨go11, (t694 : Int).toNat * 3, none⟩ = some (.int .i64 ((rd_T111 t689 t694).f0)) := hcc11 0 _ rfl; have hx11_1 : w19.cell? ⟨go11, (t694 : Int).toNat * 3 + 1, none⟩ = some (.int .i64 ((rd_T111 t689 t694).f1)) := hcc11 1 _ rfl; have hx11_2 : w19.cell? ⟨go11, (t694 : Int).toNat * 3 + 2, none⟩ = some (ve11_2) := hcc11 2 _ rfl; have hf11_0 : w19.frozen? ⟨go11, (t694 : Int).toNat * 3, none⟩ = false := hfr11 0; have hf11_1 : w19.frozen? ⟨go11, (t694 : Int).toNat * 3 + 1, none⟩ = false := hfr11 1; have hf11_2 : w19.frozen? ⟨go11, (t694 : Int).toNat * 3 + 2, none⟩ = false := hfr11 2; clear hcl11 hcc11 hfr11; (try clear hM11); replace p11 := eq_true p11; replace q11 := eq_true q11; have HX20 := Aside0.mk (show Kd.S k111 111 w19 w.heap.size (fun k_ => ((fun _ => True)) k_ ∧ ¬ ((fun _ => False)) k_) (.slice (some ⟨go11, 0, none⟩) t689.length co13) t689 from (by (with_reducible repeat (first | apply Kd.S_alloc | apply Kd.S_drewN | apply Kd.S_drew)); exact Kd.S_mono HO691.out (fun k_ hk => ⟨trivial, fun e_ => e_⟩))); obtain ⟨oki20, ce20, hcl20, hM20, hcc20, hfr20, hoki20, hH20⟩ := Kd.S_elem HX20.out z111 (t694 : Int) oa (by have h_ : (t694 : Int) < ((t689.length : Int) : Int) := oa; first | exact h_ | (have e_ := (Kd.S_reads' HO691.out).1; omega) | simpa using h_); obtain ⟨ve20_2, rfl, ge20_2⟩ := k111_openM hM20; have HP20 := Kd.S_seg hH20 oa (by have h_ : (t694 : Int) < ((t689.length : Int) : Int) := oa; first | exact h_ | (have e_ := (Kd.S_reads' HO691.out).1; omega) | simpa using h_) (seg := [.int .i64 t703]) (j := 0) (show 1 ≤ 3 from by decide) (x' := (⟨t703, (rd_T111 t689 t694).f1, (rd_T111 t689 t694).f2⟩ : S111)) (k111_mkM _ _ _ (⟨t703, (rd_T111 t689 t694).f1, (rd_T111 t689 t694).f2⟩ : S111) (Kd.R_mono ge20_2 (fun _ h_ => Or.inl h_))) (fun _ hk => hk) (fun k_ hk_ => hk_.elim); have hx20_0 := hcc20 0 _ rfl; (try simp only [show (k111).sz = 3 from rfl, Nat.mul_one, Nat.add_zero] at hx20_0); have hf20_0 := hfr20 0; (try simp only [show (k111).sz = 3 from rfl, Nat.mul_one, Nat.add_zero] at hf20_0); clear hcl20 hcc20 hfr20 hoki20 hH20; (try clear hM20)) | ((with_reducible refine gate_store (t := 3) (p := 27) rfl ?_); refine store_event (t := 3) (p := 27) (v := ?vo_w21) (w1 := (w19.setCell ⟨go11, (t694 : Int).toNat * 3, none⟩ (.int .i64 t703))) ?hg ?ho ?hn ?hr ?_; (case ho => rfl); (case hg => rfl); (case hn => rfl); (case hr => first | (go_simp; done) | (go_simp; rfl)); intro w21 hw; have hg : w19.grownBy w21 (some go11) := (by rw [hw]; exact HP20.2); have hp_ : Kd.S k111 111 w21 w.heap.size (fun _ => True) (.slice (some ⟨go11, 0, none⟩) t689.length co13) y706 := (by rw [hw, Ny706.out]; exact HP20.1); clear HP20; have n0_ := Aside0.mk (IsS122.grown zi hg (IsS122.own_neS HI0.out HO691.out (by decide))); have n1_ := Aside0.mk (hp_); have n2_ := Aside0.mk (Kd.R_over' (v := (.slice (some ⟨go11, 0, none⟩) t689.length co13)) (zr HO702.out) (Kd.S_typed HO691.out) (by decide) hg); have n3_ := Aside0.mk ((by rw [hw]; exact below_set (HB.out) (Nat.le_trans HL.out GB11.out) : Below w0.heap.size w0 w21)); have n4_ := Aside0.mk (KeepBut.trans zh (KeepBut.of_grown hg g) (Kd.S_base2 HO691.out)); clear HI0; clear HO691; clear HO702; clear HB; clear HK; have HI0 := n0_; have HO691 := n1_; have HO702 := n2_; have HB := n3_; have HK := n4_; clear n0_ n1_ n2_ n3_ n4_; clear hg hw hp_))
     go_ret
     exact ⟨_, by first | rfl | (simp [errW_none, errW_some] <;> rfl) | (simp [*, errW_none, errW_some] <;> rfl), by (with_reducible repeat (first | apply Kd.S_alloc | apply Kd.S_drewN | apply Kd.S_drew)); exact HO691.out, zi, zj, zh⟩
    ·rw [if_neg c10] at H
     exact absurd H (by simp)
   ·rw [if_neg c9] at H
    exact absurd H (by simp)
  ·rw [if_neg c7] at H
   have c7b0 : (t697 == 0) = false := beq_eq_false_iff_ne.mpr c7
   have c7b1 : (t697 != 0) = true := bne_iff_ne.mpr c7
   by_cases c22 : t697 = 1
   ·rw [if_pos c22] at H
    have c22b0 : (t697 == 1) = true := beq_iff_eq.mpr c22
    have c22b1 : (t697 != 1) = false := bne_eq_false_iff_eq.mpr c22
    clear c22
    by_cases c23 : 0 ≤ t694
    ·rw [if_pos c23] at H
     have c23b0 : decide (0 ≤ t694) = true := decide_eq_true c23
     clear c23
     by_cases c24 : t694 < (t689.length : Int)
     ·rw [if_pos c24] at H
      have c24b0 : decide (t694 < (t689.length : Int)) = true := decide_eq_true c24
      clear c24
      obtain ⟨y708, hy708⟩ : ∃ y_ : List (S111), y_ = (t689.set (t694 : Int).toNat (⟨(rd_T111 t689 t694).f0, wrap64 (((rd_T111 t689 t694).f1) + 3), (rd_T111 t689 t694).f2⟩ : S111)) := ⟨_, rfl⟩
      replace H : (some (y708, t698, t699)) = some (r1, r2, r3) := by first | (rw [hy708]; with_reducible exact H) | (have H2_ := (Option.bind_some _ _).symm.trans H; rw [hy708]; with_reducible exact H2_) | (have H2_ := (Option.bind_some _ _).symm.trans H; with_reducible exact H2_) | with_reducible exact H | (rw [hy708]; exact H) | exact H
      have Ny708 := Aside0.mk hy708
      clear hy708
      simp only [Option.some.injEq, Prod.mk.injEq] at H
      obtain ⟨rfl, rfl, rfl⟩ := H
      go_enter Try.func100, Try.ntmps100
      go_wp2_with (first | ((with_reducible refine gateC (f := 159) rfl ?_); refine goesL_ (some 9) rfl rfl Try.func159 (by kernel_rfl) rfl #[.pointer (some ⟨g, 0, none⟩), .slice A1 l1.length c1] rfl zm ?_; (with_reducible refine (spec_l1Cur_hunks.calls k g s0_0 s0_1 s0_2 _ _ l1 t689 t692 t693 w0 _ ?side1 ?side2 ?side3 ?side4 ?side5 A3.out).mono ?_); (case side1 => exact zi); (case side2 => exact zj); (case side3 => exact Kd.C_keep (⟨#[]⟩ : ByteArray) HR1.out zh hf1); (case side4 => exact HC1.out); (case side5 => exact hf1); rintro e w26 ⟨v690, rfl, ho0, hi, hb, hk⟩; refine ⟨_, rfl, ?_⟩; have n0_ := Aside0.mk (Kd.S_lower ho0 (keep_size (w := w) (g := g) (row := none) zh)); have n1_ := Aside0.mk (KeepBut.trans zh hk (.inl rfl)); have n2_ := Aside0.mk (hb); have n3_ := Aside0.mk (hi); clear HK; clear HB; clear HI0; have HO691 := n0_; have HK := n1_; have HB := n2_; have HI0 := n3_; clear n0_ n1_ n2_ n3_; (try clear hb); (try clear hb2); (try clear hk); (try clear hi); (try clear ho0); obtain ⟨Ao27, co27, eo27⟩ := Kd.S_slice HO691.out; subst eo27) | ((with_reducible refine gateC (f := 113) rfl ?_); refine goesL_ (some 16) rfl rfl Try.func113 (by kernel_rfl) rfl #[.pointer (some ⟨g, 0, none⟩), .int .i64 (t689.length : Int)] rfl zm ?_; (with_reducible refine (spec_l1Cur_pick.calls g s0_0 t692 t693 (t689.length : Int) t694 t695 t696 w0 _ ?side1 ?side2 A5.out).mono ?_); (case side1 => exact zi); (case side2 => exact zj); rintro e w28 ⟨rfl, hi, hb, hk⟩; refine ⟨_, rfl, ?_⟩; have n0_ := Aside0.mk (Kd.S_mono (Kd.S_keep (IsS122.apartS (show IsS122 w0 _ g s0_0 t692 t693 from zi) (zs HO691.out) (by decide)) hk (fun _ h => h.2)) (fun _ h => h.1)); have n1_ := Aside0.mk (KeepBut.trans zh hk (.inl rfl)); have n2_ := Aside0.mk (hb); have n3_ := Aside0.mk (hi); clear HO691; clear HK; clear HB; clear HI0; have HO691 := n0_; have HK := n1_; have HB := n2_; have HI0 := n3_; clear n0_ n1_ n2_ n3_; (try clear hb); (try clear hb2); (try clear hk); (try clear hi)) | ((with_reducible refine gateC (f := 113) rfl ?_); refine goesL_ (some 18) rfl rfl Try.func113 (by kernel_rfl) rfl #[.pointer (some ⟨g, 0, none⟩), .int .i64 25] rfl zm ?_; (with_reducible refine (spec_l1Cur_pick.calls g s0_0 t695 t696 25 t697 t698 t699 w0 _ ?side1 ?side2 A6.out).mono ?_); (case side1 => exact zi); (case side2 => exact zj); rintro e w29 ⟨rfl, hi, hb, hk⟩; refine ⟨_, rfl, ?_⟩; have n0_ := Aside0.mk (Kd.S_mono (Kd.S_keep (IsS122.apartS (show IsS122 w0 _ g s0_0 t695 t696 from zi) (zs HO691.out) (by decide)) hk (fun _ h => h.2)) (fun _ h => h.1)); have n1_ := Aside0.mk (KeepBut.trans zh hk (.inl rfl)); have n2_ := Aside0.mk (hb); have n3_ := Aside0.mk (hi); clear HO691; clear HK; clear HB; clear HI0; have HO691 := n0_; have HK := n1_; have HB := n2_; have HI0 := n3_; clear n0_ n1_ n2_ n3_; (try clear hb); (try clear hb2); (try clear hk); (try clear hi); have p707 : 0 ≤ (t694 : Int) := oa; have q707 : t694 < (t689.length : Int) := oa; obtain ⟨ad707, A707_2, c707_2, e707, hx707_0, hx707_1, hx707_2, hl707_2, hi707_2⟩ := at_T111 (Kd.S_reads' HO691.out).2.2 t694 p707 q707; cases e707; obtain ⟨ce707, hce707, hMe707, hcc707⟩ := Kd.S_get HO691.out z111 t694 p707 (by first | exact q707 | exact oa | (have e_ := (Kd.S_reads' HO691.out).1; omega)); obtain ⟨ve707_2, rfl, ge707_2⟩ := k111_openM hMe707; have hv707_2 := hcc707 2 _ rfl; rw [add_field _ _ 2 (by omega)] at hv707_2; replace hv707_2 := Option.some.inj (hv707_2.symm.trans hx707_2); rw [hv707_2] at ge707_2; have HL707_2 := Aside0.mk (show Kd.R Kd.string 9 _ _ _ _ ((rd_T111 t689 t694).f2) from ge707_2); clear hv707_2 ge707_2; have HX707_2 := Aside0.mk hx707_2; clear hcc707 hce707; have HR707_2 := Aside0.mk hi707_2; have HC707_2 := Aside0.mk hl707_2; clear hi707_2 hl707_2; replace p707 := eq_true p707; replace q707 := eq_true q707; have p25 : 0 ≤ (t694 : Int) := oa; have q25 : (t694 : Int) < ((t689.length : Int) : Int) := oa; obtain ⟨go25, co25, eo25, gb25, gl25, cl25, HG25⟩ := Kd.S_form HO691.out (by omega); (first | cases eo25 | (injection eo25 with ea_ en_ ec_; (first | subst ea_ | (injection ea_ with ea_; subst ea_)); subst ec_; clear en_)); have GB25 := Aside0.mk gb25; have GG25 := Aside0.mk HG25; clear gb25 gl25 HG25; (first | simp only [add_plain] at hx707_0 | skip); (first | simp only [add_plain] at hx707_1 | skip); (first | simp only [add_plain] at hx707_2 | skip); obtain ⟨_, ce25, hcl25, hM25, hcc25, hfr25, _, _⟩ := Kd.S_elem HO691.out z111 (t694 : Int) p25 q25; obtain ⟨ve25_2, rfl, ge25_2⟩ := k111_openM hM25; have hx25_0 : w29.cell? ⟨go25, (t694 : Int).toNat * 3, none⟩ = some (.int .i64 ((rd_T111 t689 t694).f0)) := hcc25 0 _ rfl; have hx25_1 : w29.cell? ⟨go25, (t694 : Int).toNat * 3 + 1, none⟩ = some (.int .i64 ((rd_T111 t689 t694).f1)) := hcc25 1 _ rfl; have hx25_2 : w29.cell? ⟨go25, (t694 : Int).toNat * 3 + 2, none⟩ = some (ve25_2) := hcc25 2 _ rfl; have hf25_0 : w29.frozen? ⟨go25, (t694 : Int).toNat * 3, none⟩ = false := hfr25 0; have hf25_1 : w29.frozen? ⟨go25, (t694 : Int).toNat * 3 + 1, none⟩ = false := hfr25 1; have hf25_2 : w29.frozen? ⟨go25, (t694 : Int).toNat * 3 + 2, none⟩ = false := hfr25 2; clear hcl25 hcc25 hfr25; (try clear hM25); replace p25 := eq_true p25; replace q25 := eq_true q25; have HX30 := Aside0.mk (show Kd.S k111 111 w29 w.heap.size (fun k_ => ((fun _ => True)) k_ ∧ ¬ ((fun _ => False)) k_) (.slice (some ⟨go25, 0, none⟩) t689.length co27) t689 from (by (with_reducible repeat (first | apply Kd.S_alloc | apply Kd.S_drewN | apply Kd.S_drew)); exact Kd.S_mono HO691.out (fun k_ hk => ⟨trivial, fun e_ => e_⟩))); obtain ⟨oki30, ce30, hcl30, hM30, hcc30, hfr30, hoki30, hH30⟩ := Kd.S_elem HX30.out z111 (t694 : Int) oa (by have h_ : (t694 : Int) < ((t689.length : Int) : Int) := oa; first | exact h_ | (have e_ := (Kd.S_reads' HO691.out).1; omega) | simpa using h_); obtain ⟨ve30_2, rfl, ge30_2⟩ := k111_openM hM30; have HP30 := Kd.S_seg hH30 oa (by have h_ : (t694 : Int) < ((t689.length : Int) : Int) := oa; first | exact h_ | (have e_ := (Kd.S_reads' HO691.out).1; omega) | simpa using h_) (seg := [.int .i64 (wrap64 (((rd_T111 t689 t694).f1) + 3))]) (j := 1) (show 2 ≤ 3 from by decide) (x' := (⟨(rd_T111 t689 t694).f0, wrap64 (((rd_T111 t689 t694).f1) + 3), (rd_T111 t689 t694).f2⟩ : S111)) (k111_mkM _ _ _ (⟨(rd_T111 t689 t694).f0, wrap64 (((rd_T111 t689 t694).f1) + 3), (rd_T111 t689 t694).f2⟩ : S111) (Kd.R_mono ge30_2 (fun _ h_ => Or.inl h_))) (fun _ hk => hk) (fun k_ hk_ => hk_.elim); have hx30_1 := hcc30 1 _ rfl; (try simp only [show (k111).sz = 3 from rfl, Nat.mul_one, Nat.add_zero] at hx30_1); have hf30_1 := hfr30 1; (try simp only [show (k111).sz = 3 from rfl, Nat.mul_one, Nat.add_zero] at hf30_1); clear hcl30 hcc30 hfr30 hoki30 hH30; (try clear hM30)) | ((with_reducible refine gate_store (t := 3) (p := 37) rfl ?_); refine store_event (t := 3) (p := 37) (v := ?vo_w31) (w1 := (w29.setCell ⟨go25, (t694 : Int).toNat * 3 + 1, none⟩ (.int .i64 (wrap64 (((rd_T111 t689 t694).f1) + 3))))) ?hg ?ho ?hn ?hr ?_; (case ho => rfl); (case hg => rfl); (case hn => rfl); (case hr => first | (go_simp; done) | (go_simp; rfl)); intro w31 hw; have hg : w29.grownBy w31 (some go25) := (by rw [hw]; exact HP30.2); have hp_ : Kd.S k111 111 w31 w.heap.size (fun _ => True) (.slice (some ⟨go25, 0, none⟩) t689.length co27) y708 := (by rw [hw, Ny708.out]; exact HP30.1); clear HP30; have n0_ := Aside0.mk (IsS122.grown zi hg (IsS122.own_neS HI0.out HO691.out (by decide))); have n1_ := Aside0.mk (hp_); have n2_ := Aside0.mk (Kd.R_after (v := (.slice (some ⟨go25, 0, none⟩) t689.length co27)) (v1 := (.slice (some ⟨go25, 0, none⟩) t689.length co27)) (ok := (fun _ => True)) (zr HL707_2.out) hg (.inl rfl)); have n3_ := Aside0.mk ((by rw [hw]; exact below_set (HB.out) (Nat.le_trans HL.out GB25.out) : Below w0.heap.size w0 w31)); have n4_ := Aside0.mk (KeepBut.trans zh (KeepBut.of_grown hg g) (Kd.S_base2 HO691.out)); clear HI0; clear HO691; clear HL707_2; clear HB; clear HK; have HI0 := n0_; have HO691 := n1_; have HL707_2 := n2_; have HB := n3_; have HK := n4_; clear n0_ n1_ n2_ n3_ n4_; clear hg hw hp_))
      go_ret
      exact ⟨_, by first | rfl | (simp [errW_none, errW_some] <;> rfl) | (simp [*, errW_none, errW_some] <;> rfl), by (with_reducible repeat (first | apply Kd.S_alloc | apply Kd.S_drewN | apply Kd.S_drew)); exact HO691.out, zi, zj, zh⟩
     ·rw [if_neg c24] at H
      exact absurd H (by simp)
    ·rw [if_neg c23] at H
     exact absurd H (by simp)
   ·rw [if_neg c22] at H
    have c22b0 : (t697 == 1) = false := beq_eq_false_iff_ne.mpr c22
    have c22b1 : (t697 != 1) = true := bne_iff_ne.mpr c22
    by_cases c32 : t697 = 2
    ·rw [if_pos c32] at H
     have c32b0 : (t697 == 2) = true := beq_iff_eq.mpr c32
     have c32b1 : (t697 != 2) = false := bne_eq_false_iff_eq.mpr c32
     clear c32
     obtain ⟨y709, hy709⟩ : ∃ y_ : List ByteArray, y_ = (([(⟨#[]⟩ : ByteArray)] : List ByteArray)) := ⟨_, rfl⟩
     replace H : (if 0 ≤ t694 then (if t694 < (t689.length : Int) then (some ((t689.set (t694 : Int).toNat (⟨(rd_T111 t689 t694).f0, (rd_T111 t689 t694).f1, y709⟩ : S111)), t698, t699)) else (none)) else (none)) = some (r1, r2, r3) := by first | (rw [hy709]; with_reducible exact H) | (have H2_ := (Option.bind_some _ _).symm.trans H; rw [hy709]; with_reducible exact H2_) | (have H2_ := (Option.bind_some _ _).symm.trans H; with_reducible exact H2_) | with_reducible exact H | (rw [hy709]; exact H) | exact H
     have Ny709 := Aside0.mk hy709
     clear hy709
     by_cases c33 : 0 ≤ t694
     ·rw [if_pos c33] at H
      have c33b0 : decide (0 ≤ t694) = true := decide_eq_true c33
      clear c33
      by_cases c34 : t694 < (t689.length : Int)
      ·rw [if_pos c34] at H
       have c34b0 : decide (t694 < (t689.length : Int)) = true := decide_eq_true c34
       clear c34
       obtain ⟨y712, hy712⟩ : ∃ y_ : List (S111), y_ = (t689.set (t694 : Int).toNat (⟨(rd_T111 t689 t694).f0, (rd_T111 t689 t694).f1, y709⟩ : S111)) := ⟨_, rfl⟩
       replace H : (some (y712, t698, t699)) = some (r1, r2, r3) := by first | (rw [hy712]; with_reducible exact H) | (have H2_ := (Option.bind_some _ _).symm.trans H; rw [hy712]; with_reducible exact H2_) | (have H2_ := (Option.bind_some _ _).symm.trans H; with_reducible exact H2_) | with_reducible exact H | (rw [hy712]; exact H) | exact H
       have Ny712 := Aside0.mk hy712
       clear hy712
       simp only [Option.some.injEq, Prod.mk.injEq] at H
       obtain ⟨rfl, rfl, rfl⟩ := H
       go_enter Try.func100, Try.ntmps100
       go_wp2_with (first | ((with_reducible refine gateC (f := 159) rfl ?_); refine goesL_ (some 9) rfl rfl Try.func159 (by kernel_rfl) rfl #[.pointer (some ⟨g, 0, none⟩), .slice A1 l1.length c1] rfl zm ?_; (with_reducible refine (spec_l1Cur_hunks.calls k g s0_0 s0_1 s0_2 _ _ l1 t689 t692 t693 w0 _ ?side1 ?side2 ?side3 ?side4 ?side5 A3.out).mono ?_); (case side1 => exact zi); (case side2 => exact zj); (case side3 => exact Kd.C_keep (⟨#[]⟩ : ByteArray) HR1.out zh hf1); (case side4 => exact HC1.out); (case side5 => exact hf1); rintro e w36 ⟨v690, rfl, ho0, hi, hb, hk⟩; refine ⟨_, rfl, ?_⟩; have n0_ := Aside0.mk (Kd.S_lower ho0 (keep_size (w := w) (g := g) (row := none) zh)); have n1_ := Aside0.mk (KeepBut.trans zh hk (.inl rfl)); have n2_ := Aside0.mk (hb); have n3_ := Aside0.mk (hi); clear HK; clear HB; clear HI0; have HO691 := n0_; have HK := n1_; have HB := n2_; have HI0 := n3_; clear n0_ n1_ n2_ n3_; (try clear hb); (try clear hb2); (try clear hk); (try clear hi); (try clear ho0); obtain ⟨Ao37, co37, eo37⟩ := Kd.S_slice HO691.out; subst eo37) | ((with_reducible refine gateC (f := 113) rfl ?_); refine goesL_ (some 16) rfl rfl Try.func113 (by kernel_rfl) rfl #[.pointer (some ⟨g, 0, none⟩), .int .i64 (t689.length : Int)] rfl zm ?_; (with_reducible refine (spec_l1Cur_pick.calls g s0_0 t692 t693 (t689.length : Int) t694 t695 t696 w0 _ ?side1 ?side2 A5.out).mono ?_); (case side1 => exact zi); (case side2 => exact zj); rintro e w38 ⟨rfl, hi, hb, hk⟩; refine ⟨_, rfl, ?_⟩; have n0_ := Aside0.mk (Kd.S_mono (Kd.S_keep (IsS122.apartS (show IsS122 w0 _ g s0_0 t692 t693 from zi) (zs HO691.out) (by decide)) hk (fun _ h => h.2)) (fun _ h => h.1)); have n1_ := Aside0.mk (KeepBut.trans zh hk (.inl rfl)); have n2_ := Aside0.mk (hb); have n3_ := Aside0.mk (hi); clear HO691; clear HK; clear HB; clear HI0; have HO691 := n0_; have HK := n1_; have HB := n2_; have HI0 := n3_; clear n0_ n1_ n2_ n3_; (try clear hb); (try clear hb2); (try clear hk); (try clear hi)) | ((with_reducible refine gateC (f := 113) rfl ?_); refine goesL_ (some 18) rfl rfl Try.func113 (by kernel_rfl) rfl #[.pointer (some ⟨g, 0, none⟩), .int .i64 25] rfl zm ?_; (with_reducible refine (spec_l1Cur_pick.calls g s0_0 t695 t696 25 t697 t698 t699 w0 _ ?side1 ?side2 A6.out).mono ?_); (case side1 => exact zi); (case side2 => exact zj); rintro e w39 ⟨rfl, hi, hb, hk⟩; refine ⟨_, rfl, ?_⟩; have n0_ := Aside0.mk (Kd.S_mono (Kd.S_keep (IsS122.apartS (show IsS122 w0 _ g s0_0 t695 t696 from zi) (zs HO691.out) (by decide)) hk (fun _ h => h.2)) (fun _ h => h.1)); have n1_ := Aside0.mk (KeepBut.trans zh hk (.inl rfl)); have n2_ := Aside0.mk (hb); have n3_ := Aside0.mk (hi); clear HO691; clear HK; clear HB; clear HI0; have HO691 := n0_; have HK := n1_; have HB := n2_; have HI0 := n3_; clear n0_ n1_ n2_ n3_; (try clear hb); (try clear hb2); (try clear hk); (try clear hi)) | ((with_reducible refine gate_dst (N := 42) rfl ?_); refine Kd.R_lit Kd.string _ 9 ?hg (N := 42) ?hd (xs := ([(⟨#[]⟩ : ByteArray)] : List ByteArray)) (inner := [.string (⟨#[]⟩ : ByteArray)]) (ok := fun _ => True) (okp := fun _ => True) ?hr ?hp (fun _ hk => hk) trivial (Below.refl _ _) (Nat.le_refl _) (by simp) ?_; (case hd => rfl); (case hg => rfl); (case hr => first | (go_simp; done) | (go_simp; rfl)); (case hp => exact (Reps.one (show Kd.M Kd.string _ _ _ (⟨#[]⟩ : ByteArray) [.string (⟨#[]⟩ : ByteArray)] from rfl) (Reps.none _ _))); intro v710 w40 ho41 hb hg_ hnew_; clear hg_ hnew_; (first | rw [← Ny709.out] at ho41 | (simp only [Int.reduceToNat] at ho41; rw [← Ny709.out] at ho41)); have n0_ := Aside0.mk (Kd.S_elder' (zs HO691.out) (Kd.R_base ho41) hb); have n1_ := Aside0.mk (Kd.R_lower ho41 (keep_size (w := w) (g := g) (row := none) zh)); have n2_ := Aside0.mk (IsS122.below zi hb); have n3_ := Aside0.mk (KeepBut.trans zh (KeepBut.of_below hb g none) (.inl rfl)); have n4_ := Aside0.mk (below_step zj hb); clear HO691; clear HI0; clear HK; clear HB; have HO691 := n0_; have HO711 := n1_; have HI0 := n2_; have HK := n3_; have HB := n4_; clear n0_ n1_ n2_ n3_ n4_; clear hb ho41; have p35 : 0 ≤ (t694 : Int) := oa; have q35 : (t694 : Int) < ((t689.length : Int) : Int) := oa; obtain ⟨go35, co35, eo35, gb35, gl35, cl35, HG35⟩ := Kd.S_form HO691.out (by omega); (first | cases eo35 | (injection eo35 with ea_ en_ ec_; (first | subst ea_ | (injection ea_ with ea_; subst ea_)); subst ec_; clear en_)); have GB35 := Aside0.mk gb35; have GG35 := Aside0.mk HG35; clear gb35 gl35 HG35; obtain ⟨_, ce35, hcl35, hM35, hcc35, hfr35, _, _⟩ := Kd.S_elem HO691.out z111 (t694 : Int) p35 q35; obtain ⟨ve35_2, rfl, ge35_2⟩ := k111_openM hM35; have hx35_0 : w40.cell? ⟨go35, (t694 : Int).toNat * 3, none⟩ = some (.int .i64 ((rd_T111 t689 t694).f0)) := hcc35 0 _ rfl; have hx35_1 : w40.cell? ⟨go35, (t694 : Int).toNat * 3 + 1, none⟩ = some (.int .i64 ((rd_T111 t689 t694).f1)) := hcc35 1 _ rfl; have hx35_2 : w40.cell? ⟨go35, (t694 : Int).toNat * 3 + 2, none⟩ = some (ve35_2) := hcc35 2 _ rfl; have hf35_0 : w40.frozen? ⟨go35, (t694 : Int).toNat * 3, none⟩ = false := hfr35 0; have hf35_1 : w40.frozen? ⟨go35, (t694 : Int).toNat * 3 + 1, none⟩ = false := hfr35 1; have hf35_2 : w40.frozen? ⟨go35, (t694 : Int).toNat * 3 + 2, none⟩ = false := hfr35 2; clear hcl35 hcc35 hfr35; (try clear hM35); replace p35 := eq_true p35; replace q35 := eq_true q35; have n_ := Aside0.mk (Kd.S_mono (ok' := (fun k_ => some k_ ≠ (v710 : Value).ownBlock)) HO691.out (fun k_ hk => hk.2)); clear HO691; have HO691 := n_; clear n_; have HX42 := Aside0.mk (show Kd.S k111 111 w40 w.heap.size (fun k_ => ((fun _ => True)) k_ ∧ ¬ ((fun k_ => some k_ = (v710 : Value).ownBlock)) k_) (.slice (some ⟨go35, 0, none⟩) t689.length co37) t689 from (by (with_reducible repeat (first | apply Kd.S_alloc | apply Kd.S_drewN | apply Kd.S_drew)); exact Kd.S_mono HO691.out (fun k_ hk => ⟨trivial, fun e_ => hk e_⟩))); obtain ⟨oki42, ce42, hcl42, hM42, hcc42, hfr42, hoki42, hH42⟩ := Kd.S_elem HX42.out z111 (t694 : Int) oa (by have h_ : (t694 : Int) < ((t689.length : Int) : Int) := oa; first | exact h_ | (have e_ := (Kd.S_reads' HO691.out).1; omega) | simpa using h_); obtain ⟨ve42_2, rfl, ge42_2⟩ := k111_openM hM42; have HP42 := Kd.S_seg hH42 oa (by have h_ : (t694 : Int) < ((t689.length : Int) : Int) := oa; first | exact h_ | (have e_ := (Kd.S_reads' HO691.out).1; omega) | simpa using h_) (seg := [v710]) (j := 2) (show 3 ≤ 3 from by decide) (x' := (⟨(rd_T111 t689 t694).f0, (rd_T111 t689 t694).f1, y709⟩ : S111)) (k111_mkM _ _ _ (⟨(rd_T111 t689 t694).f0, (rd_T111 t689 t694).f1, y709⟩ : S111) (Kd.R_mono (Kd.R_tight rfl (Kd.R_mono (ok' := fun k_ => ((fun _ => True)) k_ ∧ k_ ≠ go35) (Kd.R_apart' (HO711.out) (Kd.S_typed HO691.out) (by decide)) (fun k_ hk => ⟨trivial, fun e_ => (hk.2) (by rw [e_]; rfl)⟩))) (fun _ h_ => Or.inr (h_)))) (fun _ hk => hk) (fun k_ hk_ => ((Kd.R_mono (ok' := fun k_ => ((fun _ => True)) k_ ∧ k_ ≠ go35) (Kd.R_apart' (HO711.out) (Kd.S_typed HO691.out) (by decide)) (fun k_ hk => ⟨trivial, fun e_ => (hk.2) (by rw [e_]; rfl)⟩))).1 k_ hk_.symm); have hx42_2 := hcc42 2 _ rfl; (try simp only [show (k111).sz = 3 from rfl, Nat.mul_one, Nat.add_zero] at hx42_2); have hf42_2 := hfr42 2; (try simp only [show (k111).sz = 3 from rfl, Nat.mul_one, Nat.add_zero] at hf42_2); clear hcl42 hcc42 hfr42 hoki42 hH42; (try clear hM42)) | ((with_reducible refine gate_store (t := 22) (p := 44) rfl ?_); refine store_event (t := 22) (p := 44) (v := ?vo_w43) (w1 := (w40.setCell ⟨go35, (t694 : Int).toNat * 3 + 2, none⟩ (v710))) ?hg ?ho ?hn ?hr ?_; (case ho => rfl); (case hg => rfl); (case hn => rfl); (case hr => (obtain ⟨A0_, c0_, e0_⟩ := Kd.R_slice HO711.out); (subst e0_); first | (go_simp; done) | (go_simp; rfl)); intro w43 hw; have hg : w40.grownBy w43 (some go35) := (by rw [hw]; exact HP42.2); have hp_ : Kd.S k111 111 w43 w.heap.size (fun _ => True) (.slice (some ⟨go35, 0, none⟩) t689.length co37) y712 := (by rw [hw, Ny712.out]; exact HP42.1); clear HP42; have n0_ := Aside0.mk (IsS122.grown zi hg (IsS122.own_neS HI0.out HO691.out (by decide))); have n1_ := Aside0.mk (hp_); have n2_ := Aside0.mk ((by rw [hw]; exact below_set (HB.out) (Nat.le_trans HL.out GB35.out) : Below w0.heap.size w0 w43)); have n3_ := Aside0.mk (KeepBut.trans zh (KeepBut.of_grown hg g) (Kd.S_base2 HO691.out)); clear HI0; clear HO691; clear HB; clear HK; clear HO711; have HI0 := n0_; have HO691 := n1_; have HB := n2_; have HK := n3_; clear n0_ n1_ n2_ n3_; clear hg hw hp_))
       go_ret
       exact ⟨_, by first | rfl | (simp [errW_none, errW_some] <;> rfl) | (simp [*, errW_none, errW_some] <;> rfl), by (with_reducible repeat (first | apply Kd.S_alloc | apply Kd.S_drewN | apply Kd.S_drew)); exact HO691.out, zi, zj, zh⟩
      ·rw [if_neg c34] at H
       exact absurd H (by simp)
     ·rw [if_neg c33] at H
      exact absurd H (by simp)
    ·rw [if_neg c32] at H
     have c32b0 : (t697 == 2) = false := beq_eq_false_iff_ne.mpr c32
     have c32b1 : (t697 != 2) = true := bne_iff_ne.mpr c32
     by_cases c44 : t697 = 3
     ·rw [if_pos c44] at H
      have c44b0 : (t697 == 3) = true := beq_iff_eq.mpr c44
      have c44b1 : (t697 != 3) = false := bne_eq_false_iff_eq.mpr c44
      clear c44
      by_cases c45 : 0 ≤ t694
      ·rw [if_pos c45] at H
       have c45b0 : decide (0 ≤ t694) = true := decide_eq_true c45
       clear c45
       by_cases c46 : t694 < (t689.length : Int)
       ·rw [if_pos c46] at H
        have c46b0 : decide (t694 < (t689.length : Int)) = true := decide_eq_true c46
        clear c46
        by_cases c47 : ((rd_T111 t689 t694).f2).length < 8796093022208
        ·rw [if_pos c47] at H
         have LMc47 := Aside0.mk c47
         clear c47
         obtain ⟨y714, hy714⟩ : ∃ y_ : List ByteArray, y_ = (((rd_T111 t689 t694).f2) ++ [(⟨#[101, 110, 100]⟩ : ByteArray)]) := ⟨_, rfl⟩
         replace H : (some ((t689.set (t694 : Int).toNat (⟨(rd_T111 t689 t694).f0, (rd_T111 t689 t694).f1, y714⟩ : S111)), t698, t699)) = some (r1, r2, r3) := by first | (rw [hy714]; with_reducible exact H) | (have H2_ := (Option.bind_some _ _).symm.trans H; rw [hy714]; with_reducible exact H2_) | (have H2_ := (Option.bind_some _ _).symm.trans H; with_reducible exact H2_) | with_reducible exact H | (rw [hy714]; exact H) | exact H
         have Ny714 := Aside0.mk hy714
         clear hy714
         obtain ⟨y717, hy717⟩ : ∃ y_ : List (S111), y_ = (t689.set (t694 : Int).toNat (⟨(rd_T111 t689 t694).f0, (rd_T111 t689 t694).f1, y714⟩ : S111)) := ⟨_, rfl⟩
         replace H : (some (y717, t698, t699)) = some (r1, r2, r3) := by first | (rw [hy717]; with_reducible exact H) | (have H2_ := (Option.bind_some _ _).symm.trans H; rw [hy717]; with_reducible exact H2_) | (have H2_ := (Option.bind_some _ _).symm.trans H; with_reducible exact H2_) | with_reducible exact H | (rw [hy717]; exact H) | exact H
         have Ny717 := Aside0.mk hy717
         clear hy717
         simp only [Option.some.injEq, Prod.mk.injEq] at H
         obtain ⟨rfl, rfl, rfl⟩ := H
         go_enter Try.func100, Try.ntmps100
         go_wp2_with (first | ((with_reducible refine gateC (f := 159) rfl ?_); refine goesL_ (some 9) rfl rfl Try.func159 (by kernel_rfl) rfl #[.pointer (some ⟨g, 0, none⟩), .slice A1 l1.length c1] rfl zm ?_; (with_reducible refine (spec_l1Cur_hunks.calls k g s0_0 s0_1 s0_2 _ _ l1 t689 t692 t693 w0 _ ?side1 ?side2 ?side3 ?side4 ?side5 A3.out).mono ?_); (case side1 => exact zi); (case side2 => exact zj); (case side3 => exact Kd.C_keep (⟨#[]⟩ : ByteArray) HR1.out zh hf1); (case side4 => exact HC1.out); (case side5 => exact hf1); rintro e w49 ⟨v690, rfl, ho0, hi, hb, hk⟩; refine ⟨_, rfl, ?_⟩; have n0_ := Aside0.mk (Kd.S_lower ho0 (keep_size (w := w) (g := g) (row := none) zh)); have n1_ := Aside0.mk (KeepBut.trans zh hk (.inl rfl)); have n2_ := Aside0.mk (hb); have n3_ := Aside0.mk (hi); clear HK; clear HB; clear HI0; have HO691 := n0_; have HK := n1_; have HB := n2_; have HI0 := n3_; clear n0_ n1_ n2_ n3_; (try clear hb); (try clear hb2); (try clear hk); (try clear hi); (try clear ho0); obtain ⟨Ao50, co50, eo50⟩ := Kd.S_slice HO691.out; subst eo50) | ((with_reducible refine gateC (f := 113) rfl ?_); refine goesL_ (some 16) rfl rfl Try.func113 (by kernel_rfl) rfl #[.pointer (some ⟨g, 0, none⟩), .int .i64 (t689.length : Int)] rfl zm ?_; (with_reducible refine (spec_l1Cur_pick.calls g s0_0 t692 t693 (t689.length : Int) t694 t695 t696 w0 _ ?side1 ?side2 A5.out).mono ?_); (case side1 => exact zi); (case side2 => exact zj); rintro e w51 ⟨rfl, hi, hb, hk⟩; refine ⟨_, rfl, ?_⟩; have n0_ := Aside0.mk (Kd.S_mono (Kd.S_keep (IsS122.apartS (show IsS122 w0 _ g s0_0 t692 t693 from zi) (zs HO691.out) (by decide)) hk (fun _ h => h.2)) (fun _ h => h.1)); have n1_ := Aside0.mk (KeepBut.trans zh hk (.inl rfl)); have n2_ := Aside0.mk (hb); have n3_ := Aside0.mk (hi); clear HO691; clear HK; clear HB; clear HI0; have HO691 := n0_; have HK := n1_; have HB := n2_; have HI0 := n3_; clear n0_ n1_ n2_ n3_; (try clear hb); (try clear hb2); (try clear hk); (try clear hi)) | ((with_reducible refine gateC (f := 113) rfl ?_); refine goesL_ (some 18) rfl rfl Try.func113 (by kernel_rfl) rfl #[.pointer (some ⟨g, 0, none⟩), .int .i64 25] rfl zm ?_; (with_reducible refine (spec_l1Cur_pick.calls g s0_0 t695 t696 25 t697 t698 t699 w0 _ ?side1 ?side2 A6.out).mono ?_); (case side1 => exact zi); (case side2 => exact zj); rintro e w52 ⟨rfl, hi, hb, hk⟩; refine ⟨_, rfl, ?_⟩; have n0_ := Aside0.mk (Kd.S_mono (Kd.S_keep (IsS122.apartS (show IsS122 w0 _ g s0_0 t695 t696 from zi) (zs HO691.out) (by decide)) hk (fun _ h => h.2)) (fun _ h => h.1)); have n1_ := Aside0.mk (KeepBut.trans zh hk (.inl rfl)); have n2_ := Aside0.mk (hb); have n3_ := Aside0.mk (hi); clear HO691; clear HK; clear HB; clear HI0; have HO691 := n0_; have HK := n1_; have HB := n2_; have HI0 := n3_; clear n0_ n1_ n2_ n3_; (try clear hb); (try clear hb2); (try clear hk); (try clear hi); have p713 : 0 ≤ (t694 : Int) := oa; have q713 : t694 < (t689.length : Int) := oa; obtain ⟨ad713, A713_2, c713_2, e713, hx713_0, hx713_1, hx713_2, hl713_2, hi713_2⟩ := at_T111 (Kd.S_reads' HO691.out).2.2 t694 p713 q713; cases e713; obtain ⟨ce713, hce713, hMe713, hcc713⟩ := Kd.S_get HO691.out z111 t694 p713 (by first | exact q713 | exact oa | (have e_ := (Kd.S_reads' HO691.out).1; omega)); obtain ⟨ve713_2, rfl, ge713_2⟩ := k111_openM hMe713; have hv713_2 := hcc713 2 _ rfl; rw [add_field _ _ 2 (by omega)] at hv713_2; replace hv713_2 := Option.some.inj (hv713_2.symm.trans hx713_2); rw [hv713_2] at ge713_2; have HL713_2 := Aside0.mk (show Kd.R Kd.string 9 _ _ _ _ ((rd_T111 t689 t694).f2) from ge713_2); clear hv713_2 ge713_2; have HX713_2 := Aside0.mk hx713_2; clear hcc713 hce713; have HR713_2 := Aside0.mk hi713_2; have HC713_2 := Aside0.mk hl713_2; clear hi713_2 hl713_2; replace p713 := eq_true p713; replace q713 := eq_true q713; obtain ⟨go53, co53, eo53, gb53, gl53, cl53, HG53⟩ := Kd.S_form HO691.out (by have h_ : (t694 : Int) < ((t689.length : Int) : Int) := oa; have h2_ : 0 ≤ (t694 : Int) := oa; omega); (first | cases eo53 | (injection eo53 with ea_ en_ ec_; (first | subst ea_ | (injection ea_ with ea_; subst ea_)); subst ec_; clear en_)); have GB53 := Aside0.mk gb53; have GG53 := Aside0.mk HG53; clear gb53 gl53 HG53; (first | simp only [add_plain] at hx713_0 | skip); (first | simp only [add_plain] at hx713_1 | skip); (first | simp only [add_plain] at hx713_2 | skip); obtain ⟨oki53, ce53, hcl53, hM53, hcc53, _, _, hH53⟩ := Kd.S_elem HO691.out z111 (t694 : Int) oa (by have h_ : (t694 : Int) < ((t689.length : Int) : Int) := oa; first | exact h_ | (have e_ := (Kd.S_reads' HO691.out).1; omega) | simpa using h_); obtain ⟨ve53_2, rfl, ge53_2⟩ := k111_openM hM53; have hv53 := hcc53 2 _ rfl; have hX53 := HX713_2.out; (try simp only [add_plain] at hX53); (try simp only [Nat.add_zero] at hv53); replace hv53 := Option.some.inj (hv53.symm.trans hX53); subst hv53; clear hX53 hcc53 hcl53; have UU53 := Aside0.mk (show Kd.R Kd.string 9 _ w.heap.size oki53 (.slice A713_2 ((rd_T111 t689 t694).f2).length c713_2) ((rd_T111 t689 t694).f2) from ge53_2); have HH53 := Aside0.mk hH53; have HN53 := Aside0.mk (Kd.S_reads' HO691.out).1; clear hH53 ge53_2) | ((with_reducible refine gateB (b := .append) (xs := #[.tmp 53, .tmp 54]) rfl ?_); at_builtin; refine Kd.R_append Kd.string w.heap.size rfl (.tmp 53) (.tmp 54) 22 9 (.string ⟨#[]⟩) 16 rfl Try.underlying22 info9 rfl (by decide) (by omega) (.slice A713_2 ((rd_T111 t689 t694).f2).length c713_2) ((rd_T111 t689 t694).f2) (⟨#[101, 110, 100]⟩ : ByteArray) [.string (⟨#[101, 110, 100]⟩ : ByteArray)] (fun k_ => oki53 k_ ∨ ((fun _ => True)) k_ ∧ w52.heap.size ≤ k_) (fun _ => False) rfl rfl ?aP (fun _ hk => hk.elim) ?aF ?aO (Below.refl _ _) ?aS ?aL ?_; (case aP => exact rfl); (case aF => exact (fun k_ hk => .inr ⟨trivial, hk⟩)); (case aO => exact (by (with_reducible repeat (first | apply Kd.R_alloc | apply Kd.R_drewN | apply Kd.R_drew)); exact Kd.R_mono UU53.out (fun _ hk => .inl hk))); (case aS => exact (keep_size (w := w) (g := g) (row := none) zh)); (case aL => have := LMc47.out; omega); intro v715 w54 ho hb hg hat; rw [← Ny714.out] at ho; have n0_ := Aside0.mk (IsS122.grown zi hg (IsS122.own_ne HI0.out HL713_2.out (by decide))); have n1_ := Aside0.mk (below_weaken zj HL.out hb); have n2_ := Aside0.mk (KeepBut.trans zh (KeepBut.of_grown hg g) (Kd.R_base2 HL713_2.out)); have n3_ := Aside0.mk (Kd.H_grown (Kd.H_widen (by repeat (first | exact HH53.out | refine Kd.H_alloc ?_ _ | refine Kd.H_drewN ?_ _ | refine Kd.H_drew ?_))) hg (fun k_ e_ => .inl (UU53.out.1 k_ e_))); have n4_ := Aside0.mk (ho); clear HI0; clear HB; clear HK; clear HH53; clear HO691; clear UU53; clear HL713_2; have HI0 := n0_; have HB := n1_; have HK := n2_; have HH53 := n3_; have HO716 := n4_; clear n0_ n1_ n2_ n3_ n4_; clear ho hb hg hat; have p48 : 0 ≤ (t694 : Int) := oa; have q48 : (t694 : Int) < ((t689.length : Int) : Int) := oa; replace p48 := eq_true p48; replace q48 := eq_true q48; obtain ⟨Ao57, co57, eo57⟩ := Kd.R_slice HO716.out; subst eo57; obtain ⟨_, _, hraw55, _, _, hcc55, _⟩ := Kd.H_raw HH53.out oa (by have h_ : (t694 : Int) < ((t689.length : Int) : Int) := oa; first | exact h_ | (have e_ := (HN53.out); omega) | simpa using h_); obtain ⟨_, hfr55⟩ := Kd.H_at HH53.out oa (by have h_ : (t694 : Int) < ((t689.length : Int) : Int) := oa; first | exact h_ | (have e_ := (HN53.out); omega) | simpa using h_); have hx55_0 := hcc55 2 _ rfl; have hf55_0 := hfr55 2; (try rw [show (k111).sz = 3 from rfl] at hx55_0); (try rw [show (k111).sz = 3 from rfl] at hf55_0); have HP55 := Kd.S_seg0 HH53.out oa (by have h_ : (t694 : Int) < ((t689.length : Int) : Int) := oa; first | exact h_ | (have e_ := (HN53.out); omega) | simpa using h_) (seg := [.slice Ao57 y714.length co57]) (j := 2) (show 3 ≤ 3 from by decide) (x' := (⟨(rd_T111 t689 t694).f0, (rd_T111 t689 t694).f1, y714⟩ : S111)) (k111_mkM _ _ _ (⟨(rd_T111 t689 t694).f0, (rd_T111 t689 t694).f1, y714⟩ : S111) HO716.out) (fun _ hk => hk); clear hcc55 hfr55) | ((with_reducible refine gate_store (t := 22) (p := 57) rfl ?_); refine store_event (t := 22) (p := 57) (v := ?vo_w56) (w1 := (w54.setCell ⟨go53, (t694 : Int).toNat * 3 + 2, none⟩ (.slice Ao57 y714.length co57))) ?hg ?ho ?hn ?hr ?_; (case ho => rfl); (case hg => rfl); (case hn => rfl); (case hr => first | (go_simp; done) | (go_simp; rfl)); intro w56 hw; have hg : w54.grownBy w56 (some go53) := (by rw [hw]; exact HP55.2); have hp_ : Kd.S k111 111 w56 w.heap.size (fun _ => True) (.slice (some ⟨go53, 0, none⟩) t689.length co50) y717 := (by rw [hw, Ny717.out]; exact HP55.1); clear HP55; have n0_ := Aside0.mk (IsS122.grown zi hg (IsS122.own_ne HI0.out hraw55 (by decide))); have n1_ := Aside0.mk ((by rw [hw]; exact below_set HB.out (Nat.le_trans HL.out GB53.out) : Below w0.heap.size w0 w56)); have n2_ := Aside0.mk (KeepBut.trans zh (KeepBut.of_grown hg g) (Kd.R_base2 hraw55)); have n3_ := Aside0.mk (hp_); clear HI0; clear HB; clear HK; clear HO716; clear HH53; have HI0 := n0_; have HB := n1_; have HK := n2_; have HO691 := n3_; clear n0_ n1_ n2_ n3_; clear hg hw hp_ hraw55))
         go_ret
         exact ⟨_, by first | rfl | (simp [errW_none, errW_some] <;> rfl) | (simp [*, errW_none, errW_some] <;> rfl), by (with_reducible repeat (first | apply Kd.S_alloc | apply Kd.S_drewN | apply Kd.S_drew)); exact HO691.out, zi, zj, zh⟩
        ·rw [if_neg c47] at H
         exact absurd H (by simp)
       ·rw [if_neg c46] at H
        exact absurd H (by simp)
      ·rw [if_neg c45] at H
       exact absurd H (by simp)
     ·rw [if_neg c44] at H
      have c44b0 : (t697 == 3) = false := beq_eq_false_iff_ne.mpr c44
      have c44b1 : (t697 != 3) = true := bne_iff_ne.mpr c44
      simp only [Option.some.injEq, Prod.mk.injEq] at H
      obtain ⟨rfl, rfl, rfl⟩ := H
      go_enter Try.func100, Try.ntmps100
      go_wp2_with (first | ((with_reducible refine gateC (f := 159) rfl ?_); refine goesL_ (some 9) rfl rfl Try.func159 (by kernel_rfl) rfl #[.pointer (some ⟨g, 0, none⟩), .slice A1 l1.length c1] rfl zm ?_; (with_reducible refine (spec_l1Cur_hunks.calls k g s0_0 s0_1 s0_2 _ _ l1 t689 t692 t693 w0 _ ?side1 ?side2 ?side3 ?side4 ?side5 A3.out).mono ?_); (case side1 => exact zi); (case side2 => exact zj); (case side3 => exact Kd.C_keep (⟨#[]⟩ : ByteArray) HR1.out zh hf1); (case side4 => exact HC1.out); (case side5 => exact hf1); rintro e w58 ⟨v690, rfl, ho0, hi, hb, hk⟩; refine ⟨_, rfl, ?_⟩; have n0_ := Aside0.mk (Kd.S_lower ho0 (keep_size (w := w) (g := g) (row := none) zh)); have n1_ := Aside0.mk (KeepBut.trans zh hk (.inl rfl)); have n2_ := Aside0.mk (hb); have n3_ := Aside0.mk (hi); clear HK; clear HB; clear HI0; have HO691 := n0_; have HK := n1_; have HB := n2_; have HI0 := n3_; clear n0_ n1_ n2_ n3_; (try clear hb); (try clear hb2); (try clear hk); (try clear hi); (try clear ho0); obtain ⟨Ao59, co59, eo59⟩ := Kd.S_slice HO691.out; subst eo59) | ((with_reducible refine gateC (f := 113) rfl ?_); refine goesL_ (some 16) rfl rfl Try.func113 (by kernel_rfl) rfl #[.pointer (some ⟨g, 0, none⟩), .int .i64 (t689.length : Int)] rfl zm ?_; (with_reducible refine (spec_l1Cur_pick.calls g s0_0 t692 t693 (t689.length : Int) t694 t695 t696 w0 _ ?side1 ?side2 A5.out).mono ?_); (case side1 => exact zi); (case side2 => exact zj); rintro e w60 ⟨rfl, hi, hb, hk⟩; refine ⟨_, rfl, ?_⟩; have n0_ := Aside0.mk (Kd.S_mono (Kd.S_keep (IsS122.apartS (show IsS122 w0 _ g s0_0 t692 t693 from zi) (zs HO691.out) (by decide)) hk (fun _ h => h.2)) (fun _ h => h.1)); have n1_ := Aside0.mk (KeepBut.trans zh hk (.inl rfl)); have n2_ := Aside0.mk (hb); have n3_ := Aside0.mk (hi); clear HO691; clear HK; clear HB; clear HI0; have HO691 := n0_; have HK := n1_; have HB := n2_; have HI0 := n3_; clear n0_ n1_ n2_ n3_; (try clear hb); (try clear hb2); (try clear hk); (try clear hi)) | ((with_reducible refine gateC (f := 113) rfl ?_); refine goesL_ (some 18) rfl rfl Try.func113 (by kernel_rfl) rfl #[.pointer (some ⟨g, 0, none⟩), .int .i64 25] rfl zm ?_; (with_reducible refine (spec_l1Cur_pick.calls g s0_0 t695 t696 25 t697 t698 t699 w0 _ ?side1 ?side2 A6.out).mono ?_); (case side1 => exact zi); (case side2 => exact zj); rintro e w61 ⟨rfl, hi, hb, hk⟩; refine ⟨_, rfl, ?_⟩; have n0_ := Aside0.mk (Kd.S_mono (Kd.S_keep (IsS122.apartS (show IsS122 w0 _ g s0_0 t695 t696 from zi) (zs HO691.out) (by decide)) hk (fun _ h => h.2)) (fun _ h => h.1)); have n1_ := Aside0.mk (KeepBut.trans zh hk (.inl rfl)); have n2_ := Aside0.mk (hb); have n3_ := Aside0.mk (hi); clear HO691; clear HK; clear HB; clear HI0; have HO691 := n0_; have HK := n1_; have HB := n2_; have HI0 := n3_; clear n0_ n1_ n2_ n3_; (try clear hb); (try clear hb2); (try clear hk); (try clear hi)))
      go_ret
      exact ⟨_, by first | rfl | (simp [errW_none, errW_some] <;> rfl) | (simp [*, errW_none, errW_some] <;> rfl), by (with_reducible repeat (first | apply Kd.S_alloc | apply Kd.S_drewN | apply Kd.S_drew)); exact HO691.out, zi, zj, zh⟩
 ·rw [if_neg c4] at H
  have c4b0 : decide (0 < (t689.length : Int)) = false := decide_eq_false c4
  have c4b1 : decide (0 < t689.length) = false := decide_eq_false (by omega)
  clear c4
  simp only [Option.some.injEq, Prod.mk.injEq] at H
  obtain ⟨rfl, rfl, rfl⟩ := H
  go_enter Try.func100, Try.ntmps100
  go_wp2_with (first | ((with_reducible refine gateC (f := 159) rfl ?_); refine goesL_ (some 9) rfl rfl Try.func159 (by kernel_rfl) rfl #[.pointer (some ⟨g, 0, none⟩), .slice A1 l1.length c1] rfl zm ?_; (with_reducible refine (spec_l1Cur_hunks.calls k g s0_0 s0_1 s0_2 _ _ l1 t689 t692 t693 w0 _ ?side1 ?side2 ?side3 ?side4 ?side5 A3.out).mono ?_); (case side1 => exact zi); (case side2 => exact zj); (case side3 => exact Kd.C_keep (⟨#[]⟩ : ByteArray) HR1.out zh hf1); (case side4 => exact HC1.out); (case side5 => exact hf1); rintro e w62 ⟨v690, rfl, ho0, hi, hb, hk⟩; refine ⟨_, rfl, ?_⟩; have n0_ := Aside0.mk (Kd.S_lower ho0 (keep_size (w := w) (g := g) (row := none) zh)); have n1_ := Aside0.mk (KeepBut.trans zh hk (.inl rfl)); have n2_ := Aside0.mk (hb); have n3_ := Aside0.mk (hi); clear HK; clear HB; clear HI0; have HO691 := n0_; have HK := n1_; have HB := n2_; have HI0 := n3_; clear n0_ n1_ n2_ n3_; (try clear hb); (try clear hb2); (try clear hk); (try clear hi); (try clear ho0); obtain ⟨Ao63, co63, eo63⟩ := Kd.S_slice HO691.out; subst eo63))
  go_ret
  exact ⟨_, by first | rfl | (simp [errW_none, errW_some] <;> rfl) | (simp [*, errW_none, errW_some] <;> rfl), by (with_reducible repeat (first | apply Kd.S_alloc | apply Kd.S_drewN | apply Kd.S_drew)); exact HO691.out, zi, zj, zh⟩

end Go.Proofs.Ytcefenlblnediaa.My

/- Written by this session's program (wip/gen): a plain function with the same answers as the Go function, and the proof that the Go code comes to them. Asked: that the plain function has an answer. -/
namespace Go.Proofs.Ytcefenlblnediaa.My
open Go.RowKit Go.Proofs.YtcefenlblnediaaW.PrintWords Go.Proofs.YtcefenlblnediaaW.PrintLast Go.Proofs.YtcefenlblnediaaW.PrintMore
attribute [local go_sem] max2_int min2_int max_two min_two max_three min_three max_four min_four
set_option linter.unusedVariables false
set_option linter.unusedSimpArgs false

/-! ### spec_l1Cur_one: function 105 -/
def spec_l1Cur_one.f (s0_0 : List Int) (s0_1 : Int) (s0_2 : Int) (a1 : Int) : Option (Bool × Int × Int) := (spec_l1Cur_pick.f s0_0 s0_1 s0_2 a1).bind fun bt718 => (some ((bt718.1 == 0), bt718.2.1, bt718.2.2))
set_option maxHeartbeats 8000000 in
set_option maxRecDepth 100000 in
theorem spec_l1Cur_one.calls (g : Nat) (s0_0 : List Int) (s0_1 : Int) (s0_2 : Int) (a1 : Int) (r1 : Bool) (r2 : Int) (r3 : Int) (w0 w : World) (hI : IsS122 w0 w g s0_0 s0_1 s0_2) (hB : Below w0.heap.size w0 w) (h : spec_l1Cur_one.f s0_0 s0_1 s0_2 a1 = some (r1, r2, r3)) :
  Calls Try.prog 105 #[.pointer (some ⟨g, 0, none⟩), .int .i64 a1] w fun e w' => e = .returned (.bool r1) ∧ IsS122 w0 w' g s0_0 r2 r3 ∧ Below w0.heap.size w0 w' ∧ KeepBut w w' g none := by
 have HI0 := Aside0.mk hI
 have HK := Aside0.mk (KeepBut.refl w g none)
 have HL := Aside0.mk hB.size
 clear hI
 have HW0 := Aside0.mk hB.size
 have HB := Aside0.mk hB
 clear hB
 have H : ((spec_l1Cur_pick.f s0_0 s0_1 s0_2 a1).bind fun bt718 => (some ((bt718.1 == 0), bt718.2.1, bt718.2.2))) = some (r1, r2, r3) := h
 clear h
 replace H := Option.bind_eq_some_iff.mp H
 obtain ⟨⟨t718, t719, t720⟩, A30, H⟩ := H
 replace H : (some ((t718 == 0), t719, t720)) = some (r1, r2, r3) := H
 have A3 := Aside0.mk A30
 clear A30
 simp only [Option.some.injEq, Prod.mk.injEq] at H
 obtain ⟨rfl, rfl, rfl⟩ := H
 go_enter Try.func105, Try.ntmps105
 go_wp2_with (first | ((with_reducible refine gateC (f := 113) rfl ?_); refine goesL_ (some 7) rfl rfl Try.func113 (by kernel_rfl) rfl #[.pointer (some ⟨g, 0, none⟩), .int .i64 a1] rfl zm ?_; (with_reducible refine (spec_l1Cur_pick.calls g s0_0 s0_1 s0_2 a1 t718 t719 t720 w0 _ ?side1 ?side2 A3.out).mono ?_); (case side1 => exact zi); (case side2 => exact zj); rintro e w4 ⟨rfl, hi, hb, hk⟩; refine ⟨_, rfl, ?_⟩; have n0_ := Aside0.mk (KeepBut.trans zh hk (.inl rfl)); have n1_ := Aside0.mk (hb); have n2_ := Aside0.mk (hi); clear HK; clear HB; clear HI0; have HK := n0_; have HB := n1_; have HI0 := n2_; clear n0_ n1_ n2_; (try clear hb); (try clear hb2); (try clear hk); (try clear hi)))
 go_ret
 exact ⟨by first | rfl | (simp [errW_none, errW_some] <;> rfl) | (simp [*, errW_none, errW_some] <;> rfl), zi, zj, zh⟩

end Go.Proofs.Ytcefenlblnediaa.My

/- Written by this session's program (wip/gen): a plain function with the same answers as the Go function, and the proof that the Go code comes to them. Asked: that the plain function has an answer. -/
namespace Go.Proofs.Ytcefenlblnediaa.My
open Go.RowKit Go.Proofs.YtcefenlblnediaaW.PrintWords Go.Proofs.YtcefenlblnediaaW.PrintLast Go.Proofs.YtcefenlblnediaaW.PrintMore
attribute [local go_sem] max2_int min2_int max_two min_two max_three min_three max_four min_four
set_option linter.unusedVariables false
set_option linter.unusedSimpArgs false

/-! ### spec_l1Cur_text: function 188 -/
def spec_l1Cur_text.l0 : Nat → List ByteArray → Int → List Int → Int → Int → Option (List ByteArray × Int × Int)
 | 0, _, _, _, _, _ => none
 | k + 1, x3, x4, x1000, x1001, x1002 => if x4 > 0 then ((spec_l1Cur_line.f x1000 x1001 x1002).bind fun bt724 => (if bt724.1.size + 1 ≤ 9223372036854775807 then (if x3.length < 8796093022208 then (spec_l1Cur_text.l0 k (x3 ++ [bt724.1 ++ (⟨#[10]⟩ : ByteArray)]) (wrap64 (x4 - 1)) x1000 bt724.2.1 bt724.2.2) else (none)) else (none))) else ((spec_l1Cur_one.f x1000 x1001 x1002 5).bind fun bt730 => (if bt730.1 = true then ((spec_l1Cur_of.f x1000 bt730.2.1 bt730.2.2 (([(⟨#[97]⟩ : ByteArray), (⟨#[101, 110, 100]⟩ : ByteArray), (⟨#[46]⟩ : ByteArray)] : List ByteArray))).bind fun bt736 => (if x3.length < 8796093022208 then (some ((x3 ++ [bt736.1]), bt736.2.1, bt736.2.2)) else (none))) else (some (x3, bt730.2.1, bt730.2.2))))
def spec_l1Cur_text.f (k : Nat) (s0_0 : List Int) (s0_1 : Int) (s0_2 : Int) : Option (List ByteArray × Int × Int) := (spec_l1Cur_pick.f s0_0 s0_1 s0_2 9).bind fun bt721 => (spec_l1Cur_text.l0 k ([] : List ByteArray) bt721.1 s0_0 bt721.2.1 bt721.2.2)
set_option maxHeartbeats 8000000 in
set_option maxRecDepth 100000 in
theorem spec_l1Cur_text.calls (k : Nat) (g : Nat) (s0_0 : List Int) (s0_1 : Int) (s0_2 : Int) (r1 : List ByteArray) (r2 : Int) (r3 : Int) (w0 w : World) (hI : IsS122 w0 w g s0_0 s0_1 s0_2) (hB : Below w0.heap.size w0 w) (h : spec_l1Cur_text.f k s0_0 s0_1 s0_2 = some (r1, r2, r3)) :
  Calls Try.prog 188 #[.pointer (some ⟨g, 0, none⟩)] w fun e w' => ∃ v0_ : Value, e = .returned (v0_) ∧ Kd.R Kd.string 9 w' w.heap.size (fun _ => True) v0_ r1 ∧ IsS122 w0 w' g s0_0 r2 r3 ∧ Below w0.heap.size w0 w' ∧ KeepBut w w' g none := by
 have HI0 := Aside0.mk hI
 have HK := Aside0.mk (KeepBut.refl w g none)
 have HL := Aside0.mk hB.size
 clear hI
 have HW0 := Aside0.mk hB.size
 have HB := Aside0.mk hB
 clear hB
 have H : ((spec_l1Cur_pick.f s0_0 s0_1 s0_2 9).bind fun bt721 => (spec_l1Cur_text.l0 k ([] : List ByteArray) bt721.1 s0_0 bt721.2.1 bt721.2.2)) = some (r1, r2, r3) := h
 clear h
 replace H := Option.bind_eq_some_iff.mp H
 obtain ⟨⟨t721, t722, t723⟩, A20, H⟩ := H
 replace H : (spec_l1Cur_text.l0 k ([] : List ByteArray) t721 s0_0 t722 t723) = some (r1, r2, r3) := H
 have A2 := Aside0.mk A20
 clear A20
 have H' := Aside0.mk H
 clear H
 go_enter Try.func188, Try.ntmps188
 go_wp2_with (first | ((with_reducible refine gateC (f := 113) rfl ?_); refine goesL_ (some 6) rfl rfl Try.func113 (by kernel_rfl) rfl #[.pointer (some ⟨g, 0, none⟩), .int .i64 9] rfl zm ?_; (with_reducible refine (spec_l1Cur_pick.calls g s0_0 s0_1 s0_2 9 t721 t722 t723 w0 _ ?side1 ?side2 A2.out).mono ?_); (case side1 => exact zi); (case side2 => exact zj); rintro e w3 ⟨rfl, hi, hb, hk⟩; refine ⟨_, rfl, ?_⟩; have n0_ := Aside0.mk (KeepBut.trans zh hk (.inl rfl)); have n1_ := Aside0.mk (hb); have n2_ := Aside0.mk (hi); clear HK; clear HB; clear HI0; have HK := n0_; have HB := n1_; have HI0 := n2_; clear n0_ n1_ n2_; (try clear hb); (try clear hb2); (try clear hk); (try clear hi)))
 go_loopg [3, 4] k (fun kq v3 v4 w' => ∃ (x3_1 : List ByteArray) (x4_1 : Int) (x1001_1 : Int) (x1002_1 : Int), v4 = .int .i64 x4_1 ∧ Aside0 (spec_l1Cur_text.l0 kq x3_1 x4_1 s0_0 x1001_1 x1002_1 = some (r1, r2, r3)) ∧ Aside0 (kq ≤ k) ∧ Aside0 (Kd.R Kd.string 9 w' w.heap.size (fun _ => True) v3 x3_1) ∧ Aside0 (IsS122 w0 w' g s0_0 x1001_1 x1002_1) ∧ Aside0 (KeepBut w w' g none) ∧ Aside0 (Below w0.heap.size w0 w'))
 case atStart => exact ⟨(([] : List ByteArray)), (t721), (t722), (t723), zf, H', ⟨Nat.le_refl _⟩, ⟨by first | exact Kd.R_nil _ _ _ _ _ | exact Kd.Q_nil _ _ _ _ _ | exact Kd.S_nil _ _ _ _ _⟩, ⟨by repeat (first | (with_reducible first | exact HI0.out | apply IsS122.alloc | apply IsS122.drewN | apply IsS122.drew | apply IsS122.set_1 | apply IsS122.set_2) | exact HI0.out)⟩, ⟨by repeat (first | (with_reducible first | exact HK.out | apply KeepBut.set_ | apply keep_drewN | apply keep_drew | apply keep_alloc) | exact HK.out)⟩, ⟨by repeat (first | (with_reducible first | exact HB.out | apply below_alloc | apply pw_below_drewN | apply below_drew1 | refine below_set ?_ (IsS122.ge HI0.out)) | exact HB.out)⟩⟩
 case round =>
  clear H'
  try clear c1
  try clear p2
  obtain ⟨x3_1, x4_1, x1001_1, x1002_1, rfl, HA, HK1, HO_3, HI0, HK, HB⟩ := hrel
  cases gk with
  | zero => exact absurd HA.out (by simp [spec_l1Cur_text.l0])
  | succ k1 =>
   have H := HA.out
   clear HA
   simp only [spec_l1Cur_text.l0] at H
   by_cases c4 : x4_1 > 0
   ·rw [if_pos c4] at H
    have c4b0 : decide (0 < x4_1) = true := decide_eq_true c4
    clear c4
    replace H := Option.bind_eq_some_iff.mp H
    obtain ⟨⟨t724, t725, t726⟩, A50, H⟩ := H
    replace H : (if t724.size + 1 ≤ 9223372036854775807 then (if x3_1.length < 8796093022208 then (spec_l1Cur_text.l0 k1 (x3_1 ++ [t724 ++ (⟨#[10]⟩ : ByteArray)]) (wrap64 (x4_1 - 1)) s0_0 t725 t726) else (none)) else (none)) = some (r1, r2, r3) := H
    have A5 := Aside0.mk A50
    clear A50
    by_cases c6 : t724.size + 1 ≤ 9223372036854775807
    ·rw [if_pos c6] at H
     have c6b0 := eq_true c6
     have c6b1 : decide (t724.size + 1 ≤ 9223372036854775807) = true := decide_eq_true c6
     try have c6b2 : (9223372036854775807 < t724.size + 1) = False := eq_false (Nat.not_lt.2 c6)
     by_cases c7 : x3_1.length < 8796093022208
     ·rw [if_pos c7] at H
      have LMc7 := Aside0.mk c7
      clear c7
      obtain ⟨y727, hy727⟩ : ∃ y_ : List ByteArray, y_ = (x3_1 ++ [t724 ++ (⟨#[10]⟩ : ByteArray)]) := ⟨_, rfl⟩
      replace H : (spec_l1Cur_text.l0 k1 y727 (wrap64 (x4_1 - 1)) s0_0 t725 t726) = some (r1, r2, r3) := by first | (rw [hy727]; with_reducible exact H) | (have H2_ := (Option.bind_some _ _).symm.trans H; rw [hy727]; with_reducible exact H2_) | (have H2_ := (Option.bind_some _ _).symm.trans H; with_reducible exact H2_) | with_reducible exact H | (rw [hy727]; exact H) | exact H
      have Ny727 := Aside0.mk hy727
      clear hy727
      have H' := Aside0.mk H
      clear H
      go_wp2_with (first | ((with_reducible refine gateC (f := 190) rfl ?_); refine goesL_ (some 13) rfl rfl Try.func190 (by kernel_rfl) rfl #[.pointer (some ⟨g, 0, none⟩)] rfl zm ?_; (with_reducible refine (spec_l1Cur_line.calls g s0_0 x1001_1 x1002_1 t724 t725 t726 w0 _ ?side1 ?side2 A5.out).mono ?_); (case side1 => exact zi); (case side2 => exact zj); rintro e w8 ⟨rfl, hi, hb, hk⟩; refine ⟨_, rfl, ?_⟩; have n0_ := Aside0.mk (Kd.R_mono (Kd.R_keep (IsS122.apart (show IsS122 w0 _ g s0_0 x1001_1 x1002_1 from zi) (zr HO_3.out) (by decide)) hk (fun _ h => h.2)) (fun _ h => h.1)); have n1_ := Aside0.mk (KeepBut.trans zh hk (.inl rfl)); have n2_ := Aside0.mk (hb); have n3_ := Aside0.mk (hi); clear HO_3; clear HK; clear HB; clear HI0; have HO_3 := n0_; have HK := n1_; have HB := n2_; have HI0 := n3_; clear n0_ n1_ n2_ n3_; (try clear hb); (try clear hb2); (try clear hk); (try clear hi)) | ((with_reducible refine gateB (b := .append) (xs := #[.tmp 11, .tmp 15]) rfl ?_); at_builtin; refine Kd.R_append Kd.string w.heap.size rfl (.tmp 11) (.tmp 15) 22 9 (.string ⟨#[]⟩) 16 rfl Try.underlying22 info9 rfl (by decide) (by omega) u3 x3_1 (t724 ++ (⟨#[10]⟩ : ByteArray)) [.string (t724 ++ (⟨#[10]⟩ : ByteArray))] (fun _ => True) (fun _ => False) rfl rfl ?aP (fun _ hk => hk.elim) ?aF ?aO (Below.refl _ _) ?aS ?aL ?_; (case aP => exact rfl); (case aF => exact (fun _ _ => trivial)); (case aO => exact (zr HO_3.out)); (case aS => exact (keep_size (w := w) (g := g) (row := none) zh)); (case aL => have := LMc7.out; omega); intro v728 w9 ho hb hg hat; rw [← Ny727.out] at ho; have n0_ := Aside0.mk (IsS122.grown zi hg (IsS122.own_ne HI0.out HO_3.out (by decide))); have n1_ := Aside0.mk (below_weaken zj HL.out hb); have n2_ := Aside0.mk (KeepBut.trans zh (KeepBut.of_grown hg g) (Kd.R_base2 HO_3.out)); have n3_ := Aside0.mk (ho); clear HI0; clear HB; clear HK; clear HO_3; have HI0 := n0_; have HB := n1_; have HK := n2_; have HO729 := n3_; clear n0_ n1_ n2_ n3_; clear ho hb hg hat))
      go_roundg k1
      case measure => have := HK1.out; omega
      case rel => exact ⟨(y727), (wrap64 (x4_1 - 1)), (t725), (t726), zf, H', ⟨by have := HK1.out; omega⟩, ⟨by (with_reducible repeat (first | apply Kd.R_alloc | apply Kd.R_drewN | apply Kd.R_drew)); exact HO729.out⟩, ⟨by repeat (first | (with_reducible first | exact HI0.out | apply IsS122.alloc | apply IsS122.drewN | apply IsS122.drew | apply IsS122.set_1 | apply IsS122.set_2) | exact HI0.out)⟩, ⟨by repeat (first | (with_reducible first | exact HK.out | apply KeepBut.set_ | apply keep_drewN | apply keep_drew | apply keep_alloc) | exact HK.out)⟩, ⟨by repeat (first | (with_reducible first | exact HB.out | apply below_alloc | apply pw_below_drewN | apply below_drew1 | refine below_set ?_ (IsS122.ge HI0.out)) | exact HB.out)⟩⟩
     ·rw [if_neg c7] at H
      exact absurd H (by simp)
    ·rw [if_neg c6] at H
     exact absurd H (by simp)
   ·rw [if_neg c4] at H
    have c4b0 : decide (0 < x4_1) = false := decide_eq_false c4
    clear c4
    replace H := Option.bind_eq_some_iff.mp H
    obtain ⟨⟨t730, t731, t732⟩, A100, H⟩ := H
    replace H : (if t730 = true then ((spec_l1Cur_of.f s0_0 t731 t732 (([(⟨#[97]⟩ : ByteArray), (⟨#[101, 110, 100]⟩ : ByteArray), (⟨#[46]⟩ : ByteArray)] : List ByteArray))).bind fun bt736 => (if x3_1.length < 8796093022208 then (some ((x3_1 ++ [bt736.1]), bt736.2.1, bt736.2.2)) else (none))) else (some (x3_1, t731, t732))) = some (r1, r2, r3) := H
    have A10 := Aside0.mk A100
    clear A100
    by_cases c11 : t730 = true
    ·subst c11
     have H1 : ((spec_l1Cur_of.f s0_0 t731 t732 (([(⟨#[97]⟩ : ByteArray), (⟨#[101, 110, 100]⟩ : ByteArray), (⟨#[46]⟩ : ByteArray)] : List ByteArray))).bind fun bt736 => (if x3_1.length < 8796093022208 then (some ((x3_1 ++ [bt736.1]), bt736.2.1, bt736.2.2)) else (none))) = some (r1, r2, r3) := by rw [if_pos rfl] at H; exact H
     clear H
     have H := H1
     clear H1
     obtain ⟨y733, hy733⟩ : ∃ y_ : List ByteArray, y_ = (([(⟨#[97]⟩ : ByteArray), (⟨#[101, 110, 100]⟩ : ByteArray), (⟨#[46]⟩ : ByteArray)] : List ByteArray)) := ⟨_, rfl⟩
     replace H : ((spec_l1Cur_of.f s0_0 t731 t732 y733).bind fun bt736 => (if x3_1.length < 8796093022208 then (some ((x3_1 ++ [bt736.1]), bt736.2.1, bt736.2.2)) else (none))) = some (r1, r2, r3) := by first | (rw [hy733]; with_reducible exact H) | (have H2_ := (Option.bind_some _ _).symm.trans H; rw [hy733]; with_reducible exact H2_) | (have H2_ := (Option.bind_some _ _).symm.trans H; with_reducible exact H2_) | with_reducible exact H | (rw [hy733]; exact H) | exact H
     have Ny733 := Aside0.mk hy733
     clear hy733
     replace H := Option.bind_eq_some_iff.mp H
     obtain ⟨⟨t736, t737, t738⟩, A120, H⟩ := H
     replace H : (if x3_1.length < 8796093022208 then (some ((x3_1 ++ [t736]), t737, t738)) else (none)) = some (r1, r2, r3) := H
     have A12 := Aside0.mk A120
     clear A120
     by_cases c13 : x3_1.length < 8796093022208
     ·rw [if_pos c13] at H
      have LMc13 := Aside0.mk c13
      clear c13
      obtain ⟨y739, hy739⟩ : ∃ y_ : List ByteArray, y_ = (x3_1 ++ [t736]) := ⟨_, rfl⟩
      replace H : (some (y739, t737, t738)) = some (r1, r2, r3) := by first | (rw [hy739]; with_reducible exact H) | (have H2_ := (Option.bind_some _ _).symm.trans H; rw [hy739]; with_reducible exact H2_) | (have H2_ := (Option.bind_some _ _).symm.trans H; with_reducible exact H2_) | with_reducible exact H | (rw [hy739]; exact H) | exact H
      have Ny739 := Aside0.mk hy739
      clear hy739
      simp only [Option.some.injEq, Prod.mk.injEq] at H
      obtain ⟨rfl, rfl, rfl⟩ := H
      go_wp2_with (first | ((with_reducible refine gateC (f := 105) rfl ?_); refine goesL_ (some 18) rfl rfl Try.func105 (by kernel_rfl) rfl #[.pointer (some ⟨g, 0, none⟩), .int .i64 5] rfl zm ?_; (with_reducible refine (spec_l1Cur_one.calls g s0_0 x1001_1 x1002_1 5 true t731 t732 w0 _ ?side1 ?side2 A10.out).mono ?_); (case side1 => exact zi); (case side2 => exact zj); rintro e w14 ⟨rfl, hi, hb, hk⟩; refine ⟨_, rfl, ?_⟩; have n0_ := Aside0.mk (Kd.R_mono (Kd.R_keep (IsS122.apart (show IsS122 w0 _ g s0_0 x1001_1 x1002_1 from zi) (zr HO_3.out) (by decide)) hk (fun _ h => h.2)) (fun _ h => h.1)); have n1_ := Aside0.mk (KeepBut.trans zh hk (.inl rfl)); have n2_ := Aside0.mk (hb); have n3_ := Aside0.mk (hi); clear HO_3; clear HK; clear HB; clear HI0; have HO_3 := n0_; have HK := n1_; have HB := n2_; have HI0 := n3_; clear n0_ n1_ n2_ n3_; (try clear hb); (try clear hb2); (try clear hk); (try clear hi)) | ((with_reducible refine gate_dst (N := 21) rfl ?_); refine Kd.R_lit Kd.string _ 9 ?hg (N := 21) ?hd (xs := ([(⟨#[97]⟩ : ByteArray), (⟨#[101, 110, 100]⟩ : ByteArray), (⟨#[46]⟩ : ByteArray)] : List ByteArray)) (inner := [.string (⟨#[97]⟩ : ByteArray), .string (⟨#[101, 110, 100]⟩ : ByteArray), .string (⟨#[46]⟩ : ByteArray)]) (ok := fun _ => True) (okp := fun _ => True) ?hr ?hp (fun _ hk => hk) trivial (Below.refl _ _) (Nat.le_refl _) (by simp) ?_; (case hd => rfl); (case hg => rfl); (case hr => first | (go_simp; done) | (go_simp; rfl)); (case hp => exact (Reps.one (show Kd.M Kd.string _ _ _ (⟨#[97]⟩ : ByteArray) [.string (⟨#[97]⟩ : ByteArray)] from rfl) (Reps.one (show Kd.M Kd.string _ _ _ (⟨#[101, 110, 100]⟩ : ByteArray) [.string (⟨#[101, 110, 100]⟩ : ByteArray)] from rfl) (Reps.one (show Kd.M Kd.string _ _ _ (⟨#[46]⟩ : ByteArray) [.string (⟨#[46]⟩ : ByteArray)] from rfl) (Reps.none _ _))))); intro v734 w15 ho16 hb hg_ hnew_; clear hg_ hnew_; (first | rw [← Ny733.out] at ho16 | (simp only [Int.reduceToNat] at ho16; rw [← Ny733.out] at ho16)); have n0_ := Aside0.mk (Kd.R_elder' (zr HO_3.out) (Kd.R_base ho16) hb); have n1_ := Aside0.mk (Kd.R_lower (Kd.R_new' ho16 (Kd.R_lt (zr HO_3.out))) (keep_size (w := w) (g := g) (row := none) zh)); have n2_ := Aside0.mk (IsS122.below zi hb); have n3_ := Aside0.mk (KeepBut.trans zh (KeepBut.of_below hb g none) (.inl rfl)); have n4_ := Aside0.mk (below_step zj hb); clear HO_3; clear HI0; clear HK; clear HB; have HO_3 := n0_; have HO735 := n1_; have HI0 := n2_; have HK := n3_; have HB := n4_; clear n0_ n1_ n2_ n3_ n4_; clear hb ho16; obtain ⟨Ao17, co17, eo17⟩ := Kd.R_slice HO735.out; subst eo17) | ((with_reducible refine gateC (f := 199) rfl ?_); refine goesL_ (some 22) rfl rfl Try.func199 (by kernel_rfl) rfl #[.pointer (some ⟨g, 0, none⟩), .slice Ao17 y733.length co17] rfl zm ?_; (with_reducible refine (spec_l1Cur_of.calls g s0_0 t731 t732 _ _ y733 t736 t737 t738 w0 _ ?side1 ?side2 ?side3 ?side4 ?side5 A12.out).mono ?_); (case side1 => exact zi); (case side2 => exact zj); (case side3 => repeat (first | exact (Kd.R_reads' HO735.out).2.2 | (with_reducible refine Kd.C_alloc ?_ _) | (with_reducible refine Kd.C_drewN ?_ _) | (with_reducible refine Kd.C_drew ?_))); (case side4 => exact (Kd.R_reads' HO735.out).2.1); (case side5 => exact far_slice (IsS122.own_ne HI0.out HO735.out (by decide))); rintro e w18 ⟨rfl, hi, hb, hk⟩; refine ⟨_, rfl, ?_⟩; have n0_ := Aside0.mk (Kd.R_mono (Kd.R_keep (IsS122.apart (show IsS122 w0 _ g s0_0 t731 t732 from zi) (zr HO_3.out) (by decide)) hk (fun _ h => h.2)) (fun _ h => h.1)); have n1_ := Aside0.mk (Kd.R_mono (Kd.R_keep (IsS122.apart (show IsS122 w0 _ g s0_0 t731 t732 from zi) (zr HO735.out) (by decide)) hk (fun _ h => h.2)) (fun _ h => h.1)); have n2_ := Aside0.mk (KeepBut.trans zh hk (.inl rfl)); have n3_ := Aside0.mk (hb); have n4_ := Aside0.mk (hi); clear HO_3; clear HO735; clear HK; clear HB; clear HI0; have HO_3 := n0_; have HO735 := n1_; have HK := n2_; have HB := n3_; have HI0 := n4_; clear n0_ n1_ n2_ n3_ n4_; (try clear hb); (try clear hb2); (try clear hk); (try clear hi)) | ((with_reducible refine gateB (b := .append) (xs := #[.tmp 19, .tmp 23]) rfl ?_); at_builtin; refine Kd.R_append Kd.string w.heap.size rfl (.tmp 19) (.tmp 23) 22 9 (.string ⟨#[]⟩) 16 rfl Try.underlying22 info9 rfl (by decide) (by omega) u3 x3_1 t736 [.string t736] (fun k_ => some k_ ≠ (.slice Ao17 y733.length co17 : Value).ownBlock) (fun _ => False) rfl rfl ?aP (fun _ hk => hk.elim) ?aF ?aO (Below.refl _ _) ?aS ?aL ?_; (case aP => exact rfl); (case aF => exact (fun k_ hk => Kd.fresh' (Kd.R_lt (zr HO735.out)) k_ hk)); (case aO => exact (by (with_reducible repeat (first | apply Kd.R_alloc | apply Kd.R_drewN | apply Kd.R_drew)); exact Kd.R_mono HO_3.out (fun _ hk => hk.2))); (case aS => exact (keep_size (w := w) (g := g) (row := none) zh)); (case aL => have := LMc13.out; omega); intro v740 w19 ho hb hg hat; rw [← Ny739.out] at ho; have n0_ := Aside0.mk (IsS122.grown zi hg (IsS122.own_ne HI0.out HO_3.out (by decide))); have n1_ := Aside0.mk (Kd.R_after (ok := (fun _ => True)) (zr HO735.out) hg hat); have n2_ := Aside0.mk (below_weaken zj HL.out hb); have n3_ := Aside0.mk (KeepBut.trans zh (KeepBut.of_grown hg g) (Kd.R_base2 HO_3.out)); have n4_ := Aside0.mk (ho); clear HI0; clear HO735; clear HB; clear HK; clear HO_3; have HI0 := n0_; have HO735 := n1_; have HB := n2_; have HK := n3_; have HO741 := n4_; clear n0_ n1_ n2_ n3_ n4_; clear ho hb hg hat))
      go_ret
      exact ⟨_, by first | rfl | (simp [errW_none, errW_some] <;> rfl) | (simp [*, errW_none, errW_some] <;> rfl), by (with_reducible repeat (first | apply Kd.R_alloc | apply Kd.R_drewN | apply Kd.R_drew)); exact Kd.R_mono HO741.out (fun _ hk => trivial), zi, zj, zh⟩
     ·rw [if_neg c13] at H
      exact absurd H (by simp)
    ·replace c11 := Bool.eq_false_iff.mpr c11
     subst c11
     have H1 : (some (x3_1, t731, t732)) = some (r1, r2, r3) := by rw [if_neg (show ¬ (false = true) by decide)] at H; exact H
     clear H
     have H := H1
     clear H1
     simp only [Option.some.injEq, Prod.mk.injEq] at H
     obtain ⟨rfl, rfl, rfl⟩ := H
     go_wp2_with (first | ((with_reducible refine gateC (f := 105) rfl ?_); refine goesL_ (some 18) rfl rfl Try.func105 (by kernel_rfl) rfl #[.pointer (some ⟨g, 0, none⟩), .int .i64 5] rfl zm ?_; (with_reducible refine (spec_l1Cur_one.calls g s0_0 x1001_1 x1002_1 5 false t731 t732 w0 _ ?side1 ?side2 A10.out).mono ?_); (case side1 => exact zi); (case side2 => exact zj); rintro e w20 ⟨rfl, hi, hb, hk⟩; refine ⟨_, rfl, ?_⟩; have n0_ := Aside0.mk (Kd.R_mono (Kd.R_keep (IsS122.apart (show IsS122 w0 _ g s0_0 x1001_1 x1002_1 from zi) (zr HO_3.out) (by decide)) hk (fun _ h => h.2)) (fun _ h => h.1)); have n1_ := Aside0.mk (KeepBut.trans zh hk (.inl rfl)); have n2_ := Aside0.mk (hb); have n3_ := Aside0.mk (hi); clear HO_3; clear HK; clear HB; clear HI0; have HO_3 := n0_; have HK := n1_; have HB := n2_; have HI0 := n3_; clear n0_ n1_ n2_ n3_; (try clear hb); (try clear hb2); (try clear hk); (try clear hi)))
     go_ret
     exact ⟨_, by first | rfl | (simp [errW_none, errW_some] <;> rfl) | (simp [*, errW_none, errW_some] <;> rfl), by (with_reducible repeat (first | apply Kd.R_alloc | apply Kd.R_drewN | apply Kd.R_drew)); exact HO_3.out, zi, zj, zh⟩

end Go.Proofs.Ytcefenlblnediaa.My

/- Written by this session's program (wip/gen): a plain function with the same answers as the Go function, and the proof that the Go code comes to them. Asked: that the plain function has an answer. -/
namespace Go.Proofs.Ytcefenlblnediaa.My
open Go.RowKit Go.Proofs.YtcefenlblnediaaW.PrintWords Go.Proofs.YtcefenlblnediaaW.PrintLast Go.Proofs.YtcefenlblnediaaW.PrintMore
attribute [local go_sem] max2_int min2_int max_two min_two max_three min_three max_four min_four
set_option linter.unusedVariables false
set_option linter.unusedSimpArgs false

/-! ### spec_l1Cur_anyText: function 158 -/
def spec_l1Cur_anyText.f (k : Nat) (s0_0 : List Int) (s0_1 : Int) (s0_2 : Int) : Option (List ByteArray × Int × Int) := (spec_l1Cur_text.f k s0_0 s0_1 s0_2).bind fun bt742 => (if (bt742.1.length : Int) > 1 then ((spec_l1Cur_pick.f s0_0 bt742.2.1 bt742.2.2 25).bind fun bt747 => (if bt747.1 = 0 then (if 0 < (bt742.1.length : Int) then (some ((bt742.1.set (0 : Int).toNat (⟨#[120]⟩ : ByteArray)), bt747.2.1, bt747.2.2)) else (none)) else (if bt747.1 = 1 then (if 0 < (bt742.1.length : Int) then (some ((bt742.1.set (0 : Int).toNat (⟨#[]⟩ : ByteArray)), bt747.2.1, bt747.2.2)) else (none)) else (if bt747.1 = 2 then (if 0 < (bt742.1.length : Int) then (some ((bt742.1.set (0 : Int).toNat (⟨#[97, 10, 98, 10]⟩ : ByteArray)), bt747.2.1, bt747.2.2)) else (none)) else (some (bt742.1, bt747.2.1, bt747.2.2)))))) else (some (bt742.1, bt742.2.1, bt742.2.2)))
set_option maxHeartbeats 8000000 in
set_option maxRecDepth 100000 in
theorem spec_l1Cur_anyText.calls (k : Nat) (g : Nat) (s0_0 : List Int) (s0_1 : Int) (s0_2 : Int) (r1 : List ByteArray) (r2 : Int) (r3 : Int) (w0 w : World) (hI : IsS122 w0 w g s0_0 s0_1 s0_2) (hB : Below w0.heap.size w0 w) (h : spec_l1Cur_anyText.f k s0_0 s0_1 s0_2 = some (r1, r2, r3)) :
  Calls Try.prog 158 #[.pointer (some ⟨g, 0, none⟩)] w fun e w' => ∃ v0_ : Value, e = .returned (v0_) ∧ Kd.R Kd.string 9 w' w.heap.size (fun _ => True) v0_ r1 ∧ IsS122 w0 w' g s0_0 r2 r3 ∧ Below w0.heap.size w0 w' ∧ KeepBut w w' g none := by
 have HI0 := Aside0.mk hI
 have HK := Aside0.mk (KeepBut.refl w g none)
 have HL := Aside0.mk hB.size
 clear hI
 have HW0 := Aside0.mk hB.size
 have HB := Aside0.mk hB
 clear hB
 have H : ((spec_l1Cur_text.f k s0_0 s0_1 s0_2).bind fun bt742 => (if (bt742.1.length : Int) > 1 then ((spec_l1Cur_pick.f s0_0 bt742.2.1 bt742.2.2 25).bind fun bt747 => (if bt747.1 = 0 then (if 0 < (bt742.1.length : Int) then (some ((bt742.1.set (0 : Int).toNat (⟨#[120]⟩ : ByteArray)), bt747.2.1, bt747.2.2)) else (none)) else (if bt747.1 = 1 then (if 0 < (bt742.1.length : Int) then (some ((bt742.1.set (0 : Int).toNat (⟨#[]⟩ : ByteArray)), bt747.2.1, bt747.2.2)) else (none)) else (if bt747.1 = 2 then (if 0 < (bt742.1.length : Int) then (some ((bt742.1.set (0 : Int).toNat (⟨#[97, 10, 98, 10]⟩ : ByteArray)), bt747.2.1, bt747.2.2)) else (none)) else (some (bt742.1, bt747.2.1, bt747.2.2)))))) else (some (bt742.1, bt742.2.1, bt742.2.2)))) = some (r1, r2, r3) := h
 clear h
 replace H := Option.bind_eq_some_iff.mp H
 obtain ⟨⟨t742, t745, t746⟩, A20, H⟩ := H
 replace H : (if (t742.length : Int) > 1 then ((spec_l1Cur_pick.f s0_0 t745 t746 25).bind fun bt747 => (if bt747.1 = 0 then (if 0 < (t742.length : Int) then (some ((t742.set (0 : Int).toNat (⟨#[120]⟩ : ByteArray)), bt747.2.1, bt747.2.2)) else (none)) else (if bt747.1 = 1 then (if 0 < (t742.length : Int) then (some ((t742.set (0 : Int).toNat (⟨#[]⟩ : ByteArray)), bt747.2.1, bt747.2.2)) else (none)) else (if bt747.1 = 2 then (if 0 < (t742.length : Int) then (some ((t742.set (0 : Int).toNat (⟨#[97, 10, 98, 10]⟩ : ByteArray)), bt747.2.1, bt747.2.2)) else (none)) else (some (t742, bt747.2.1, bt747.2.2)))))) else (some (t742, t745, t746))) = some (r1, r2, r3) := H
 have A2 := Aside0.mk A20
 clear A20
 by_cases c3 : (t742.length : Int) > 1
 ·rw [if_pos c3] at H
  have c3b0 : decide (1 < (t742.length : Int)) = true := decide_eq_true c3
  have c3b1 : decide (1 < t742.length) = true := decide_eq_true (by omega)
  clear c3
  replace H := Option.bind_eq_some_iff.mp H
  obtain ⟨⟨t747, t748, t749⟩, A40, H⟩ := H
  replace H : (if t747 = 0 then (if 0 < (t742.length : Int) then (some ((t742.set (0 : Int).toNat (⟨#[120]⟩ : ByteArray)), t748, t749)) else (none)) else (if t747 = 1 then (if 0 < (t742.length : Int) then (some ((t742.set (0 : Int).toNat (⟨#[]⟩ : ByteArray)), t748, t749)) else (none)) else (if t747 = 2 then (if 0 < (t742.length : Int) then (some ((t742.set (0 : Int).toNat (⟨#[97, 10, 98, 10]⟩ : ByteArray)), t748, t749)) else (none)) else (some (t742, t748, t749))))) = some (r1, r2, r3) := H
  have A4 := Aside0.mk A40
  clear A40
  by_cases c5 : t747 = 0
  ·rw [if_pos c5] at H
   have c5b0 : (t747 == 0) = true := beq_iff_eq.mpr c5
   have c5b1 : (t747 != 0) = false := bne_eq_false_iff_eq.mpr c5
   clear c5
   by_cases c6 : 0 < (t742.length : Int)
   ·rw [if_pos c6] at H
    have c6b0 : decide (0 < (t742.length : Int)) = true := decide_eq_true c6
    have c6b1 : decide (0 < t742.length) = true := decide_eq_true (by omega)
    clear c6
    obtain ⟨y750, hy750⟩ : ∃ y_ : List ByteArray, y_ = (t742.set (0 : Int).toNat (⟨#[120]⟩ : ByteArray)) := ⟨_, rfl⟩
    replace H : (some (y750, t748, t749)) = some (r1, r2, r3) := by first | (rw [hy750]; with_reducible exact H) | (have H2_ := (Option.bind_some _ _).symm.trans H; rw [hy750]; with_reducible exact H2_) | (have H2_ := (Option.bind_some _ _).symm.trans H; with_reducible exact H2_) | with_reducible exact H | (rw [hy750]; exact H) | exact H
    have Ny750 := Aside0.mk hy750
    clear hy750
    simp only [Option.some.injEq, Prod.mk.injEq] at H
    obtain ⟨rfl, rfl, rfl⟩ := H
    go_enter Try.func158, Try.ntmps158
    go_wp2_with (first | ((with_reducible refine gateC (f := 188) rfl ?_); refine goesL_ (some 5) rfl rfl Try.func188 (by kernel_rfl) rfl #[.pointer (some ⟨g, 0, none⟩)] rfl zm ?_; (with_reducible refine (spec_l1Cur_text.calls k g s0_0 s0_1 s0_2 t742 t745 t746 w0 _ ?side1 ?side2 A2.out).mono ?_); (case side1 => exact zi); (case side2 => exact zj); rintro e w8 ⟨v743, rfl, ho0, hi, hb, hk⟩; refine ⟨_, rfl, ?_⟩; have n0_ := Aside0.mk (Kd.R_lower ho0 (keep_size (w := w) (g := g) (row := none) zh)); have n1_ := Aside0.mk (KeepBut.trans zh hk (.inl rfl)); have n2_ := Aside0.mk (hb); have n3_ := Aside0.mk (hi); clear HK; clear HB; clear HI0; have HO744 := n0_; have HK := n1_; have HB := n2_; have HI0 := n3_; clear n0_ n1_ n2_ n3_; (try clear hb); (try clear hb2); (try clear hk); (try clear hi); (try clear ho0); obtain ⟨Ao9, co9, eo9⟩ := Kd.R_slice HO744.out; subst eo9) | ((with_reducible refine gateC (f := 113) rfl ?_); refine goesL_ (some 10) rfl rfl Try.func113 (by kernel_rfl) rfl #[.pointer (some ⟨g, 0, none⟩), .int .i64 25] rfl zm ?_; (with_reducible refine (spec_l1Cur_pick.calls g s0_0 t745 t746 25 t747 t748 t749 w0 _ ?side1 ?side2 A4.out).mono ?_); (case side1 => exact zi); (case side2 => exact zj); rintro e w10 ⟨rfl, hi, hb, hk⟩; refine ⟨_, rfl, ?_⟩; have n0_ := Aside0.mk (Kd.R_mono (Kd.R_keep (IsS122.apart (show IsS122 w0 _ g s0_0 t745 t746 from zi) (zr HO744.out) (by decide)) hk (fun _ h => h.2)) (fun _ h => h.1)); have n1_ := Aside0.mk (KeepBut.trans zh hk (.inl rfl)); have n2_ := Aside0.mk (hb); have n3_ := Aside0.mk (hi); clear HO744; clear HK; clear HB; clear HI0; have HO744 := n0_; have HK := n1_; have HB := n2_; have HI0 := n3_; clear n0_ n1_ n2_ n3_; (try clear hb); (try clear hb2); (try clear hk); (try clear hi); have p7 : 0 ≤ (0 : Int) := (by omega); have q7 : (0 : Int) < ((t742.length : Int) : Int) := oa; have qi7 : (0 < t742.length) = True := eq_true (by omega); obtain ⟨go7, co7, eo7, gb7, gl7, cl7, HG7⟩ := Kd.R_form HO744.out (by omega); (first | cases eo7 | (injection eo7 with ea_ en_ ec_; (first | subst ea_ | (injection ea_ with ea_; subst ea_)); subst ec_; clear en_)); have GB7 := Aside0.mk gb7; have GG7 := Aside0.mk HG7; clear gb7 gl7 HG7; obtain ⟨hx7_0, hf7_0⟩ := Kd.R_celln (⟨#[]⟩ : ByteArray) HO744.out (0 : Int) p7 q7; (try rw [show ((0 : Int)).toNat = 0 from rfl] at hx7_0); (try simp only [Nat.reduceMul, Nat.zero_mul, Nat.zero_add, Nat.reduceAdd] at hx7_0); (try rw [show ((0 : Int)).toNat = 0 from rfl] at hf7_0); (try simp only [Nat.reduceMul, Nat.zero_mul, Nat.zero_add, Nat.reduceAdd] at hf7_0); replace p7 := eq_true p7; replace q7 := eq_true q7; obtain ⟨hy11_, hz11_⟩ := Kd.R_celln (⟨#[]⟩ : ByteArray) HO744.out (0 : Int) (by omega) oa; (try simp only [Int.reduceToNat, Int.toNat_zero, Int.toNat_ofNat, Nat.reduceMul, Nat.zero_mul, Nat.zero_add] at hy11_ hz11_); (try rw [show ((0 : Int)).toNat = 0 from rfl] at hy11_); (try rw [show ((0 : Int)).toNat = 0 from rfl] at hz11_); have HP11 := Kd.R_putg HO744.out (0 : Int) (⟨#[120]⟩ : ByteArray)) | ((with_reducible refine gate_store (t := 9) (p := 14) rfl ?_); refine store_event (t := 9) (p := 14) (v := ?vo_w12) (w1 := (w10.setCell ⟨go7, (0 : Int).toNat, none⟩ (.string (⟨#[120]⟩ : ByteArray)))) ?hg ?ho ?hn ?hr ?_; (case ho => rfl); (case hg => rfl); (case hn => rfl); (case hr => first | (go_simp; done) | (go_simp; rfl)); intro w12 hw; have hg : w10.grownBy w12 (some go7) := (by rw [hw]; exact HP11.2); have hp_ : Kd.R Kd.string 9 w12 w.heap.size (fun _ => True) (.slice (some ⟨go7, 0, none⟩) t742.length co9) y750 := (by rw [hw, Ny750.out]; exact HP11.1); clear HP11; have n0_ := Aside0.mk (IsS122.grown zi hg (IsS122.own_ne HI0.out HO744.out (by decide))); have n1_ := Aside0.mk (hp_); have n2_ := Aside0.mk ((by rw [hw]; exact below_set (HB.out) (Nat.le_trans HL.out GB7.out) : Below w0.heap.size w0 w12)); have n3_ := Aside0.mk (KeepBut.trans zh (KeepBut.of_grown hg g) (Kd.R_base2 HO744.out)); clear HI0; clear HO744; clear HB; clear HK; have HI0 := n0_; have HO744 := n1_; have HB := n2_; have HK := n3_; clear n0_ n1_ n2_ n3_; clear hg hw hp_))
    go_ret
    exact ⟨_, by first | rfl | (simp [errW_none, errW_some] <;> rfl) | (simp [*, errW_none, errW_some] <;> rfl), by (with_reducible repeat (first | apply Kd.R_alloc | apply Kd.R_drewN | apply Kd.R_drew)); exact HO744.out, zi, zj, zh⟩
   ·rw [if_neg c6] at H
    exact absurd H (by simp)
  ·rw [if_neg c5] at H
   have c5b0 : (t747 == 0) = false := beq_eq_false_iff_ne.mpr c5
   have c5b1 : (t747 != 0) = true := bne_iff_ne.mpr c5
   by_cases c13 : t747 = 1
   ·rw [if_pos c13] at H
    have c13b0 : (t747 == 1) = true := beq_iff_eq.mpr c13
    have c13b1 : (t747 != 1) = false := bne_eq_false_iff_eq.mpr c13
    clear c13
    by_cases c14 : 0 < (t742.length : Int)
    ·rw [if_pos c14] at H
     have c14b0 : decide (0 < (t742.length : Int)) = true := decide_eq_true c14
     have c14b1 : decide (0 < t742.length) = true := decide_eq_true (by omega)
     clear c14
     obtain ⟨y751, hy751⟩ : ∃ y_ : List ByteArray, y_ = (t742.set (0 : Int).toNat (⟨#[]⟩ : ByteArray)) := ⟨_, rfl⟩
     replace H : (some (y751, t748, t749)) = some (r1, r2, r3) := by first | (rw [hy751]; with_reducible exact H) | (have H2_ := (Option.bind_some _ _).symm.trans H; rw [hy751]; with_reducible exact H2_) | (have H2_ := (Option.bind_some _ _).symm.trans H; with_reducible exact H2_) | with_reducible exact H | (rw [hy751]; exact H) | exact H
     have Ny751 := Aside0.mk hy751
     clear hy751
     simp only [Option.some.injEq, Prod.mk.injEq] at H
     obtain ⟨rfl, rfl, rfl⟩ := H
     go_enter Try.func158, Try.ntmps158
     go_wp2_with (first | ((with_reducible refine gateC (f := 188) rfl ?_); refine goesL_ (some 5) rfl rfl Try.func188 (by kernel_rfl) rfl #[.pointer (some ⟨g, 0, none⟩)] rfl zm ?_; (with_reducible refine (spec_l1Cur_text.calls k g s0_0 s0_1 s0_2 t742 t745 t746 w0 _ ?side1 ?side2 A2.out).mono ?_); (case side1 => exact zi); (case side2 => exact zj); rintro e w16 ⟨v743, rfl, ho0, hi, hb, hk⟩; refine ⟨_, rfl, ?_⟩; have n0_ := Aside0.mk (Kd.R_lower ho0 (keep_size (w := w) (g := g) (row := none) zh)); have n1_ := Aside0.mk (KeepBut.trans zh hk (.inl rfl)); have n2_ := Aside0.mk (hb); have n3_ := Aside0.mk (hi); clear HK; clear HB; clear HI0; have HO744 := n0_; have HK := n1_; have HB := n2_; have HI0 := n3_; clear n0_ n1_ n2_ n3_; (try clear hb); (try clear hb2); (try clear hk); (try clear hi); (try clear ho0); obtain ⟨Ao17, co17, eo17⟩ := Kd.R_slice HO744.out; subst eo17) | ((with_reducible refine gateC (f := 113) rfl ?_); refine goesL_ (some 10) rfl rfl Try.func113 (by kernel_rfl) rfl #[.pointer (some ⟨g, 0, none⟩), .int .i64 25] rfl zm ?_; (with_reducible refine (spec_l1Cur_pick.calls g s0_0 t745 t746 25 t747 t748 t749 w0 _ ?side1 ?side2 A4.out).mono ?_); (case side1 => exact zi); (case side2 => exact zj); rintro e w18 ⟨rfl, hi, hb, hk⟩; refine ⟨_, rfl, ?_⟩; have n0_ := Aside0.mk (Kd.R_mono (Kd.R_keep (IsS122.apart (show IsS122 w0 _ g s0_0 t745 t746 from zi) (zr HO744.out) (by decide)) hk (fun _ h => h.2)) (fun _ h => h.1)); have n1_ := Aside0.mk (KeepBut.trans zh hk (.inl rfl)); have n2_ := Aside0.mk (hb); have n3_ := Aside0.mk (hi); clear HO744; clear HK; clear HB; clear HI0; have HO744 := n0_; have HK := n1_; have HB := n2_; have HI0 := n3_; clear n0_ n1_ n2_ n3_; (try clear hb); (try clear hb2); (try clear hk); (try clear hi); have p15 : 0 ≤ (0 : Int) := (by omega); have q15 : (0 : Int) < ((t742.length : Int) : Int) := oa; have qi15 : (0 < t742.length) = True := eq_true (by omega); obtain ⟨go15, co15, eo15, gb15, gl15, cl15, HG15⟩ := Kd.R_form HO744.out (by omega); (first | cases eo15 | (injection eo15 with ea_ en_ ec_; (first | subst ea_ | (injection ea_ with ea_; subst ea_)); subst ec_; clear en_)); have GB15 := Aside0.mk gb15; have GG15 := Aside0.mk HG15; clear gb15 gl15 HG15; obtain ⟨hx15_0, hf15_0⟩ := Kd.R_celln (⟨#[]⟩ : ByteArray) HO744.out (0 : Int) p15 q15; (try rw [show ((0 : Int)).toNat = 0 from rfl] at hx15_0); (try simp only [Nat.reduceMul, Nat.zero_mul, Nat.zero_add, Nat.reduceAdd] at hx15_0); (try rw [show ((0 : Int)).toNat = 0 from rfl] at hf15_0); (try simp only [Nat.reduceMul, Nat.zero_mul, Nat.zero_add, Nat.reduceAdd] at hf15_0); replace p15 := eq_true p15; replace q15 := eq_true q15; obtain ⟨hy19_, hz19_⟩ := Kd.R_celln (⟨#[]⟩ : ByteArray) HO744.out (0 : Int) (by omega) oa; (try simp only [Int.reduceToNat, Int.toNat_zero, Int.toNat_ofNat, Nat.reduceMul, Nat.zero_mul, Nat.zero_add] at hy19_ hz19_); (try rw [show ((0 : Int)).toNat = 0 from rfl] at hy19_); (try rw [show ((0 : Int)).toNat = 0 from rfl] at hz19_); have HP19 := Kd.R_putg HO744.out (0 : Int) (⟨#[]⟩ : ByteArray)) | ((with_reducible refine gate_store (t := 9) (p := 18) rfl ?_); refine store_event (t := 9) (p := 18) (v := ?vo_w20) (w1 := (w18.setCell ⟨go15, (0 : Int).toNat, none⟩ (.string (⟨#[]⟩ : ByteArray)))) ?hg ?ho ?hn ?hr ?_; (case ho => rfl); (case hg => rfl); (case hn => rfl); (case hr => first | (go_simp; done) | (go_simp; rfl)); intro w20 hw; have hg : w18.grownBy w20 (some go15) := (by rw [hw]; exact HP19.2); have hp_ : Kd.R Kd.string 9 w20 w.heap.size (fun _ => True) (.slice (some ⟨go15, 0, none⟩) t742.length co17) y751 := (by rw [hw, Ny751.out]; exact HP19.1); clear HP19; have n0_ := Aside0.mk (IsS122.grown zi hg (IsS122.own_ne HI0.out HO744.out (by decide))); have n1_ := Aside0.mk (hp_); have n2_ := Aside0.mk ((by rw [hw]; exact below_set (HB.out) (Nat.le_trans HL.out GB15.out) : Below w0.heap.size w0 w20)); have n3_ := Aside0.mk (KeepBut.trans zh (KeepBut.of_grown hg g) (Kd.R_base2 HO744.out)); clear HI0; clear HO744; clear HB; clear HK; have HI0 := n0_; have HO744 := n1_; have HB := n2_; have HK := n3_; clear n0_ n1_ n2_ n3_; clear hg hw hp_))
     go_ret
     exact ⟨_, by first | rfl | (simp [errW_none, errW_some] <;> rfl) | (simp [*, errW_none, errW_some] <;> rfl), by (with_reducible repeat (first | apply Kd.R_alloc | apply Kd.R_drewN | apply Kd.R_drew)); exact HO744.out, zi, zj, zh⟩
    ·rw [if_neg c14] at H
     exact absurd H (by simp)
   ·rw [if_neg c13] at H
    have c13b0 : (t747 == 1) = false := beq_eq_false_iff_ne.mpr c13
    have c13b1 : (t747 != 1) = true := bne_iff_ne.mpr c13
    by_cases c21 : t747 = 2
    ·rw [if_pos c21] at H
     have c21b0 : (t747 == 2) = true := beq_iff_eq.mpr c21
     have c21b1 : (t747 != 2) = false := bne_eq_false_iff_eq.mpr c21
     clear c21
     by_cases c22 : 0 < (t742.length : Int)
     ·rw [if_pos c22] at H
      have c22b0 : decide (0 < (t742.length : Int)) = true := decide_eq_true c22
      have c22b1 : decide (0 < t742.length) = true := decide_eq_true (by omega)
      clear c22
      obtain ⟨y752, hy752⟩ : ∃ y_ : List ByteArray, y_ = (t742.set (0 : Int).toNat (⟨#[97, 10, 98, 10]⟩ : ByteArray)) := ⟨_, rfl⟩
      replace H : (some (y752, t748, t749)) = some (r1, r2, r3) := by first | (rw [hy752]; with_reducible exact H) | (have H2_ := (Option.bind_some _ _).symm.trans H; rw [hy752]; with_reducible exact H2_) | (have H2_ := (Option.bind_some _ _).symm.trans H; with_reducible exact H2_) | with_reducible exact H | (rw [hy752]; exact H) | exact H
      have Ny752 := Aside0.mk hy752
      clear hy752
      simp only [Option.some.injEq, Prod.mk.injEq] at H
      obtain ⟨rfl, rfl, rfl⟩ := H
      go_enter Try.func158, Try.ntmps158
      go_wp2_with (first | ((with_reducible refine gateC (f := 188) rfl ?_); refine goesL_ (some 5) rfl rfl Try.func188 (by kernel_rfl) rfl #[.pointer (some ⟨g, 0, none⟩)] rfl zm ?_; (with_reducible refine (spec_l1Cur_text.calls k g s0_0 s0_1 s0_2 t742 t745 t746 w0 _ ?side1 ?side2 A2.out).mono ?_); (case side1 => exact zi); (case side2 => exact zj); rintro e w24 ⟨v743, rfl, ho0, hi, hb, hk⟩; refine ⟨_, rfl, ?_⟩; have n0_ := Aside0.mk (Kd.R_lower ho0 (keep_size (w := w) (g := g) (row := none) zh)); have n1_ := Aside0.mk (KeepBut.trans zh hk (.inl rfl)); have n2_ := Aside0.mk (hb); have n3_ := Aside0.mk (hi); clear HK; clear HB; clear HI0; have HO744 := n0_; have HK := n1_; have HB := n2_; have HI0 := n3_; clear n0_ n1_ n2_ n3_; (try clear hb); (try clear hb2); (try clear hk); (try clear hi); (try clear ho0); obtain ⟨Ao25, co25, eo25⟩ := Kd.R_slice HO744.out; subst eo25) | ((with_reducible refine gateC (f := 113) rfl ?_); refine goesL_ (some 10) rfl rfl Try.func113 (by kernel_rfl) rfl #[.pointer (some ⟨g, 0, none⟩), .int .i64 25] rfl zm ?_; (with_reducible refine (spec_l1Cur_pick.calls g s0_0 t745 t746 25 t747 t748 t749 w0 _ ?side1 ?side2 A4.out).mono ?_); (case side1 => exact zi); (case side2 => exact zj); rintro e w26 ⟨rfl, hi, hb, hk⟩; refine ⟨_, rfl, ?_⟩; have n0_ := Aside0.mk (Kd.R_mono (Kd.R_keep (IsS122.apart (show IsS122 w0 _ g s0_0 t745 t746 from zi) (zr HO744.out) (by decide)) hk (fun _ h => h.2)) (fun _ h => h.1)); have n1_ := Aside0.mk (KeepBut.trans zh hk (.inl rfl)); have n2_ := Aside0.mk (hb); have n3_ := Aside0.mk (hi); clear HO744; clear HK; clear HB; clear HI0; have HO744 := n0_; have HK := n1_; have HB := n2_; have HI0 := n3_; clear n0_ n1_ n2_ n3_; (try clear hb); (try clear hb2); (try clear hk); (try clear hi); have p23 : 0 ≤ (0 : Int) := (by omega); have q23 : (0 : Int) < ((t742.length : Int) : Int) := oa; have qi23 : (0 < t742.length) = True := eq_true (by omega); obtain ⟨go23, co23, eo23, gb23, gl23, cl23, HG23⟩ := Kd.R_form HO744.out (by omega); (first | cases eo23 | (injection eo23 with ea_ en_ ec_; (first | subst ea_ | (injection ea_ with ea_; subst ea_)); subst ec_; clear en_)); have GB23 := Aside0.mk gb23; have GG23 := Aside0.mk HG23; clear gb23 gl23 HG23; obtain ⟨hx23_0, hf23_0⟩ := Kd.R_celln (⟨#[]⟩ : ByteArray) HO744.out (0 : Int) p23 q23; (try rw [show ((0 : Int)).toNat = 0 from rfl] at hx23_0); (try simp only [Nat.reduceMul, Nat.zero_mul, Nat.zero_add, Nat.reduceAdd] at hx23_0); (try rw [show ((0 : Int)).toNat = 0 from rfl] at hf23_0); (try simp only [Nat.reduceMul, Nat.zero_mul, Nat.zero_add, Nat.reduceAdd] at hf23_0); replace p23 := eq_true p23; replace q23 := eq_true q23; obtain ⟨hy27_, hz27_⟩ := Kd.R_celln (⟨#[]⟩ : ByteArray) HO744.out (0 : Int) (by omega) oa; (try simp only [Int.reduceToNat, Int.toNat_zero, Int.toNat_ofNat, Nat.reduceMul, Nat.zero_mul, Nat.zero_add] at hy27_ hz27_); (try rw [show ((0 : Int)).toNat = 0 from rfl] at hy27_); (try rw [show ((0 : Int)).toNat = 0 from rfl] at hz27_); have HP27 := Kd.R_putg HO744.out (0 : Int) (⟨#[97, 10, 98, 10]⟩ : ByteArray)) | ((with_reducible refine gate_store (t := 9) (p := 22) rfl ?_); refine store_event (t := 9) (p := 22) (v := ?vo_w28) (w1 := (w26.setCell ⟨go23, (0 : Int).toNat, none⟩ (.string (⟨#[97, 10, 98, 10]⟩ : ByteArray)))) ?hg ?ho ?hn ?hr ?_; (case ho => rfl); (case hg => rfl); (case hn => rfl); (case hr => first | (go_simp; done) | (go_simp; rfl)); intro w28 hw; have hg : w26.grownBy w28 (some go23) := (by rw [hw]; exact HP27.2); have hp_ : Kd.R Kd.string 9 w28 w.heap.size (fun _ => True) (.slice (some ⟨go23, 0, none⟩) t742.length co25) y752 := (by rw [hw, Ny752.out]; exact HP27.1); clear HP27; have n0_ := Aside0.mk (IsS122.grown zi hg (IsS122.own_ne HI0.out HO744.out (by decide))); have n1_ := Aside0.mk (hp_); have n2_ := Aside0.mk ((by rw [hw]; exact below_set (HB.out) (Nat.le_trans HL.out GB23.out) : Below w0.heap.size w0 w28)); have n3_ := Aside0.mk (KeepBut.trans zh (KeepBut.of_grown hg g) (Kd.R_base2 HO744.out)); clear HI0; clear HO744; clear HB; clear HK; have HI0 := n0_; have HO744 := n1_; have HB := n2_; have HK := n3_; clear n0_ n1_ n2_ n3_; clear hg hw hp_))
      go_ret
      exact ⟨_, by first | rfl | (simp [errW_none, errW_some] <;> rfl) | (simp [*, errW_none, errW_some] <;> rfl), by (with_reducible repeat (first | apply Kd.R_alloc | apply Kd.R_drewN | apply Kd.R_drew)); exact HO744.out, zi, zj, zh⟩
     ·rw [if_neg c22] at H
      exact absurd H (by simp)
    ·rw [if_neg c21] at H
     have c21b0 : (t747 == 2) = false := beq_eq_false_iff_ne.mpr c21
     have c21b1 : (t747 != 2) = true := bne_iff_ne.mpr c21
     simp only [Option.some.injEq, Prod.mk.injEq] at H
     obtain ⟨rfl, rfl, rfl⟩ := H
     go_enter Try.func158, Try.ntmps158
     go_wp2_with (first | ((with_reducible refine gateC (f := 188) rfl ?_); refine goesL_ (some 5) rfl rfl Try.func188 (by kernel_rfl) rfl #[.pointer (some ⟨g, 0, none⟩)] rfl zm ?_; (with_reducible refine (spec_l1Cur_text.calls k g s0_0 s0_1 s0_2 t742 t745 t746 w0 _ ?side1 ?side2 A2.out).mono ?_); (case side1 => exact zi); (case side2 => exact zj); rintro e w29 ⟨v743, rfl, ho0, hi, hb, hk⟩; refine ⟨_, rfl, ?_⟩; have n0_ := Aside0.mk (Kd.R_lower ho0 (keep_size (w := w) (g := g) (row := none) zh)); have n1_ := Aside0.mk (KeepBut.trans zh hk (.inl rfl)); have n2_ := Aside0.mk (hb); have n3_ := Aside0.mk (hi); clear HK; clear HB; clear HI0; have HO744 := n0_; have HK := n1_; have HB := n2_; have HI0 := n3_; clear n0_ n1_ n2_ n3_; (try clear hb); (try clear hb2); (try clear hk); (try clear hi); (try clear ho0); obtain ⟨Ao30, co30, eo30⟩ := Kd.R_slice HO744.out; subst eo30) | ((with_reducible refine gateC (f := 113) rfl ?_); refine goesL_ (some 10) rfl rfl Try.func113 (by kernel_rfl) rfl #[.pointer (some ⟨g, 0, none⟩), .int .i64 25] rfl zm ?_; (with_reducible refine (spec_l1Cur_pick.calls g s0_0 t745 t746 25 t747 t748 t749 w0 _ ?side1 ?side2 A4.out).mono ?_); (case side1 => exact zi); (case side2 => exact zj); rintro e w31 ⟨rfl, hi, hb, hk⟩; refine ⟨_, rfl, ?_⟩; have n0_ := Aside0.mk (Kd.R_mono (Kd.R_keep (IsS122.apart (show IsS122 w0 _ g s0_0 t745 t746 from zi) (zr HO744.out) (by decide)) hk (fun _ h => h.2)) (fun _ h => h.1)); have n1_ := Aside0.mk (KeepBut.trans zh hk (.inl rfl)); have n2_ := Aside0.mk (hb); have n3_ := Aside0.mk (hi); clear HO744; clear HK; clear HB; clear HI0; have HO744 := n0_; have HK := n1_; have HB := n2_; have HI0 := n3_; clear n0_ n1_ n2_ n3_; (try clear hb); (try clear hb2); (try clear hk); (try clear hi)))
     go_ret
     exact ⟨_, by first | rfl | (simp [errW_none, errW_some] <;> rfl) | (simp [*, errW_none, errW_some] <;> rfl), by (with_reducible repeat (first | apply Kd.R_alloc | apply Kd.R_drewN | apply Kd.R_drew)); exact HO744.out, zi, zj, zh⟩
 ·rw [if_neg c3] at H
  have c3b0 : decide (1 < (t742.length : Int)) = false := decide_eq_false c3
  have c3b1 : decide (1 < t742.length) = false := decide_eq_false (by omega)
  clear c3
  simp only [Option.some.injEq, Prod.mk.injEq] at H
  obtain ⟨rfl, rfl, rfl⟩ := H
  go_enter Try.func158, Try.ntmps158
  go_wp2_with (first | ((with_reducible refine gateC (f := 188) rfl ?_); refine goesL_ (some 5) rfl rfl Try.func188 (by kernel_rfl) rfl #[.pointer (some ⟨g, 0, none⟩)] rfl zm ?_; (with_reducible refine (spec_l1Cur_text.calls k g s0_0 s0_1 s0_2 t742 t745 t746 w0 _ ?side1 ?side2 A2.out).mono ?_); (case side1 => exact zi); (case side2 => exact zj); rintro e w32 ⟨v743, rfl, ho0, hi, hb, hk⟩; refine ⟨_, rfl, ?_⟩; have n0_ := Aside0.mk (Kd.R_lower ho0 (keep_size (w := w) (g := g) (row := none) zh)); have n1_ := Aside0.mk (KeepBut.trans zh hk (.inl rfl)); have n2_ := Aside0.mk (hb); have n3_ := Aside0.mk (hi); clear HK; clear HB; clear HI0; have HO744 := n0_; have HK := n1_; have HB := n2_; have HI0 := n3_; clear n0_ n1_ n2_ n3_; (try clear hb); (try clear hb2); (try clear hk); (try clear hi); (try clear ho0); obtain ⟨Ao33, co33, eo33⟩ := Kd.R_slice HO744.out; subst eo33))
  go_ret
  exact ⟨_, by first | rfl | (simp [errW_none, errW_some] <;> rfl) | (simp [*, errW_none, errW_some] <;> rfl), by (with_reducible repeat (first | apply Kd.R_alloc | apply Kd.R_drewN | apply Kd.R_drew)); exact HO744.out, zi, zj, zh⟩

end Go.Proofs.Ytcefenlblnediaa.My

/- Written by this session's program (wip/gen): a plain function with the same answers as the Go function, and the proof that the Go code comes to them. Asked: that the plain function has an answer. -/
namespace Go.Proofs.Ytcefenlblnediaa.My
open Go.RowKit Go.Proofs.YtcefenlblnediaaW.PrintWords Go.Proofs.YtcefenlblnediaaW.PrintLast Go.Proofs.YtcefenlblnediaaW.PrintMore
attribute [local go_sem] max2_int min2_int max_two min_two max_three min_three max_four min_four
set_option linter.unusedVariables false
set_option linter.unusedSimpArgs false

/-! ### spec_l1Cur_hunked: function 99 -/
def spec_l1Cur_hunked.f (k : Nat) (s0_0 : List Int) (s0_1 : Int) (s0_2 : Int) : Option (List ByteArray × (List (S111)) × Int × Int) := (spec_l1Cur_anyText.f k s0_0 s0_1 s0_2).bind fun bt753 => ((spec_l1Cur_anyHunks.f k s0_0 bt753.2.1 bt753.2.2 bt753.1).bind fun bt758 => (some (bt753.1, bt758.1, bt758.2.1, bt758.2.2)))
set_option maxHeartbeats 8000000 in
set_option maxRecDepth 100000 in
theorem spec_l1Cur_hunked.calls (k : Nat) (g : Nat) (s0_0 : List Int) (s0_1 : Int) (s0_2 : Int) (r1 : List ByteArray) (r2 : List (S111)) (r3 : Int) (r4 : Int) (w0 w : World) (hI : IsS122 w0 w g s0_0 s0_1 s0_2) (hB : Below w0.heap.size w0 w) (h : spec_l1Cur_hunked.f k s0_0 s0_1 s0_2 = some (r1, r2, r3, r4)) :
  Calls Try.prog 99 #[.pointer (some ⟨g, 0, none⟩)] w fun e w' => ∃ v0_ v1_ : Value, e = .returned (.tuple #[v0_, v1_]) ∧ Kd.R Kd.string 9 w' w.heap.size (fun _ => True) v0_ r1 ∧ Kd.S k111 111 w' w.heap.size (fun k_ => some k_ ≠ (v0_ : Value).ownBlock) v1_ r2 ∧ IsS122 w0 w' g s0_0 r3 r4 ∧ Below w0.heap.size w0 w' ∧ KeepBut w w' g none := by
 have HI0 := Aside0.mk hI
 have HK := Aside0.mk (KeepBut.refl w g none)
 have HL := Aside0.mk hB.size
 clear hI
 have HW0 := Aside0.mk hB.size
 have HB := Aside0.mk hB
 clear hB
 have H : ((spec_l1Cur_anyText.f k s0_0 s0_1 s0_2).bind fun bt753 => ((spec_l1Cur_anyHunks.f k s0_0 bt753.2.1 bt753.2.2 bt753.1).bind fun bt758 => (some (bt753.1, bt758.1, bt758.2.1, bt758.2.2)))) = some (r1, r2, r3, r4) := h
 clear h
 replace H := Option.bind_eq_some_iff.mp H
 obtain ⟨⟨t753, t756, t757⟩, A20, H⟩ := H
 replace H : ((spec_l1Cur_anyHunks.f k s0_0 t756 t757 t753).bind fun bt758 => (some (t753, bt758.1, bt758.2.1, bt758.2.2))) = some (r1, r2, r3, r4) := H
 have A2 := Aside0.mk A20
 clear A20
 replace H := Option.bind_eq_some_iff.mp H
 obtain ⟨⟨t758, t761, t762⟩, A30, H⟩ := H
 replace H : (some (t753, t758, t761, t762)) = some (r1, r2, r3, r4) := H
 have A3 := Aside0.mk A30
 clear A30
 simp only [Option.some.injEq, Prod.mk.injEq] at H
 obtain ⟨rfl, rfl, rfl, rfl⟩ := H
 go_enter Try.func99, Try.ntmps99
 go_wp2_with (first | ((with_reducible refine gateC (f := 158) rfl ?_); refine goesL_ (some 6) rfl rfl Try.func158 (by kernel_rfl) rfl #[.pointer (some ⟨g, 0, none⟩)] rfl zm ?_; (with_reducible refine (spec_l1Cur_anyText.calls k g s0_0 s0_1 s0_2 t753 t756 t757 w0 _ ?side1 ?side2 A2.out).mono ?_); (case side1 => exact zi); (case side2 => exact zj); rintro e w4 ⟨v754, rfl, ho0, hi, hb, hk⟩; refine ⟨_, rfl, ?_⟩; have n0_ := Aside0.mk (Kd.R_lower ho0 (keep_size (w := w) (g := g) (row := none) zh)); have n1_ := Aside0.mk (KeepBut.trans zh hk (.inl rfl)); have n2_ := Aside0.mk (hb); have n3_ := Aside0.mk (hi); clear HK; clear HB; clear HI0; have HO755 := n0_; have HK := n1_; have HB := n2_; have HI0 := n3_; clear n0_ n1_ n2_ n3_; (try clear hb); (try clear hb2); (try clear hk); (try clear hi); (try clear ho0); obtain ⟨Ao5, co5, eo5⟩ := Kd.R_slice HO755.out; subst eo5) | ((with_reducible refine gateC (f := 100) rfl ?_); refine goesL_ (some 10) rfl rfl Try.func100 (by kernel_rfl) rfl #[.pointer (some ⟨g, 0, none⟩), .slice Ao5 t753.length co5] rfl zm ?_; (with_reducible refine (spec_l1Cur_anyHunks.calls k g s0_0 t756 t757 _ _ t753 t758 t761 t762 w0 _ ?side1 ?side2 ?side3 ?side4 ?side5 A3.out).mono ?_); (case side1 => exact zi); (case side2 => exact zj); (case side3 => repeat (first | exact (Kd.R_reads' HO755.out).2.2 | (with_reducible refine Kd.C_alloc ?_ _) | (with_reducible refine Kd.C_drewN ?_ _) | (with_reducible refine Kd.C_drew ?_))); (case side4 => exact (Kd.R_reads' HO755.out).2.1); (case side5 => exact far_slice (IsS122.own_ne HI0.out HO755.out (by decide))); rintro e w6 ⟨v759, rfl, ho0, hi, hb, hk⟩; refine ⟨_, rfl, ?_⟩; have n0_ := Aside0.mk (Kd.R_mono (Kd.R_keep (IsS122.apart (show IsS122 w0 _ g s0_0 t756 t757 from zi) (zr HO755.out) (by decide)) hk (fun _ h => h.2)) (fun _ h => h.1)); have n1_ := Aside0.mk (Kd.S_lower (Kd.S_new' ho0 (Kd.R_lt (zr HO755.out))) (keep_size (w := w) (g := g) (row := none) zh)); have n2_ := Aside0.mk (KeepBut.trans zh hk (.inl rfl)); have n3_ := Aside0.mk (hb); have n4_ := Aside0.mk (hi); clear HO755; clear HK; clear HB; clear HI0; have HO755 := n0_; have HO760 := n1_; have HK := n2_; have HB := n3_; have HI0 := n4_; clear n0_ n1_ n2_ n3_ n4_; (try clear hb); (try clear hb2); (try clear hk); (try clear hi); (try clear ho0)))
 go_ret2
 exact ⟨_, _, by first | rfl | (simp [errW_none, errW_some] <;> rfl) | (simp [*, errW_none, errW_some] <;> rfl), by (with_reducible repeat (first | apply Kd.R_alloc | apply Kd.R_drewN | apply Kd.R_drew)); exact HO755.out, by (with_reducible repeat (first | apply Kd.S_alloc | apply Kd.S_drewN | apply Kd.S_drew)); exact Kd.S_mono HO760.out (fun _ hk => hk.2), zi, zj, zh⟩

end Go.Proofs.Ytcefenlblnediaa.My

/- Written by this session's program (wip/gen): a plain function with the same answers as the Go function, and the proof that the Go code comes to them. Asked: that the plain function has an answer. -/
namespace Go.Proofs.Ytcefenlblnediaa.My
open Go.RowKit Go.Proofs.YtcefenlblnediaaW.PrintWords Go.Proofs.YtcefenlblnediaaW.PrintLast Go.Proofs.YtcefenlblnediaaW.PrintMore
attribute [local go_sem] max2_int min2_int max_two min_two max_three min_three max_four min_four
set_option linter.unusedVariables false
set_option linter.unusedSimpArgs false

/-! ### spec_DrawJoinHunks: function 33 -/
def spec_DrawJoinHunks.g (k : Nat) (s0_0 : List Int) (s0_1 : Int) (s0_2 : Int) : Option (List ByteArray × (List (S111)) × (List (S111)) × Int × Int) := (spec_l1Cur_hunked.f k s0_0 s0_1 s0_2).bind fun bt763 => ((spec_Patch.f k bt763.1 bt763.2.1).bind fun bt771 => (if bt771.2 = true then ((spec_l1Cur_anyHunks.f k s0_0 bt763.2.2.1 bt763.2.2.2 bt771.1).bind fun bt775 => (some (bt763.1, bt763.2.1, bt775.1, bt775.2.1, bt775.2.2))) else ((spec_l1Cur_anyHunks.f k s0_0 bt763.2.2.1 bt763.2.2.2 bt763.1).bind fun bt780 => (some (bt763.1, bt763.2.1, bt780.1, bt780.2.1, bt780.2.2)))))
def spec_DrawJoinHunks.f (k : Nat) (l0 : List Int) : Option (List ByteArray × (List (S111)) × (List (S111))) := (spec_DrawJoinHunks.g k l0 0 0).bind fun r => some (r.1, r.2.1, r.2.2.1)
set_option maxHeartbeats 8000000 in
set_option maxRecDepth 100000 in
theorem spec_DrawJoinHunks.made (k : Nat) (A0 : Option Addr) (c0 : Nat) (l0 : List Int) (r1 : List ByteArray) (r2 : List (S111)) (r3 : List (S111)) (r4 : Int) (r5 : Int) (w0 : World) (hr0 : Kd.C (Kd.int .u8) w0 A0 l0.length l0) (h : spec_DrawJoinHunks.g k l0 0 0 = some (r1, r2, r3, r4, r5)) :
  Calls Try.prog 33 #[.slice A0 l0.length c0] w0 fun e w' => ∃ (g : Nat) (w : World), w0.heap.size ≤ w.heap.size ∧ ∃ v0_ v1_ v2_ : Value, e = .returned (.tuple #[v0_, v1_, v2_]) ∧ Kd.R Kd.string 9 w' w.heap.size (fun _ => True) v0_ r1 ∧ Kd.S k111 111 w' w.heap.size (fun k_ => some k_ ≠ (v0_ : Value).ownBlock ∧ some k_ ≠ (v2_ : Value).ownBlock) v1_ r2 ∧ Kd.S k111 111 w' w.heap.size (fun k_ => some k_ ≠ (v0_ : Value).ownBlock ∧ some k_ ≠ (v1_ : Value).ownBlock) v2_ r3 ∧ IsS122 w0 w' g l0 r4 r5 ∧ Below w0.heap.size w0 w' ∧ KeepBut w w' g none := by
 have HR0 := Aside0.mk hr0
 clear hr0
 have HB := Aside0.mk (Below.refl w0.heap.size w0)
 have H : ((spec_l1Cur_hunked.f k l0 0 0).bind fun bt763 => ((spec_Patch.f k bt763.1 bt763.2.1).bind fun bt771 => (if bt771.2 = true then ((spec_l1Cur_anyHunks.f k l0 bt763.2.2.1 bt763.2.2.2 bt771.1).bind fun bt775 => (some (bt763.1, bt763.2.1, bt775.1, bt775.2.1, bt775.2.2))) else ((spec_l1Cur_anyHunks.f k l0 bt763.2.2.1 bt763.2.2.2 bt763.1).bind fun bt780 => (some (bt763.1, bt763.2.1, bt780.1, bt780.2.1, bt780.2.2)))))) = some (r1, r2, r3, r4, r5) := h
 clear h
 replace H := Option.bind_eq_some_iff.mp H
 obtain ⟨⟨t763, t766, t769, t770⟩, A20, H⟩ := H
 replace H : ((spec_Patch.f k t763 t766).bind fun bt771 => (if bt771.2 = true then ((spec_l1Cur_anyHunks.f k l0 t769 t770 bt771.1).bind fun bt775 => (some (t763, t766, bt775.1, bt775.2.1, bt775.2.2))) else ((spec_l1Cur_anyHunks.f k l0 t769 t770 t763).bind fun bt780 => (some (t763, t766, bt780.1, bt780.2.1, bt780.2.2))))) = some (r1, r2, r3, r4, r5) := H
 have A2 := Aside0.mk A20
 clear A20
 replace H := Option.bind_eq_some_iff.mp H
 obtain ⟨⟨t771, t772⟩, A30, H⟩ := H
 replace H : (if t772 = true then ((spec_l1Cur_anyHunks.f k l0 t769 t770 t771).bind fun bt775 => (some (t763, t766, bt775.1, bt775.2.1, bt775.2.2))) else ((spec_l1Cur_anyHunks.f k l0 t769 t770 t763).bind fun bt780 => (some (t763, t766, bt780.1, bt780.2.1, bt780.2.2)))) = some (r1, r2, r3, r4, r5) := H
 have A3 := Aside0.mk A30
 clear A30
 by_cases c4 : t772 = true
 ·subst c4
  have H1 : ((spec_l1Cur_anyHunks.f k l0 t769 t770 t771).bind fun bt775 => (some (t763, t766, bt775.1, bt775.2.1, bt775.2.2))) = some (r1, r2, r3, r4, r5) := by rw [if_pos rfl] at H; exact H
  clear H
  have H := H1
  clear H1
  replace H := Option.bind_eq_some_iff.mp H
  obtain ⟨⟨t775, t778, t779⟩, A50, H⟩ := H
  replace H : (some (t763, t766, t775, t778, t779)) = some (r1, r2, r3, r4, r5) := H
  have A5 := Aside0.mk A50
  clear A50
  simp only [Option.some.injEq, Prod.mk.injEq] at H
  obtain ⟨rfl, rfl, rfl, rfl, rfl⟩ := H
  go_enter Try.func33, Try.ntmps33
  go_wp2_with (first | ((with_reducible refine gate_dst (N := 12) rfl ?_); refine box_event ?hg (N := 12) ?hd (cs := #[.slice A0 l0.length c0, .int .i64 0, .int .u64 0]) (t := 122) ?hr ?_; (case hd => rfl); (case hg => rfl); (case hr => first | (go_simp; done) | (go_simp; rfl)); intro g hg w hbox hb; have n0_ := Aside0.mk (show IsS122 w0 w g l0 0 0 from ⟨A0, c0, hbox, (by rw [hg]; exact below_size zb), HR0.out⟩); have n1_ := Aside0.mk (below_step zb hb); clear HB HR0; have HI0 := n0_; have HB := n1_; have HK := Aside0.mk (KeepBut.refl w g none); have HL := Aside0.mk HB.out.size; have HW0 := Aside0.mk HB.out.size; clear n0_ n1_ hb hbox hg) | ((with_reducible refine gateC (f := 99) rfl ?_); refine goesL_ (some 15) rfl rfl Try.func99 (by kernel_rfl) rfl #[.pointer (some ⟨g, 0, none⟩)] rfl zm ?_; (with_reducible refine (spec_l1Cur_hunked.calls k g l0 0 0 t763 t766 t769 t770 w0 _ ?side1 ?side2 A2.out).mono ?_); (case side1 => exact zi); (case side2 => exact zj); rintro e w6 ⟨v764, v767, rfl, ho0, ho1, hi, hb, hk⟩; refine ⟨_, rfl, ?_⟩; have n0_ := Aside0.mk (Kd.R_lower ho0 (keep_size (w := w) (g := g) (row := none) zh)); have n1_ := Aside0.mk (Kd.S_lower ho1 (keep_size (w := w) (g := g) (row := none) zh)); have n2_ := Aside0.mk (KeepBut.trans zh hk (.inl rfl)); have n3_ := Aside0.mk (hb); have n4_ := Aside0.mk (hi); clear HK; clear HB; clear HI0; have HO765 := n0_; have HO768 := n1_; have HK := n2_; have HB := n3_; have HI0 := n4_; clear n0_ n1_ n2_ n3_ n4_; (try clear hb); (try clear hb2); (try clear hk); (try clear hi); (try clear ho0); (try clear ho1); obtain ⟨Ao7, co7, eo7⟩ := Kd.R_slice HO765.out; subst eo7; obtain ⟨Ao8, co8, eo8⟩ := Kd.S_slice HO768.out; subst eo8) | ((with_reducible refine gateC (f := 39) rfl ?_); refine goesL_ (some 21) rfl rfl Try.func39 (by kernel_rfl) rfl #[.slice Ao7 t763.length co7, .slice Ao8 t766.length co8] rfl zm ?_; (with_reducible refine (spec_Patch.calls k _ _ t763 _ _ t766 t771 true _ ?side1 ?side2 ?side3 ?side4 A3.out).mono ?_); (case side1 => repeat (first | exact (Kd.R_reads' HO765.out).2.2 | (with_reducible refine Kd.C_alloc ?_ _) | (with_reducible refine Kd.C_drewN ?_ _) | (with_reducible refine Kd.C_drew ?_))); (case side2 => exact (Kd.R_reads' HO765.out).2.1); (case side3 => repeat (first | exact (Kd.S_reads' HO768.out).2.2 | (with_reducible refine Kd.C_alloc ?_ _) | (with_reducible refine Kd.C_drewN ?_ _) | (with_reducible refine Kd.C_drew ?_))); (case side4 => exact (Kd.S_reads' HO768.out).2.1); rintro e w9 ⟨v773, rfl, ho0, hb⟩; refine ⟨_, rfl, ?_⟩; have n0_ := Aside0.mk (Kd.R_elder' (zr HO765.out) (Kd.R_base ho0) hb); have n1_ := Aside0.mk (Kd.S_elder' (zs HO768.out) (Kd.R_base ho0) hb); have n2_ := Aside0.mk (Kd.R_lower (Kd.R_new' ho0 (Kd.R_lt (zr HO765.out))) (keep_size (w := w) (g := g) (row := none) zh)); have n3_ := Aside0.mk (IsS122.below zi hb); have n4_ := Aside0.mk (KeepBut.trans zh (KeepBut.of_below hb g none) (.inl rfl)); have n5_ := Aside0.mk (below_step zj hb); clear HO765; clear HO768; clear HI0; clear HK; clear HB; have HO765 := n0_; have HO768 := n1_; have HO774 := n2_; have HI0 := n3_; have HK := n4_; have HB := n5_; clear n0_ n1_ n2_ n3_ n4_ n5_; (try clear hb); (try clear hb2); (try clear hk); (try clear hi); (try clear ho0); obtain ⟨Ao10, co10, eo10⟩ := Kd.R_slice HO774.out; subst eo10) | ((with_reducible refine gateC (f := 100) rfl ?_); refine goesL_ (some 31) rfl rfl Try.func100 (by kernel_rfl) rfl #[.pointer (some ⟨g, 0, none⟩), .slice Ao10 t771.length co10] rfl zm ?_; (with_reducible refine (spec_l1Cur_anyHunks.calls k g l0 t769 t770 _ _ t771 t775 t778 t779 w0 _ ?side1 ?side2 ?side3 ?side4 ?side5 A5.out).mono ?_); (case side1 => exact zi); (case side2 => exact zj); (case side3 => repeat (first | exact (Kd.R_reads' HO774.out).2.2 | (with_reducible refine Kd.C_alloc ?_ _) | (with_reducible refine Kd.C_drewN ?_ _) | (with_reducible refine Kd.C_drew ?_))); (case side4 => exact (Kd.R_reads' HO774.out).2.1); (case side5 => exact far_slice (IsS122.own_ne HI0.out HO774.out (by decide))); rintro e w11 ⟨v776, rfl, ho0, hi, hb, hk⟩; refine ⟨_, rfl, ?_⟩; have n0_ := Aside0.mk (Kd.R_mono (Kd.R_keep (IsS122.apart (show IsS122 w0 _ g l0 t769 t770 from zi) (zr HO765.out) (by decide)) hk (fun _ h => h.2)) (fun _ h => h.1)); have n1_ := Aside0.mk (Kd.S_mono (Kd.S_told (Kd.S_oldK (IsS122.apartS (show IsS122 w0 _ g l0 t769 t770 from zi) (zs HO768.out) (by decide)) hk) (Kd.S_base ho0)) (fun _ h_ => h_.1)); have n2_ := Aside0.mk (Kd.R_mono (Kd.R_keep (IsS122.apart (show IsS122 w0 _ g l0 t769 t770 from zi) (zr HO774.out) (by decide)) hk (fun _ h => h.2)) (fun _ h => h.1)); have n3_ := Aside0.mk (Kd.S_lower (Kd.S_new' (Kd.S_new' (Kd.S_new' ho0 (Kd.R_lt (zr HO765.out))) (Kd.S_lt (zs HO768.out))) (Kd.R_lt (zr HO774.out))) (keep_size (w := w) (g := g) (row := none) zh)); have n4_ := Aside0.mk (KeepBut.trans zh hk (.inl rfl)); have n5_ := Aside0.mk (hb); have n6_ := Aside0.mk (hi); clear HO765; clear HO768; clear HO774; clear HK; clear HB; clear HI0; have HO765 := n0_; have HO768 := n1_; have HO774 := n2_; have HO777 := n3_; have HK := n4_; have HB := n5_; have HI0 := n6_; clear n0_ n1_ n2_ n3_ n4_ n5_ n6_; (try clear hb); (try clear hb2); (try clear hk); (try clear hi); (try clear ho0)))
  go_ret3
  exact ⟨g, w, HW0.out, _, _, _, by first | rfl | (simp [errW_none, errW_some] <;> rfl) | (simp [*, errW_none, errW_some] <;> rfl), by (with_reducible repeat (first | apply Kd.R_alloc | apply Kd.R_drewN | apply Kd.R_drew)); exact Kd.R_mono HO765.out (fun _ hk => trivial), by (with_reducible repeat (first | apply Kd.S_alloc | apply Kd.S_drewN | apply Kd.S_drew)); exact Kd.S_mono HO768.out (fun _ hk => ⟨hk.1.1, hk.2⟩), by (with_reducible repeat (first | apply Kd.S_alloc | apply Kd.S_drewN | apply Kd.S_drew)); exact Kd.S_mono HO777.out (fun _ hk => ⟨hk.1.1.2, hk.1.2⟩), zi, zj, zh⟩
 ·replace c4 := Bool.eq_false_iff.mpr c4
  subst c4
  have H1 : ((spec_l1Cur_anyHunks.f k l0 t769 t770 t763).bind fun bt780 => (some (t763, t766, bt780.1, bt780.2.1, bt780.2.2))) = some (r1, r2, r3, r4, r5) := by rw [if_neg (show ¬ (false = true) by decide)] at H; exact H
  clear H
  have H := H1
  clear H1
  replace H := Option.bind_eq_some_iff.mp H
  obtain ⟨⟨t780, t783, t784⟩, A120, H⟩ := H
  replace H : (some (t763, t766, t780, t783, t784)) = some (r1, r2, r3, r4, r5) := H
  have A12 := Aside0.mk A120
  clear A120
  simp only [Option.some.injEq, Prod.mk.injEq] at H
  obtain ⟨rfl, rfl, rfl, rfl, rfl⟩ := H
  go_enter Try.func33, Try.ntmps33
  go_wp2_with (first | ((with_reducible refine gate_dst (N := 12) rfl ?_); refine box_event ?hg (N := 12) ?hd (cs := #[.slice A0 l0.length c0, .int .i64 0, .int .u64 0]) (t := 122) ?hr ?_; (case hd => rfl); (case hg => rfl); (case hr => first | (go_simp; done) | (go_simp; rfl)); intro g hg w hbox hb; have n0_ := Aside0.mk (show IsS122 w0 w g l0 0 0 from ⟨A0, c0, hbox, (by rw [hg]; exact below_size zb), HR0.out⟩); have n1_ := Aside0.mk (below_step zb hb); clear HB HR0; have HI0 := n0_; have HB := n1_; have HK := Aside0.mk (KeepBut.refl w g none); have HL := Aside0.mk HB.out.size; have HW0 := Aside0.mk HB.out.size; clear n0_ n1_ hb hbox hg) | ((with_reducible refine gateC (f := 99) rfl ?_); refine goesL_ (some 15) rfl rfl Try.func99 (by kernel_rfl) rfl #[.pointer (some ⟨g, 0, none⟩)] rfl zm ?_; (with_reducible refine (spec_l1Cur_hunked.calls k g l0 0 0 t763 t766 t769 t770 w0 _ ?side1 ?side2 A2.out).mono ?_); (case side1 => exact zi); (case side2 => exact zj); rintro e w13 ⟨v764, v767, rfl, ho0, ho1, hi, hb, hk⟩; refine ⟨_, rfl, ?_⟩; have n0_ := Aside0.mk (Kd.R_lower ho0 (keep_size (w := w) (g := g) (row := none) zh)); have n1_ := Aside0.mk (Kd.S_lower ho1 (keep_size (w := w) (g := g) (row := none) zh)); have n2_ := Aside0.mk (KeepBut.trans zh hk (.inl rfl)); have n3_ := Aside0.mk (hb); have n4_ := Aside0.mk (hi); clear HK; clear HB; clear HI0; have HO765 := n0_; have HO768 := n1_; have HK := n2_; have HB := n3_; have HI0 := n4_; clear n0_ n1_ n2_ n3_ n4_; (try clear hb); (try clear hb2); (try clear hk); (try clear hi); (try clear ho0); (try clear ho1); obtain ⟨Ao14, co14, eo14⟩ := Kd.R_slice HO765.out; subst eo14; obtain ⟨Ao15, co15, eo15⟩ := Kd.S_slice HO768.out; subst eo15) | ((with_reducible refine gateC (f := 39) rfl ?_); refine goesL_ (some 21) rfl rfl Try.func39 (by kernel_rfl) rfl #[.slice Ao14 t763.length co14, .slice Ao15 t766.length co15] rfl zm ?_; (with_reducible refine (spec_Patch.calls k _ _ t763 _ _ t766 t771 false _ ?side1 ?side2 ?side3 ?side4 A3.out).mono ?_); (case side1 => repeat (first | exact (Kd.R_reads' HO765.out).2.2 | (with_reducible refine Kd.C_alloc ?_ _) | (with_reducible refine Kd.C_drewN ?_ _) | (with_reducible refine Kd.C_drew ?_))); (case side2 => exact (Kd.R_reads' HO765.out).2.1); (case side3 => repeat (first | exact (Kd.S_reads' HO768.out).2.2 | (with_reducible refine Kd.C_alloc ?_ _) | (with_reducible refine Kd.C_drewN ?_ _) | (with_reducible refine Kd.C_drew ?_))); (case side4 => exact (Kd.S_reads' HO768.out).2.1); rintro e w16 ⟨v773, rfl, ho0, hb⟩; refine ⟨_, rfl, ?_⟩; have n0_ := Aside0.mk (Kd.R_elder' (zr HO765.out) (Kd.R_base ho0) hb); have n1_ := Aside0.mk (Kd.S_elder' (zs HO768.out) (Kd.R_base ho0) hb); have n2_ := Aside0.mk (Kd.R_lower (Kd.R_new' ho0 (Kd.R_lt (zr HO765.out))) (keep_size (w := w) (g := g) (row := none) zh)); have n3_ := Aside0.mk (IsS122.below zi hb); have n4_ := Aside0.mk (KeepBut.trans zh (KeepBut.of_below hb g none) (.inl rfl)); have n5_ := Aside0.mk (below_step zj hb); clear HO765; clear HO768; clear HI0; clear HK; clear HB; have HO765 := n0_; have HO768 := n1_; have HO774 := n2_; have HI0 := n3_; have HK := n4_; have HB := n5_; clear n0_ n1_ n2_ n3_ n4_ n5_; (try clear hb); (try clear hb2); (try clear hk); (try clear hi); (try clear ho0)) | ((with_reducible refine gateC (f := 100) rfl ?_); refine goesL_ (some 31) rfl rfl Try.func100 (by kernel_rfl) rfl #[.pointer (some ⟨g, 0, none⟩), .slice Ao14 t763.length co14] rfl zm ?_; (with_reducible refine (spec_l1Cur_anyHunks.calls k g l0 t769 t770 _ _ t763 t780 t783 t784 w0 _ ?side1 ?side2 ?side3 ?side4 ?side5 A12.out).mono ?_); (case side1 => exact zi); (case side2 => exact zj); (case side3 => repeat (first | exact (Kd.R_reads' HO765.out).2.2 | (with_reducible refine Kd.C_alloc ?_ _) | (with_reducible refine Kd.C_drewN ?_ _) | (with_reducible refine Kd.C_drew ?_))); (case side4 => exact (Kd.R_reads' HO765.out).2.1); (case side5 => exact far_slice (IsS122.own_ne HI0.out HO765.out (by decide))); rintro e w17 ⟨v781, rfl, ho0, hi, hb, hk⟩; refine ⟨_, rfl, ?_⟩; have n0_ := Aside0.mk (Kd.R_mono (Kd.R_keep (IsS122.apart (show IsS122 w0 _ g l0 t769 t770 from zi) (zr HO765.out) (by decide)) hk (fun _ h => h.2)) (fun _ h => h.1)); have n1_ := Aside0.mk (Kd.S_mono (Kd.S_told (Kd.S_oldK (IsS122.apartS (show IsS122 w0 _ g l0 t769 t770 from zi) (zs HO768.out) (by decide)) hk) (Kd.S_base ho0)) (fun _ h_ => h_.1)); have n2_ := Aside0.mk (Kd.R_mono (Kd.R_keep (IsS122.apart (show IsS122 w0 _ g l0 t769 t770 from zi) (zr HO774.out) (by decide)) hk (fun _ h => h.2)) (fun _ h => h.1)); have n3_ := Aside0.mk (Kd.S_lower (Kd.S_new' (Kd.S_new' (Kd.S_new' ho0 (Kd.R_lt (zr HO765.out))) (Kd.S_lt (zs HO768.out))) (Kd.R_lt (zr HO774.out))) (keep_size (w := w) (g := g) (row := none) zh)); have n4_ := Aside0.mk (KeepBut.trans zh hk (.inl rfl)); have n5_ := Aside0.mk (hb); have n6_ := Aside0.mk (hi); clear HO765; clear HO768; clear HO774; clear HK; clear HB; clear HI0; have HO765 := n0_; have HO768 := n1_; have HO774 := n2_; have HO782 := n3_; have HK := n4_; have HB := n5_; have HI0 := n6_; clear n0_ n1_ n2_ n3_ n4_ n5_ n6_; (try clear hb); (try clear hb2); (try clear hk); (try clear hi); (try clear ho0)))
  go_ret3
  exact ⟨g, w, HW0.out, _, _, _, by first | rfl | (simp [errW_none, errW_some] <;> rfl) | (simp [*, errW_none, errW_some] <;> rfl), by (with_reducible repeat (first | apply Kd.R_alloc | apply Kd.R_drewN | apply Kd.R_drew)); exact Kd.R_mono HO765.out (fun _ hk => trivial), by (with_reducible repeat (first | apply Kd.S_alloc | apply Kd.S_drewN | apply Kd.S_drew)); exact Kd.S_mono HO768.out (fun _ hk => ⟨hk.1.1, hk.2⟩), by (with_reducible repeat (first | apply Kd.S_alloc | apply Kd.S_drewN | apply Kd.S_drew)); exact Kd.S_mono HO782.out (fun _ hk => ⟨hk.1.1.2, hk.1.2⟩), zi, zj, zh⟩
theorem spec_DrawJoinHunks.calls (k : Nat) (A0 : Option Addr) (c0 : Nat) (l0 : List Int) (r1 : List ByteArray) (r2 : List (S111)) (r3 : List (S111)) (w0 : World) (hr0 : Kd.C (Kd.int .u8) w0 A0 l0.length l0) (hc0 : l0.length ≤ c0) (h : spec_DrawJoinHunks.f k l0 = some (r1, r2, r3)) :
  Calls Try.prog 33 #[.slice A0 l0.length c0] w0 fun e w' => ∃ v0_ v1_ v2_ : Value, e = .returned (.tuple #[v0_, v1_, v2_]) ∧ Kd.R Kd.string 9 w' w0.heap.size (fun _ => True) v0_ r1 ∧ Kd.S k111 111 w' w0.heap.size (fun k_ => some k_ ≠ (v0_ : Value).ownBlock ∧ some k_ ≠ (v2_ : Value).ownBlock) v1_ r2 ∧ Kd.S k111 111 w' w0.heap.size (fun k_ => some k_ ≠ (v0_ : Value).ownBlock ∧ some k_ ≠ (v1_ : Value).ownBlock) v2_ r3 ∧ Below w0.heap.size w0 w' := by
  obtain ⟨q, hq, e⟩ := Option.bind_eq_some_iff.1 h
  obtain ⟨q0, q1, q2, q3, q4⟩ := q
  injection e with e
  simp only [Prod.mk.injEq] at e
  obtain ⟨rfl, rfl, rfl⟩ := e
  refine (spec_DrawJoinHunks.made k A0 c0 l0 _ _ _ _ _ w0 hr0 hq).mono ?_
  rintro e w' ⟨g, w, hw, v0_, v1_, v2_, h0, h1, h2, h3, _, hb, _⟩
  exact ⟨v0_, v1_, v2_, h0, Kd.R_lower h1 hw, Kd.S_lower h2 hw, Kd.S_lower h3 hw, hb⟩

end Go.Proofs.Ytcefenlblnediaa.My

/- Written by this session's program (wip/gen): a plain function with the same answers as the Go function, and the proof that the Go code comes to them. Asked: that the plain function has an answer. -/
namespace Go.Proofs.Ytcefenlblnediaa.My
open Go.RowKit Go.Proofs.YtcefenlblnediaaW.PrintWords Go.Proofs.YtcefenlblnediaaW.PrintLast Go.Proofs.YtcefenlblnediaaW.PrintMore
attribute [local go_sem] max2_int min2_int max_two min_two max_three min_three max_four min_four
set_option linter.unusedVariables false
set_option linter.unusedSimpArgs false

/-! ### spec_DrawPatch: function 38 -/
def spec_DrawPatch.g (k : Nat) (s0_0 : List Int) (s0_1 : Int) (s0_2 : Int) : Option (List ByteArray × (List (S111)) × Int × Int) := (spec_l1Cur_hunked.f k s0_0 s0_1 s0_2).bind fun bt797 => (some (bt797.1, bt797.2.1, bt797.2.2.1, bt797.2.2.2))
def spec_DrawPatch.f (k : Nat) (l0 : List Int) : Option (List ByteArray × (List (S111))) := (spec_DrawPatch.g k l0 0 0).bind fun r => some (r.1, r.2.1)
set_option maxHeartbeats 8000000 in
set_option maxRecDepth 100000 in
theorem spec_DrawPatch.made (k : Nat) (A0 : Option Addr) (c0 : Nat) (l0 : List Int) (r1 : List ByteArray) (r2 : List (S111)) (r3 : Int) (r4 : Int) (w0 : World) (hr0 : Kd.C (Kd.int .u8) w0 A0 l0.length l0) (h : spec_DrawPatch.g k l0 0 0 = some (r1, r2, r3, r4)) :
  Calls Try.prog 38 #[.slice A0 l0.length c0] w0 fun e w' => ∃ (g : Nat) (w : World), w0.heap.size ≤ w.heap.size ∧ ∃ v0_ v1_ : Value, e = .returned (.tuple #[v0_, v1_]) ∧ Kd.R Kd.string 9 w' w.heap.size (fun _ => True) v0_ r1 ∧ Kd.S k111 111 w' w.heap.size (fun k_ => some k_ ≠ (v0_ : Value).ownBlock) v1_ r2 ∧ IsS122 w0 w' g l0 r3 r4 ∧ Below w0.heap.size w0 w' ∧ KeepBut w w' g none := by
 have HR0 := Aside0.mk hr0
 clear hr0
 have HB := Aside0.mk (Below.refl w0.heap.size w0)
 have H : ((spec_l1Cur_hunked.f k l0 0 0).bind fun bt797 => (some (bt797.1, bt797.2.1, bt797.2.2.1, bt797.2.2.2))) = some (r1, r2, r3, r4) := h
 clear h
 replace H := Option.bind_eq_some_iff.mp H
 obtain ⟨⟨t797, t800, t803, t804⟩, A20, H⟩ := H
 replace H : (some (t797, t800, t803, t804)) = some (r1, r2, r3, r4) := H
 have A2 := Aside0.mk A20
 clear A20
 simp only [Option.some.injEq, Prod.mk.injEq] at H
 obtain ⟨rfl, rfl, rfl, rfl⟩ := H
 go_enter Try.func38, Try.ntmps38
 go_wp2_with (first | ((with_reducible refine gate_dst (N := 7) rfl ?_); refine box_event ?hg (N := 7) ?hd (cs := #[.slice A0 l0.length c0, .int .i64 0, .int .u64 0]) (t := 122) ?hr ?_; (case hd => rfl); (case hg => rfl); (case hr => first | (go_simp; done) | (go_simp; rfl)); intro g hg w hbox hb; have n0_ := Aside0.mk (show IsS122 w0 w g l0 0 0 from ⟨A0, c0, hbox, (by rw [hg]; exact below_size zb), HR0.out⟩); have n1_ := Aside0.mk (below_step zb hb); clear HB HR0; have HI0 := n0_; have HB := n1_; have HK := Aside0.mk (KeepBut.refl w g none); have HL := Aside0.mk HB.out.size; have HW0 := Aside0.mk HB.out.size; clear n0_ n1_ hb hbox hg) | ((with_reducible refine gateC (f := 99) rfl ?_); refine goesL_ (some 9) rfl rfl Try.func99 (by kernel_rfl) rfl #[.pointer (some ⟨g, 0, none⟩)] rfl zm ?_; (with_reducible refine (spec_l1Cur_hunked.calls k g l0 0 0 t797 t800 t803 t804 w0 _ ?side1 ?side2 A2.out).mono ?_); (case side1 => exact zi); (case side2 => exact zj); rintro e w3 ⟨v798, v801, rfl, ho0, ho1, hi, hb, hk⟩; refine ⟨_, rfl, ?_⟩; have n0_ := Aside0.mk (Kd.R_lower ho0 (keep_size (w := w) (g := g) (row := none) zh)); have n1_ := Aside0.mk (Kd.S_lower ho1 (keep_size (w := w) (g := g) (row := none) zh)); have n2_ := Aside0.mk (KeepBut.trans zh hk (.inl rfl)); have n3_ := Aside0.mk (hb); have n4_ := Aside0.mk (hi); clear HK; clear HB; clear HI0; have HO799 := n0_; have HO802 := n1_; have HK := n2_; have HB := n3_; have HI0 := n4_; clear n0_ n1_ n2_ n3_ n4_; (try clear hb); (try clear hb2); (try clear hk); (try clear hi); (try clear ho0); (try clear ho1)))
 go_ret2
 exact ⟨g, w, HW0.out, _, _, by first | rfl | (simp [errW_none, errW_some] <;> rfl) | (simp [*, errW_none, errW_some] <;> rfl), by (with_reducible repeat (first | apply Kd.R_alloc | apply Kd.R_drewN | apply Kd.R_drew)); exact HO799.out, by (with_reducible repeat (first | apply Kd.S_alloc | apply Kd.S_drewN | apply Kd.S_drew)); exact HO802.out, zi, zj, zh⟩
theorem spec_DrawPatch.calls (k : Nat) (A0 : Option Addr) (c0 : Nat) (l0 : List Int) (r1 : List ByteArray) (r2 : List (S111)) (w0 : World) (hr0 : Kd.C (Kd.int .u8) w0 A0 l0.length l0) (hc0 : l0.length ≤ c0) (h : spec_DrawPatch.f k l0 = some (r1, r2)) :
  Calls Try.prog 38 #[.slice A0 l0.length c0] w0 fun e w' => ∃ v0_ v1_ : Value, e = .returned (.tuple #[v0_, v1_]) ∧ Kd.R Kd.string 9 w' w0.heap.size (fun _ => True) v0_ r1 ∧ Kd.S k111 111 w' w0.heap.size (fun k_ => some k_ ≠ (v0_ : Value).ownBlock) v1_ r2 ∧ Below w0.heap.size w0 w' := by
  obtain ⟨q, hq, e⟩ := Option.bind_eq_some_iff.1 h
  obtain ⟨q0, q1, q2, q3⟩ := q
  injection e with e
  simp only [Prod.mk.injEq] at e
  obtain ⟨rfl, rfl⟩ := e
  refine (spec_DrawPatch.made k A0 c0 l0 _ _ _ _ w0 hr0 hq).mono ?_
  rintro e w' ⟨g, w, hw, v0_, v1_, h0, h1, h2, _, hb, _⟩
  exact ⟨v0_, v1_, h0, Kd.R_lower h1 hw, Kd.S_lower h2 hw, hb⟩

end Go.Proofs.Ytcefenlblnediaa.My

/- Written by this session's program (wip/gen): a plain function with the same answers as the Go function, and the proof that the Go code comes to them. Asked: that the plain function has an answer. -/
namespace Go.Proofs.Ytcefenlblnediaa.My
open Go.RowKit Go.Proofs.YtcefenlblnediaaW.PrintWords Go.Proofs.YtcefenlblnediaaW.PrintLast Go.Proofs.YtcefenlblnediaaW.PrintMore
attribute [local go_sem] max2_int min2_int max_two min_two max_three min_three max_four min_four
set_option linter.unusedVariables false
set_option linter.unusedSimpArgs false

/-! ### spec_l1OwnT: function 155 -/
def spec_l1OwnT.f (l0 : List ByteArray) : Option (List ByteArray) := (some (([] : List ByteArray) : List ByteArray)).bind fun y369 => (if y369.length + l0.length < 8796093022208 then (some (y369 ++ l0)) else (none))
set_option maxHeartbeats 8000000 in
set_option maxRecDepth 100000 in
theorem spec_l1OwnT.calls (A0 : Option Addr) (c0 : Nat) (l0 : List ByteArray) (r : List ByteArray) (w : World) (hr0 : Kd.C Kd.string w A0 l0.length l0) (hc0 : l0.length ≤ c0) (h : spec_l1OwnT.f l0 = some r) :
  Calls Try.prog 155 #[.slice A0 l0.length c0] w fun e w' => ∃ v0_ : Value, e = .returned (v0_) ∧ Kd.R Kd.string 9 w' w.heap.size (fun _ => True) v0_ r ∧ Below w.heap.size w w' := by
 have HR0 := Aside0.mk hr0
 have HC0 := Aside0.mk hc0
 clear hr0 hc0
 have HB := Aside0.mk (Below.refl w.heap.size w)
 have H : ((some (([] : List ByteArray) : List ByteArray)).bind fun y369 => (if y369.length + l0.length < 8796093022208 then (some (y369 ++ l0)) else (none))) = some r := h
 clear h
 obtain ⟨y369, hy369⟩ : ∃ y_ : List ByteArray, y_ = (([] : List ByteArray)) := ⟨_, rfl⟩
 replace H : (if y369.length + l0.length < 8796093022208 then (some (y369 ++ l0)) else (none)) = some r := by first | (rw [hy369]; with_reducible exact H) | (have H2_ := (Option.bind_some _ _).symm.trans H; rw [hy369]; with_reducible exact H2_) | (have H2_ := (Option.bind_some _ _).symm.trans H; with_reducible exact H2_) | with_reducible exact H | (rw [hy369]; exact H) | exact H
 have Ny369 := Aside0.mk hy369
 clear hy369
 by_cases c2 : y369.length + l0.length < 8796093022208
 ·rw [if_pos c2] at H
  have LMc2 := Aside0.mk c2
  clear c2
  obtain ⟨y372, hy372⟩ : ∃ y_ : List ByteArray, y_ = (y369 ++ l0) := ⟨_, rfl⟩
  replace H : (some y372) = some r := by first | (rw [hy372]; with_reducible exact H) | (have H2_ := (Option.bind_some _ _).symm.trans H; rw [hy372]; with_reducible exact H2_) | (have H2_ := (Option.bind_some _ _).symm.trans H; with_reducible exact H2_) | with_reducible exact H | (rw [hy372]; exact H) | exact H
  have Ny372 := Aside0.mk hy372
  clear hy372
  obtain rfl := Option.some.inj H
  go_enter Try.func155, Try.ntmps155
  go_wp2_with (first | ((with_reducible refine gate_dst (N := 3) rfl ?_); refine Kd.R_lit Kd.string _ 9 ?hg (N := 3) ?hd (xs := ([] : List ByteArray)) (inner := []) (ok := fun _ => True) (okp := fun _ => True) ?hr ?hp (fun _ hk => hk) trivial (Below.refl _ _) (Nat.le_refl _) (by simp) ?_; (case hd => rfl); (case hg => rfl); (case hr => first | (go_simp; done) | (go_simp; rfl)); (case hp => exact (Reps.none _ _)); intro v370 w3 ho4 hb hg_ hnew_; clear hg_ hnew_; (first | rw [← Ny369.out] at ho4 | (simp only [Int.reduceToNat] at ho4; rw [← Ny369.out] at ho4)); have n0_ := Aside0.mk (Kd.R_lower ho4 (below_size zb)); have n1_ := Aside0.mk (below_step zb hb); clear HB; have HO371 := n0_; have HB := n1_; clear n0_ n1_; clear hb ho4) | ((with_reducible refine gateB (b := .append) (xs := #[.tmp 3, .tmp 4]) rfl ?_); at_builtin; refine Kd.R_append_rows Kd.string (w0 := w) w.heap.size rfl (.tmp 3) (.tmp 4) 22 9 (.string ⟨#[]⟩) 16 rfl Try.underlying22 info9 rfl (by decide) (by omega) v370 y369 l0 _ _ _ (fun _ => True) (fun _ => False) rfl rfl ?aO ?aR (fun _ _ h => h) (fun _ h => h.elim) ?aF ?aB ?aS ?aL ?_; (case aR => exact zq (Kd.C_below HR0.out HB.out)); (case aB => exact zb); (case aF => exact (fun _ _ => trivial)); (case aO => exact (zr HO371.out)); (case aS => exact (below_size zb)); (case aL => have := LMc2.out; omega); intro v373 w5 ho hb hg hat; rw [← Ny372.out] at ho; have n0_ := Aside0.mk (hb); have n1_ := Aside0.mk (ho); clear HB; clear HO371; have HB := n0_; have HO374 := n1_; clear n0_ n1_; clear ho hb hg hat))
  go_ret
  exact ⟨_, by first | rfl | (simp [errW_none, errW_some] <;> rfl) | (simp [*, errW_none, errW_some] <;> rfl), by (with_reducible repeat (first | apply Kd.R_alloc | apply Kd.R_drewN | apply Kd.R_drew)); exact HO374.out, by repeat (first | (with_reducible first | exact HB.out | apply below_alloc | apply pw_below_drewN | apply below_drew1) | exact HB.out)⟩
 ·rw [if_neg c2] at H
  exact absurd H (by simp)

end Go.Proofs.Ytcefenlblnediaa.My

/- Written by this session's program (wip/gen): a plain function with the same answers as the Go function, and the proof that the Go code comes to them. Asked: that the plain function has an answer. -/
namespace Go.Proofs.Ytcefenlblnediaa.My
open Go.RowKit Go.Proofs.YtcefenlblnediaaW.PrintWords Go.Proofs.YtcefenlblnediaaW.PrintLast Go.Proofs.YtcefenlblnediaaW.PrintMore
attribute [local go_sem] max2_int min2_int max_two min_two max_three min_three max_four min_four
set_option linter.unusedVariables false
set_option linter.unusedSimpArgs false

/-! ### spec_l2Join: function 91 -/
def spec_l2Join.l0 : Nat → List ByteArray → List (S111) → Int → Int → List (S109) → Int → Int → Option ((List (S111)))
 | 0, _, _, _, _, _, _, _ => none
 | k + 1, x1, x7, x8, x9, x19, x20, x21 => if x21 < x20 then (if 0 ≤ x21 then (if x21 < (x19.length : Int) then (if ((rd_T109 x19 x21).f0) > x8 then (if 0 ≤ x9 then (if x9 ≤ ((rd_T109 x19 x21).f1) then (if ((rd_T109 x19 x21).f1) ≤ (x1.length : Int) then ((spec_l1OwnT.f ((x1.take (((rd_T109 x19 x21).f1) : Int).toNat).drop (x9 : Int).toNat)).bind fun t387 => (if x7.length < 3518437208883 then (spec_l2Join.l0 k x1 (x7 ++ [(⟨x8, wrap64 (((rd_T109 x19 x21).f0) - x8), t387⟩ : S111)]) (wrap64 (((rd_T109 x19 x21).f0) + 1)) (wrap64 (((rd_T109 x19 x21).f1) + 1)) x19 x20 (wrap64 (x21 + 1))) else (none))) else (none)) else (none)) else (none)) else (if ((rd_T109 x19 x21).f1) > x9 then (if 0 ≤ x9 then (if x9 ≤ ((rd_T109 x19 x21).f1) then (if ((rd_T109 x19 x21).f1) ≤ (x1.length : Int) then ((spec_l1OwnT.f ((x1.take (((rd_T109 x19 x21).f1) : Int).toNat).drop (x9 : Int).toNat)).bind fun t397 => (if x7.length < 3518437208883 then (spec_l2Join.l0 k x1 (x7 ++ [(⟨x8, wrap64 (((rd_T109 x19 x21).f0) - x8), t397⟩ : S111)]) (wrap64 (((rd_T109 x19 x21).f0) + 1)) (wrap64 (((rd_T109 x19 x21).f1) + 1)) x19 x20 (wrap64 (x21 + 1))) else (none))) else (none)) else (none)) else (none)) else (spec_l2Join.l0 k x1 x7 (wrap64 (((rd_T109 x19 x21).f0) + 1)) (wrap64 (((rd_T109 x19 x21).f1) + 1)) x19 x20 (wrap64 (x21 + 1))))) else (none)) else (none)) else (some x7)
def spec_l2Join.f (k : Nat) (l0 : List ByteArray) (t375 : List ByteArray) (l2 : List (S109)) : Option ((List (S111))) := if l2.length < 8796093022208 then ((some (l2 ++ [(⟨(l0.length : Int), (t375.length : Int)⟩ : S109)] : List (S109))).bind fun y378 => (spec_l2Join.l0 k t375 ([] : List (S111)) 0 0 y378 (y378.length : Int) 0)) else (none)
def spec_l2Join.T7 : Bool × List (List Nat × List Nat) := (true, [([], []), ([], []), ([], []), ([2], [2]), ([], []), ([3, 4], [3, 4]), ([], []), ([], []), ([], []), ([8], [8]), ([6, 7, 9], [6, 7, 9]), ([10], [10]), ([1, 5, 11], [1, 5, 11]), ([12], [12]), ([0, 13, 11], [0, 13]), ([14, 14, 0, 1, 2, 3, 4, 5, 6, 7, 8, 9, 10, 11, 12, 13, 14], [0, 14])])
def spec_l2Join.B7 : List Nat := [0, 0, 0, 4, 0, 28, 0, 0, 0, 256, 960, 1984, 4094, 8190, 16383, 32767]
theorem spec_l2Join.tab7 : rtab .any (opsOf Try.f91 7) = spec_l2Join.T7 := by kernel_rfl
theorem spec_l2Join.bits7 : waitsOk spec_l2Join.T7.2 spec_l2Join.B7 = true := by kernel_rfl
set_option maxHeartbeats 8000000 in
set_option maxRecDepth 100000 in
theorem spec_l2Join.calls (k : Nat) (A0 : Option Addr) (c0 : Nat) (l0 : List ByteArray) (Ao5 : Option Addr) (co5 : Nat) (t375 : List ByteArray) (v2_ : Value) (l2 : List (S109)) (r : List (S111)) (w wE : World) (ho1 : Kd.R Kd.string 9 wE w.heap.size (fun _ => True) (.slice Ao5 t375.length co5) t375) (ho2 : Kd.R k109 109 wE w.heap.size (fun _ => True) v2_ l2) (hb0 : Below w.heap.size w wE) (h : spec_l2Join.f k l0 t375 l2 = some r) :
  Calls Try.prog 91 #[.slice A0 l0.length c0, .slice Ao5 t375.length co5, v2_] wE fun e w' => ∃ v0_ : Value, e = .returned (v0_) ∧ Kd.S k111 111 w' w.heap.size (fun _ => True) v0_ r ∧ Below w.heap.size w w' := by
 have hu109 := Try.underlying109
 have hu111 := Try.underlying111
 have HO377 := Aside0.mk ho1
 have HO2 := Aside0.mk ho2
 have HB := Aside0.mk hb0
 clear ho1 ho2 hb0
 have H : (if l2.length < 8796093022208 then ((some (l2 ++ [(⟨(l0.length : Int), (t375.length : Int)⟩ : S109)] : List (S109))).bind fun y378 => (spec_l2Join.l0 k t375 ([] : List (S111)) 0 0 y378 (y378.length : Int) 0)) else (none)) = some r := h
 clear h
 by_cases c3 : l2.length < 8796093022208
 ·rw [if_pos c3] at H
  have LMc3 := Aside0.mk c3
  clear c3
  obtain ⟨y378, hy378⟩ : ∃ y_ : List (S109), y_ = (l2 ++ [(⟨(l0.length : Int), (t375.length : Int)⟩ : S109)]) := ⟨_, rfl⟩
  replace H : (spec_l2Join.l0 k t375 ([] : List (S111)) 0 0 y378 (y378.length : Int) 0) = some r := by first | (rw [hy378]; with_reducible exact H) | (have H2_ := (Option.bind_some _ _).symm.trans H; rw [hy378]; with_reducible exact H2_) | (have H2_ := (Option.bind_some _ _).symm.trans H; with_reducible exact H2_) | with_reducible exact H | (rw [hy378]; exact H) | exact H
  have Ny378 := Aside0.mk hy378
  clear hy378
  have H' := Aside0.mk H
  clear H
  go_enter Try.func91, Try.ntmps91
  go_wp2_with (first | ((with_reducible refine gateB (b := .append) (xs := #[.tmp 12, .tmp 18]) rfl ?_); at_builtin; refine Kd.R_append k109 (w0 := w) w.heap.size rfl (.tmp 12) (.tmp 18) 108 109 (.agg #[(.int .i64 0), (.int .i64 0)]) 16 rfl Try.underlying108 info109 rfl (by decide) (by omega) v2_ l2 (⟨(l0.length : Int), (t375.length : Int)⟩ : S109) [.int .i64 (l0.length : Int), .int .i64 (t375.length : Int)] (fun _ => True) (fun _ => False) rfl rfl ?aP (fun _ hk => hk.elim) ?aF ?aO ?aB ?aS ?aL ?_; (case aP => exact k109_mkM _ _ _ (⟨(l0.length : Int), (t375.length : Int)⟩ : S109)); (case aB => exact zb); (case aF => exact (fun _ _ => trivial)); (case aO => exact (zr HO2.out)); (case aS => exact (below_size zb)); (case aL => have := LMc3.out; omega); intro v379 w6 ho hb hg hat; rw [← Ny378.out] at ho; have n0_ := Aside0.mk (Kd.R_over' (zr HO377.out) (Kd.R_typed (zr HO2.out)) (by decide) hg); have n1_ := Aside0.mk (hb); have n2_ := Aside0.mk (ho); clear HO377; clear HB; have HO377 := n0_; have HB := n1_; have HO380 := n2_; clear n0_ n1_ n2_; clear ho hb hg hat; obtain ⟨Ao7, co7, eo7⟩ := Kd.R_slice HO380.out; subst eo7))
  go_loopg [7, 8, 9, 21] k (fun kq v7 v8 v9 v21 w' => ∃ (x7_1 : List (S111)) (x8_1 : Int) (x9_1 : Int) (x21_1 : Int), v8 = .int .i64 x8_1 ∧ v9 = .int .i64 x9_1 ∧ v21 = .int .i64 x21_1 ∧ Aside0 (spec_l2Join.l0 kq t375 x7_1 x8_1 x9_1 y378 (y378.length : Int) x21_1 = some r) ∧ Aside0 (kq ≤ k) ∧ Aside0 (Kd.R Kd.string 9 w' w.heap.size (fun _ => True) (.slice Ao5 t375.length co5) t375) ∧ Aside0 (Kd.S k111 111 w' w.heap.size (fun k_ => some k_ ≠ ((.slice Ao5 t375.length co5) : Value).ownBlock) v7 x7_1) ∧ Aside0 (Kd.R k109 109 w' w.heap.size (fun _ => True) (.slice Ao7 y378.length co7) y378) ∧ Aside0 (Below w.heap.size w w'))
  case atStart => exact ⟨(([] : List (S111))), (0), (0), (0), zf, zf, zf, H', ⟨Nat.le_refl _⟩, ⟨by (with_reducible repeat (first | apply Kd.R_alloc | apply Kd.R_drewN | apply Kd.R_drew)); exact HO377.out⟩, ⟨by first | exact Kd.S_nil _ _ _ _ _ | exact Kd.Q_nil _ _ _ _ _ | exact Kd.R_nil _ _ _ _ _⟩, ⟨by (with_reducible repeat (first | apply Kd.R_alloc | apply Kd.R_drewN | apply Kd.R_drew)); exact HO380.out⟩, ⟨by repeat (first | (with_reducible first | exact HB.out | apply below_alloc | apply pw_below_drewN | apply below_drew1) | exact HB.out)⟩⟩
  case round =>
   clear H'
   try clear c1
   try clear p2
   try clear c3
   obtain ⟨x7_1, x8_1, x9_1, x21_1, rfl, rfl, rfl, HA, HK1, HO_1, HO_7, HO_19, HB⟩ := hrel
   cases gk with
   | zero => exact absurd HA.out (by simp [spec_l2Join.l0])
   | succ k1 =>
    have H := HA.out
    clear HA
    simp only [spec_l2Join.l0] at H
    by_cases c8 : x21_1 < (y378.length : Int)
    ·rw [if_pos c8] at H
     have c8b0 : decide (x21_1 < (y378.length : Int)) = true := decide_eq_true c8
     clear c8
     by_cases c9 : 0 ≤ x21_1
     ·rw [if_pos c9] at H
      have c9b0 : decide (0 ≤ x21_1) = true := decide_eq_true c9
      clear c9
      by_cases c10 : x21_1 < (y378.length : Int)
      ·rw [if_pos c10] at H
       have c10b0 : decide (x21_1 < (y378.length : Int)) = true := decide_eq_true c10
       clear c10
       by_cases c11 : ((rd_T109 y378 x21_1).f0) > x8_1
       ·rw [if_pos c11] at H
        have c11b0 : decide (x8_1 < ((rd_T109 y378 x21_1).f0)) = true := decide_eq_true c11
        clear c11
        by_cases c12 : 0 ≤ x9_1
        ·rw [if_pos c12] at H
         have c12b0 := eq_true c12
         have c12b1 : decide (0 ≤ x9_1) = true := decide_eq_true c12
         clear c12
         by_cases c13 : x9_1 ≤ ((rd_T109 y378 x21_1).f1)
         ·rw [if_pos c13] at H
          have c13b0 := eq_true c13
          have c13b1 : decide (x9_1 ≤ ((rd_T109 y378 x21_1).f1)) = true := decide_eq_true c13
          clear c13
          by_cases c14 : ((rd_T109 y378 x21_1).f1) ≤ (t375.length : Int)
          ·rw [if_pos c14] at H
           have c14b0 := eq_true c14
           have c14b1 : decide (((rd_T109 y378 x21_1).f1) ≤ (t375.length : Int)) = true := decide_eq_true c14
           clear c14
           obtain ⟨y383, hy383⟩ : ∃ y_ : List ByteArray, y_ = ((t375.take (((rd_T109 y378 x21_1).f1) : Int).toNat).drop (x9_1 : Int).toNat) := ⟨_, rfl⟩
           replace H : ((spec_l1OwnT.f y383).bind fun t387 => (if x7_1.length < 3518437208883 then (spec_l2Join.l0 k1 t375 (x7_1 ++ [(⟨x8_1, wrap64 (((rd_T109 y378 x21_1).f0) - x8_1), t387⟩ : S111)]) (wrap64 (((rd_T109 y378 x21_1).f0) + 1)) (wrap64 (((rd_T109 y378 x21_1).f1) + 1)) y378 (y378.length : Int) (wrap64 (x21_1 + 1))) else (none))) = some r := by first | (rw [hy383]; with_reducible exact H) | (have H2_ := (Option.bind_some _ _).symm.trans H; rw [hy383]; with_reducible exact H2_) | (have H2_ := (Option.bind_some _ _).symm.trans H; with_reducible exact H2_) | with_reducible exact H | (rw [hy383]; exact H) | exact H
           have Ny383 := Aside0.mk hy383
           clear hy383
           replace H := Option.bind_eq_some_iff.mp H
           obtain ⟨t387, A150, H⟩ := H
           replace H : (if x7_1.length < 3518437208883 then (spec_l2Join.l0 k1 t375 (x7_1 ++ [(⟨x8_1, wrap64 (((rd_T109 y378 x21_1).f0) - x8_1), t387⟩ : S111)]) (wrap64 (((rd_T109 y378 x21_1).f0) + 1)) (wrap64 (((rd_T109 y378 x21_1).f1) + 1)) y378 (y378.length : Int) (wrap64 (x21_1 + 1))) else (none)) = some r := H
           have A15 := Aside0.mk A150
           clear A150
           by_cases c16 : x7_1.length < 3518437208883
           ·rw [if_pos c16] at H
            have LMc16 := Aside0.mk c16
            clear c16
            obtain ⟨y390, hy390⟩ : ∃ y_ : List (S111), y_ = (x7_1 ++ [(⟨x8_1, wrap64 (((rd_T109 y378 x21_1).f0) - x8_1), t387⟩ : S111)]) := ⟨_, rfl⟩
            replace H : (spec_l2Join.l0 k1 t375 y390 (wrap64 (((rd_T109 y378 x21_1).f0) + 1)) (wrap64 (((rd_T109 y378 x21_1).f1) + 1)) y378 (y378.length : Int) (wrap64 (x21_1 + 1))) = some r := by first | (rw [hy390]; with_reducible exact H) | (have H2_ := (Option.bind_some _ _).symm.trans H; rw [hy390]; with_reducible exact H2_) | (have H2_ := (Option.bind_some _ _).symm.trans H; with_reducible exact H2_) | with_reducible exact H | (rw [hy390]; exact H) | exact H
            have Ny390 := Aside0.mk hy390
            clear hy390
            have H' := Aside0.mk H
            clear H
            have p381 : 0 ≤ (x21_1 : Int) := oa
            have q381 : x21_1 < (y378.length : Int) := oa
            obtain ⟨ad381, e381, hx381_0, hx381_1⟩ := at_T109 (Kd.R_reads' HO_19.out).2.2 x21_1 p381 q381
            cases e381
            replace p381 := eq_true p381
            replace q381 := eq_true q381
            try go_wp2_with (first | ((with_reducible refine gate_dst (N := 11) rfl ?_); refine box_event ?hg (N := 11) ?hd (cs := #[.int .i64 0, .int .i64 0]) (t := 109) ?hr ?_; (case hd => rfl); (case hg => rfl); (case hr => first | (go_simp; done) | (go_simp; rfl)); intro gb382 hg w17 hbox hb; have n0_ := Aside0.mk (Kd.R_below (zr HO_1.out) hb); have n1_ := Aside0.mk (Kd.S_below (zs HO_7.out) hb); have n2_ := Aside0.mk (Kd.R_below (Kd.R_elderB (zr HO_19.out) gb382 (Nat.le_of_eq hg.symm)) hb); have n3_ := Aside0.mk (below_step zb hb); have n4_ := Aside0.mk (hbox); have n5_ := Aside0.mk ((by rw [hg]; exact (below_size zb) : w.heap.size ≤ gb382)); have n6_ := Aside0.mk ((by rw [hg]; exact (below_size zb) : w.heap.size ≤ gb382)); clear HO_1; clear HO_7; clear HO_19; clear HB; have HO_1 := n0_; have HO_7 := n1_; have HO_19 := n2_; have HB := n3_; have BK382 := n4_; have GW382 := n5_; have GE382 := n6_; clear n0_ n1_ n2_ n3_ n4_ n5_ n6_; clear hb hbox hg; have hcz18_0 : w17.cell? ⟨gb382, 0, none⟩ = some (.int .i64 0) := (blk_cell BK382.out 0).trans rfl; have hcz18_1 : w17.cell? ⟨gb382, 1, none⟩ = some (.int .i64 0) := (blk_cell BK382.out 1).trans rfl; have hfz18_0 := blk_frozen BK382.out 0; have hfz18_1 := blk_frozen BK382.out 1))
            have n0_ : Aside0 (Kd.R Kd.string 9 ((w17.setCell ⟨gb382, 0, none⟩ (.int .i64 ((rd_T109 y378 x21_1).f0))).setCell ⟨gb382, 1, none⟩ (.int .i64 ((rd_T109 y378 x21_1).f1))) w.heap.size (fun _ => True) (.slice Ao5 t375.length co5) t375) := ⟨by (with_reducible repeat (first | apply Kd.R_alloc | apply Kd.R_drewN | apply Kd.R_drew)); exact Kd.R_mono (Kd.R_far (p := ⟨gb382, 1, none⟩) (Kd.R_far (p := ⟨gb382, 0, none⟩) (Kd.R_types HO_1.out BK382.out (by decide)) (fun _ hk => hk.2) (.int .i64 ((rd_T109 y378 x21_1).f0))) (fun _ hk => hk.2) (.int .i64 ((rd_T109 y378 x21_1).f1))) (fun _ hk => trivial)⟩
            have n1_ : Aside0 (Kd.S k111 111 ((w17.setCell ⟨gb382, 0, none⟩ (.int .i64 ((rd_T109 y378 x21_1).f0))).setCell ⟨gb382, 1, none⟩ (.int .i64 ((rd_T109 y378 x21_1).f1))) w.heap.size (fun k_ => some k_ ≠ (.slice Ao5 t375.length co5 : Value).ownBlock) u7 x7_1) := ⟨by (with_reducible repeat (first | apply Kd.S_alloc | apply Kd.S_drewN | apply Kd.S_drew)); exact Kd.S_mono (Kd.S_far (p := ⟨gb382, 1, none⟩) (Kd.S_far (p := ⟨gb382, 0, none⟩) (Kd.S_types HO_7.out BK382.out (by decide)) (fun _ hk => hk.2) (.int .i64 ((rd_T109 y378 x21_1).f0))) (fun _ hk => hk.2) (.int .i64 ((rd_T109 y378 x21_1).f1))) (fun _ hk => hk.1)⟩
            have n2_ : Aside0 (Kd.R k109 109 ((w17.setCell ⟨gb382, 0, none⟩ (.int .i64 ((rd_T109 y378 x21_1).f0))).setCell ⟨gb382, 1, none⟩ (.int .i64 ((rd_T109 y378 x21_1).f1))) w.heap.size (fun k_ => k_ ≠ gb382) (.slice (some ad381) y378.length co7) y378) := ⟨by (with_reducible repeat (first | apply Kd.R_alloc | apply Kd.R_drewN | apply Kd.R_drew)); exact Kd.R_mono (Kd.R_far (p := ⟨gb382, 1, none⟩) (Kd.R_far (p := ⟨gb382, 0, none⟩) (Kd.R_mono HO_19.out (fun k_ hk => (⟨hk, hk.2⟩ : _ ∧ k_ ≠ gb382))) (fun _ hk => hk.2) (.int .i64 ((rd_T109 y378 x21_1).f0))) (fun _ hk => hk.2) (.int .i64 ((rd_T109 y378 x21_1).f1))) (fun _ hk => hk.1.2)⟩
            have n3_ : Aside0 (((w17.setCell ⟨gb382, 0, none⟩ (.int .i64 ((rd_T109 y378 x21_1).f0))).setCell ⟨gb382, 1, none⟩ (.int .i64 ((rd_T109 y378 x21_1).f1))).heap[gb382]? = some (.cells #[.int .i64 ((rd_T109 y378 x21_1).f0), .int .i64 ((rd_T109 y378 x21_1).f1)] 109 (0, 0))) := ⟨by (with_reducible repeat (first | refine blk_drewN ?_ _ | refine blk_drew ?_ | refine blk_alloc ?_ _)); refine blk_put (cs := #[.int .i64 ((rd_T109 y378 x21_1).f0), .int .i64 0]) ?_ 1 _ rfl; (with_reducible repeat (first | refine blk_drewN ?_ _ | refine blk_drew ?_ | refine blk_alloc ?_ _)); refine blk_put (cs := #[.int .i64 0, .int .i64 0]) ?_ 0 _ rfl; (with_reducible repeat (first | refine blk_drewN ?_ _ | refine blk_drew ?_ | refine blk_alloc ?_ _)); exact BK382.out⟩
            have n4_ : Aside0 (Below w.heap.size w ((w17.setCell ⟨gb382, 0, none⟩ (.int .i64 ((rd_T109 y378 x21_1).f0))).setCell ⟨gb382, 1, none⟩ (.int .i64 ((rd_T109 y378 x21_1).f1)))) := ⟨by repeat (first | (with_reducible first | exact HB.out | apply below_alloc | apply pw_below_drewN | apply below_drew1 | refine below_set ?_ GE382.out) | exact HB.out)⟩
            (try clear HO_1)
            (try clear HO_7)
            (try clear HO_19)
            (try clear BK382)
            (try clear HB)
            (try simp only [show ∀ (w_ : World) (n_ : Nat) (p_ : Addr) (v_ : Value), (w_.drewN n_).setCell p_ v_ = (w_.setCell p_ v_).drewN n_ from fun _ _ _ _ => rfl])
            generalize ((w17.setCell ⟨gb382, 0, none⟩ (.int .i64 ((rd_T109 y378 x21_1).f0))).setCell ⟨gb382, 1, none⟩ (.int .i64 ((rd_T109 y378 x21_1).f1))) = w19 at n0_ n1_ n2_ n3_ n4_ ⊢
            have HO_1 := n0_
            have HO_7 := n1_
            have HO_19 := n2_
            have BK382 := n3_
            have HB := n4_
            clear n0_ n1_ n2_ n3_ n4_
            have n0_ := Aside0.mk (Kd.R_drew HO_1.out)
            have n1_ := Aside0.mk (Kd.S_drew HO_7.out)
            have n2_ := Aside0.mk (Kd.R_drew HO_19.out)
            have n3_ := Aside0.mk (blk_drew BK382.out)
            have n4_ := Aside0.mk (below_drew1 HB.out)
            clear HO_1
            clear HO_7
            clear HO_19
            clear BK382
            clear HB
            have HO_1 := n0_
            have HO_7 := n1_
            have HO_19 := n2_
            have BK382 := n3_
            have HB := n4_
            clear n0_ n1_ n2_ n3_ n4_
            have q21 : (((rd_T109 y378 x21_1).f1) : Int) ≤ ((t375.length : Int) : Int) := oa
            obtain ⟨i021, hi021, _, hsz21, _⟩ := info_parts info9
            have hroom21 : t375.length ≤ co5 := (Kd.R_reads' HO_1.out).2.1
            have hC21 : Kd.C Kd.string _ Ao5 t375.length t375 := (Kd.R_reads' HO_1.out).2.2
            have ql21 : (x9_1 : Int) ≤ (((rd_T109 y378 x21_1).f1) : Int) := oa
            have q021 : (0 : Int) ≤ (x9_1 : Int) := oa
            have hcut21 := cut_mid (P := Try.prog) 22 9 .i64 .i64 Try.underlying22 hi021 1 hsz21 Ao5 t375.length co5 x9_1 ((rd_T109 y378 x21_1).f1) q021 ql21 q21 hroom21
            have hr21 := Kd.C_mid (lo := (x9_1 : Int).toNat) (hi := (((rd_T109 y378 x21_1).f1) : Int).toNat) (c := co5) hC21 (by omega) (by omega) hroom21
            obtain ⟨A21, hA21⟩ : ∃ A1, A1 = (if co5 = (x9_1 : Int).toNat then Ao5 else (Ao5 : Option Addr).map (·.add ((x9_1 : Int).toNat * 1))) := ⟨_, rfl⟩
            obtain ⟨c21, hc21⟩ : ∃ c1, c1 = co5 - (x9_1 : Int).toNat := ⟨_, rfl⟩
            have hy21 : y383.length = (((rd_T109 y378 x21_1).f1) : Int).toNat - (x9_1 : Int).toNat := (by rw [Ny383.out, List.length_drop, List.length_take] <;> omega)
            rw [show ((t375).take (((rd_T109 y378 x21_1).f1) : Int).toNat).drop (x9_1 : Int).toNat = y383 from Ny383.out.symm] at hr21
            replace hr21 : Kd.C Kd.string _ A21 y383.length y383 := (by rw [hA21]; exact hr21)
            rw [← hy21, ← hA21, ← hc21] at hcut21
            have HR386 := Aside0.mk hr21
            have HC386 := Aside0.mk (show y383.length ≤ c21 from by rw [hy21, hc21]; exact Nat.sub_le_sub_right (Nat.le_trans (by omega) hroom21) _)
            clear hr21 hC21 hroom21 hi021 hsz21 hc21
            have KY21 := Aside0.mk hy21
            have KA21 := Aside0.mk hA21
            clear hy21 hA21
            have KL21 := Aside0.mk (show (((rd_T109 y378 x21_1).f1) : Int).toNat ≤ t375.length from by omega)
            have KM21 := Aside0.mk (show (x9_1 : Int).toNat ≤ (((rd_T109 y378 x21_1).f1) : Int).toNat from by omega)
            replace q21 := eq_true q21
            refine start_ (n := 16) (S := fun w' => w'.cell? ⟨gb382, 0, none⟩ = some (.int .i64 ((rd_T109 y378 x21_1).f0)) ∧ w'.cell? ⟨gb382, 1, none⟩ = some (.int .i64 ((rd_T109 y378 x21_1).f1))) (ds := []) #[O,O,O,O,O,O,O,O,O,O,O,O,O,O,O,O] (by kernel_rfl) rfl rfl ⟨(blk_cell BK382.out 0).trans rfl, (blk_cell BK382.out 1).trans rfl⟩ (fun hHeld => ?_); refine with_tabW spec_l2Join.tab7 spec_l2Join.bits7 (fun HT_ HW_ => ?_)
            generalize w19.drew = w20 at HO_1 HO_7 HO_19 BK382 HB HR386 hHeld ⊢
            refine pure_ (i := 0) (N := some 35) (v := ?_) (a' := ?_) #[Y,O,O,O,O,O,O,O,O,O,O,O,O,O,O,O] rfl rfl zx (fun _ _ _ h => h) (Or.inl ⟨by rfl, ?_⟩) ?_ ?_
            rotate_left; (intro w'; go_simp; with_reducible rfl); rotate_left; (simp only [Act.put,qa,qb,qc,i64_w,i32_w]; rfl)
            refine pure_ (i := 1) (N := some 36) (v := ?_) (a' := ?_) #[Y,Y,O,O,O,O,O,O,O,O,O,O,O,O,O,O] rfl rfl zx (fun _ _ _ h => h) (Or.inl ⟨by rfl, ?_⟩) ?_ ?_
            rotate_left; (intro w'; go_simp; with_reducible rfl); rotate_left; (simp only [Act.put,qa,qb,qc,i64_w,i32_w]; rfl)
            refine pure_ (i := 2) (N := some 37) (v := ?_) (a' := ?_) #[Y,Y,Y,O,O,O,O,O,O,O,O,O,O,O,O,O] rfl rfl zx (fun _ _ _ h => h) (Or.inl ⟨by rfl, ?_⟩) ?_ ?_
            rotate_left; (intro w'; go_simp; with_reducible rfl); rotate_left; (simp only [Act.put,qa,qb,qc,i64_w,i32_w]; rfl)
            refine pure_ (i := 4) (N := some 39) (v := ?_) (a' := ?_) #[Y,Y,Y,O,Y,O,O,O,O,O,O,O,O,O,O,O] rfl rfl zx (fun _ _ _ h => h) (Or.inl ⟨by rfl, ?_⟩) ?_ ?_
            rotate_left; (intro w'; go_simp; with_reducible rfl); rotate_left; (simp only [Act.put,qa,qb,qc,i64_w,i32_w]; rfl)
            refine pure_ (i := 6) (N := some 41) (v := ?_) (a' := ?_) #[Y,Y,Y,O,Y,O,Y,O,O,O,O,O,O,O,O,O] rfl rfl zx (fun _ _ _ h => h) (Or.inl ⟨by rfl, ?_⟩) ?_ ?_
            rotate_left; (intro w'; go_simp; with_reducible rfl); rotate_left; (simp only [Act.put,qa,qb,qc,i64_w,i32_w]; rfl)
            refine pure_ (i := 7) (N := some 42) (v := ?_) (a' := ?_) #[Y,Y,Y,O,Y,O,Y,Y,O,O,O,O,O,O,O,O] rfl rfl zx (fun _ _ _ h => h) (Or.inl ⟨by rfl, ?_⟩) ?_ ?_
            rotate_left; (intro w'; go_simp; with_reducible rfl); rotate_left; (simp only [Act.put,qa,qb,qc,i64_w,i32_w]; rfl)
            refine pure_ (i := 8) (N := some 43) (v := ?_) (a' := ?_) #[Y,Y,Y,O,Y,O,Y,Y,Y,O,O,O,O,O,O,O] rfl rfl zx (fun _ _ _ h => h) (Or.inl ⟨by rfl, ?_⟩) ?_ ?_
            rotate_left; (intro w'; go_simp; with_reducible rfl); rotate_left; (simp only [Act.put,qa,qb,qc,i64_w,i32_w]; rfl)
            refine take_ (i := 3) (N := some 38) (v := ?_) (a' := ?_) #[Y,Y,Y,Y,Y,O,Y,Y,Y,O,O,O,O,O,O,O] rfl rfl (take_ofW HT_.out HW_.out (by kernel_rfl)) (fun _ _ _ h => h) (Or.inl ⟨by rfl, ?_⟩) hHeld ?_ ?_
            rotate_left; (rintro w' ⟨s0, s1⟩; go_simp; with_reducible rfl); rotate_left; (simp only [Act.put,qa,qb,qc,i64_w,i32_w]; rfl)
            refine pure_ (i := 5) (N := some 40) (v := ?_) (a' := ?_) #[Y,Y,Y,Y,Y,Y,Y,Y,Y,O,O,O,O,O,O,O] rfl rfl zx (fun _ _ _ h => h) (Or.inl ⟨by rfl, ?_⟩) ?_ ?_
            rotate_left; (intro w'; go_simp; with_reducible rfl); rotate_left; (simp only [Act.put,qa,qb,qc,i64_w,i32_w]; rfl)
            refine take_ (i := 9) (N := some 44) (v := ?_) (a' := ?_) #[Y,Y,Y,Y,Y,Y,Y,Y,Y,Y,O,O,O,O,O,O] rfl rfl (take_ofW HT_.out HW_.out (by kernel_rfl)) (fun _ _ _ h => h) (Or.inl ⟨by rfl, ?_⟩) hHeld ?_ ?_
            rotate_left; (rintro w' ⟨s0, s1⟩; go_simp; with_reducible rfl); rotate_left; (simp only [Act.put,qa,qb,qc,i64_w,i32_w]; rfl)
            refine pure_ (i := 10) (N := some 45) (v := ?_) (a' := ?_) #[Y,Y,Y,Y,Y,Y,Y,Y,Y,Y,Y,O,O,O,O,O] rfl rfl zx (fun _ _ _ h => h) (Or.inl ⟨by rfl, ?_⟩) ?_ ?_
            rotate_left; (intro w'; go_simp; with_reducible rfl); rotate_left; (simp only [Act.put,qa,qb,qc,i64_w,i32_w]; rfl)
            refine one_ (i := 11) (N := some 46) #[Y,Y,Y,Y,Y,Y,Y,Y,Y,Y,Y,Y,O,O,O,O] rfl rfl (one_of HT_.out (by kernel_rfl)) (by decide) (fun K hK => ?_)
            refine goes_ Try.func155 (by kernel_rfl) rfl #[.slice A21 y383.length c21] (by rfl) rfl rfl zm ?_
            with_reducible refine (spec_l1OwnT.calls _ _ y383 t387 _ ?side1 ?side2 A15.out).mono ?_
            (case side1 => repeat (first | exact (by repeat (first | (with_reducible exact HR386.out) | (with_reducible refine Kd.C_alloc ?_ _) | (with_reducible refine Kd.C_drewN ?_ _) | (with_reducible refine Kd.C_drew ?_) | exact HR386.out)) | (with_reducible refine Kd.C_alloc ?_ _) | (with_reducible refine Kd.C_drewN ?_ _) | (with_reducible refine Kd.C_drew ?_)))
            (case side2 => exact HC386.out)
            rintro e w22 ⟨v388, rfl, ho0, hb⟩
            refine ⟨_, rfl, ?_⟩
            have n0_ := Aside0.mk (Kd.R_elder' (zr HO_1.out) (Kd.R_base ho0) hb)
            have n1_ := Aside0.mk (Kd.S_elder' (zs HO_7.out) (Kd.R_base ho0) hb)
            have n2_ := Aside0.mk (Kd.R_below (zr HO_19.out) hb)
            have n3_ := Aside0.mk (Kd.R_lower (Kd.R_new' ho0 (Kd.R_lt (zr HO_1.out))) (below_size (by repeat (first | (with_reducible first | exact HB.out | apply below_alloc | apply pw_below_drewN | apply below_drew1 | refine below_set ?_ GE382.out) | exact HB.out))))
            have n4_ := Aside0.mk (blk_below (g := gb382) (o := .cells #[.int .i64 ((rd_T109 y378 x21_1).f0), .int .i64 ((rd_T109 y378 x21_1).f1)] 109 (0, 0)) (zk BK382.out) hb)
            have n5_ := Aside0.mk (Kd.C_below (by repeat (first | (with_reducible exact HR386.out) | (with_reducible refine Kd.C_alloc ?_ _) | (with_reducible refine Kd.C_drewN ?_ _) | (with_reducible refine Kd.C_drew ?_) | exact HR386.out)) hb)
            have n6_ := Aside0.mk (below_step (by repeat (first | (with_reducible first | exact HB.out | apply below_alloc | apply pw_below_drewN | apply below_drew1 | refine below_set ?_ GE382.out) | exact HB.out)) hb)
            clear HO_1
            clear HO_7
            clear HO_19
            clear BK382
            clear HR386
            clear HB
            have HO_1 := n0_
            have HO_7 := n1_
            have HO_19 := n2_
            have HO389 := n3_
            have BK382 := n4_
            have HR386 := n5_
            have HB := n6_
            clear n0_ n1_ n2_ n3_ n4_ n5_ n6_
            (try clear hb)
            (try clear hb2)
            (try clear hk)
            (try clear hi)
            (try clear ho0)
            obtain ⟨Ao23, co23, eo23⟩ := Kd.R_slice HO389.out
            (first | subst eo23 | (injection eo23 with f1_ f2_ f3_; have f4_ := f1_.symm; have f5_ := f3_.symm; clear f1_ f2_ f3_; subst f4_; subst f5_))
            refine hK.out _ _ ⟨(blk_cell BK382.out 0).trans rfl, (blk_cell BK382.out 1).trans rfl⟩ (fun hHeld => ?_)
            clear hK K
            refine norm_ (a' := ?_) ?_ ?_
            rotate_left
            ·show Act.put _ (some 46) _ = _
             simp only [Act.put,qa,qb,qc,i64_w,i32_w]
             rfl
            refine pure_ (i := 12) (N := some 47) (v := ?_) (a' := ?_) #[Y,Y,Y,Y,Y,Y,Y,Y,Y,Y,Y,Y,Y,O,O,O] rfl rfl zx (fun _ _ _ h => h) (Or.inl ⟨by rfl, ?_⟩) ?_ ?_
            rotate_left; (intro w'; go_simp; with_reducible rfl); rotate_left; (simp only [Act.put,qa,qb,qc,i64_w,i32_w]; rfl)
            refine one_ (i := 13) (N := some 48) #[Y,Y,Y,Y,Y,Y,Y,Y,Y,Y,Y,Y,Y,Y,O,O] rfl rfl (one_of HT_.out (by kernel_rfl)) (by decide) (fun K hK => ?_)
            refine value_ (w1 := ?_) (v := ?_) (by rfl) rfl ?_ ?_
            rotate_left 2
            ·go_simp
             constructor
             ·rfl
             ·rfl
            refine hK.out _ _ ⟨(blk_cell (blk_alloc BK382.out _) 0).trans rfl, (blk_cell (blk_alloc BK382.out _) 1).trans rfl⟩ (fun hHeld => ?_)
            clear hK K
            refine norm_ (a' := ?_) ?_ ?_
            rotate_left
            ·show Act.put _ (some 48) _ = _
             simp only [Act.put,qa,qb,qc,i64_w,i32_w]
             rfl
            refine one_ (i := 14) (N := some 49) #[Y,Y,Y,Y,Y,Y,Y,Y,Y,Y,Y,Y,Y,Y,Y,O] rfl rfl (one_of HT_.out (by kernel_rfl)) (by decide) (fun K hK => ?_)
            refine Kd.S_append_step k111 (w0 := w) w.heap.size (by rfl) (.tmp 35) (.tmp 48) 39 111 (.agg #[(.int .i64 0), (.int .i64 0), (.slice none 0 0)]) 40 rfl Try.underlying39 info111 rfl (by decide) (by omega) u7 x7_1 (⟨x8_1, wrap64 (((rd_T109 y378 x21_1).f0) - x8_1), t387⟩ : S111) [.int .i64 x8_1, .int .i64 (wrap64 (((rd_T109 y378 x21_1).f0) - x8_1)), .slice Ao23 t387.length co23] (fun k_ => some k_ ≠ (.slice Ao5 t375.length co5 : Value).ownBlock) (fun k_ => some k_ = (.slice Ao23 t387.length co23 : Value).ownBlock) rfl rfl ?aP (fun k_ hk_ => ((Kd.R_mono (ok' := fun k_ => ((fun k_ => some k_ ≠ (.slice Ao5 t375.length co5 : Value).ownBlock)) k_ ∧ some k_ ≠ (u7 : Value).ownBlock) (Kd.R_apart' (HO389.out) (Kd.S_typed HO_7.out) (by decide)) (fun k_ hk => ⟨hk.1.2, hk.2⟩))).1 k_ hk_.symm) ?aF ?aO ?aB ?aS ?aL ?_
            (case aP => exact k111_mkM _ _ _ (⟨x8_1, wrap64 (((rd_T109 y378 x21_1).f0) - x8_1), t387⟩ : S111) (Kd.R_mono (Kd.R_tight rfl (Kd.R_mono (ok' := fun k_ => ((fun k_ => some k_ ≠ (.slice Ao5 t375.length co5 : Value).ownBlock)) k_ ∧ some k_ ≠ (u7 : Value).ownBlock) (Kd.R_apart' (HO389.out) (Kd.S_typed HO_7.out) (by decide)) (fun k_ hk => ⟨hk.1.2, hk.2⟩))) (fun _ h_ => h_)))
            (case aB => exact (by repeat (first | (with_reducible first | exact HB.out | apply below_alloc | apply pw_below_drewN | apply below_drew1 | refine below_set ?_ GE382.out) | exact HB.out)))
            (case aF => exact (fun k_ hk => Kd.fresh' (Kd.R_lt (zr HO_1.out)) k_ hk))
            (case aO => exact (by (with_reducible repeat (first | apply Kd.S_alloc | apply Kd.S_drewN | apply Kd.S_drew)); exact Kd.S_mono HO_7.out (fun k_ hk => ⟨hk.1, fun e_ => hk.2 e_⟩)))
            (case aS => exact (below_size (by repeat (first | (with_reducible first | exact HB.out | apply below_alloc | apply pw_below_drewN | apply below_drew1 | refine below_set ?_ GE382.out) | exact HB.out))))
            (case aL => have := LMc16.out; omega)
            intro v391 w24 ho hb hg hat
            rw [← Ny390.out] at ho
            have n0_ := Aside0.mk (Kd.R_over' (zr HO_1.out) (Kd.S_typed (zs HO_7.out)) (by decide) hg)
            have n1_ := Aside0.mk (Kd.R_over' (zr HO_19.out) (Kd.S_typed (zs HO_7.out)) (by decide) hg)
            have n2_ := Aside0.mk (blk_grown (g := gb382) (o := .cells #[.int .i64 ((rd_T109 y378 x21_1).f0), .int .i64 ((rd_T109 y378 x21_1).f1)] 109 (0, 0)) (zk BK382.out) hg (Kd.S_ne HO_7.out BK382.out (by decide)))
            have n3_ := Aside0.mk (hb)
            have n4_ := Aside0.mk ((show Kd.C Kd.string w24 A21 y383.length y383 from by rw [Ny383.out, KA21.out]; exact Kd.C_mid (lo := (x9_1 : Int).toNat) (hi := (((rd_T109 y378 x21_1).f1) : Int).toNat) (c := co5) ((Kd.R_reads' (Kd.R_over' (zr HO_1.out) (Kd.S_typed (zs HO_7.out)) (by decide) hg)).2.2) KM21.out KL21.out ((Kd.R_reads' (Kd.R_over' (zr HO_1.out) (Kd.S_typed (zs HO_7.out)) (by decide) hg)).2.1)))
            have n5_ := Aside0.mk (ho)
            clear HO_1
            clear HO_19
            clear BK382
            clear HB
            clear HR386
            clear HO_7
            clear HO389
            have HO_1 := n0_
            have HO_19 := n1_
            have BK382 := n2_
            have HB := n3_
            have HR386 := n4_
            have HO392 := n5_
            clear n0_ n1_ n2_ n3_ n4_ n5_
            clear ho hb hg hat
            refine hK.out _ _ ⟨(blk_cell BK382.out 0).trans rfl, (blk_cell BK382.out 1).trans rfl⟩ (fun hHeld => ?_)
            clear hK K
            refine norm_ (a' := ?_) ?_ ?_
            rotate_left
            ·show Act.put _ (some 49) _ = _
             simp only [Act.put,qa,qb,qc,i64_w,i32_w]
             rfl
            refine pure_ (i := 15) (N := some 7) (v := ?_) (a' := ?_) #[Y,Y,Y,Y,Y,Y,Y,Y,Y,Y,Y,Y,Y,Y,Y,Y] rfl rfl zx (fun _ _ _ h => h) (Or.inl ⟨by rfl, ?_⟩) ?_ ?_
            rotate_left; (intro w'; go_simp; with_reducible rfl); rotate_left; (simp only [Act.put,qa,qb,qc,i64_w,i32_w]; rfl)
            refine done_ (done_of HT_.out (by kernel_rfl)) ?_
            have hcz25_0 : w24.cell? ⟨gb382, 0, none⟩ = some (.int .i64 ((rd_T109 y378 x21_1).f0)) := (blk_cell BK382.out 0).trans rfl
            have hcz25_1 : w24.cell? ⟨gb382, 1, none⟩ = some (.int .i64 ((rd_T109 y378 x21_1).f1)) := (blk_cell BK382.out 1).trans rfl
            have hfz25_0 := blk_frozen BK382.out 0
            have hfz25_1 := blk_frozen BK382.out 1
            try go_wp2
            go_roundg k1
            case measure => have := HK1.out; omega
            case rel => exact ⟨(y390), (wrap64 (((rd_T109 y378 x21_1).f0) + 1)), (wrap64 (((rd_T109 y378 x21_1).f1) + 1)), (wrap64 (x21_1 + 1)), zf, zf, zf, H', ⟨by have := HK1.out; omega⟩, ⟨by (with_reducible repeat (first | apply Kd.R_alloc | apply Kd.R_drewN | apply Kd.R_drew)); exact Kd.R_mono HO_1.out (fun _ hk => trivial)⟩, ⟨by (with_reducible repeat (first | apply Kd.S_alloc | apply Kd.S_drewN | apply Kd.S_drew)); exact HO392.out⟩, ⟨by (with_reducible repeat (first | apply Kd.R_alloc | apply Kd.R_drewN | apply Kd.R_drew)); exact Kd.R_mono HO_19.out (fun _ hk => trivial)⟩, ⟨by repeat (first | (with_reducible first | exact HB.out | apply below_alloc | apply pw_below_drewN | apply below_drew1 | refine below_set ?_ GE382.out) | exact HB.out)⟩⟩
           ·rw [if_neg c16] at H
            exact absurd H (by simp)
          ·rw [if_neg c14] at H
           exact absurd H (by simp)
         ·rw [if_neg c13] at H
          exact absurd H (by simp)
        ·rw [if_neg c12] at H
         exact absurd H (by simp)
       ·rw [if_neg c11] at H
        have c11b0 : decide (x8_1 < ((rd_T109 y378 x21_1).f0)) = false := decide_eq_false c11
        clear c11
        by_cases c26 : ((rd_T109 y378 x21_1).f1) > x9_1
        ·rw [if_pos c26] at H
         have c26b0 : decide (x9_1 < ((rd_T109 y378 x21_1).f1)) = true := decide_eq_true c26
         clear c26
         by_cases c27 : 0 ≤ x9_1
         ·rw [if_pos c27] at H
          have c27b0 := eq_true c27
          have c27b1 : decide (0 ≤ x9_1) = true := decide_eq_true c27
          clear c27
          by_cases c28 : x9_1 ≤ ((rd_T109 y378 x21_1).f1)
          ·rw [if_pos c28] at H
           have c28b0 := eq_true c28
           have c28b1 : decide (x9_1 ≤ ((rd_T109 y378 x21_1).f1)) = true := decide_eq_true c28
           clear c28
           by_cases c29 : ((rd_T109 y378 x21_1).f1) ≤ (t375.length : Int)
           ·rw [if_pos c29] at H
            have c29b0 := eq_true c29
            have c29b1 : decide (((rd_T109 y378 x21_1).f1) ≤ (t375.length : Int)) = true := decide_eq_true c29
            clear c29
            obtain ⟨y393, hy393⟩ : ∃ y_ : List ByteArray, y_ = ((t375.take (((rd_T109 y378 x21_1).f1) : Int).toNat).drop (x9_1 : Int).toNat) := ⟨_, rfl⟩
            replace H : ((spec_l1OwnT.f y393).bind fun t397 => (if x7_1.length < 3518437208883 then (spec_l2Join.l0 k1 t375 (x7_1 ++ [(⟨x8_1, wrap64 (((rd_T109 y378 x21_1).f0) - x8_1), t397⟩ : S111)]) (wrap64 (((rd_T109 y378 x21_1).f0) + 1)) (wrap64 (((rd_T109 y378 x21_1).f1) + 1)) y378 (y378.length : Int) (wrap64 (x21_1 + 1))) else (none))) = some r := by first | (rw [hy393]; with_reducible exact H) | (have H2_ := (Option.bind_some _ _).symm.trans H; rw [hy393]; with_reducible exact H2_) | (have H2_ := (Option.bind_some _ _).symm.trans H; with_reducible exact H2_) | with_reducible exact H | (rw [hy393]; exact H) | exact H
            have Ny393 := Aside0.mk hy393
            clear hy393
            replace H := Option.bind_eq_some_iff.mp H
            obtain ⟨t397, A300, H⟩ := H
            replace H : (if x7_1.length < 3518437208883 then (spec_l2Join.l0 k1 t375 (x7_1 ++ [(⟨x8_1, wrap64 (((rd_T109 y378 x21_1).f0) - x8_1), t397⟩ : S111)]) (wrap64 (((rd_T109 y378 x21_1).f0) + 1)) (wrap64 (((rd_T109 y378 x21_1).f1) + 1)) y378 (y378.length : Int) (wrap64 (x21_1 + 1))) else (none)) = some r := H
            have A30 := Aside0.mk A300
            clear A300
            by_cases c31 : x7_1.length < 3518437208883
            ·rw [if_pos c31] at H
             have LMc31 := Aside0.mk c31
             clear c31
             obtain ⟨y400, hy400⟩ : ∃ y_ : List (S111), y_ = (x7_1 ++ [(⟨x8_1, wrap64 (((rd_T109 y378 x21_1).f0) - x8_1), t397⟩ : S111)]) := ⟨_, rfl⟩
             replace H : (spec_l2Join.l0 k1 t375 y400 (wrap64 (((rd_T109 y378 x21_1).f0) + 1)) (wrap64 (((rd_T109 y378 x21_1).f1) + 1)) y378 (y378.length : Int) (wrap64 (x21_1 + 1))) = some r := by first | (rw [hy400]; with_reducible exact H) | (have H2_ := (Option.bind_some _ _).symm.trans H; rw [hy400]; with_reducible exact H2_) | (have H2_ := (Option.bind_some _ _).symm.trans H; with_reducible exact H2_) | with_reducible exact H | (rw [hy400]; exact H) | exact H
             have Ny400 := Aside0.mk hy400
             clear hy400
             have H' := Aside0.mk H
             clear H
             have p381 : 0 ≤ (x21_1 : Int) := oa
             have q381 : x21_1 < (y378.length : Int) := oa
             obtain ⟨ad381, e381, hx381_0, hx381_1⟩ := at_T109 (Kd.R_reads' HO_19.out).2.2 x21_1 p381 q381
             cases e381
             replace p381 := eq_true p381
             replace q381 := eq_true q381
             try go_wp2_with (first | ((with_reducible refine gate_dst (N := 11) rfl ?_); refine box_event ?hg (N := 11) ?hd (cs := #[.int .i64 0, .int .i64 0]) (t := 109) ?hr ?_; (case hd => rfl); (case hg => rfl); (case hr => first | (go_simp; done) | (go_simp; rfl)); intro gb382 hg w32 hbox hb; have n0_ := Aside0.mk (Kd.R_below (zr HO_1.out) hb); have n1_ := Aside0.mk (Kd.S_below (zs HO_7.out) hb); have n2_ := Aside0.mk (Kd.R_below (Kd.R_elderB (zr HO_19.out) gb382 (Nat.le_of_eq hg.symm)) hb); have n3_ := Aside0.mk (below_step zb hb); have n4_ := Aside0.mk (hbox); have n5_ := Aside0.mk ((by rw [hg]; exact (below_size zb) : w.heap.size ≤ gb382)); have n6_ := Aside0.mk ((by rw [hg]; exact (below_size zb) : w.heap.size ≤ gb382)); clear HO_1; clear HO_7; clear HO_19; clear HB; have HO_1 := n0_; have HO_7 := n1_; have HO_19 := n2_; have HB := n3_; have BK382 := n4_; have GW382 := n5_; have GE382 := n6_; clear n0_ n1_ n2_ n3_ n4_ n5_ n6_; clear hb hbox hg; have hcz33_0 : w32.cell? ⟨gb382, 0, none⟩ = some (.int .i64 0) := (blk_cell BK382.out 0).trans rfl; have hcz33_1 : w32.cell? ⟨gb382, 1, none⟩ = some (.int .i64 0) := (blk_cell BK382.out 1).trans rfl; have hfz33_0 := blk_frozen BK382.out 0; have hfz33_1 := blk_frozen BK382.out 1))
             have n0_ : Aside0 (Kd.R Kd.string 9 ((w32.setCell ⟨gb382, 0, none⟩ (.int .i64 ((rd_T109 y378 x21_1).f0))).setCell ⟨gb382, 1, none⟩ (.int .i64 ((rd_T109 y378 x21_1).f1))) w.heap.size (fun _ => True) (.slice Ao5 t375.length co5) t375) := ⟨by (with_reducible repeat (first | apply Kd.R_alloc | apply Kd.R_drewN | apply Kd.R_drew)); exact Kd.R_mono (Kd.R_far (p := ⟨gb382, 1, none⟩) (Kd.R_far (p := ⟨gb382, 0, none⟩) (Kd.R_types HO_1.out BK382.out (by decide)) (fun _ hk => hk.2) (.int .i64 ((rd_T109 y378 x21_1).f0))) (fun _ hk => hk.2) (.int .i64 ((rd_T109 y378 x21_1).f1))) (fun _ hk => trivial)⟩
             have n1_ : Aside0 (Kd.S k111 111 ((w32.setCell ⟨gb382, 0, none⟩ (.int .i64 ((rd_T109 y378 x21_1).f0))).setCell ⟨gb382, 1, none⟩ (.int .i64 ((rd_T109 y378 x21_1).f1))) w.heap.size (fun k_ => some k_ ≠ (.slice Ao5 t375.length co5 : Value).ownBlock) u7 x7_1) := ⟨by (with_reducible repeat (first | apply Kd.S_alloc | apply Kd.S_drewN | apply Kd.S_drew)); exact Kd.S_mono (Kd.S_far (p := ⟨gb382, 1, none⟩) (Kd.S_far (p := ⟨gb382, 0, none⟩) (Kd.S_types HO_7.out BK382.out (by decide)) (fun _ hk => hk.2) (.int .i64 ((rd_T109 y378 x21_1).f0))) (fun _ hk => hk.2) (.int .i64 ((rd_T109 y378 x21_1).f1))) (fun _ hk => hk.1)⟩
             have n2_ : Aside0 (Kd.R k109 109 ((w32.setCell ⟨gb382, 0, none⟩ (.int .i64 ((rd_T109 y378 x21_1).f0))).setCell ⟨gb382, 1, none⟩ (.int .i64 ((rd_T109 y378 x21_1).f1))) w.heap.size (fun k_ => k_ ≠ gb382) (.slice (some ad381) y378.length co7) y378) := ⟨by (with_reducible repeat (first | apply Kd.R_alloc | apply Kd.R_drewN | apply Kd.R_drew)); exact Kd.R_mono (Kd.R_far (p := ⟨gb382, 1, none⟩) (Kd.R_far (p := ⟨gb382, 0, none⟩) (Kd.R_mono HO_19.out (fun k_ hk => (⟨hk, hk.2⟩ : _ ∧ k_ ≠ gb382))) (fun _ hk => hk.2) (.int .i64 ((rd_T109 y378 x21_1).f0))) (fun _ hk => hk.2) (.int .i64 ((rd_T109 y378 x21_1).f1))) (fun _ hk => hk.1.2)⟩
             have n3_ : Aside0 (((w32.setCell ⟨gb382, 0, none⟩ (.int .i64 ((rd_T109 y378 x21_1).f0))).setCell ⟨gb382, 1, none⟩ (.int .i64 ((rd_T109 y378 x21_1).f1))).heap[gb382]? = some (.cells #[.int .i64 ((rd_T109 y378 x21_1).f0), .int .i64 ((rd_T109 y378 x21_1).f1)] 109 (0, 0))) := ⟨by (with_reducible repeat (first | refine blk_drewN ?_ _ | refine blk_drew ?_ | refine blk_alloc ?_ _)); refine blk_put (cs := #[.int .i64 ((rd_T109 y378 x21_1).f0), .int .i64 0]) ?_ 1 _ rfl; (with_reducible repeat (first | refine blk_drewN ?_ _ | refine blk_drew ?_ | refine blk_alloc ?_ _)); refine blk_put (cs := #[.int .i64 0, .int .i64 0]) ?_ 0 _ rfl; (with_reducible repeat (first | refine blk_drewN ?_ _ | refine blk_drew ?_ | refine blk_alloc ?_ _)); exact BK382.out⟩
             have n4_ : Aside0 (Below w.heap.size w ((w32.setCell ⟨gb382, 0, none⟩ (.int .i64 ((rd_T109 y378 x21_1).f0))).setCell ⟨gb382, 1, none⟩ (.int .i64 ((rd_T109 y378 x21_1).f1)))) := ⟨by repeat (first | (with_reducible first | exact HB.out | apply below_alloc | apply pw_below_drewN | apply below_drew1 | refine below_set ?_ GE382.out) | exact HB.out)⟩
             (try clear HO_1)
             (try clear HO_7)
             (try clear HO_19)
             (try clear BK382)
             (try clear HB)
             (try simp only [show ∀ (w_ : World) (n_ : Nat) (p_ : Addr) (v_ : Value), (w_.drewN n_).setCell p_ v_ = (w_.setCell p_ v_).drewN n_ from fun _ _ _ _ => rfl])
             generalize ((w32.setCell ⟨gb382, 0, none⟩ (.int .i64 ((rd_T109 y378 x21_1).f0))).setCell ⟨gb382, 1, none⟩ (.int .i64 ((rd_T109 y378 x21_1).f1))) = w34 at n0_ n1_ n2_ n3_ n4_ ⊢
             have HO_1 := n0_
             have HO_7 := n1_
             have HO_19 := n2_
             have BK382 := n3_
             have HB := n4_
             clear n0_ n1_ n2_ n3_ n4_
             have n0_ := Aside0.mk (Kd.R_drew HO_1.out)
             have n1_ := Aside0.mk (Kd.S_drew HO_7.out)
             have n2_ := Aside0.mk (Kd.R_drew HO_19.out)
             have n3_ := Aside0.mk (blk_drew BK382.out)
             have n4_ := Aside0.mk (below_drew1 HB.out)
             clear HO_1
             clear HO_7
             clear HO_19
             clear BK382
             clear HB
             have HO_1 := n0_
             have HO_7 := n1_
             have HO_19 := n2_
             have BK382 := n3_
             have HB := n4_
             clear n0_ n1_ n2_ n3_ n4_
             have q36 : (((rd_T109 y378 x21_1).f1) : Int) ≤ ((t375.length : Int) : Int) := oa
             obtain ⟨i036, hi036, _, hsz36, _⟩ := info_parts info9
             have hroom36 : t375.length ≤ co5 := (Kd.R_reads' HO_1.out).2.1
             have hC36 : Kd.C Kd.string _ Ao5 t375.length t375 := (Kd.R_reads' HO_1.out).2.2
             have ql36 : (x9_1 : Int) ≤ (((rd_T109 y378 x21_1).f1) : Int) := oa
             have q036 : (0 : Int) ≤ (x9_1 : Int) := oa
             have hcut36 := cut_mid (P := Try.prog) 22 9 .i64 .i64 Try.underlying22 hi036 1 hsz36 Ao5 t375.length co5 x9_1 ((rd_T109 y378 x21_1).f1) q036 ql36 q36 hroom36
             have hr36 := Kd.C_mid (lo := (x9_1 : Int).toNat) (hi := (((rd_T109 y378 x21_1).f1) : Int).toNat) (c := co5) hC36 (by omega) (by omega) hroom36
             obtain ⟨A36, hA36⟩ : ∃ A1, A1 = (if co5 = (x9_1 : Int).toNat then Ao5 else (Ao5 : Option Addr).map (·.add ((x9_1 : Int).toNat * 1))) := ⟨_, rfl⟩
             obtain ⟨c36, hc36⟩ : ∃ c1, c1 = co5 - (x9_1 : Int).toNat := ⟨_, rfl⟩
             have hy36 : y393.length = (((rd_T109 y378 x21_1).f1) : Int).toNat - (x9_1 : Int).toNat := (by rw [Ny393.out, List.length_drop, List.length_take] <;> omega)
             rw [show ((t375).take (((rd_T109 y378 x21_1).f1) : Int).toNat).drop (x9_1 : Int).toNat = y393 from Ny393.out.symm] at hr36
             replace hr36 : Kd.C Kd.string _ A36 y393.length y393 := (by rw [hA36]; exact hr36)
             rw [← hy36, ← hA36, ← hc36] at hcut36
             have HR396 := Aside0.mk hr36
             have HC396 := Aside0.mk (show y393.length ≤ c36 from by rw [hy36, hc36]; exact Nat.sub_le_sub_right (Nat.le_trans (by omega) hroom36) _)
             clear hr36 hC36 hroom36 hi036 hsz36 hc36
             have KY36 := Aside0.mk hy36
             have KA36 := Aside0.mk hA36
             clear hy36 hA36
             have KL36 := Aside0.mk (show (((rd_T109 y378 x21_1).f1) : Int).toNat ≤ t375.length from by omega)
             have KM36 := Aside0.mk (show (x9_1 : Int).toNat ≤ (((rd_T109 y378 x21_1).f1) : Int).toNat from by omega)
             replace q36 := eq_true q36
             refine start_ (n := 16) (S := fun w' => w'.cell? ⟨gb382, 0, none⟩ = some (.int .i64 ((rd_T109 y378 x21_1).f0)) ∧ w'.cell? ⟨gb382, 1, none⟩ = some (.int .i64 ((rd_T109 y378 x21_1).f1))) (ds := []) #[O,O,O,O,O,O,O,O,O,O,O,O,O,O,O,O] (by kernel_rfl) rfl rfl ⟨(blk_cell BK382.out 0).trans rfl, (blk_cell BK382.out 1).trans rfl⟩ (fun hHeld => ?_); refine with_tabW spec_l2Join.tab7 spec_l2Join.bits7 (fun HT_ HW_ => ?_)
             generalize w34.drew = w35 at HO_1 HO_7 HO_19 BK382 HB HR396 hHeld ⊢
             refine pure_ (i := 0) (N := some 35) (v := ?_) (a' := ?_) #[Y,O,O,O,O,O,O,O,O,O,O,O,O,O,O,O] rfl rfl zx (fun _ _ _ h => h) (Or.inl ⟨by rfl, ?_⟩) ?_ ?_
             rotate_left; (intro w'; go_simp; with_reducible rfl); rotate_left; (simp only [Act.put,qa,qb,qc,i64_w,i32_w]; rfl)
             refine pure_ (i := 1) (N := some 36) (v := ?_) (a' := ?_) #[Y,Y,O,O,O,O,O,O,O,O,O,O,O,O,O,O] rfl rfl zx (fun _ _ _ h => h) (Or.inl ⟨by rfl, ?_⟩) ?_ ?_
             rotate_left; (intro w'; go_simp; with_reducible rfl); rotate_left; (simp only [Act.put,qa,qb,qc,i64_w,i32_w]; rfl)
             refine pure_ (i := 2) (N := some 37) (v := ?_) (a' := ?_) #[Y,Y,Y,O,O,O,O,O,O,O,O,O,O,O,O,O] rfl rfl zx (fun _ _ _ h => h) (Or.inl ⟨by rfl, ?_⟩) ?_ ?_
             rotate_left; (intro w'; go_simp; with_reducible rfl); rotate_left; (simp only [Act.put,qa,qb,qc,i64_w,i32_w]; rfl)
             refine pure_ (i := 4) (N := some 39) (v := ?_) (a' := ?_) #[Y,Y,Y,O,Y,O,O,O,O,O,O,O,O,O,O,O] rfl rfl zx (fun _ _ _ h => h) (Or.inl ⟨by rfl, ?_⟩) ?_ ?_
             rotate_left; (intro w'; go_simp; with_reducible rfl); rotate_left; (simp only [Act.put,qa,qb,qc,i64_w,i32_w]; rfl)
             refine pure_ (i := 6) (N := some 41) (v := ?_) (a' := ?_) #[Y,Y,Y,O,Y,O,Y,O,O,O,O,O,O,O,O,O] rfl rfl zx (fun _ _ _ h => h) (Or.inl ⟨by rfl, ?_⟩) ?_ ?_
             rotate_left; (intro w'; go_simp; with_reducible rfl); rotate_left; (simp only [Act.put,qa,qb,qc,i64_w,i32_w]; rfl)
             refine pure_ (i := 7) (N := some 42) (v := ?_) (a' := ?_) #[Y,Y,Y,O,Y,O,Y,Y,O,O,O,O,O,O,O,O] rfl rfl zx (fun _ _ _ h => h) (Or.inl ⟨by rfl, ?_⟩) ?_ ?_
             rotate_left; (intro w'; go_simp; with_reducible rfl); rotate_left; (simp only [Act.put,qa,qb,qc,i64_w,i32_w]; rfl)
             refine pure_ (i := 8) (N := some 43) (v := ?_) (a' := ?_) #[Y,Y,Y,O,Y,O,Y,Y,Y,O,O,O,O,O,O,O] rfl rfl zx (fun _ _ _ h => h) (Or.inl ⟨by rfl, ?_⟩) ?_ ?_
             rotate_left; (intro w'; go_simp; with_reducible rfl); rotate_left; (simp only [Act.put,qa,qb,qc,i64_w,i32_w]; rfl)
             refine take_ (i := 3) (N := some 38) (v := ?_) (a' := ?_) #[Y,Y,Y,Y,Y,O,Y,Y,Y,O,O,O,O,O,O,O] rfl rfl (take_ofW HT_.out HW_.out (by kernel_rfl)) (fun _ _ _ h => h) (Or.inl ⟨by rfl, ?_⟩) hHeld ?_ ?_
             rotate_left; (rintro w' ⟨s0, s1⟩; go_simp; with_reducible rfl); rotate_left; (simp only [Act.put,qa,qb,qc,i64_w,i32_w]; rfl)
             refine pure_ (i := 5) (N := some 40) (v := ?_) (a' := ?_) #[Y,Y,Y,Y,Y,Y,Y,Y,Y,O,O,O,O,O,O,O] rfl rfl zx (fun _ _ _ h => h) (Or.inl ⟨by rfl, ?_⟩) ?_ ?_
             rotate_left; (intro w'; go_simp; with_reducible rfl); rotate_left; (simp only [Act.put,qa,qb,qc,i64_w,i32_w]; rfl)
             refine take_ (i := 9) (N := some 44) (v := ?_) (a' := ?_) #[Y,Y,Y,Y,Y,Y,Y,Y,Y,Y,O,O,O,O,O,O] rfl rfl (take_ofW HT_.out HW_.out (by kernel_rfl)) (fun _ _ _ h => h) (Or.inl ⟨by rfl, ?_⟩) hHeld ?_ ?_
             rotate_left; (rintro w' ⟨s0, s1⟩; go_simp; with_reducible rfl); rotate_left; (simp only [Act.put,qa,qb,qc,i64_w,i32_w]; rfl)
             refine pure_ (i := 10) (N := some 45) (v := ?_) (a' := ?_) #[Y,Y,Y,Y,Y,Y,Y,Y,Y,Y,Y,O,O,O,O,O] rfl rfl zx (fun _ _ _ h => h) (Or.inl ⟨by rfl, ?_⟩) ?_ ?_
             rotate_left; (intro w'; go_simp; with_reducible rfl); rotate_left; (simp only [Act.put,qa,qb,qc,i64_w,i32_w]; rfl)
             refine one_ (i := 11) (N := some 46) #[Y,Y,Y,Y,Y,Y,Y,Y,Y,Y,Y,Y,O,O,O,O] rfl rfl (one_of HT_.out (by kernel_rfl)) (by decide) (fun K hK => ?_)
             refine goes_ Try.func155 (by kernel_rfl) rfl #[.slice A36 y393.length c36] (by rfl) rfl rfl zm ?_
             with_reducible refine (spec_l1OwnT.calls _ _ y393 t397 _ ?side1 ?side2 A30.out).mono ?_
             (case side1 => repeat (first | exact (by repeat (first | (with_reducible exact HR396.out) | (with_reducible refine Kd.C_alloc ?_ _) | (with_reducible refine Kd.C_drewN ?_ _) | (with_reducible refine Kd.C_drew ?_) | exact HR396.out)) | (with_reducible refine Kd.C_alloc ?_ _) | (with_reducible refine Kd.C_drewN ?_ _) | (with_reducible refine Kd.C_drew ?_)))
             (case side2 => exact HC396.out)
             rintro e w37 ⟨v398, rfl, ho0, hb⟩
             refine ⟨_, rfl, ?_⟩
             have n0_ := Aside0.mk (Kd.R_elder' (zr HO_1.out) (Kd.R_base ho0) hb)
             have n1_ := Aside0.mk (Kd.S_elder' (zs HO_7.out) (Kd.R_base ho0) hb)
             have n2_ := Aside0.mk (Kd.R_below (zr HO_19.out) hb)
             have n3_ := Aside0.mk (Kd.R_lower (Kd.R_new' ho0 (Kd.R_lt (zr HO_1.out))) (below_size (by repeat (first | (with_reducible first | exact HB.out | apply below_alloc | apply pw_below_drewN | apply below_drew1 | refine below_set ?_ GE382.out) | exact HB.out))))
             have n4_ := Aside0.mk (blk_below (g := gb382) (o := .cells #[.int .i64 ((rd_T109 y378 x21_1).f0), .int .i64 ((rd_T109 y378 x21_1).f1)] 109 (0, 0)) (zk BK382.out) hb)
             have n5_ := Aside0.mk (Kd.C_below (by repeat (first | (with_reducible exact HR396.out) | (with_reducible refine Kd.C_alloc ?_ _) | (with_reducible refine Kd.C_drewN ?_ _) | (with_reducible refine Kd.C_drew ?_) | exact HR396.out)) hb)
             have n6_ := Aside0.mk (below_step (by repeat (first | (with_reducible first | exact HB.out | apply below_alloc | apply pw_below_drewN | apply below_drew1 | refine below_set ?_ GE382.out) | exact HB.out)) hb)
             clear HO_1
             clear HO_7
             clear HO_19
             clear BK382
             clear HR396
             clear HB
             have HO_1 := n0_
             have HO_7 := n1_
             have HO_19 := n2_
             have HO399 := n3_
             have BK382 := n4_
             have HR396 := n5_
             have HB := n6_
             clear n0_ n1_ n2_ n3_ n4_ n5_ n6_
             (try clear hb)
             (try clear hb2)
             (try clear hk)
             (try clear hi)
             (try clear ho0)
             obtain ⟨Ao38, co38, eo38⟩ := Kd.R_slice HO399.out
             (first | subst eo38 | (injection eo38 with f1_ f2_ f3_; have f4_ := f1_.symm; have f5_ := f3_.symm; clear f1_ f2_ f3_; subst f4_; subst f5_))
             refine hK.out _ _ ⟨(blk_cell BK382.out 0).trans rfl, (blk_cell BK382.out 1).trans rfl⟩ (fun hHeld => ?_)
             clear hK K
             refine norm_ (a' := ?_) ?_ ?_
             rotate_left
             ·show Act.put _ (some 46) _ = _
              simp only [Act.put,qa,qb,qc,i64_w,i32_w]
              rfl
             refine pure_ (i := 12) (N := some 47) (v := ?_) (a' := ?_) #[Y,Y,Y,Y,Y,Y,Y,Y,Y,Y,Y,Y,Y,O,O,O] rfl rfl zx (fun _ _ _ h => h) (Or.inl ⟨by rfl, ?_⟩) ?_ ?_
             rotate_left; (intro w'; go_simp; with_reducible rfl); rotate_left; (simp only [Act.put,qa,qb,qc,i64_w,i32_w]; rfl)
             refine one_ (i := 13) (N := some 48) #[Y,Y,Y,Y,Y,Y,Y,Y,Y,Y,Y,Y,Y,Y,O,O] rfl rfl (one_of HT_.out (by kernel_rfl)) (by decide) (fun K hK => ?_)
             refine value_ (w1 := ?_) (v := ?_) (by rfl) rfl ?_ ?_
             rotate_left 2
             ·go_simp
              constructor
              ·rfl
              ·rfl
             refine hK.out _ _ ⟨(blk_cell (blk_alloc BK382.out _) 0).trans rfl, (blk_cell (blk_alloc BK382.out _) 1).trans rfl⟩ (fun hHeld => ?_)
             clear hK K
             refine norm_ (a' := ?_) ?_ ?_
             rotate_left
             ·show Act.put _ (some 48) _ = _
              simp only [Act.put,qa,qb,qc,i64_w,i32_w]
              rfl
             refine one_ (i := 14) (N := some 49) #[Y,Y,Y,Y,Y,Y,Y,Y,Y,Y,Y,Y,Y,Y,Y,O] rfl rfl (one_of HT_.out (by kernel_rfl)) (by decide) (fun K hK => ?_)
             refine Kd.S_append_step k111 (w0 := w) w.heap.size (by rfl) (.tmp 35) (.tmp 48) 39 111 (.agg #[(.int .i64 0), (.int .i64 0), (.slice none 0 0)]) 40 rfl Try.underlying39 info111 rfl (by decide) (by omega) u7 x7_1 (⟨x8_1, wrap64 (((rd_T109 y378 x21_1).f0) - x8_1), t397⟩ : S111) [.int .i64 x8_1, .int .i64 (wrap64 (((rd_T109 y378 x21_1).f0) - x8_1)), .slice Ao38 t397.length co38] (fun k_ => some k_ ≠ (.slice Ao5 t375.length co5 : Value).ownBlock) (fun k_ => some k_ = (.slice Ao38 t397.length co38 : Value).ownBlock) rfl rfl ?aP (fun k_ hk_ => ((Kd.R_mono (ok' := fun k_ => ((fun k_ => some k_ ≠ (.slice Ao5 t375.length co5 : Value).ownBlock)) k_ ∧ some k_ ≠ (u7 : Value).ownBlock) (Kd.R_apart' (HO399.out) (Kd.S_typed HO_7.out) (by decide)) (fun k_ hk => ⟨hk.1.2, hk.2⟩))).1 k_ hk_.symm) ?aF ?aO ?aB ?aS ?aL ?_
             (case aP => exact k111_mkM _ _ _ (⟨x8_1, wrap64 (((rd_T109 y378 x21_1).f0) - x8_1), t397⟩ : S111) (Kd.R_mono (Kd.R_tight rfl (Kd.R_mono (ok' := fun k_ => ((fun k_ => some k_ ≠ (.slice Ao5 t375.length co5 : Value).ownBlock)) k_ ∧ some k_ ≠ (u7 : Value).ownBlock) (Kd.R_apart' (HO399.out) (Kd.S_typed HO_7.out) (by decide)) (fun k_ hk => ⟨hk.1.2, hk.2⟩))) (fun _ h_ => h_)))
             (case aB => exact (by repeat (first | (with_reducible first | exact HB.out | apply below_alloc | apply pw_below_drewN | apply below_drew1 | refine below_set ?_ GE382.out) | exact HB.out)))
             (case aF => exact (fun k_ hk => Kd.fresh' (Kd.R_lt (zr HO_1.out)) k_ hk))
             (case aO => exact (by (with_reducible repeat (first | apply Kd.S_alloc | apply Kd.S_drewN | apply Kd.S_drew)); exact Kd.S_mono HO_7.out (fun k_ hk => ⟨hk.1, fun e_ => hk.2 e_⟩)))
             (case aS => exact (below_size (by repeat (first | (with_reducible first | exact HB.out | apply below_alloc | apply pw_below_drewN | apply below_drew1 | refine below_set ?_ GE382.out) | exact HB.out))))
             (case aL => have := LMc31.out; omega)
             intro v401 w39 ho hb hg hat
             rw [← Ny400.out] at ho
             have n0_ := Aside0.mk (Kd.R_over' (zr HO_1.out) (Kd.S_typed (zs HO_7.out)) (by decide) hg)
             have n1_ := Aside0.mk (Kd.R_over' (zr HO_19.out) (Kd.S_typed (zs HO_7.out)) (by decide) hg)
             have n2_ := Aside0.mk (blk_grown (g := gb382) (o := .cells #[.int .i64 ((rd_T109 y378 x21_1).f0), .int .i64 ((rd_T109 y378 x21_1).f1)] 109 (0, 0)) (zk BK382.out) hg (Kd.S_ne HO_7.out BK382.out (by decide)))
             have n3_ := Aside0.mk (hb)
             have n4_ := Aside0.mk ((show Kd.C Kd.string w39 A36 y393.length y393 from by rw [Ny393.out, KA36.out]; exact Kd.C_mid (lo := (x9_1 : Int).toNat) (hi := (((rd_T109 y378 x21_1).f1) : Int).toNat) (c := co5) ((Kd.R_reads' (Kd.R_over' (zr HO_1.out) (Kd.S_typed (zs HO_7.out)) (by decide) hg)).2.2) KM36.out KL36.out ((Kd.R_reads' (Kd.R_over' (zr HO_1.out) (Kd.S_typed (zs HO_7.out)) (by decide) hg)).2.1)))
             have n5_ := Aside0.mk (ho)
             clear HO_1
             clear HO_19
             clear BK382
             clear HB
             clear HR396
             clear HO_7
             clear HO399
             have HO_1 := n0_
             have HO_19 := n1_
             have BK382 := n2_
             have HB := n3_
             have HR396 := n4_
             have HO402 := n5_
             clear n0_ n1_ n2_ n3_ n4_ n5_
             clear ho hb hg hat
             refine hK.out _ _ ⟨(blk_cell BK382.out 0).trans rfl, (blk_cell BK382.out 1).trans rfl⟩ (fun hHeld => ?_)
             clear hK K
             refine norm_ (a' := ?_) ?_ ?_
             rotate_left
             ·show Act.put _ (some 49) _ = _
              simp only [Act.put,qa,qb,qc,i64_w,i32_w]
              rfl
             refine pure_ (i := 15) (N := some 7) (v := ?_) (a' := ?_) #[Y,Y,Y,Y,Y,Y,Y,Y,Y,Y,Y,Y,Y,Y,Y,Y] rfl rfl zx (fun _ _ _ h => h) (Or.inl ⟨by rfl, ?_⟩) ?_ ?_
             rotate_left; (intro w'; go_simp; with_reducible rfl); rotate_left; (simp only [Act.put,qa,qb,qc,i64_w,i32_w]; rfl)
             refine done_ (done_of HT_.out (by kernel_rfl)) ?_
             have hcz40_0 : w39.cell? ⟨gb382, 0, none⟩ = some (.int .i64 ((rd_T109 y378 x21_1).f0)) := (blk_cell BK382.out 0).trans rfl
             have hcz40_1 : w39.cell? ⟨gb382, 1, none⟩ = some (.int .i64 ((rd_T109 y378 x21_1).f1)) := (blk_cell BK382.out 1).trans rfl
             have hfz40_0 := blk_frozen BK382.out 0
             have hfz40_1 := blk_frozen BK382.out 1
             try go_wp2
             go_roundg k1
             case measure => have := HK1.out; omega
             case rel => exact ⟨(y400), (wrap64 (((rd_T109 y378 x21_1).f0) + 1)), (wrap64 (((rd_T109 y378 x21_1).f1) + 1)), (wrap64 (x21_1 + 1)), zf, zf, zf, H', ⟨by have := HK1.out; omega⟩, ⟨by (with_reducible repeat (first | apply Kd.R_alloc | apply Kd.R_drewN | apply Kd.R_drew)); exact Kd.R_mono HO_1.out (fun _ hk => trivial)⟩, ⟨by (with_reducible repeat (first | apply Kd.S_alloc | apply Kd.S_drewN | apply Kd.S_drew)); exact HO402.out⟩, ⟨by (with_reducible repeat (first | apply Kd.R_alloc | apply Kd.R_drewN | apply Kd.R_drew)); exact Kd.R_mono HO_19.out (fun _ hk => trivial)⟩, ⟨by repeat (first | (with_reducible first | exact HB.out | apply below_alloc | apply pw_below_drewN | apply below_drew1 | refine below_set ?_ GE382.out) | exact HB.out)⟩⟩
            ·rw [if_neg c31] at H
             exact absurd H (by simp)
           ·rw [if_neg c29] at H
            exact absurd H (by simp)
          ·rw [if_neg c28] at H
           exact absurd H (by simp)
         ·rw [if_neg c27] at H
          exact absurd H (by simp)
        ·rw [if_neg c26] at H
         have c26b0 : decide (x9_1 < ((rd_T109 y378 x21_1).f1)) = false := decide_eq_false c26
         clear c26
         have H' := Aside0.mk H
         clear H
         have p381 : 0 ≤ (x21_1 : Int) := oa
         have q381 : x21_1 < (y378.length : Int) := oa
         obtain ⟨ad381, e381, hx381_0, hx381_1⟩ := at_T109 (Kd.R_reads' HO_19.out).2.2 x21_1 p381 q381
         cases e381
         replace p381 := eq_true p381
         replace q381 := eq_true q381
         go_wp2_with (first | ((with_reducible refine gate_dst (N := 11) rfl ?_); refine box_event ?hg (N := 11) ?hd (cs := #[.int .i64 0, .int .i64 0]) (t := 109) ?hr ?_; (case hd => rfl); (case hg => rfl); (case hr => first | (go_simp; done) | (go_simp; rfl)); intro gb382 hg w41 hbox hb; have n0_ := Aside0.mk (Kd.R_below (zr HO_1.out) hb); have n1_ := Aside0.mk (Kd.S_below (zs HO_7.out) hb); have n2_ := Aside0.mk (Kd.R_below (Kd.R_elderB (zr HO_19.out) gb382 (Nat.le_of_eq hg.symm)) hb); have n3_ := Aside0.mk (below_step zb hb); have n4_ := Aside0.mk (hbox); have n5_ := Aside0.mk ((by rw [hg]; exact (below_size zb) : w.heap.size ≤ gb382)); have n6_ := Aside0.mk ((by rw [hg]; exact (below_size zb) : w.heap.size ≤ gb382)); clear HO_1; clear HO_7; clear HO_19; clear HB; have HO_1 := n0_; have HO_7 := n1_; have HO_19 := n2_; have HB := n3_; have BK382 := n4_; have GW382 := n5_; have GE382 := n6_; clear n0_ n1_ n2_ n3_ n4_ n5_ n6_; clear hb hbox hg; have hcz42_0 : w41.cell? ⟨gb382, 0, none⟩ = some (.int .i64 0) := (blk_cell BK382.out 0).trans rfl; have hcz42_1 : w41.cell? ⟨gb382, 1, none⟩ = some (.int .i64 0) := (blk_cell BK382.out 1).trans rfl; have hfz42_0 := blk_frozen BK382.out 0; have hfz42_1 := blk_frozen BK382.out 1))
         go_roundg k1
         case measure => have := HK1.out; omega
         case rel => exact ⟨(x7_1), (wrap64 (((rd_T109 y378 x21_1).f0) + 1)), (wrap64 (((rd_T109 y378 x21_1).f1) + 1)), (wrap64 (x21_1 + 1)), zf, zf, zf, H', ⟨by have := HK1.out; omega⟩, ⟨by (with_reducible repeat (first | apply Kd.R_alloc | apply Kd.R_drewN | apply Kd.R_drew)); exact Kd.R_mono (Kd.R_far (p := ⟨gb382, 1, none⟩) (Kd.R_far (p := ⟨gb382, 0, none⟩) (Kd.R_types HO_1.out BK382.out (by decide)) (fun _ hk => hk.2) (.int .i64 ((rd_T109 y378 x21_1).f0))) (fun _ hk => hk.2) (.int .i64 ((rd_T109 y378 x21_1).f1))) (fun _ hk => trivial)⟩, ⟨by (with_reducible repeat (first | apply Kd.S_alloc | apply Kd.S_drewN | apply Kd.S_drew)); exact Kd.S_mono (Kd.S_far (p := ⟨gb382, 1, none⟩) (Kd.S_far (p := ⟨gb382, 0, none⟩) (Kd.S_types HO_7.out BK382.out (by decide)) (fun _ hk => hk.2) (.int .i64 ((rd_T109 y378 x21_1).f0))) (fun _ hk => hk.2) (.int .i64 ((rd_T109 y378 x21_1).f1))) (fun _ hk => hk.1)⟩, ⟨by (with_reducible repeat (first | apply Kd.R_alloc | apply Kd.R_drewN | apply Kd.R_drew)); exact Kd.R_mono (Kd.R_far (p := ⟨gb382, 1, none⟩) (Kd.R_far (p := ⟨gb382, 0, none⟩) (Kd.R_mono HO_19.out (fun k_ hk => (⟨hk, hk.2⟩ : _ ∧ k_ ≠ gb382))) (fun _ hk => hk.2) (.int .i64 ((rd_T109 y378 x21_1).f0))) (fun _ hk => hk.2) (.int .i64 ((rd_T109 y378 x21_1).f1))) (fun _ hk => trivial)⟩, ⟨by repeat (first | (with_reducible first | exact HB.out | apply below_alloc | apply pw_below_drewN | apply below_drew1 | refine below_set ?_ GE382.out) | exact HB.out)⟩⟩
      ·rw [if_neg c10] at H
       exact absurd H (by simp)
     ·rw [if_neg c9] at H
      exact absurd H (by simp)
    ·rw [if_neg c8] at H
     have c8b0 : decide (x21_1 < (y378.length : Int)) = false := decide_eq_false c8
     clear c8
     obtain rfl := Option.some.inj H
     go_wp2
     go_ret
     exact ⟨_, by first | rfl | (simp [errW_none, errW_some] <;> rfl) | (simp [*, errW_none, errW_some] <;> rfl), by (with_reducible repeat (first | apply Kd.S_alloc | apply Kd.S_drewN | apply Kd.S_drew)); exact Kd.S_mono HO_7.out (fun _ hk => trivial), by repeat (first | (with_reducible first | exact HB.out | apply below_alloc | apply pw_below_drewN | apply below_drew1) | exact HB.out)⟩
 ·rw [if_neg c3] at H
  exact absurd H (by simp)

end Go.Proofs.Ytcefenlblnediaa.My

/- Written by this session's program (wip/gen): a plain function with the same answers as the Go function, and the proof that the Go code comes to them. Asked: that the plain function has an answer. -/
namespace Go.Proofs.Ytcefenlblnediaa.My
open Go.RowKit Go.Proofs.YtcefenlblnediaaW.PrintWords Go.Proofs.YtcefenlblnediaaW.PrintLast Go.Proofs.YtcefenlblnediaaW.PrintMore
attribute [local go_sem] max2_int min2_int max_two min_two max_three min_three max_four min_four
set_option linter.unusedVariables false
set_option linter.unusedSimpArgs false

/-! ### spec_l2Place: function 90 -/
def spec_l2Place.l0 : Nat → Int → Int → List (S111) → Int → Int → Option (Int)
 | 0, _, _, _, _, _ => none
 | k + 1, x1, x5, x8, x9, x10 => if x10 < x9 then (if 0 ≤ x10 then (if x10 < (x8.length : Int) then (if (wrap64 (((rd_T111 x8 x10).f0) + ((rd_T111 x8 x10).f1))) ≤ x1 then (spec_l2Place.l0 k x1 (wrap64 (x5 + (wrap64 ((((rd_T111 x8 x10).f2).length : Int) - ((rd_T111 x8 x10).f1))))) x8 x9 (wrap64 (x10 + 1))) else (if ((rd_T111 x8 x10).f0) ≤ x1 then (some (-1)) else (spec_l2Place.l0 k x1 x5 x8 x9 (wrap64 (x10 + 1))))) else (none)) else (none)) else (some (wrap64 (x1 + x5)))
def spec_l2Place.f (k : Nat) (l0 : List (S111)) (a1 : Int) : Option (Int) := spec_l2Place.l0 k a1 0 l0 (l0.length : Int) 0
set_option maxHeartbeats 8000000 in
set_option maxRecDepth 100000 in
theorem spec_l2Place.calls (k : Nat) (A0 : Option Addr) (c0 : Nat) (l0 : List (S111)) (a1 : Int) (r : Int) (w : World) (hr0 : Kd.C k111 w A0 l0.length l0) (hc0 : l0.length ≤ c0) (h : spec_l2Place.f k l0 a1 = some r) :
  Calls Try.prog 90 #[.slice A0 l0.length c0, .int .i64 a1] w fun e w' => e = .returned (.int .i64 r) ∧ Below w.heap.size w w' := by
 have hu111 := Try.underlying111
 have HR0 := Aside0.mk hr0
 have HC0 := Aside0.mk hc0
 clear hr0 hc0
 have HB := Aside0.mk (Below.refl w.heap.size w)
 have H : (spec_l2Place.l0 k a1 0 l0 (l0.length : Int) 0) = some r := h
 clear h
 have H' := Aside0.mk H
 clear H
 go_enter Try.func90, Try.ntmps90
 go_wp2
 go_loopg [5, 10] k (fun kq v5 v10 w' => ∃ (x5_1 : Int) (x10_1 : Int), v5 = .int .i64 x5_1 ∧ v10 = .int .i64 x10_1 ∧ Aside0 (spec_l2Place.l0 kq a1 x5_1 l0 (l0.length : Int) x10_1 = some r) ∧ Aside0 (kq ≤ k) ∧ Aside0 (Below w.heap.size w w'))
 case atStart => exact ⟨(0), (0), zf, zf, H', ⟨Nat.le_refl _⟩, ⟨by repeat (first | (with_reducible first | exact HB.out | apply below_alloc | apply pw_below_drewN | apply below_drew1) | exact HB.out)⟩⟩
 case round =>
  clear H'
  try clear p2
  obtain ⟨x5_1, x10_1, rfl, rfl, HA, HK1, HB⟩ := hrel
  cases gk with
  | zero => exact absurd HA.out (by simp [spec_l2Place.l0])
  | succ k1 =>
   have H := HA.out
   clear HA
   simp only [spec_l2Place.l0] at H
   by_cases c3 : x10_1 < (l0.length : Int)
   ·rw [if_pos c3] at H
    have c3b0 : decide (x10_1 < (l0.length : Int)) = true := decide_eq_true c3
    clear c3
    by_cases c4 : 0 ≤ x10_1
    ·rw [if_pos c4] at H
     have c4b0 : decide (0 ≤ x10_1) = true := decide_eq_true c4
     clear c4
     by_cases c5 : x10_1 < (l0.length : Int)
     ·rw [if_pos c5] at H
      have c5b0 : decide (x10_1 < (l0.length : Int)) = true := decide_eq_true c5
      clear c5
      by_cases c6 : (wrap64 (((rd_T111 l0 x10_1).f0) + ((rd_T111 l0 x10_1).f1))) ≤ a1
      ·rw [if_pos c6] at H
       have c6b0 : decide ((wrap64 (((rd_T111 l0 x10_1).f0) + ((rd_T111 l0 x10_1).f1))) ≤ a1) = true := decide_eq_true c6
       clear c6
       have H' := Aside0.mk H
       clear H
       have p367 : 0 ≤ (x10_1 : Int) := oa
       have q367 : x10_1 < (l0.length : Int) := oa
       obtain ⟨ad367, A367_2, c367_2, e367, hx367_0, hx367_1, hx367_2, hl367_2, hi367_2⟩ := at_T111 HR0.out x10_1 p367 q367
       cases e367
       replace hx367_0 := (HB.out.cell (World.block_lt_of_cell? w _ hx367_0)).trans hx367_0
       replace hx367_1 := (HB.out.cell (World.block_lt_of_cell? w _ hx367_1)).trans hx367_1
       replace hx367_2 := (HB.out.cell (World.block_lt_of_cell? w _ hx367_2)).trans hx367_2
       have HR367_2 := Aside0.mk hi367_2
       have HC367_2 := Aside0.mk hl367_2
       clear hi367_2 hl367_2
       replace p367 := eq_true p367
       replace q367 := eq_true q367
       go_wp2_with (first | ((with_reducible refine gate_dst (N := 7) rfl ?_); refine box_event ?hg (N := 7) ?hd (cs := #[.int .i64 0, .int .i64 0, .slice none 0 0]) (t := 111) ?hr ?_; (case hd => rfl); (case hg => rfl); (case hr => first | (go_simp; done) | (go_simp; rfl)); intro gb368 hg w7 hbox hb; have n0_ := Aside0.mk (below_step zb hb); have n1_ := Aside0.mk (hbox); have n2_ := Aside0.mk ((by rw [hg]; exact (below_size zb) : w.heap.size ≤ gb368)); have n3_ := Aside0.mk ((by rw [hg]; exact (below_size zb) : w.heap.size ≤ gb368)); clear HB; have HB := n0_; have BK368 := n1_; have GW368 := n2_; have GE368 := n3_; clear n0_ n1_ n2_ n3_; clear hb hbox hg; have hcz8_0 : w7.cell? ⟨gb368, 0, none⟩ = some (.int .i64 0) := (blk_cell BK368.out 0).trans rfl; have hcz8_1 : w7.cell? ⟨gb368, 1, none⟩ = some (.int .i64 0) := (blk_cell BK368.out 1).trans rfl; have hcz8_2 : w7.cell? ⟨gb368, 2, none⟩ = some (.slice none 0 0) := (blk_cell BK368.out 2).trans rfl; have hfz8_0 := blk_frozen BK368.out 0; have hfz8_1 := blk_frozen BK368.out 1; have hfz8_2 := blk_frozen BK368.out 2))
       go_roundg k1
       case measure => have := HK1.out; omega
       case rel => exact ⟨(wrap64 (x5_1 + (wrap64 ((((rd_T111 l0 x10_1).f2).length : Int) - ((rd_T111 l0 x10_1).f1))))), (wrap64 (x10_1 + 1)), zf, zf, H', ⟨by have := HK1.out; omega⟩, ⟨by repeat (first | (with_reducible first | exact HB.out | apply below_alloc | apply pw_below_drewN | apply below_drew1 | refine below_set ?_ GE368.out) | exact HB.out)⟩⟩
      ·rw [if_neg c6] at H
       have c6b0 : decide ((wrap64 (((rd_T111 l0 x10_1).f0) + ((rd_T111 l0 x10_1).f1))) ≤ a1) = false := decide_eq_false c6
       clear c6
       by_cases c9 : ((rd_T111 l0 x10_1).f0) ≤ a1
       ·rw [if_pos c9] at H
        have c9b0 : decide (((rd_T111 l0 x10_1).f0) ≤ a1) = true := decide_eq_true c9
        clear c9
        obtain rfl := Option.some.inj H
        have p367 : 0 ≤ (x10_1 : Int) := oa
        have q367 : x10_1 < (l0.length : Int) := oa
        obtain ⟨ad367, A367_2, c367_2, e367, hx367_0, hx367_1, hx367_2, hl367_2, hi367_2⟩ := at_T111 HR0.out x10_1 p367 q367
        cases e367
        replace hx367_0 := (HB.out.cell (World.block_lt_of_cell? w _ hx367_0)).trans hx367_0
        replace hx367_1 := (HB.out.cell (World.block_lt_of_cell? w _ hx367_1)).trans hx367_1
        replace hx367_2 := (HB.out.cell (World.block_lt_of_cell? w _ hx367_2)).trans hx367_2
        have HR367_2 := Aside0.mk hi367_2
        have HC367_2 := Aside0.mk hl367_2
        clear hi367_2 hl367_2
        replace p367 := eq_true p367
        replace q367 := eq_true q367
        go_wp2_with (first | ((with_reducible refine gate_dst (N := 7) rfl ?_); refine box_event ?hg (N := 7) ?hd (cs := #[.int .i64 0, .int .i64 0, .slice none 0 0]) (t := 111) ?hr ?_; (case hd => rfl); (case hg => rfl); (case hr => first | (go_simp; done) | (go_simp; rfl)); intro gb368 hg w10 hbox hb; have n0_ := Aside0.mk (below_step zb hb); have n1_ := Aside0.mk (hbox); have n2_ := Aside0.mk ((by rw [hg]; exact (below_size zb) : w.heap.size ≤ gb368)); have n3_ := Aside0.mk ((by rw [hg]; exact (below_size zb) : w.heap.size ≤ gb368)); clear HB; have HB := n0_; have BK368 := n1_; have GW368 := n2_; have GE368 := n3_; clear n0_ n1_ n2_ n3_; clear hb hbox hg; have hcz11_0 : w10.cell? ⟨gb368, 0, none⟩ = some (.int .i64 0) := (blk_cell BK368.out 0).trans rfl; have hcz11_1 : w10.cell? ⟨gb368, 1, none⟩ = some (.int .i64 0) := (blk_cell BK368.out 1).trans rfl; have hcz11_2 : w10.cell? ⟨gb368, 2, none⟩ = some (.slice none 0 0) := (blk_cell BK368.out 2).trans rfl; have hfz11_0 := blk_frozen BK368.out 0; have hfz11_1 := blk_frozen BK368.out 1; have hfz11_2 := blk_frozen BK368.out 2))
        go_ret
        exact ⟨by first | rfl | (simp [errW_none, errW_some] <;> rfl) | (simp [*, errW_none, errW_some] <;> rfl), by repeat (first | (with_reducible first | exact HB.out | apply below_alloc | apply pw_below_drewN | apply below_drew1 | refine below_set ?_ GE368.out) | exact HB.out)⟩
       ·rw [if_neg c9] at H
        have c9b0 : decide (((rd_T111 l0 x10_1).f0) ≤ a1) = false := decide_eq_false c9
        clear c9
        have H' := Aside0.mk H
        clear H
        have p367 : 0 ≤ (x10_1 : Int) := oa
        have q367 : x10_1 < (l0.length : Int) := oa
        obtain ⟨ad367, A367_2, c367_2, e367, hx367_0, hx367_1, hx367_2, hl367_2, hi367_2⟩ := at_T111 HR0.out x10_1 p367 q367
        cases e367
        replace hx367_0 := (HB.out.cell (World.block_lt_of_cell? w _ hx367_0)).trans hx367_0
        replace hx367_1 := (HB.out.cell (World.block_lt_of_cell? w _ hx367_1)).trans hx367_1
        replace hx367_2 := (HB.out.cell (World.block_lt_of_cell? w _ hx367_2)).trans hx367_2
        have HR367_2 := Aside0.mk hi367_2
        have HC367_2 := Aside0.mk hl367_2
        clear hi367_2 hl367_2
        replace p367 := eq_true p367
        replace q367 := eq_true q367
        go_wp2_with (first | ((with_reducible refine gate_dst (N := 7) rfl ?_); refine box_event ?hg (N := 7) ?hd (cs := #[.int .i64 0, .int .i64 0, .slice none 0 0]) (t := 111) ?hr ?_; (case hd => rfl); (case hg => rfl); (case hr => first | (go_simp; done) | (go_simp; rfl)); intro gb368 hg w12 hbox hb; have n0_ := Aside0.mk (below_step zb hb); have n1_ := Aside0.mk (hbox); have n2_ := Aside0.mk ((by rw [hg]; exact (below_size zb) : w.heap.size ≤ gb368)); have n3_ := Aside0.mk ((by rw [hg]; exact (below_size zb) : w.heap.size ≤ gb368)); clear HB; have HB := n0_; have BK368 := n1_; have GW368 := n2_; have GE368 := n3_; clear n0_ n1_ n2_ n3_; clear hb hbox hg; have hcz13_0 : w12.cell? ⟨gb368, 0, none⟩ = some (.int .i64 0) := (blk_cell BK368.out 0).trans rfl; have hcz13_1 : w12.cell? ⟨gb368, 1, none⟩ = some (.int .i64 0) := (blk_cell BK368.out 1).trans rfl; have hcz13_2 : w12.cell? ⟨gb368, 2, none⟩ = some (.slice none 0 0) := (blk_cell BK368.out 2).trans rfl; have hfz13_0 := blk_frozen BK368.out 0; have hfz13_1 := blk_frozen BK368.out 1; have hfz13_2 := blk_frozen BK368.out 2))
        go_roundg k1
        case measure => have := HK1.out; omega
        case rel => exact ⟨(x5_1), (wrap64 (x10_1 + 1)), zf, zf, H', ⟨by have := HK1.out; omega⟩, ⟨by repeat (first | (with_reducible first | exact HB.out | apply below_alloc | apply pw_below_drewN | apply below_drew1 | refine below_set ?_ GE368.out) | exact HB.out)⟩⟩
     ·rw [if_neg c5] at H
      exact absurd H (by simp)
    ·rw [if_neg c4] at H
     exact absurd H (by simp)
   ·rw [if_neg c3] at H
    have c3b0 : decide (x10_1 < (l0.length : Int)) = false := decide_eq_false c3
    clear c3
    obtain rfl := Option.some.inj H
    go_wp2
    go_ret
    exact ⟨by first | rfl | (simp [errW_none, errW_some] <;> rfl) | (simp [*, errW_none, errW_some] <;> rfl), by repeat (first | (with_reducible first | exact HB.out | apply below_alloc | apply pw_below_drewN | apply below_drew1) | exact HB.out)⟩

end Go.Proofs.Ytcefenlblnediaa.My

/- Written by this session's program (wip/gen): a plain function with the same answers as the Go function, and the proof that the Go code comes to them. Asked: that the plain function has an answer. -/
namespace Go.Proofs.Ytcefenlblnediaa.My
open Go.RowKit Go.Proofs.YtcefenlblnediaaW.PrintWords Go.Proofs.YtcefenlblnediaaW.PrintLast Go.Proofs.YtcefenlblnediaaW.PrintMore
attribute [local go_sem] max2_int min2_int max_two min_two max_three min_three max_four min_four
set_option linter.unusedVariables false
set_option linter.unusedSimpArgs false

/-! ### spec_JoinHunks: function 25 -/
mutual
def spec_JoinHunks.j0 : Nat → List ByteArray → List (S111) → List (S111) → List ByteArray → Bool → Option ((List (S111)) × Bool)
 | 0, _, _, _, _, _ => none
 | k + 1, x0, x1, x2, x10, x34 => if x34 = true then (some (([] : List (S111)), false)) else (spec_JoinHunks.l0 k x0 x1 x2 x10 ([] : List (S109)) (x0.length : Int) 0)
def spec_JoinHunks.l0 : Nat → List ByteArray → List (S111) → List (S111) → List ByteArray → List (S109) → Int → Int → Option ((List (S111)) × Bool)
 | 0, _, _, _, _, _, _, _ => none
 | k + 1, x0, x1, x2, x10, x12, x36, x37 => if x37 < x36 then ((spec_l2Place.f k x1 x37).bind fun t402 => (if t402 ≥ 0 then ((spec_l2Place.f k x2 t402).bind fun t403 => (if t403 ≥ 0 then (if x12.length < 8796093022208 then (spec_JoinHunks.l0 k x0 x1 x2 x10 (x12 ++ [(⟨x37, t403⟩ : S109)]) x36 (wrap64 (x37 + 1))) else (none)) else (spec_JoinHunks.l0 k x0 x1 x2 x10 x12 x36 (wrap64 (x37 + 1))))) else (spec_JoinHunks.l0 k x0 x1 x2 x10 x12 x36 (wrap64 (x37 + 1))))) else ((spec_l2Join.f k x0 x10 x12).bind fun t407 => ((spec_l2Hunks.f k (x0.length : Int) t407).bind fun t410 => (if t410 = true then (some (t407, true)) else (some (([] : List (S111)), false)))))
end
def spec_JoinHunks.f (k : Nat) (l0 : List ByteArray) (l1 : List (S111)) (l2 : List (S111)) : Option ((List (S111)) × Bool) := (spec_Patch.f k l0 l1).bind fun bt394 => ((spec_Patch.f k bt394.1 l2).bind fun bt398 => (if bt394.2 = true then (spec_JoinHunks.j0 k l0 l1 l2 bt398.1 (!bt398.2)) else (spec_JoinHunks.j0 k l0 l1 l2 bt398.1 true)))
set_option maxHeartbeats 8000000 in
set_option maxRecDepth 100000 in
theorem spec_JoinHunks.calls (k : Nat) (A0 : Option Addr) (c0 : Nat) (l0 : List ByteArray) (A1 : Option Addr) (c1 : Nat) (l1 : List (S111)) (A2 : Option Addr) (c2 : Nat) (l2 : List (S111)) (r1 : List (S111)) (r2 : Bool) (w : World) (hr0 : Kd.C Kd.string w A0 l0.length l0) (hc0 : l0.length ≤ c0) (hr1 : Kd.C k111 w A1 l1.length l1) (hc1 : l1.length ≤ c1) (hr2 : Kd.C k111 w A2 l2.length l2) (hc2 : l2.length ≤ c2) (h : spec_JoinHunks.f k l0 l1 l2 = some (r1, r2)) :
  Calls Try.prog 25 #[.slice A0 l0.length c0, .slice A1 l1.length c1, .slice A2 l2.length c2] w fun e w' => ∃ v0_ : Value, e = .returned (.tuple #[v0_, .bool r2]) ∧ Kd.S k111 111 w' w.heap.size (fun _ => True) v0_ r1 ∧ Below w.heap.size w w' := by
 have hu109 := Try.underlying109
 have HR0 := Aside0.mk hr0
 have HC0 := Aside0.mk hc0
 clear hr0 hc0
 have HR1 := Aside0.mk hr1
 have HC1 := Aside0.mk hc1
 clear hr1 hc1
 have HR2 := Aside0.mk hr2
 have HC2 := Aside0.mk hc2
 clear hr2 hc2
 have HB := Aside0.mk (Below.refl w.heap.size w)
 have H : ((spec_Patch.f k l0 l1).bind fun bt394 => ((spec_Patch.f k bt394.1 l2).bind fun bt398 => (if bt394.2 = true then (spec_JoinHunks.j0 k l0 l1 l2 bt398.1 (!bt398.2)) else (spec_JoinHunks.j0 k l0 l1 l2 bt398.1 true)))) = some (r1, r2) := h
 clear h
 replace H := Option.bind_eq_some_iff.mp H
 obtain ⟨⟨t394, t395⟩, A40, H⟩ := H
 replace H : ((spec_Patch.f k t394 l2).bind fun bt398 => (if t395 = true then (spec_JoinHunks.j0 k l0 l1 l2 bt398.1 (!bt398.2)) else (spec_JoinHunks.j0 k l0 l1 l2 bt398.1 true))) = some (r1, r2) := H
 have A4 := Aside0.mk A40
 clear A40
 replace H := Option.bind_eq_some_iff.mp H
 obtain ⟨⟨t398, t399⟩, A50, H⟩ := H
 replace H : (if t395 = true then (spec_JoinHunks.j0 k l0 l1 l2 t398 (!t399)) else (spec_JoinHunks.j0 k l0 l1 l2 t398 true)) = some (r1, r2) := H
 have A5 := Aside0.mk A50
 clear A50
 have HC6 := Aside0.mk H
 clear H
 go_enter Try.func25, Try.ntmps25
 go_upto_region 3 with (first | ((with_reducible refine gateC (f := 39) rfl ?_); refine goesL_ (some 20) rfl rfl Try.func39 (by kernel_rfl) rfl #[.slice A0 l0.length c0, .slice A1 l1.length c1] rfl zm ?_; (with_reducible refine (spec_Patch.calls k _ _ l0 _ _ l1 t394 t395 _ ?side1 ?side2 ?side3 ?side4 A4.out).mono ?_); (case side1 => exact zq HR0.out); (case side2 => exact HC0.out); (case side3 => exact zq HR1.out); (case side4 => exact HC1.out); rintro e w7 ⟨v396, rfl, ho0, hb⟩; refine ⟨_, rfl, ?_⟩; have n0_ := Aside0.mk (Kd.R_lower ho0 (below_size zb)); have n1_ := Aside0.mk (below_step zb hb); clear HB; have HO397 := n0_; have HB := n1_; clear n0_ n1_; (try clear hb); (try clear hb2); (try clear hk); (try clear hi); (try clear ho0); obtain ⟨Ao8, co8, eo8⟩ := Kd.R_slice HO397.out; subst eo8) | ((with_reducible refine gateC (f := 39) rfl ?_); refine goesL_ (some 26) rfl rfl Try.func39 (by kernel_rfl) rfl #[.slice Ao8 t394.length co8, .slice A2 l2.length c2] rfl zm ?_; (with_reducible refine (spec_Patch.calls k _ _ t394 _ _ l2 t398 t399 _ ?side1 ?side2 ?side3 ?side4 A5.out).mono ?_); (case side1 => repeat (first | exact (Kd.R_reads' HO397.out).2.2 | (with_reducible refine Kd.C_alloc ?_ _) | (with_reducible refine Kd.C_drewN ?_ _) | (with_reducible refine Kd.C_drew ?_))); (case side2 => exact (Kd.R_reads' HO397.out).2.1); (case side3 => exact zq (Kd.C_below HR2.out HB.out)); (case side4 => exact HC2.out); rintro e w9 ⟨v400, rfl, ho0, hb⟩; refine ⟨_, rfl, ?_⟩; have n0_ := Aside0.mk (Kd.R_elder' (zr HO397.out) (Kd.R_base ho0) hb); have n1_ := Aside0.mk (Kd.R_lower (Kd.R_new' ho0 (Kd.R_lt (zr HO397.out))) (below_size zb)); have n2_ := Aside0.mk (below_step zb hb); clear HO397; clear HB; have HO397 := n0_; have HO401 := n1_; have HB := n2_; clear n0_ n1_ n2_; (try clear hb); (try clear hb2); (try clear hk); (try clear hi); (try clear ho0)))
 (try simp only [Act.put, List.setIfInBounds_toArray, List.set_cons_zero, List.set_cons_succ])
 go_cut [34] (fun v34 wc => ∃ (kq : Nat) (x34_5 : Bool), v34 = .bool x34_5 ∧ Aside0 (spec_JoinHunks.j0 kq l0 l1 l2 t398 x34_5 = some (r1, r2)) ∧ Aside0 (kq ≤ k) ∧ Aside0 (Kd.R Kd.string 9 wc w.heap.size (fun _ => True) v400 t398) ∧ Aside0 (Below w.heap.size w wc))
 case first =>
  have H := HC6.out
  clear HC6
  by_cases c10 : t395 = true
  ·subst c10
   have H1 : (spec_JoinHunks.j0 k l0 l1 l2 t398 (!t399)) = some (r1, r2) := by rw [if_pos rfl] at H; exact H
   clear H
   have H := H1
   clear H1
   have H' := Aside0.mk H
   clear H
   go_wp2
   go_meet
   case rel => exact ⟨_, (!t399), zf, H', ⟨by first | omega | exact Nat.le_refl _⟩, ⟨by (with_reducible repeat (first | apply Kd.R_alloc | apply Kd.R_drewN | apply Kd.R_drew)); exact Kd.R_mono HO401.out (fun _ hk => trivial)⟩, ⟨by repeat (first | (with_reducible first | exact HB.out | apply below_alloc | apply pw_below_drewN | apply below_drew1) | exact HB.out)⟩⟩
  ·replace c10 := Bool.eq_false_iff.mpr c10
   subst c10
   have H1 : (spec_JoinHunks.j0 k l0 l1 l2 t398 true) = some (r1, r2) := by rw [if_neg (show ¬ (false = true) by decide)] at H; exact H
   clear H
   have H := H1
   clear H1
   have H' := Aside0.mk H
   clear H
   go_wp2
   go_meet
   case rel => exact ⟨_, (true), zf, H', ⟨by first | omega | exact Nat.le_refl _⟩, ⟨by (with_reducible repeat (first | apply Kd.R_alloc | apply Kd.R_drewN | apply Kd.R_drew)); exact Kd.R_mono HO401.out (fun _ hk => trivial)⟩, ⟨by repeat (first | (with_reducible first | exact HB.out | apply below_alloc | apply pw_below_drewN | apply below_drew1) | exact HB.out)⟩⟩
 case rest =>
  clear HC6
  try clear c1
  try clear c2
  try clear p2
  try clear c3
  try clear c10
  obtain ⟨kq, x34_5, rfl, HA, HJ5, HO_10, HB⟩ := hcut
  cases kq with
  | zero => exact absurd HA.out (by simp [spec_JoinHunks.j0])
  | succ kj5 =>
   have H := HA.out
   clear HA
   simp only [spec_JoinHunks.j0] at H
   by_cases c11 : x34_5 = true
   ·subst c11
    have H1 : (some (([] : List (S111)), false)) = some (r1, r2) := by rw [if_pos rfl] at H; exact H
    clear H
    have H := H1
    clear H1
    simp only [Option.some.injEq, Prod.mk.injEq] at H
    obtain ⟨rfl, rfl⟩ := H
    go_wp2
    go_ret2
    exact ⟨_, by first | rfl | (simp [errW_none, errW_some] <;> rfl) | (simp [*, errW_none, errW_some] <;> rfl), by first | exact Kd.S_nil _ _ _ _ _ | exact Kd.Q_nil _ _ _ _ _ | exact Kd.R_nil _ _ _ _ _, by repeat (first | (with_reducible first | exact HB.out | apply below_alloc | apply pw_below_drewN | apply below_drew1) | exact HB.out)⟩
   ·replace c11 := Bool.eq_false_iff.mpr c11
    subst c11
    have H1 : (spec_JoinHunks.l0 kj5 l0 l1 l2 t398 ([] : List (S109)) (l0.length : Int) 0) = some (r1, r2) := by rw [if_neg (show ¬ (false = true) by decide)] at H; exact H
    clear H
    have H := H1
    clear H1
    have H' := Aside0.mk H
    clear H
    go_wp2
    go_loopg [12, 37] kj5 (fun kq v12 v37 w' => ∃ (x12_2 : List (S109)) (x37_2 : Int), v37 = .int .i64 x37_2 ∧ Aside0 (spec_JoinHunks.l0 kq l0 l1 l2 t398 x12_2 (l0.length : Int) x37_2 = some (r1, r2)) ∧ Aside0 (kq ≤ kj5) ∧ Aside0 (Kd.R Kd.string 9 w' w.heap.size (fun _ => True) v400 t398) ∧ Aside0 (Kd.R k109 109 w' w.heap.size (fun _ => True) v12 x12_2) ∧ Aside0 (Below w.heap.size w w'))
    case atStart => exact ⟨(([] : List (S109))), (0), zf, H', ⟨Nat.le_refl _⟩, ⟨by (with_reducible repeat (first | apply Kd.R_alloc | apply Kd.R_drewN | apply Kd.R_drew)); exact HO_10.out⟩, ⟨by first | exact Kd.R_nil _ _ _ _ _ | exact Kd.Q_nil _ _ _ _ _ | exact Kd.S_nil _ _ _ _ _⟩, ⟨by repeat (first | (with_reducible first | exact HB.out | apply below_alloc | apply pw_below_drewN | apply below_drew1) | exact HB.out)⟩⟩
    case round =>
     clear H'
     try clear c1
     try clear c2
     try clear p2
     try clear c3
     try clear c10
     try clear c11
     try clear p2
     obtain ⟨x12_2, x37_2, rfl, HA, HK2, HO_10, HO_12, HB⟩ := hrel
     cases gk with
     | zero => exact absurd HA.out (by simp [spec_JoinHunks.l0])
     | succ k2 =>
      have H := HA.out
      clear HA
      simp only [spec_JoinHunks.l0] at H
      by_cases c12 : x37_2 < (l0.length : Int)
      ·rw [if_pos c12] at H
       have c12b0 : decide (x37_2 < (l0.length : Int)) = true := decide_eq_true c12
       clear c12
       replace H := Option.bind_eq_some_iff.mp H
       obtain ⟨t402, A130, H⟩ := H
       replace H : (if t402 ≥ 0 then ((spec_l2Place.f k2 l2 t402).bind fun t403 => (if t403 ≥ 0 then (if x12_2.length < 8796093022208 then (spec_JoinHunks.l0 k2 l0 l1 l2 t398 (x12_2 ++ [(⟨x37_2, t403⟩ : S109)]) (l0.length : Int) (wrap64 (x37_2 + 1))) else (none)) else (spec_JoinHunks.l0 k2 l0 l1 l2 t398 x12_2 (l0.length : Int) (wrap64 (x37_2 + 1))))) else (spec_JoinHunks.l0 k2 l0 l1 l2 t398 x12_2 (l0.length : Int) (wrap64 (x37_2 + 1)))) = some (r1, r2) := H
       have A13 := Aside0.mk A130
       clear A130
       by_cases c14 : t402 ≥ 0
       ·rw [if_pos c14] at H
        have c14b0 : decide (0 ≤ t402) = true := decide_eq_true c14
        clear c14
        replace H := Option.bind_eq_some_iff.mp H
        obtain ⟨t403, A150, H⟩ := H
        replace H : (if t403 ≥ 0 then (if x12_2.length < 8796093022208 then (spec_JoinHunks.l0 k2 l0 l1 l2 t398 (x12_2 ++ [(⟨x37_2, t403⟩ : S109)]) (l0.length : Int) (wrap64 (x37_2 + 1))) else (none)) else (spec_JoinHunks.l0 k2 l0 l1 l2 t398 x12_2 (l0.length : Int) (wrap64 (x37_2 + 1)))) = some (r1, r2) := H
        have A15 := Aside0.mk A150
        clear A150
        by_cases c16 : t403 ≥ 0
        ·rw [if_pos c16] at H
         have c16b0 : decide (0 ≤ t403) = true := decide_eq_true c16
         clear c16
         by_cases c17 : x12_2.length < 8796093022208
         ·rw [if_pos c17] at H
          have LMc17 := Aside0.mk c17
          clear c17
          obtain ⟨y404, hy404⟩ : ∃ y_ : List (S109), y_ = (x12_2 ++ [(⟨x37_2, t403⟩ : S109)]) := ⟨_, rfl⟩
          replace H : (spec_JoinHunks.l0 k2 l0 l1 l2 t398 y404 (l0.length : Int) (wrap64 (x37_2 + 1))) = some (r1, r2) := by first | (rw [hy404]; with_reducible exact H) | (have H2_ := (Option.bind_some _ _).symm.trans H; rw [hy404]; with_reducible exact H2_) | (have H2_ := (Option.bind_some _ _).symm.trans H; with_reducible exact H2_) | with_reducible exact H | (rw [hy404]; exact H) | exact H
          have Ny404 := Aside0.mk hy404
          clear hy404
          have H' := Aside0.mk H
          clear H
          go_wp2_with (first | ((with_reducible refine gateC (f := 90) rfl ?_); refine goesL_ (some 42) rfl rfl Try.func90 (by kernel_rfl) rfl #[.slice A1 l1.length c1, .int .i64 x37_2] rfl zm ?_; (with_reducible refine (spec_l2Place.calls k2 _ _ l1 x37_2 t402 _ ?side1 ?side2 A13.out).mono ?_); (case side1 => exact zq (Kd.C_below HR1.out HB.out)); (case side2 => exact HC1.out); rintro e w18 ⟨rfl, hb⟩; refine ⟨_, rfl, ?_⟩; have n0_ := Aside0.mk (Kd.R_below (zr HO_10.out) hb); have n1_ := Aside0.mk (Kd.R_below (zr HO_12.out) hb); have n2_ := Aside0.mk (below_step zb hb); clear HO_10; clear HO_12; clear HB; have HO_10 := n0_; have HO_12 := n1_; have HB := n2_; clear n0_ n1_ n2_; (try clear hb); (try clear hb2); (try clear hk); (try clear hi)) | ((with_reducible refine gateC (f := 90) rfl ?_); refine goesL_ (some 47) rfl rfl Try.func90 (by kernel_rfl) rfl #[.slice A2 l2.length c2, .int .i64 t402] rfl zm ?_; (with_reducible refine (spec_l2Place.calls k2 _ _ l2 t402 t403 _ ?side1 ?side2 A15.out).mono ?_); (case side1 => exact zq (Kd.C_below HR2.out HB.out)); (case side2 => exact HC2.out); rintro e w19 ⟨rfl, hb⟩; refine ⟨_, rfl, ?_⟩; have n0_ := Aside0.mk (Kd.R_below (zr HO_10.out) hb); have n1_ := Aside0.mk (Kd.R_below (zr HO_12.out) hb); have n2_ := Aside0.mk (below_step zb hb); clear HO_10; clear HO_12; clear HB; have HO_10 := n0_; have HO_12 := n1_; have HB := n2_; clear n0_ n1_ n2_; (try clear hb); (try clear hb2); (try clear hk); (try clear hi)) | ((with_reducible refine gateB (b := .append) (xs := #[.tmp 50, .tmp 54]) rfl ?_); at_builtin; refine Kd.R_append k109 (w0 := w) w.heap.size rfl (.tmp 50) (.tmp 54) 108 109 (.agg #[(.int .i64 0), (.int .i64 0)]) 16 rfl Try.underlying108 info109 rfl (by decide) (by omega) u12 x12_2 (⟨x37_2, t403⟩ : S109) [.int .i64 x37_2, .int .i64 t403] (fun _ => True) (fun _ => False) rfl rfl ?aP (fun _ hk => hk.elim) ?aF ?aO ?aB ?aS ?aL ?_; (case aP => exact k109_mkM _ _ _ (⟨x37_2, t403⟩ : S109)); (case aB => exact zb); (case aF => exact (fun _ _ => trivial)); (case aO => exact (zr HO_12.out)); (case aS => exact (below_size zb)); (case aL => have := LMc17.out; omega); intro v405 w20 ho hb hg hat; rw [← Ny404.out] at ho; have n0_ := Aside0.mk (Kd.R_over' (zr HO_10.out) (Kd.R_typed (zr HO_12.out)) (by decide) hg); have n1_ := Aside0.mk (hb); have n2_ := Aside0.mk (ho); clear HO_10; clear HB; clear HO_12; have HO_10 := n0_; have HB := n1_; have HO406 := n2_; clear n0_ n1_ n2_; clear ho hb hg hat))
          go_roundg k2
          case measure => have := HJ5.out; have := HK2.out; omega
          case rel => exact ⟨(y404), (wrap64 (x37_2 + 1)), zf, H', ⟨by have := HJ5.out; have := HK2.out; omega⟩, ⟨by (with_reducible repeat (first | apply Kd.R_alloc | apply Kd.R_drewN | apply Kd.R_drew)); exact HO_10.out⟩, ⟨by (with_reducible repeat (first | apply Kd.R_alloc | apply Kd.R_drewN | apply Kd.R_drew)); exact HO406.out⟩, ⟨by repeat (first | (with_reducible first | exact HB.out | apply below_alloc | apply pw_below_drewN | apply below_drew1) | exact HB.out)⟩⟩
         ·rw [if_neg c17] at H
          exact absurd H (by simp)
        ·rw [if_neg c16] at H
         have c16b0 : decide (0 ≤ t403) = false := decide_eq_false c16
         clear c16
         have H' := Aside0.mk H
         clear H
         go_wp2_with (first | ((with_reducible refine gateC (f := 90) rfl ?_); refine goesL_ (some 42) rfl rfl Try.func90 (by kernel_rfl) rfl #[.slice A1 l1.length c1, .int .i64 x37_2] rfl zm ?_; (with_reducible refine (spec_l2Place.calls k2 _ _ l1 x37_2 t402 _ ?side1 ?side2 A13.out).mono ?_); (case side1 => exact zq (Kd.C_below HR1.out HB.out)); (case side2 => exact HC1.out); rintro e w21 ⟨rfl, hb⟩; refine ⟨_, rfl, ?_⟩; have n0_ := Aside0.mk (Kd.R_below (zr HO_10.out) hb); have n1_ := Aside0.mk (Kd.R_below (zr HO_12.out) hb); have n2_ := Aside0.mk (below_step zb hb); clear HO_10; clear HO_12; clear HB; have HO_10 := n0_; have HO_12 := n1_; have HB := n2_; clear n0_ n1_ n2_; (try clear hb); (try clear hb2); (try clear hk); (try clear hi)) | ((with_reducible refine gateC (f := 90) rfl ?_); refine goesL_ (some 47) rfl rfl Try.func90 (by kernel_rfl) rfl #[.slice A2 l2.length c2, .int .i64 t402] rfl zm ?_; (with_reducible refine (spec_l2Place.calls k2 _ _ l2 t402 t403 _ ?side1 ?side2 A15.out).mono ?_); (case side1 => exact zq (Kd.C_below HR2.out HB.out)); (case side2 => exact HC2.out); rintro e w22 ⟨rfl, hb⟩; refine ⟨_, rfl, ?_⟩; have n0_ := Aside0.mk (Kd.R_below (zr HO_10.out) hb); have n1_ := Aside0.mk (Kd.R_below (zr HO_12.out) hb); have n2_ := Aside0.mk (below_step zb hb); clear HO_10; clear HO_12; clear HB; have HO_10 := n0_; have HO_12 := n1_; have HB := n2_; clear n0_ n1_ n2_; (try clear hb); (try clear hb2); (try clear hk); (try clear hi)))
         go_roundg k2
         case measure => have := HJ5.out; have := HK2.out; omega
         case rel => exact ⟨(x12_2), (wrap64 (x37_2 + 1)), zf, H', ⟨by have := HJ5.out; have := HK2.out; omega⟩, ⟨by (with_reducible repeat (first | apply Kd.R_alloc | apply Kd.R_drewN | apply Kd.R_drew)); exact HO_10.out⟩, ⟨by (with_reducible repeat (first | apply Kd.R_alloc | apply Kd.R_drewN | apply Kd.R_drew)); exact HO_12.out⟩, ⟨by repeat (first | (with_reducible first | exact HB.out | apply below_alloc | apply pw_below_drewN | apply below_drew1) | exact HB.out)⟩⟩
       ·rw [if_neg c14] at H
        have c14b0 : decide (0 ≤ t402) = false := decide_eq_false c14
        clear c14
        have H' := Aside0.mk H
        clear H
        go_wp2_with (first | ((with_reducible refine gateC (f := 90) rfl ?_); refine goesL_ (some 42) rfl rfl Try.func90 (by kernel_rfl) rfl #[.slice A1 l1.length c1, .int .i64 x37_2] rfl zm ?_; (with_reducible refine (spec_l2Place.calls k2 _ _ l1 x37_2 t402 _ ?side1 ?side2 A13.out).mono ?_); (case side1 => exact zq (Kd.C_below HR1.out HB.out)); (case side2 => exact HC1.out); rintro e w23 ⟨rfl, hb⟩; refine ⟨_, rfl, ?_⟩; have n0_ := Aside0.mk (Kd.R_below (zr HO_10.out) hb); have n1_ := Aside0.mk (Kd.R_below (zr HO_12.out) hb); have n2_ := Aside0.mk (below_step zb hb); clear HO_10; clear HO_12; clear HB; have HO_10 := n0_; have HO_12 := n1_; have HB := n2_; clear n0_ n1_ n2_; (try clear hb); (try clear hb2); (try clear hk); (try clear hi)))
        go_roundg k2
        case measure => have := HJ5.out; have := HK2.out; omega
        case rel => exact ⟨(x12_2), (wrap64 (x37_2 + 1)), zf, H', ⟨by have := HJ5.out; have := HK2.out; omega⟩, ⟨by (with_reducible repeat (first | apply Kd.R_alloc | apply Kd.R_drewN | apply Kd.R_drew)); exact HO_10.out⟩, ⟨by (with_reducible repeat (first | apply Kd.R_alloc | apply Kd.R_drewN | apply Kd.R_drew)); exact HO_12.out⟩, ⟨by repeat (first | (with_reducible first | exact HB.out | apply below_alloc | apply pw_below_drewN | apply below_drew1) | exact HB.out)⟩⟩
      ·rw [if_neg c12] at H
       have c12b0 : decide (x37_2 < (l0.length : Int)) = false := decide_eq_false c12
       clear c12
       replace H := Option.bind_eq_some_iff.mp H
       obtain ⟨t407, A240, H⟩ := H
       replace H : ((spec_l2Hunks.f k2 (l0.length : Int) t407).bind fun t410 => (if t410 = true then (some (t407, true)) else (some (([] : List (S111)), false)))) = some (r1, r2) := H
       have A24 := Aside0.mk A240
       clear A240
       replace H := Option.bind_eq_some_iff.mp H
       obtain ⟨t410, A250, H⟩ := H
       replace H : (if t410 = true then (some (t407, true)) else (some (([] : List (S111)), false))) = some (r1, r2) := H
       have A25 := Aside0.mk A250
       clear A250
       by_cases c26 : t410 = true
       ·subst c26
        have H1 : (some (t407, true)) = some (r1, r2) := by rw [if_pos rfl] at H; exact H
        clear H
        have H := H1
        clear H1
        simp only [Option.some.injEq, Prod.mk.injEq] at H
        obtain ⟨rfl, rfl⟩ := H
        obtain ⟨Ao27, co27, eo27⟩ := Kd.R_slice HO_10.out
        subst eo27
        obtain ⟨Aq, cq, eq_⟩ := Kd.R_slice HO_12.out
        subst eq_
        go_wp2_with (first | ((with_reducible refine gateC (f := 91) rfl ?_); refine goesL_ (some 60) rfl rfl Try.func91 (by kernel_rfl) rfl #[.slice A0 l0.length c0, .slice Ao27 t398.length co27, .slice Aq x12_2.length cq] rfl zm ?_; (with_reducible refine (spec_l2Join.calls k2 _ _ l0 _ _ t398 _ x12_2 t407 w _ ?side1 ?side2 ?side3 A24.out).mono ?_); (case side1 => exact zr HO_10.out); (case side2 => exact zr HO_12.out); (case side3 => exact zb); rintro e w28 ⟨v408, rfl, ho0, hb⟩; refine ⟨_, rfl, ?_⟩; have n2_ := Aside0.mk ho0; have n3_ := Aside0.mk hb; clear HO_10; clear HO_12; clear HB; have HO409 := n2_; have HB := n3_; clear n2_ n3_; (try clear hb); (try clear hb2); (try clear hk); (try clear hi); (try clear ho0); obtain ⟨Ao29, co29, eo29⟩ := Kd.S_slice HO409.out; subst eo29) | ((with_reducible refine gateC (f := 92) rfl ?_); refine goesL_ (some 64) rfl rfl Try.func92 (by kernel_rfl) rfl #[.int .i64 (l0.length : Int), .slice Ao29 t407.length co29] rfl zm ?_; (with_reducible refine (spec_l2Hunks.calls k2 (l0.length : Int) _ _ t407 true _ ?side1 ?side2 A25.out).mono ?_); (case side1 => repeat (first | exact (Kd.S_reads' HO409.out).2.2 | (with_reducible refine Kd.C_alloc ?_ _) | (with_reducible refine Kd.C_drewN ?_ _) | (with_reducible refine Kd.C_drew ?_))); (case side2 => exact (Kd.S_reads' HO409.out).2.1); rintro e w30 ⟨rfl, hb⟩; refine ⟨_, rfl, ?_⟩; have n2_ := Aside0.mk (Kd.S_below (zs HO409.out) hb); have n3_ := Aside0.mk (below_step zb hb); clear HO409; clear HB; have HO409 := n2_; have HB := n3_; clear n2_ n3_; (try clear hb); (try clear hb2); (try clear hk); (try clear hi)))
        go_ret2
        exact ⟨_, by first | rfl | (simp [errW_none, errW_some] <;> rfl) | (simp [*, errW_none, errW_some] <;> rfl), by (with_reducible repeat (first | apply Kd.S_alloc | apply Kd.S_drewN | apply Kd.S_drew)); exact Kd.S_mono HO409.out (fun _ hk => trivial), by repeat (first | (with_reducible first | exact HB.out | apply below_alloc | apply pw_below_drewN | apply below_drew1) | exact HB.out)⟩
       ·replace c26 := Bool.eq_false_iff.mpr c26
        subst c26
        have H1 : (some (([] : List (S111)), false)) = some (r1, r2) := by rw [if_neg (show ¬ (false = true) by decide)] at H; exact H
        clear H
        have H := H1
        clear H1
        simp only [Option.some.injEq, Prod.mk.injEq] at H
        obtain ⟨rfl, rfl⟩ := H
        obtain ⟨Ao31, co31, eo31⟩ := Kd.R_slice HO_10.out
        subst eo31
        obtain ⟨Aq, cq, eq_⟩ := Kd.R_slice HO_12.out
        subst eq_
        go_wp2_with (first | ((with_reducible refine gateC (f := 91) rfl ?_); refine goesL_ (some 60) rfl rfl Try.func91 (by kernel_rfl) rfl #[.slice A0 l0.length c0, .slice Ao31 t398.length co31, .slice Aq x12_2.length cq] rfl zm ?_; (with_reducible refine (spec_l2Join.calls k2 _ _ l0 _ _ t398 _ x12_2 t407 w _ ?side1 ?side2 ?side3 A24.out).mono ?_); (case side1 => exact zr HO_10.out); (case side2 => exact zr HO_12.out); (case side3 => exact zb); rintro e w32 ⟨v408, rfl, ho0, hb⟩; refine ⟨_, rfl, ?_⟩; have n2_ := Aside0.mk ho0; have n3_ := Aside0.mk hb; clear HO_10; clear HO_12; clear HB; have HO409 := n2_; have HB := n3_; clear n2_ n3_; (try clear hb); (try clear hb2); (try clear hk); (try clear hi); (try clear ho0); obtain ⟨Ao33, co33, eo33⟩ := Kd.S_slice HO409.out; subst eo33) | ((with_reducible refine gateC (f := 92) rfl ?_); refine goesL_ (some 64) rfl rfl Try.func92 (by kernel_rfl) rfl #[.int .i64 (l0.length : Int), .slice Ao33 t407.length co33] rfl zm ?_; (with_reducible refine (spec_l2Hunks.calls k2 (l0.length : Int) _ _ t407 false _ ?side1 ?side2 A25.out).mono ?_); (case side1 => repeat (first | exact (Kd.S_reads' HO409.out).2.2 | (with_reducible refine Kd.C_alloc ?_ _) | (with_reducible refine Kd.C_drewN ?_ _) | (with_reducible refine Kd.C_drew ?_))); (case side2 => exact (Kd.S_reads' HO409.out).2.1); rintro e w34 ⟨rfl, hb⟩; refine ⟨_, rfl, ?_⟩; have n2_ := Aside0.mk (Kd.S_below (zs HO409.out) hb); have n3_ := Aside0.mk (below_step zb hb); clear HO409; clear HB; have HO409 := n2_; have HB := n3_; clear n2_ n3_; (try clear hb); (try clear hb2); (try clear hk); (try clear hi)))
        go_ret2
        exact ⟨_, by first | rfl | (simp [errW_none, errW_some] <;> rfl) | (simp [*, errW_none, errW_some] <;> rfl), by first | exact Kd.S_nil _ _ _ _ _ | exact Kd.Q_nil _ _ _ _ _ | exact Kd.R_nil _ _ _ _ _, by repeat (first | (with_reducible first | exact HB.out | apply below_alloc | apply pw_below_drewN | apply below_drew1) | exact HB.out)⟩

theorem spec_JoinHunks.callsN (k : Nat) (A0 : Option Addr) (c0 : Nat) (l0 : List ByteArray) (A1 : Option Addr) (c1 : Nat) (l1 : List (S111)) (A2 : Option Addr) (c2 : Nat) (l2 : List (S111)) (r1 : List (S111)) (r2 : Bool) (w : World) (hr0 : Kd.C Kd.string w A0 l0.length l0) (hc0 : l0.length ≤ c0) (hr1 : Kd.C k111 w A1 l1.length l1) (hc1 : l1.length ≤ c1) (hr2 : Kd.C k111 w A2 l2.length l2) (hc2 : l2.length ≤ c2) (h : spec_JoinHunks.f k l0 l1 l2 = some (r1, r2)) :
  Calls Try.prog 25 #[.slice A0 l0.length c0, .slice A1 l1.length c1, .slice A2 l2.length c2] w fun e w' => ∃ v0_ : Value, e = .returned (.tuple #[v0_, .bool r2]) ∧ Kd.N k111 111 w' w.heap.size (fun k_ => w.heap.size ≤ k_) v0_ r1 ∧ Below w.heap.size w w' := by
 refine (spec_JoinHunks.calls k A0 c0 l0 A1 c1 l1 A2 c2 l2 r1 r2 w hr0 hc0 hr1 hc1 hr2 hc2 h).mono ?_
 rintro e w' ⟨v, rfl, ho, hb⟩
 exact ⟨v, rfl, Kd.N_mono (Kd.S_N (Kd.S_bound ho)) (fun k_ hk_ => hk_.2.1), hb⟩
end Go.Proofs.Ytcefenlblnediaa.My
