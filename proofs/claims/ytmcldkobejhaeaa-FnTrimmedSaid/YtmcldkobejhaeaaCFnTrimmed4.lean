/- Part 4 of 7 of a proof of this sentence: The Go function loop.example/g00825/laws.FnTrimmed returns true for every input, and each argument reads afterwards as it read before. No condition. -/
import Derived.Test.YtmcldkobejhaeaaCFnTrimmed3
/- Written by this session's program (wip/gen): a plain function with the same answers as the Go function, and the proof that the Go code comes to them. Asked: that the plain function has an answer. -/
namespace Go.Proofs.Ytmcldkobejhaeaa.My
open Go.RowKit Go.Proofs.YtmcldkobejhaeaaW.PrintWords Go.Proofs.YtmcldkobejhaeaaW.PrintLast Go.Proofs.YtmcldkobejhaeaaW.PrintMore
attribute [local go_sem] max2_int min2_int max_two min_two max_three min_three max_four min_four
set_option linter.unusedVariables false
set_option linter.unusedSimpArgs false
def spec_l1Cur_line.f (s0_0 : List Int) (s0_1 : Int) (s0_2 : Int) : Option (ByteArray × Int × Int) := (spec_l1Cur_of.f s0_0 s0_1 s0_2 (([(⟨#[97]⟩ : ByteArray), (⟨#[98]⟩ : ByteArray), (⟨#[99]⟩ : ByteArray), (⟨#[100]⟩ : ByteArray), (⟨#[]⟩ : ByteArray), (⟨#[46]⟩ : ByteArray), (⟨#[46, 46]⟩ : ByteArray), (⟨#[111, 110, 101, 32, 116, 119, 111]⟩ : ByteArray), (⟨#[43, 120]⟩ : ByteArray), (⟨#[45, 121]⟩ : ByteArray), (⟨#[92, 32, 122]⟩ : ByteArray), (⟨#[64, 64]⟩ : ByteArray)] : List ByteArray))).bind fun bt115 => (some (bt115.1, bt115.2.1, bt115.2.2))
set_option maxHeartbeats 8000000 in
set_option maxRecDepth 100000 in
theorem spec_l1Cur_line.calls (g : Nat) (s0_0 : List Int) (s0_1 : Int) (s0_2 : Int) (r1 : ByteArray) (r2 : Int) (r3 : Int) (w0 w : World) (hI : IsS87 w0 w g s0_0 s0_1 s0_2) (hB : Below w0.heap.size w0 w) (h : spec_l1Cur_line.f s0_0 s0_1 s0_2 = some (r1, r2, r3)) :
  Calls Try.prog 71 #[.pointer (some ⟨g, 0, none⟩)] w fun e w' => e = .returned (.string r1) ∧ IsS87 w0 w' g s0_0 r2 r3 ∧ Below w0.heap.size w0 w' ∧ KeepBut w w' g none := by
 have HI0 := am hI
 have HK := am (KeepBut.refl w g none)
 have HL := am hB.size
 clear hI
 have HW0 := am hB.size
 have HB := am hB
 clear hB
 have H : ((spec_l1Cur_of.f s0_0 s0_1 s0_2 (([(⟨#[97]⟩ : ByteArray), (⟨#[98]⟩ : ByteArray), (⟨#[99]⟩ : ByteArray), (⟨#[100]⟩ : ByteArray), (⟨#[]⟩ : ByteArray), (⟨#[46]⟩ : ByteArray), (⟨#[46, 46]⟩ : ByteArray), (⟨#[111, 110, 101, 32, 116, 119, 111]⟩ : ByteArray), (⟨#[43, 120]⟩ : ByteArray), (⟨#[45, 121]⟩ : ByteArray), (⟨#[92, 32, 122]⟩ : ByteArray), (⟨#[64, 64]⟩ : ByteArray)] : List ByteArray))).bind fun bt115 => (some (bt115.1, bt115.2.1, bt115.2.2))) = some (r1, r2, r3) := h
 clear h
 obtain ⟨y112, hy112⟩ : ∃ y_ : List ByteArray, y_ = (([(⟨#[97]⟩ : ByteArray), (⟨#[98]⟩ : ByteArray), (⟨#[99]⟩ : ByteArray), (⟨#[100]⟩ : ByteArray), (⟨#[]⟩ : ByteArray), (⟨#[46]⟩ : ByteArray), (⟨#[46, 46]⟩ : ByteArray), (⟨#[111, 110, 101, 32, 116, 119, 111]⟩ : ByteArray), (⟨#[43, 120]⟩ : ByteArray), (⟨#[45, 121]⟩ : ByteArray), (⟨#[92, 32, 122]⟩ : ByteArray), (⟨#[64, 64]⟩ : ByteArray)] : List ByteArray)) := ⟨_, rfl⟩
 replace H : ((spec_l1Cur_of.f s0_0 s0_1 s0_2 y112).bind fun bt115 => (some (bt115.1, bt115.2.1, bt115.2.2))) = some (r1, r2, r3) := by first | (rw [hy112]; with_reducible exact H) | (have H2_ := (Option.bind_some _ _).symm.trans H; rw [hy112]; with_reducible exact H2_) | (have H2_ := (Option.bind_some _ _).symm.trans H; with_reducible exact H2_) | with_reducible exact H | (rw [hy112]; exact H) | exact H
 have Ny112 := am hy112
 clear hy112
 replace H := Option.bind_eq_some_iff.mp H
 obtain ⟨⟨t115, t116, t117⟩, A20, H⟩ := H
 replace H : (some (t115, t116, t117)) = some (r1, r2, r3) := H
 have A2 := am A20
 clear A20
 simp only [Option.some.injEq, Prod.mk.injEq] at H
 obtain ⟨rfl, rfl, rfl⟩ := H
 go_enter Try.func71, Try.ntmps71
 go_wp2_with (first | ((with_reducible refine gate_dst (N := 4) rfl ?_); refine Kd.R_lit Kd.string _ 9 ?hg (N := 4) ?hd (xs := ([(⟨#[97]⟩ : ByteArray), (⟨#[98]⟩ : ByteArray), (⟨#[99]⟩ : ByteArray), (⟨#[100]⟩ : ByteArray), (⟨#[]⟩ : ByteArray), (⟨#[46]⟩ : ByteArray), (⟨#[46, 46]⟩ : ByteArray), (⟨#[111, 110, 101, 32, 116, 119, 111]⟩ : ByteArray), (⟨#[43, 120]⟩ : ByteArray), (⟨#[45, 121]⟩ : ByteArray), (⟨#[92, 32, 122]⟩ : ByteArray), (⟨#[64, 64]⟩ : ByteArray)] : List ByteArray)) (inner := [.string (⟨#[97]⟩ : ByteArray), .string (⟨#[98]⟩ : ByteArray), .string (⟨#[99]⟩ : ByteArray), .string (⟨#[100]⟩ : ByteArray), .string (⟨#[]⟩ : ByteArray), .string (⟨#[46]⟩ : ByteArray), .string (⟨#[46, 46]⟩ : ByteArray), .string (⟨#[111, 110, 101, 32, 116, 119, 111]⟩ : ByteArray), .string (⟨#[43, 120]⟩ : ByteArray), .string (⟨#[45, 121]⟩ : ByteArray), .string (⟨#[92, 32, 122]⟩ : ByteArray), .string (⟨#[64, 64]⟩ : ByteArray)]) (ok := fun _ => True) (okp := fun _ => True) ?hr ?hp (fun _ hk => hk) trivial (Below.refl _ _) (Nat.le_refl _) (by simp) ?_; (case hd => rfl); (case hg => rfl); (case hr => first | (go_simp; done) | (go_simp; rfl)); (case hp => exact (Reps.one (show Kd.M Kd.string _ _ _ (⟨#[97]⟩ : ByteArray) [.string (⟨#[97]⟩ : ByteArray)] from rfl) (Reps.one (show Kd.M Kd.string _ _ _ (⟨#[98]⟩ : ByteArray) [.string (⟨#[98]⟩ : ByteArray)] from rfl) (Reps.one (show Kd.M Kd.string _ _ _ (⟨#[99]⟩ : ByteArray) [.string (⟨#[99]⟩ : ByteArray)] from rfl) (Reps.one (show Kd.M Kd.string _ _ _ (⟨#[100]⟩ : ByteArray) [.string (⟨#[100]⟩ : ByteArray)] from rfl) (Reps.one (show Kd.M Kd.string _ _ _ (⟨#[]⟩ : ByteArray) [.string (⟨#[]⟩ : ByteArray)] from rfl) (Reps.one (show Kd.M Kd.string _ _ _ (⟨#[46]⟩ : ByteArray) [.string (⟨#[46]⟩ : ByteArray)] from rfl) (Reps.one (show Kd.M Kd.string _ _ _ (⟨#[46, 46]⟩ : ByteArray) [.string (⟨#[46, 46]⟩ : ByteArray)] from rfl) (Reps.one (show Kd.M Kd.string _ _ _ (⟨#[111, 110, 101, 32, 116, 119, 111]⟩ : ByteArray) [.string (⟨#[111, 110, 101, 32, 116, 119, 111]⟩ : ByteArray)] from rfl) (Reps.one (show Kd.M Kd.string _ _ _ (⟨#[43, 120]⟩ : ByteArray) [.string (⟨#[43, 120]⟩ : ByteArray)] from rfl) (Reps.one (show Kd.M Kd.string _ _ _ (⟨#[45, 121]⟩ : ByteArray) [.string (⟨#[45, 121]⟩ : ByteArray)] from rfl) (Reps.one (show Kd.M Kd.string _ _ _ (⟨#[92, 32, 122]⟩ : ByteArray) [.string (⟨#[92, 32, 122]⟩ : ByteArray)] from rfl) (Reps.one (show Kd.M Kd.string _ _ _ (⟨#[64, 64]⟩ : ByteArray) [.string (⟨#[64, 64]⟩ : ByteArray)] from rfl) (Reps.none _ _)))))))))))))); intro v113 w3 ho4 hb hg_ hnew_; clear hg_ hnew_; (first | rw [← Ny112.out] at ho4 | (simp only [Int.reduceToNat] at ho4; rw [← Ny112.out] at ho4)); have n0_ := am (Kd.R_lower ho4 (keep_size (w := w) (g := g) (row := none) zh)); have n1_ := am (IsS87.below zi hb); have n2_ := am (KeepBut.trans zh (KeepBut.of_below hb g none) (.inl rfl)); have n3_ := am (below_step zj hb); clear HI0; clear HK; clear HB; have HO114 := n0_; have HI0 := n1_; have HK := n2_; have HB := n3_; clear n0_ n1_ n2_ n3_; clear hb ho4; obtain ⟨Ao5, co5, eo5⟩ := Kd.R_slice HO114.out; subst eo5) | ((with_reducible refine gateC (f := 72) rfl ?_); refine goesL_ (some 5) rfl rfl Try.func72 (by kernel_rfl) rfl #[.pointer (some ⟨g, 0, none⟩), .slice Ao5 y112.length co5] rfl zm ?_; (with_reducible refine (spec_l1Cur_of.calls g s0_0 s0_1 s0_2 _ _ y112 t115 t116 t117 w0 _ ?side1 ?side2 ?side3 ?side4 ?side5 A2.out).mono ?_); (case side1 => exact zi); (case side2 => exact zj); (case side3 => repeat (first | exact (Kd.R_reads' HO114.out).2.2 | (with_reducible refine Kd.C_alloc ?_ _) | (with_reducible refine Kd.C_drewN ?_ _) | (with_reducible refine Kd.C_drew ?_))); (case side4 => exact (Kd.R_reads' HO114.out).2.1); (case side5 => exact far_slice (IsS87.own_ne HI0.out HO114.out (by decide))); rintro e w6 ⟨rfl, hi, hb, hk⟩; refine ⟨_, rfl, ?_⟩; have n0_ := am (Kd.R_mono (Kd.R_keep (IsS87.apart (show IsS87 w0 _ g s0_0 s0_1 s0_2 from zi) (zr HO114.out) (by decide)) hk (fun _ h => h.2)) (fun _ h => h.1)); have n1_ := am (KeepBut.trans zh hk (.inl rfl)); have n2_ := am (hb); have n3_ := am (hi); clear HO114; clear HK; clear HB; clear HI0; have HO114 := n0_; have HK := n1_; have HB := n2_; have HI0 := n3_; clear n0_ n1_ n2_ n3_; (try clear hb); (try clear hk); (try clear hi)))
 go_ret
 exact ⟨by first | rfl | (simp [errW_none, errW_some] <;> rfl) | (simp [*, errW_none, errW_some] <;> rfl), zi, zj, zh⟩
end Go.Proofs.Ytmcldkobejhaeaa.My
/- Written by this session's program (wip/gen): a plain function with the same answers as the Go function, and the proof that the Go code comes to them. Asked: that the plain function has an answer. -/
namespace Go.Proofs.Ytmcldkobejhaeaa.My
open Go.RowKit Go.Proofs.YtmcldkobejhaeaaW.PrintWords Go.Proofs.YtmcldkobejhaeaaW.PrintLast Go.Proofs.YtmcldkobejhaeaaW.PrintMore
attribute [local go_sem] max2_int min2_int max_two min_two max_three min_three max_four min_four
set_option linter.unusedVariables false
set_option linter.unusedSimpArgs false
def spec_l1Least.f (a0 : Int) (a1 : Int) : Option (Int) := if a0 < a1 then (some a0) else (some a1)
set_option maxHeartbeats 8000000 in
set_option maxRecDepth 100000 in
theorem spec_l1Least.calls (a0 : Int) (a1 : Int) (r : Int) (w : World) (h : spec_l1Least.f a0 a1 = some r) :
  Calls Try.prog 155 #[.int .i64 a0, .int .i64 a1] w fun e w' => e = .returned (.int .i64 r) ∧ Drawn0 w w' := by
 have H : (if a0 < a1 then (some a0) else (some a1)) = some r := h
 clear h
 by_cases c3 : a0 < a1
 ·rw [if_pos c3] at H
  have c3b0 : decide (a0 < a1) = true := decide_eq_true c3
  clear c3
  obtain rfl := Option.some.inj H
  go_enter Try.func155, Try.ntmps155
  go_wp2
  go_ret
  exact ⟨by first | rfl | (simp; done) | (simp [*]; done), by repeat (first | exact Drawn0.refl _ | apply Drawn0.step)⟩
 ·rw [if_neg c3] at H
  have c3b0 : decide (a0 < a1) = false := decide_eq_false c3
  clear c3
  obtain rfl := Option.some.inj H
  go_enter Try.func155, Try.ntmps155
  go_wp2
  go_ret
  exact ⟨by first | rfl | (simp; done) | (simp [*]; done), by repeat (first | exact Drawn0.refl _ | apply Drawn0.step)⟩
end Go.Proofs.Ytmcldkobejhaeaa.My
/- Written by this session's program (wip/gen): a plain function with the same answers as the Go function, and the proof that the Go code comes to them. Asked: that the plain function has an answer. -/
namespace Go.Proofs.Ytmcldkobejhaeaa.My
open Go.RowKit Go.Proofs.YtmcldkobejhaeaaW.PrintWords Go.Proofs.YtmcldkobejhaeaaW.PrintLast Go.Proofs.YtmcldkobejhaeaaW.PrintMore
attribute [local go_sem] max2_int min2_int max_two min_two max_three min_three max_four min_four
set_option linter.unusedVariables false
set_option linter.unusedSimpArgs false
def spec_l1Ends.f (a0 : ByteArray) : Option (Bool) := if 0 ≤ (wrap64 ((a0.size : Int) - 1)) then (if (wrap64 ((a0.size : Int) - 1)) < (a0.size : Int) then (some ((bt a0 (wrap64 ((a0.size : Int) - 1))) == 10)) else (none)) else (none)
set_option maxHeartbeats 8000000 in
set_option maxRecDepth 100000 in
theorem spec_l1Ends.calls (a0 : ByteArray) (r : Bool) (w : World) (h : spec_l1Ends.f a0 = some r) :
  Calls Try.prog 127 #[.string a0] w fun e w' => e = .returned (.bool r) ∧ Drawn0 w w' := by
 have H : (if 0 ≤ (wrap64 ((a0.size : Int) - 1)) then (if (wrap64 ((a0.size : Int) - 1)) < (a0.size : Int) then (some ((bt a0 (wrap64 ((a0.size : Int) - 1))) == 10)) else (none)) else (none)) = some r := h
 clear h
 obtain ⟨ji2, hji2⟩ : ∃ j_ : Int, (wrap64 ((a0.size : Int) - 1)) = j_ := ⟨_, rfl⟩
 replace H : (if 0 ≤ (ji2) then (if (ji2) < (a0.size : Int) then (some ((bt a0 (ji2)) == 10)) else (none)) else (none)) = some r := by first | (rw [hji2] at H; exact H) | (simp only [hji2] at H ⊢; exact H)
 have hji2w : (IntKind.i64.wrap ((a0.size : Int) - 1)) = ji2 := (i64_w _).trans hji2
 by_cases c3 : 0 ≤ (ji2)
 ·rw [if_pos c3] at H
  have c3b0 : decide (0 ≤ (ji2)) = true := decide_eq_true c3
  clear c3
  by_cases c4 : (ji2) < (a0.size : Int)
  ·rw [if_pos c4] at H
   have c4b0 : decide ((ji2) < (a0.size : Int)) = true := decide_eq_true c4
   clear c4
   obtain rfl := Option.some.inj H
   have p5 : 0 ≤ ((ji2) : Int) := oa
   have q5 : (ji2) < (a0.size : Int) := oa
   have hx5 := bt_at a0 (ji2)
   replace p5 := eq_true p5
   replace q5 := eq_true q5
   go_enter Try.func127, Try.ntmps127
   go_wp2
   go_ret
   exact ⟨by first | rfl | (simp; done) | (simp only [← hji2] <;> (first | rfl | simp)) | (simp [*]; done), by repeat (first | exact Drawn0.refl _ | apply Drawn0.step)⟩
  ·rw [if_neg c4] at H
   exact absurd H (by simp)
 ·rw [if_neg c3] at H
  exact absurd H (by simp)
end Go.Proofs.Ytmcldkobejhaeaa.My
/- Written by this session's program (wip/gen): a plain function with the same answers as the Go function, and the proof that the Go code comes to them. Asked: that the plain function has an answer. -/
namespace Go.Proofs.Ytmcldkobejhaeaa.My
open Go.RowKit Go.Proofs.YtmcldkobejhaeaaW.PrintWords Go.Proofs.YtmcldkobejhaeaaW.PrintLast Go.Proofs.YtmcldkobejhaeaaW.PrintMore
attribute [local go_sem] max2_int min2_int max_two min_two max_three min_three max_four min_four
set_option linter.unusedVariables false
set_option linter.unusedSimpArgs false
def spec_l1Whole.f (l0 : List ByteArray) : Option (Bool) := if (l0.length : Int) = 0 then (some true) else (if 0 ≤ (wrap64 ((l0.length : Int) - 1)) then (if (wrap64 ((l0.length : Int) - 1)) < (l0.length : Int) then ((spec_l1Ends.f (rdOf ByteArray.empty l0 (wrap64 ((l0.length : Int) - 1)))).bind fun t259 => (some t259)) else (none)) else (none))
set_option maxHeartbeats 8000000 in
set_option maxRecDepth 100000 in
theorem spec_l1Whole.calls (A0 : Option Addr) (c0 : Nat) (l0 : List ByteArray) (r : Bool) (w : World) (hr0 : Kd.C Kd.string w A0 l0.length l0) (hc0 : l0.length ≤ c0) (h : spec_l1Whole.f l0 = some r) :
  Calls Try.prog 152 #[.slice A0 l0.length c0] w fun e w' => e = .returned (.bool r) ∧ Drawn0 w w' := by
 have HR0 := am hr0
 have HC0 := am hc0
 clear hr0 hc0
 have H : (if (l0.length : Int) = 0 then (some true) else (if 0 ≤ (wrap64 ((l0.length : Int) - 1)) then (if (wrap64 ((l0.length : Int) - 1)) < (l0.length : Int) then ((spec_l1Ends.f (rdOf ByteArray.empty l0 (wrap64 ((l0.length : Int) - 1)))).bind fun t259 => (some t259)) else (none)) else (none))) = some r := h
 clear h
 by_cases c2 : (l0.length : Int) = 0
 ·rw [if_pos c2] at H
  have c2b0 : ((l0.length : Int) == 0) = true := beq_iff_eq.mpr c2
  have c2b1 : ((l0.length : Int) != 0) = false := bne_eq_false_iff_eq.mpr c2
  clear c2
  obtain rfl := Option.some.inj H
  go_enter Try.func152, Try.ntmps152
  go_wp2
  go_ret
  exact ⟨by first | rfl | (simp; done) | (simp [*]; done), by repeat (first | exact Drawn0.refl _ | apply Drawn0.step)⟩
 ·rw [if_neg c2] at H
  have c2b0 : ((l0.length : Int) == 0) = false := beq_eq_false_iff_ne.mpr c2
  have c2b1 : ((l0.length : Int) != 0) = true := bne_iff_ne.mpr c2
  have c2b2 : ¬ (l0 = []) := fun h_ => c2 (by rw [h_]; rfl)
  obtain ⟨ji3, hji3⟩ : ∃ j_ : Int, (wrap64 ((l0.length : Int) - 1)) = j_ := ⟨_, rfl⟩
  replace H : (if 0 ≤ (ji3) then (if (ji3) < (l0.length : Int) then ((spec_l1Ends.f (rdOf ByteArray.empty l0 (ji3))).bind fun t259 => (some t259)) else (none)) else (none)) = some r := by first | (rw [hji3] at H; exact H) | (simp only [hji3] at H ⊢; exact H)
  have hji3w : (IntKind.i64.wrap ((l0.length : Int) - 1)) = ji3 := (i64_w _).trans hji3
  by_cases c4 : 0 ≤ (ji3)
  ·rw [if_pos c4] at H
   have c4b0 : decide (0 ≤ (ji3)) = true := decide_eq_true c4
   clear c4
   by_cases c5 : (ji3) < (l0.length : Int)
   ·rw [if_pos c5] at H
    have c5b0 : decide ((ji3) < (l0.length : Int)) = true := decide_eq_true c5
    clear c5
    replace H := Option.bind_eq_some_iff.mp H
    obtain ⟨t259, A60, H⟩ := H
    replace H : (some t259) = some r := H
    have A6 := am A60
    clear A60
    obtain rfl := Option.some.inj H
    have p258 : 0 ≤ ((ji3) : Int) := oa
    have q258 : (ji3) < (l0.length : Int) := oa
    obtain ⟨ad258, e258, hx258_0⟩ := Kd.at_string HR0.out (ji3) p258 q258
    cases e258
    replace p258 := eq_true p258
    replace q258 := eq_true q258
    go_enter Try.func152, Try.ntmps152
    go_wp2_with (first | (go_at_call 127; (with_reducible refine (spec_l1Ends.calls (rdOf ByteArray.empty l0 (ji3)) t259 _ A6.out).mono ?_); rintro e w' ⟨rfl, ⟨nd, rfl⟩⟩))
    go_ret
    exact ⟨by first | rfl | (simp; done) | (simp only [← hji3] <;> (first | rfl | simp)) | (simp [*]; done), by repeat (first | exact Drawn0.refl _ | apply Drawn0.step)⟩
   ·rw [if_neg c5] at H
    exact absurd H (by simp)
  ·rw [if_neg c4] at H
   exact absurd H (by simp)
end Go.Proofs.Ytmcldkobejhaeaa.My
/- Written by this session's program (wip/gen): a plain function with the same answers as the Go function, and the proof that the Go code comes to them. Asked: that the plain function has an answer. -/
namespace Go.Proofs.Ytmcldkobejhaeaa.My
open Go.RowKit Go.Proofs.YtmcldkobejhaeaaW.PrintWords Go.Proofs.YtmcldkobejhaeaaW.PrintLast Go.Proofs.YtmcldkobejhaeaaW.PrintMore
attribute [local go_sem] max2_int min2_int max_two min_two max_three min_three max_four min_four
set_option linter.unusedVariables false
set_option linter.unusedSimpArgs false
mutual
def spec_l1Cur_hunks.l0 : Nat → List ByteArray → List (S106) → Int → List Int → Int → Int → Option ((List (S106)) × Int × Int)
 | 0, _, _, _, _, _, _ => none
 | k + 1, x1, x5, x6, x1000, x1001, x1002 => if x6 ≤ (x1.length : Int) then (spec_l1Cur_hunks.j1 k x1 x5 x6 (decide ((x5.length : Int) < 6)) x1000 x1001 x1002) else (spec_l1Cur_hunks.j1 k x1 x5 x6 false x1000 x1001 x1002)
def spec_l1Cur_hunks.j1 : Nat → List ByteArray → List (S106) → Int → Bool → List Int → Int → Int → Option ((List (S106)) × Int × Int)
 | 0, _, _, _, _, _, _, _ => none
 | k + 1, x1, x5, x6, x19, x1000, x1001, x1002 => if x19 = true then ((spec_l1Least.f 3 (wrap64 ((x1.length : Int) - x6))).bind fun t551 => ((spec_l1Cur_pick.f x1000 x1001 x1002 (wrap64 (t551 + 1))).bind fun bt552 => ((spec_l1Cur_pick.f x1000 bt552.2.1 bt552.2.2 3).bind fun bt556 => (spec_l1Cur_hunks.l1 k x1 x5 x6 bt556.1 x1000 bt556.2.1 bt556.2.2 x6 bt552.1 ([] : List ByteArray))))) else (some (x5, x1001, x1002))
def spec_l1Cur_hunks.l1 : Nat → List ByteArray → List (S106) → Int → Int → List Int → Int → Int → Int → Int → List ByteArray → Option ((List (S106)) × Int × Int)
 | 0, _, _, _, _, _, _, _, _, _, _ => none
 | k + 1, x1, x5, x6, x8, x1000, x1001, x1002, x556000, x556001, x556002 => if x8 > 0 then ((spec_l1Cur_line.f x1000 x1001 x1002).bind fun bt559 => (if bt559.1.size + 1 ≤ 9223372036854775807 then (if x556002.length < 8796093022208 then (spec_l1Cur_hunks.l1 k x1 x5 x6 (wrap64 (x8 - 1)) x1000 bt559.2.1 bt559.2.2 x556000 x556001 (x556002 ++ [bt559.1 ++ (⟨#[10]⟩ : ByteArray)])) else (none)) else (none))) else (if (wrap64 (x556001 + (x556002.length : Int))) > 0 then (if (wrap64 (x6 + x556001)) < (x1.length : Int) then (if x5.length < 3518437208883 then ((spec_l1Cur_pick.f x1000 x1001 x1002 3).bind fun bt568 => (spec_l1Cur_hunks.l0 k x1 (x5 ++ [(⟨x556000, x556001, x556002⟩ : S106)]) (wrap64 (x6 + (wrap64 ((wrap64 (x556001 + 1)) + bt568.1)))) x1000 bt568.2.1 bt568.2.2)) else (none)) else ((spec_l1Whole.f x1).bind fun t571 => (if t571 = true then (if x5.length < 3518437208883 then ((spec_l1Cur_pick.f x1000 x1001 x1002 3).bind fun bt575 => (spec_l1Cur_hunks.l0 k x1 (x5 ++ [(⟨x556000, x556001, x556002⟩ : S106)]) (wrap64 (x6 + (wrap64 ((wrap64 (x556001 + 1)) + bt575.1)))) x1000 bt575.2.1 bt575.2.2)) else (none)) else (if x556001 > 0 then (if x5.length < 3518437208883 then ((spec_l1Cur_pick.f x1000 x1001 x1002 3).bind fun bt581 => (spec_l1Cur_hunks.l0 k x1 (x5 ++ [(⟨x556000, x556001, x556002⟩ : S106)]) (wrap64 (x6 + (wrap64 ((wrap64 (x556001 + 1)) + bt581.1)))) x1000 bt581.2.1 bt581.2.2)) else (none)) else ((spec_l1Cur_pick.f x1000 x1001 x1002 3).bind fun bt584 => (spec_l1Cur_hunks.l0 k x1 x5 (wrap64 (x6 + (wrap64 ((wrap64 (x556001 + 1)) + bt584.1)))) x1000 bt584.2.1 bt584.2.2)))))) else ((spec_l1Cur_pick.f x1000 x1001 x1002 3).bind fun bt587 => (spec_l1Cur_hunks.l0 k x1 x5 (wrap64 (x6 + (wrap64 ((wrap64 (x556001 + 1)) + bt587.1)))) x1000 bt587.2.1 bt587.2.2)))
end
def spec_l1Cur_hunks.f (k : Nat) (s0_0 : List Int) (s0_1 : Int) (s0_2 : Int) (l1 : List ByteArray) : Option ((List (S106)) × Int × Int) := (spec_l1Cur_pick.f s0_0 s0_1 s0_2 3).bind fun bt548 => (spec_l1Cur_hunks.l0 k l1 ([] : List (S106)) bt548.1 s0_0 bt548.2.1 bt548.2.2)
def spec_l1Cur_hunks.T8 : Bool × List (List Nat × List Nat) := (true, [([], []), ([0], [0]), ([], []), ([2], [2]), ([3], [3]), ([4], [4]), ([1, 5, 3], [1, 5]), ([0, 1, 2, 3, 4, 5, 6], []), ([7, 6, 6, 0, 1, 2, 3, 4, 5, 6], [6, 7])])
def spec_l1Cur_hunks.B8 : List Nat := [0, 1, 0, 4, 12, 28, 63, 127, 255]
theorem spec_l1Cur_hunks.tab8 : rtab .any (opsOf Try.f153 8) = spec_l1Cur_hunks.T8 := by kernel_rfl
theorem spec_l1Cur_hunks.bits8 : waitsOk spec_l1Cur_hunks.T8.2 spec_l1Cur_hunks.B8 = true := by kernel_rfl
def spec_l1Cur_hunks.T11 : Bool × List (List Nat × List Nat) := (true, [([], []), ([], []), ([1], [1]), ([2], [2]), ([], []), ([4], [4]), ([3, 5], [3, 5]), ([0, 6], [0, 6]), ([7, 5, 0, 1, 2, 3, 4, 5, 6, 7], [0, 7])])
def spec_l1Cur_hunks.B11 : List Nat := [0, 0, 2, 6, 0, 16, 62, 127, 255]
theorem spec_l1Cur_hunks.tab11 : rtab .any (opsOf Try.f153 11) = spec_l1Cur_hunks.T11 := by kernel_rfl
theorem spec_l1Cur_hunks.bits11 : waitsOk spec_l1Cur_hunks.T11.2 spec_l1Cur_hunks.B11 = true := by kernel_rfl
set_option maxHeartbeats 8000000 in
set_option maxRecDepth 100000 in
theorem spec_l1Cur_hunks.calls (k : Nat) (g : Nat) (s0_0 : List Int) (s0_1 : Int) (s0_2 : Int) (A1 : Option Addr) (c1 : Nat) (l1 : List ByteArray) (r1 : List (S106)) (r2 : Int) (r3 : Int) (w0 w : World) (hI : IsS87 w0 w g s0_0 s0_1 s0_2) (hB : Below w0.heap.size w0 w) (hr1 : Kd.C Kd.string w A1 l1.length l1) (hc1 : l1.length ≤ c1) (hf1 : ∀ ad, A1 = some ad → 0 < l1.length → ad.block ≠ g) (h : spec_l1Cur_hunks.f k s0_0 s0_1 s0_2 l1 = some (r1, r2, r3)) :
  Calls Try.prog 153 #[.pointer (some ⟨g, 0, none⟩), .slice A1 l1.length c1] w fun e w' => ∃ v0_ : Value, e = .returned (v0_) ∧ Kd.S k106 106 w' w.heap.size (fun _ => True) v0_ r1 ∧ IsS87 w0 w' g s0_0 r2 r3 ∧ Below w0.heap.size w0 w' ∧ KeepBut w w' g none := by
 have hu106 := Try.underlying106
 have HR1 := am hr1
 have HC1 := am hc1
 clear hr1 hc1
 have HI0 := am hI
 have HK := am (KeepBut.refl w g none)
 have HL := am hB.size
 clear hI
 have HW0 := am hB.size
 have HB := am hB
 clear hB
 have H : ((spec_l1Cur_pick.f s0_0 s0_1 s0_2 3).bind fun bt548 => (spec_l1Cur_hunks.l0 k l1 ([] : List (S106)) bt548.1 s0_0 bt548.2.1 bt548.2.2)) = some (r1, r2, r3) := h
 clear h
 replace H := Option.bind_eq_some_iff.mp H
 obtain ⟨⟨t548, t549, t550⟩, A30, H⟩ := H
 replace H : (spec_l1Cur_hunks.l0 k l1 ([] : List (S106)) t548 s0_0 t549 t550) = some (r1, r2, r3) := H
 have A3 := am A30
 clear A30
 have H' := am H
 clear H
 go_enter Try.func153, Try.ntmps153
 go_wp2_with (first | ((with_reducible refine gateC (f := 62) rfl ?_); refine goesL_ (some 10) rfl rfl Try.func62 (by kernel_rfl) rfl #[.pointer (some ⟨g, 0, none⟩), .int .i64 3] rfl zm ?_; (with_reducible refine (spec_l1Cur_pick.calls g s0_0 s0_1 s0_2 3 t548 t549 t550 w0 _ ?side1 ?side2 A3.out).mono ?_); (case side1 => exact zi); (case side2 => exact zj); rintro e w4 ⟨rfl, hi, hb, hk⟩; refine ⟨_, rfl, ?_⟩; have n0_ := am (KeepBut.trans zh hk (.inl rfl)); have n1_ := am (hb); have n2_ := am (hi); clear HK; clear HB; clear HI0; have HK := n0_; have HB := n1_; have HI0 := n2_; clear n0_ n1_ n2_; (try clear hb); (try clear hk); (try clear hi)))
 go_loopg [5, 6] k (fun kq v5 v6 w' => ∃ (x5_1 : List (S106)) (x6_1 : Int) (x1001_1 : Int) (x1002_1 : Int), v6 = .int .i64 x6_1 ∧ Aside0 (spec_l1Cur_hunks.l0 kq l1 x5_1 x6_1 s0_0 x1001_1 x1002_1 = some (r1, r2, r3)) ∧ Aside0 (kq ≤ k) ∧ Aside0 (Kd.S k106 106 w' w.heap.size (fun _ => True) v5 x5_1) ∧ Aside0 (IsS87 w0 w' g s0_0 x1001_1 x1002_1) ∧ Aside0 (KeepBut w w' g none) ∧ Aside0 (Below w0.heap.size w0 w'))
 case atStart => exact ⟨(([] : List (S106))), (t548), (t549), (t550), zf, H', ⟨Nat.le_refl _⟩, ⟨by first | exact Kd.S_nil _ _ _ _ _ | exact Kd.Q_nil _ _ _ _ _ | exact Kd.R_nil _ _ _ _ _⟩, ⟨by repeat (first | (with_reducible first | exact HI0.out | apply IsS87.alloc | apply IsS87.drewN | apply IsS87.drew | apply IsS87.set_1 | apply IsS87.set_2) | exact HI0.out)⟩, ⟨by repeat (first | (with_reducible first | exact HK.out | apply KeepBut.set_ | apply keep_drewN | apply keep_drew | apply keep_alloc) | exact HK.out)⟩, ⟨by repeat (first | (with_reducible first | exact HB.out | apply below_alloc | apply pw_below_drewN | apply below_drew1 | refine below_set ?_ (IsS87.ge HI0.out)) | exact HB.out)⟩⟩
 case round =>
  clear H'
  try clear c1
  try clear p2
  obtain ⟨x5_1, x6_1, x1001_1, x1002_1, rfl, HA, HK1, HO_5, HI0, HK, HB⟩ := hrel
  cases gk with
  | zero => exact absurd HA.out (by simp [spec_l1Cur_hunks.l0])
  | succ k1 =>
   have H := HA.out
   clear HA
   simp only [spec_l1Cur_hunks.l0] at H
   have HC5 := am H
   clear H
   go_upto_region 3 with (fail)
   go_cut [19] (fun v19 wc => ∃ (kq : Nat) (x19_4 : Bool), v19 = .bool x19_4 ∧ Aside0 (spec_l1Cur_hunks.j1 kq l1 x5_1 x6_1 x19_4 s0_0 x1001_1 x1002_1 = some (r1, r2, r3)) ∧ Aside0 (kq ≤ k1) ∧ Aside0 (Kd.S k106 106 wc w.heap.size (fun _ => True) u5 x5_1) ∧ Aside0 (IsS87 w0 wc g s0_0 x1001_1 x1002_1) ∧ Aside0 (KeepBut w wc g none) ∧ Aside0 (Below w0.heap.size w0 wc))
   case first =>
    have H := HC5.out
    clear HC5
    by_cases c6 : x6_1 ≤ (l1.length : Int)
    ·rw [if_pos c6] at H
     have c6b0 : decide (x6_1 ≤ (l1.length : Int)) = true := decide_eq_true c6
     clear c6
     (first | rw [c6b0] | (simp only [i64_w, i32_w]; rw [c6b0]) | skip)
     have H' := am H
     clear H
     obtain ⟨Ao7, co7, eo7⟩ := Kd.S_slice HO_5.out
     subst eo7
     go_wp2
     go_meet
     case rel => exact ⟨_, (decide ((x5_1.length : Int) < 6)), zf, H', ⟨by have := HK1.out; first | omega | exact Nat.le_refl _⟩, ⟨by (with_reducible repeat (first | apply Kd.S_alloc | apply Kd.S_drewN | apply Kd.S_drew)); exact HO_5.out⟩, ⟨by repeat (first | (with_reducible first | exact HI0.out | apply IsS87.alloc | apply IsS87.drewN | apply IsS87.drew | apply IsS87.set_1 | apply IsS87.set_2) | exact HI0.out)⟩, ⟨by repeat (first | (with_reducible first | exact HK.out | apply KeepBut.set_ | apply keep_drewN | apply keep_drew | apply keep_alloc) | exact HK.out)⟩, ⟨by repeat (first | (with_reducible first | exact HB.out | apply below_alloc | apply pw_below_drewN | apply below_drew1 | refine below_set ?_ (IsS87.ge HI0.out)) | exact HB.out)⟩⟩
    ·rw [if_neg c6] at H
     have c6b0 : decide (x6_1 ≤ (l1.length : Int)) = false := decide_eq_false c6
     clear c6
     (first | rw [c6b0] | (simp only [i64_w, i32_w]; rw [c6b0]) | skip)
     have H' := am H
     clear H
     go_wp2
     go_meet
     case rel => exact ⟨_, (false), zf, H', ⟨by have := HK1.out; first | omega | exact Nat.le_refl _⟩, ⟨by (with_reducible repeat (first | apply Kd.S_alloc | apply Kd.S_drewN | apply Kd.S_drew)); exact HO_5.out⟩, ⟨by repeat (first | (with_reducible first | exact HI0.out | apply IsS87.alloc | apply IsS87.drewN | apply IsS87.drew | apply IsS87.set_1 | apply IsS87.set_2) | exact HI0.out)⟩, ⟨by repeat (first | (with_reducible first | exact HK.out | apply KeepBut.set_ | apply keep_drewN | apply keep_drew | apply keep_alloc) | exact HK.out)⟩, ⟨by repeat (first | (with_reducible first | exact HB.out | apply below_alloc | apply pw_below_drewN | apply below_drew1 | refine below_set ?_ (IsS87.ge HI0.out)) | exact HB.out)⟩⟩
   case rest =>
    clear HC5
    try clear c1
    try clear p2
    try clear c6
    try clear c6b0
    try clear p2
    obtain ⟨kq, x19_4, rfl, HA, HJ4, HO_5, HI0, HK, HB⟩ := hcut
    cases kq with
    | zero => exact absurd HA.out (by simp [spec_l1Cur_hunks.j1])
    | succ kj4 =>
     have H := HA.out
     clear HA
     simp only [spec_l1Cur_hunks.j1] at H
     by_cases c8 : x19_4 = true
     ·subst c8
      have H1 : ((spec_l1Least.f 3 (wrap64 ((l1.length : Int) - x6_1))).bind fun t551 => ((spec_l1Cur_pick.f s0_0 x1001_1 x1002_1 (wrap64 (t551 + 1))).bind fun bt552 => ((spec_l1Cur_pick.f s0_0 bt552.2.1 bt552.2.2 3).bind fun bt556 => (spec_l1Cur_hunks.l1 kj4 l1 x5_1 x6_1 bt556.1 s0_0 bt556.2.1 bt556.2.2 x6_1 bt552.1 ([] : List ByteArray))))) = some (r1, r2, r3) := by rw [if_pos rfl] at H; exact H
      clear H
      have H := H1
      clear H1
      replace H := Option.bind_eq_some_iff.mp H
      obtain ⟨t551, A90, H⟩ := H
      replace H : ((spec_l1Cur_pick.f s0_0 x1001_1 x1002_1 (wrap64 (t551 + 1))).bind fun bt552 => ((spec_l1Cur_pick.f s0_0 bt552.2.1 bt552.2.2 3).bind fun bt556 => (spec_l1Cur_hunks.l1 kj4 l1 x5_1 x6_1 bt556.1 s0_0 bt556.2.1 bt556.2.2 x6_1 bt552.1 ([] : List ByteArray)))) = some (r1, r2, r3) := H
      have A9 := am A90
      clear A90
      replace H := Option.bind_eq_some_iff.mp H
      obtain ⟨⟨t552, t553, t554⟩, A100, H⟩ := H
      replace H : ((spec_l1Cur_pick.f s0_0 t553 t554 3).bind fun bt556 => (spec_l1Cur_hunks.l1 kj4 l1 x5_1 x6_1 bt556.1 s0_0 bt556.2.1 bt556.2.2 x6_1 t552 ([] : List ByteArray))) = some (r1, r2, r3) := H
      have A10 := am A100
      clear A100
      replace H := Option.bind_eq_some_iff.mp H
      obtain ⟨⟨t556, t557, t558⟩, A110, H⟩ := H
      replace H : (spec_l1Cur_hunks.l1 kj4 l1 x5_1 x6_1 t556 s0_0 t557 t558 x6_1 t552 ([] : List ByteArray)) = some (r1, r2, r3) := H
      have A11 := am A110
      clear A110
      have H' := am H
      clear H
      go_wp2_with (first | ((with_reducible refine gateC (f := 155) rfl ?_); refine goesL_ (some 26) rfl rfl Try.func155 (by kernel_rfl) rfl #[.int .i64 3, .int .i64 (wrap64 ((l1.length : Int) - x6_1))] rfl zm ?_; (with_reducible refine (spec_l1Least.calls 3 (wrap64 ((l1.length : Int) - x6_1)) t551 _ A9.out).mono ?_); rintro e w' ⟨rfl, ⟨nd, rfl⟩⟩; refine ⟨_, rfl, ?_⟩; (try (rw [drewN_self wc]; generalize hq_ : World.drewN wc _ = wc; have n0_ : Aside0 (Kd.S k106 106 wc w.heap.size (fun _ => True) u5 x5_1) := ⟨by rw [← hq_]; exact (zs HO_5.out)⟩; have n1_ : Aside0 (IsS87 w0 wc g s0_0 x1001_1 x1002_1) := ⟨by rw [← hq_]; exact zi⟩; have n2_ : Aside0 (KeepBut w wc g none) := ⟨by rw [← hq_]; exact zh⟩; have n3_ : Aside0 (Below w0.heap.size w0 wc) := ⟨by rw [← hq_]; exact zj⟩; clear HO_5 HI0 HK HB hq_; have HO_5 := n0_; have HI0 := n1_; have HK := n2_; have HB := n3_; clear n0_ n1_ n2_ n3_))) | ((with_reducible refine gateC (f := 62) rfl ?_); refine goesL_ (some 28) rfl rfl Try.func62 (by kernel_rfl) rfl #[.pointer (some ⟨g, 0, none⟩), .int .i64 (wrap64 (t551 + 1))] rfl zm ?_; (with_reducible refine (spec_l1Cur_pick.calls g s0_0 x1001_1 x1002_1 (wrap64 (t551 + 1)) t552 t553 t554 w0 _ ?side1 ?side2 A10.out).mono ?_); (case side1 => exact zi); (case side2 => exact zj); rintro e w12 ⟨rfl, hi, hb, hk⟩; refine ⟨_, rfl, ?_⟩; have n0_ := am (Kd.S_mono (Kd.S_keep (IsS87.apartS (show IsS87 w0 _ g s0_0 x1001_1 x1002_1 from zi) (zs HO_5.out) (by decide)) hk (fun _ h => h.2)) (fun _ h => h.1)); have n1_ := am (KeepBut.trans zh hk (.inl rfl)); have n2_ := am (hb); have n3_ := am (hi); clear HO_5; clear HK; clear HB; clear HI0; have HO_5 := n0_; have HK := n1_; have HB := n2_; have HI0 := n3_; clear n0_ n1_ n2_ n3_; (try clear hb); (try clear hk); (try clear hi)) | ((with_reducible refine gate_dst (N := 7) rfl ?_); (try (refine gate_guard (by rfl) ?_; dsimp only)); refine box_event ?hg (N := 7) ?hd (cs := #[.int .i64 0, .int .i64 0, .slice none 0 0]) (t := 106) ?hr ?_; (case hd => rfl); (case hg => rfl); (case hr => first | (go_simp; done) | (go_simp; rfl)); intro gb555 hg w13 hbox hb; have n0_ := am (Kd.S_below (Kd.S_elderB (zs HO_5.out) gb555 (Nat.le_of_eq hg.symm)) hb); have n1_ := am (IsS87.below zi hb); have n2_ := am (KeepBut.trans zh (KeepBut.of_below hb g none) (.inl rfl)); have n3_ := am (below_step zj hb); have n4_ := am (hbox); have n5_ := am ((by rw [hg]; exact (keep_size (w := w) (g := g) (row := none) zh) : w.heap.size ≤ gb555)); have n6_ := am ((Nat.le_trans HW0.out (by rw [hg]; exact (keep_size (w := w) (g := g) (row := none) zh) : w.heap.size ≤ gb555) : w0.heap.size ≤ gb555)); have n7_ := am ((by rw [hg]; exact Nat.ne_of_lt (IsS87.lt (show IsS87 w0 _ g s0_0 t553 t554 from zi)) : g ≠ gb555)); have n8_ := am ((by rw [hg]; exact Nat.ne_of_gt (IsS87.lt (show IsS87 w0 _ g s0_0 t553 t554 from zi)) : gb555 ≠ g)); clear HO_5; clear HI0; clear HK; clear HB; have HO_5 := n0_; have HI0 := n1_; have HK := n2_; have HB := n3_; have BK555 := n4_; have GW555 := n5_; have GE555 := n6_; have NB0_555 := n7_; have NB555_0 := n8_; clear n0_ n1_ n2_ n3_ n4_ n5_ n6_ n7_ n8_; clear hb hbox hg; have hnb14 := NB555_0.out; have hnc14 := NB0_555.out; have hcz15_0 : w13.cell? ⟨gb555, 0, none⟩ = some (.int .i64 0) := (blk_cell BK555.out 0).trans rfl; have hcz15_1 : w13.cell? ⟨gb555, 1, none⟩ = some (.int .i64 0) := (blk_cell BK555.out 1).trans rfl; have hcz15_2 : w13.cell? ⟨gb555, 2, none⟩ = some (.slice none 0 0) := (blk_cell BK555.out 2).trans rfl; have hfz15_0 := blk_frozen BK555.out 0; have hfz15_1 := blk_frozen BK555.out 1; have hfz15_2 := blk_frozen BK555.out 2) | ((with_reducible refine gateC (f := 62) rfl ?_); refine goesL_ (some 31) rfl rfl Try.func62 (by kernel_rfl) rfl #[.pointer (some ⟨g, 0, none⟩), .int .i64 3] rfl zm ?_; (with_reducible refine (spec_l1Cur_pick.calls g s0_0 t553 t554 3 t556 t557 t558 w0 _ ?side1 ?side2 A11.out).mono ?_); (case side1 => repeat (first | (with_reducible first | exact HI0.out | apply IsS87.alloc | apply IsS87.drewN | apply IsS87.drew | apply IsS87.set_1 | apply IsS87.set_2 | refine IsS87.far ?_ NB0_555.out _) | exact HI0.out)); (case side2 => repeat (first | (with_reducible first | exact HB.out | apply below_alloc | apply pw_below_drewN | apply below_drew1 | refine below_set ?_ (IsS87.ge HI0.out) | refine below_set ?_ GE555.out) | exact HB.out)); rintro e w16 ⟨rfl, hi, hb, hk⟩; refine ⟨_, rfl, ?_⟩; have n0_ := am (Kd.S_mono (Kd.S_keep (IsS87.apartS (show IsS87 w0 _ g s0_0 t553 t554 from by repeat (first | (with_reducible first | exact HI0.out | apply IsS87.alloc | apply IsS87.drewN | apply IsS87.drew | apply IsS87.set_1 | apply IsS87.set_2 | refine IsS87.far ?_ NB0_555.out _) | exact HI0.out)) (by (with_reducible repeat (first | apply Kd.S_alloc | apply Kd.S_drewN | apply Kd.S_drew)); exact (Kd.S_mono (Kd.S_far (p := ⟨gb555, 2, none⟩) (Kd.S_far (p := ⟨gb555, 1, none⟩) (Kd.S_far (p := ⟨gb555, 0, none⟩) (Kd.S_mono HO_5.out (fun k_ hk => (⟨hk, hk.2⟩ : _ ∧ k_ ≠ gb555))) (fun _ hk => hk.2) (.int .i64 x6_1)) (fun _ hk => hk.2) (.int .i64 t552)) (fun _ hk => hk.2) (.slice none 0 0)) (fun _ h_ => h_.1))) (by decide)) hk (fun _ h => h.2)) (fun _ h => h.1)); have n1_ := am (KeepBut.blk hk (g' := gb555) (o := .cells #[.int .i64 x6_1, .int .i64 t552, .slice none 0 0] 106 (0, 0)) (by (with_reducible repeat (first | refine blk_drewN ?_ _ | refine blk_drew ?_ | refine blk_alloc ?_ _)); refine blk_put (cs := #[.int .i64 x6_1, .int .i64 t552, .slice none 0 0]) ?_ 2 _ rfl; (with_reducible repeat (first | refine blk_drewN ?_ _ | refine blk_drew ?_ | refine blk_alloc ?_ _)); refine blk_put (cs := #[.int .i64 x6_1, .int .i64 0, .slice none 0 0]) ?_ 1 _ rfl; (with_reducible repeat (first | refine blk_drewN ?_ _ | refine blk_drew ?_ | refine blk_alloc ?_ _)); refine blk_put (cs := #[.int .i64 0, .int .i64 0, .slice none 0 0]) ?_ 0 _ rfl; (with_reducible repeat (first | refine blk_drewN ?_ _ | refine blk_drew ?_ | refine blk_alloc ?_ _)); exact BK555.out) NB555_0.out (by simp)); have n2_ := am (KeepBut.trans (by repeat (first | (with_reducible first | exact HK.out | apply KeepBut.set_ | apply keep_drewN | apply keep_drew | apply keep_alloc | refine keep_far ?_ GW555.out _) | exact HK.out)) hk (.inl rfl)); have n3_ := am (hb); have n4_ := am (hi); clear HO_5; clear BK555; clear HK; clear HB; clear HI0; have HO_5 := n0_; have BK555 := n1_; have HK := n2_; have HB := n3_; have HI0 := n4_; clear n0_ n1_ n2_ n3_ n4_; (try clear hb); (try clear hk); (try clear hi)))
      go_loopg [8] kj4 (fun kq v8 w' => ∃ (x8_3 : Int) (x1001_3 : Int) (x1002_3 : Int) (x556002_3 : List ByteArray) (u556002 : Value), v8 = .int .i64 x8_3 ∧ Aside0 (spec_l1Cur_hunks.l1 kq l1 x5_1 x6_1 x8_3 s0_0 x1001_3 x1002_3 x6_1 t552 x556002_3 = some (r1, r2, r3)) ∧ Aside0 (kq ≤ kj4) ∧ Aside0 (Kd.S k106 106 w' w.heap.size (fun k_ => some k_ ≠ (u556002 : Value).ownBlock ∧ k_ ≠ gb555) u5 x5_1) ∧ Aside0 (Kd.R Kd.string 9 w' w.heap.size (fun _ => True) u556002 x556002_3) ∧ Aside0 (w'.heap[gb555]? = some (.cells #[.int .i64 x6_1, .int .i64 t552, u556002] 106 (0, 0))) ∧ Aside0 (IsS87 w0 w' g s0_0 x1001_3 x1002_3) ∧ Aside0 (KeepBut w w' g none) ∧ Aside0 (Below w0.heap.size w0 w'))
      case atStart => exact ⟨(t556), (t557), (t558), (([] : List ByteArray)), (.slice none 0 0), zf, H', ⟨Nat.le_refl _⟩, ⟨by (with_reducible repeat (first | apply Kd.S_alloc | apply Kd.S_drewN | apply Kd.S_drew)); exact Kd.S_mono HO_5.out (fun _ hk => ⟨(by simp [Value.ownBlock]), hk.2⟩)⟩, ⟨by first | exact Kd.R_nil _ _ _ _ _ | exact Kd.Q_nil _ _ _ _ _ | exact Kd.S_nil _ _ _ _ _⟩, ⟨by (with_reducible repeat (first | refine blk_drewN ?_ _ | refine blk_drew ?_ | refine blk_alloc ?_ _)); exact BK555.out⟩, ⟨by repeat (first | (with_reducible first | exact HI0.out | apply IsS87.alloc | apply IsS87.drewN | apply IsS87.drew | apply IsS87.set_1 | apply IsS87.set_2 | refine IsS87.far ?_ NB0_555.out _) | exact HI0.out)⟩, ⟨by repeat (first | (with_reducible first | exact HK.out | apply KeepBut.set_ | apply keep_drewN | apply keep_drew | apply keep_alloc | refine keep_far ?_ GW555.out _) | exact HK.out)⟩, ⟨by repeat (first | (with_reducible first | exact HB.out | apply below_alloc | apply pw_below_drewN | apply below_drew1 | refine below_set ?_ (IsS87.ge HI0.out) | refine below_set ?_ GE555.out) | exact HB.out)⟩⟩
      case round =>
       clear H'
       try clear c1
       try clear p2
       try clear c6
       try clear c6b0
       try clear p6
       try clear c8
       try clear c14
       try clear c15
       try clear hcz15_0
       try clear hcz15_1
       try clear hcz15_2
       try clear hfz15_0
       try clear hfz15_1
       try clear hfz15_2
       try clear p2
       obtain ⟨x8_3, x1001_3, x1002_3, x556002_3, u556002, rfl, HA, HK3, HO_5, HO_556002, BK555, HI0, HK, HB⟩ := hrel
       cases gk with
       | zero => exact absurd HA.out (by simp [spec_l1Cur_hunks.l1])
       | succ k3 =>
        have H := HA.out
        clear HA
        simp only [spec_l1Cur_hunks.l1] at H
        by_cases c17 : x8_3 > 0
        ·rw [if_pos c17] at H
         have c17b0 : decide (0 < x8_3) = true := decide_eq_true c17
         clear c17
         replace H := Option.bind_eq_some_iff.mp H
         obtain ⟨⟨t559, t560, t561⟩, A180, H⟩ := H
         replace H : (if t559.size + 1 ≤ 9223372036854775807 then (if x556002_3.length < 8796093022208 then (spec_l1Cur_hunks.l1 k3 l1 x5_1 x6_1 (wrap64 (x8_3 - 1)) s0_0 t560 t561 x6_1 t552 (x556002_3 ++ [t559 ++ (⟨#[10]⟩ : ByteArray)])) else (none)) else (none)) = some (r1, r2, r3) := H
         have A18 := am A180
         clear A180
         by_cases c19 : t559.size + 1 ≤ 9223372036854775807
         ·rw [if_pos c19] at H
          have c19b0 := eq_true c19
          have c19b1 : decide (t559.size + 1 ≤ 9223372036854775807) = true := decide_eq_true c19
          try have c19b2 : (9223372036854775807 < t559.size + 1) = False := eq_false (Nat.not_lt.2 c19)
          by_cases c20 : x556002_3.length < 8796093022208
          ·rw [if_pos c20] at H
           have LMc20 := am c20
           clear c20
           obtain ⟨y562, hy562⟩ : ∃ y_ : List ByteArray, y_ = (x556002_3 ++ [t559 ++ (⟨#[10]⟩ : ByteArray)]) := ⟨_, rfl⟩
           replace H : (spec_l1Cur_hunks.l1 k3 l1 x5_1 x6_1 (wrap64 (x8_3 - 1)) s0_0 t560 t561 x6_1 t552 y562) = some (r1, r2, r3) := by first | (rw [hy562]; with_reducible exact H) | (have H2_ := (Option.bind_some _ _).symm.trans H; rw [hy562]; with_reducible exact H2_) | (have H2_ := (Option.bind_some _ _).symm.trans H; with_reducible exact H2_) | with_reducible exact H | (rw [hy562]; exact H) | exact H
           have Ny562 := am hy562
           clear hy562
           have H' := am H
           clear H
           try go_wp2
           have n0_ := am (Kd.S_drew HO_5.out)
           have n1_ := am (Kd.R_drew HO_556002.out)
           have n2_ := am (blk_drew BK555.out)
           have n3_ := am (IsS87.drew HI0.out)
           have n4_ := am (keep_drew HK.out)
           have n5_ := am (below_drew1 HB.out)
           clear HO_5
           clear HO_556002
           clear BK555
           clear HI0
           clear HK
           clear HB
           have HO_5 := n0_
           have HO_556002 := n1_
           have BK555 := n2_
           have HI0 := n3_
           have HK := n4_
           have HB := n5_
           clear n0_ n1_ n2_ n3_ n4_ n5_
           refine start_ (n := 9) (S := fun w' => w'.cell? ⟨gb555, 0, none⟩ = some (.int .i64 x6_1) ∧ w'.cell? ⟨gb555, 1, none⟩ = some (.int .i64 t552) ∧ w'.cell? ⟨gb555, 2, none⟩ = some (u556002)) (ds := [8]) #[O,O,O,O,O,O,O,O,O] (by kernel_rfl) rfl rfl ⟨(blk_cell BK555.out 0).trans rfl, (blk_cell BK555.out 1).trans rfl, (blk_cell BK555.out 2).trans rfl⟩ (fun hHeld => ?_); refine with_tabW spec_l1Cur_hunks.tab8 spec_l1Cur_hunks.bits8 (fun HT_ HW_ => ?_)
           generalize wr.drew = w21 at HO_5 HO_556002 BK555 HI0 HK HB hHeld ⊢
           refine pure_ (i := 0) (N := some 36) (v := ?_) (a' := ?_) #[Y,O,O,O,O,O,O,O,O] rfl rfl zx (fun _ _ _ h => h) (Or.inl ⟨by rfl, ?_⟩) ?_ ?_
           rotate_left; (intro w'; go_simp; with_reducible rfl); rotate_left; (simp only [Act.put,qa,qb,qc,i64_w,i32_w]; rfl)
           refine pure_ (i := 2) (N := some 38) (v := ?_) (a' := ?_) #[Y,O,Y,O,O,O,O,O,O] rfl rfl zx (fun _ _ _ h => h) (Or.inl ⟨by rfl, ?_⟩) ?_ ?_
           rotate_left; (intro w'; go_simp; with_reducible rfl); rotate_left; (simp only [Act.put,qa,qb,qc,i64_w,i32_w]; rfl)
           refine take_ (i := 1) (N := some 37) (v := ?_) (a' := ?_) #[Y,Y,Y,O,O,O,O,O,O] rfl rfl (take_ofW HT_.out HW_.out (by kernel_rfl)) (fun _ _ _ h => h) (Or.inl ⟨by rfl, ?_⟩) hHeld ?_ ?_
           rotate_left; (rintro w' ⟨s0, s1, s2⟩; go_simp; with_reducible rfl); rotate_left; (simp only [Act.put,qa,qb,qc,i64_w,i32_w]; rfl)
           refine one_ (i := 3) (N := some 39) #[Y,Y,Y,Y,O,O,O,O,O] rfl rfl (one_of HT_.out (by kernel_rfl)) (by decide) (fun K hK => ?_)
           refine goes_ Try.func71 (by kernel_rfl) rfl #[.pointer (some ⟨g, 0, none⟩)] (by rfl) rfl rfl zm ?_
           with_reducible refine (spec_l1Cur_line.calls g s0_0 x1001_3 x1002_3 t559 t560 t561 w0 _ ?side1 ?side2 A18.out).mono ?_
           (case side1 => repeat (first | (with_reducible first | exact HI0.out | apply IsS87.alloc | apply IsS87.drewN | apply IsS87.drew | apply IsS87.set_1 | apply IsS87.set_2 | refine IsS87.far ?_ NB0_555.out _) | exact HI0.out))
           (case side2 => repeat (first | (with_reducible first | exact HB.out | apply below_alloc | apply pw_below_drewN | apply below_drew1 | refine below_set ?_ (IsS87.ge HI0.out) | refine below_set ?_ GE555.out) | exact HB.out))
           rintro e w22 ⟨rfl, hi, hb, hk⟩
           refine ⟨_, rfl, ?_⟩
           have n0_ := am (Kd.S_mono (Kd.S_keep (IsS87.apartS (show IsS87 w0 _ g s0_0 x1001_3 x1002_3 from by repeat (first | (with_reducible first | exact HI0.out | apply IsS87.alloc | apply IsS87.drewN | apply IsS87.drew | apply IsS87.set_1 | apply IsS87.set_2 | refine IsS87.far ?_ NB0_555.out _) | exact HI0.out)) (zs HO_5.out) (by decide)) hk (fun _ h => h.2)) (fun _ h => h.1))
           have n1_ := am (Kd.R_mono (Kd.R_keep (IsS87.apart (show IsS87 w0 _ g s0_0 x1001_3 x1002_3 from by repeat (first | (with_reducible first | exact HI0.out | apply IsS87.alloc | apply IsS87.drewN | apply IsS87.drew | apply IsS87.set_1 | apply IsS87.set_2 | refine IsS87.far ?_ NB0_555.out _) | exact HI0.out)) (zr HO_556002.out) (by decide)) hk (fun _ h => h.2)) (fun _ h => h.1))
           have n2_ := am (KeepBut.blk hk (g' := gb555) (o := .cells #[.int .i64 x6_1, .int .i64 t552, u556002] 106 (0, 0)) (zk BK555.out) NB555_0.out (by simp))
           have n3_ := am (KeepBut.trans (by repeat (first | (with_reducible first | exact HK.out | apply KeepBut.set_ | apply keep_drewN | apply keep_drew | apply keep_alloc | refine keep_far ?_ GW555.out _) | exact HK.out)) hk (.inl rfl))
           have n4_ := am (hb)
           have n5_ := am (hi)
           clear HO_5
           clear HO_556002
           clear BK555
           clear HK
           clear HB
           clear HI0
           have HO_5 := n0_
           have HO_556002 := n1_
           have BK555 := n2_
           have HK := n3_
           have HB := n4_
           have HI0 := n5_
           clear n0_ n1_ n2_ n3_ n4_ n5_
           (try clear hb)
           (try clear hb2)
           (try clear hk)
           (try clear hi)
           refine hK.out _ _ ⟨(blk_cell BK555.out 0).trans rfl, (blk_cell BK555.out 1).trans rfl, (blk_cell BK555.out 2).trans rfl⟩ (fun hHeld => ?_)
           clear hK K
           refine norm_ (a' := ?_) ?_ ?_
           rotate_left
           ·show Act.put _ (some 39) _ = _
            simp only [Act.put,qa,qb,qc,i64_w,i32_w]
            rfl
           refine pure_ (i := 4) (N := some 40) (v := ?_) (a' := ?_) #[Y,Y,Y,Y,Y,O,O,O,O] rfl rfl zx (fun _ _ _ h => h) (Or.inl ⟨by rfl, ?_⟩) ?_ ?_
           rotate_left; (intro w'; go_simp; with_reducible rfl); rotate_left; (simp only [Act.put,qa,qb,qc,i64_w,i32_w]; rfl)
           refine one_ (i := 5) (N := some 41) #[Y,Y,Y,Y,Y,Y,O,O,O] rfl rfl (one_of HT_.out (by kernel_rfl)) (by decide) (fun K hK => ?_)
           refine value_ (w1 := ?_) (v := ?_) (by rfl) rfl ?_ ?_
           rotate_left 2
           ·go_simp
            constructor
            ·rfl
            ·rfl
           refine hK.out _ _ ⟨(blk_cell (blk_alloc BK555.out _) 0).trans rfl, (blk_cell (blk_alloc BK555.out _) 1).trans rfl, (blk_cell (blk_alloc BK555.out _) 2).trans rfl⟩ (fun hHeld => ?_)
           clear hK K
           refine norm_ (a' := ?_) ?_ ?_
           rotate_left
           ·show Act.put _ (some 41) _ = _
            simp only [Act.put,qa,qb,qc,i64_w,i32_w]
            rfl
           refine one_ (i := 6) (N := some 42) #[Y,Y,Y,Y,Y,Y,Y,O,O] rfl rfl (one_of HT_.out (by kernel_rfl)) (by decide) (fun K hK => ?_)
           refine Kd.R_append_step Kd.string w.heap.size (by rfl) (.tmp 37) (.tmp 41) 24 9 (.string ⟨#[]⟩) 16 rfl Try.underlying24 info9 rfl (by decide) (by omega) u556002 x556002_3 (t559 ++ (⟨#[10]⟩ : ByteArray)) [.string (t559 ++ (⟨#[10]⟩ : ByteArray))] (fun _ => True) (fun _ => False) rfl rfl ?aP (fun _ hk => hk.elim) ?aF ?aO (Below.refl _ _) ?aS ?aL ?_
           (case aP => exact rfl)
           (case aF => exact (fun _ _ => trivial))
           (case aO => exact (zr HO_556002.out))
           (case aS => exact (keep_size (w := w) (g := g) (row := none) (by repeat (first | (with_reducible first | exact HK.out | apply KeepBut.set_ | apply keep_drewN | apply keep_drew | apply keep_alloc | refine keep_far ?_ GW555.out _) | exact HK.out))))
           (case aL => have := LMc20.out; omega)
           intro v563 w23 ho hb hg hat
           rw [← Ny562.out] at ho
           have n0_ := am (Kd.S_after (ok := (fun k_ => k_ ≠ gb555)) (by (with_reducible repeat (first | apply Kd.S_alloc | apply Kd.S_drewN | apply Kd.S_drew)); exact Kd.S_mono HO_5.out (fun _ hk => ⟨hk.2, hk.1⟩)) hg hat)
           have n1_ := am (blk_grown (g := gb555) (o := .cells #[.int .i64 x6_1, .int .i64 t552, u556002] 106 (0, 0)) (zk BK555.out) hg (Kd.R_ne HO_556002.out BK555.out (by decide)))
           have n2_ := am (IsS87.grown (by repeat (first | (with_reducible first | exact HI0.out | apply IsS87.alloc | apply IsS87.drewN | apply IsS87.drew | apply IsS87.set_1 | apply IsS87.set_2 | refine IsS87.far ?_ NB0_555.out _) | exact HI0.out)) hg (IsS87.own_ne HI0.out HO_556002.out (by decide)))
           have n3_ := am (below_weaken (by repeat (first | (with_reducible first | exact HB.out | apply below_alloc | apply pw_below_drewN | apply below_drew1 | refine below_set ?_ (IsS87.ge HI0.out) | refine below_set ?_ GE555.out) | exact HB.out)) HL.out hb)
           have n4_ := am (KeepBut.trans (by repeat (first | (with_reducible first | exact HK.out | apply KeepBut.set_ | apply keep_drewN | apply keep_drew | apply keep_alloc | refine keep_far ?_ GW555.out _) | exact HK.out)) (KeepBut.of_grown hg g) (Kd.R_base2 HO_556002.out))
           have n5_ := am (ho)
           clear HO_5
           clear BK555
           clear HI0
           clear HB
           clear HK
           clear HO_556002
           have HO_5 := n0_
           have BK555 := n1_
           have HI0 := n2_
           have HB := n3_
           have HK := n4_
           have HO564 := n5_
           clear n0_ n1_ n2_ n3_ n4_ n5_
           clear ho hb hg hat
           obtain ⟨Ao24, co24, eo24⟩ := Kd.R_slice HO564.out
           (first | subst eo24 | (injection eo24 with f1_ f2_ f3_; have f4_ := f1_.symm; have f5_ := f3_.symm; clear f1_ f2_ f3_; subst f4_; subst f5_))
           refine hK.out _ _ ⟨(blk_cell BK555.out 0).trans rfl, (blk_cell BK555.out 1).trans rfl, (blk_cell BK555.out 2).trans rfl⟩ (fun hHeld => ?_)
           clear hK K
           refine norm_ (a' := ?_) ?_ ?_
           rotate_left
           ·show Act.put _ (some 42) _ = _
            simp only [Act.put,qa,qb,qc,i64_w,i32_w]
            rfl
           refine pure_ (i := 7) (N := some 43) (v := ?_) (a' := ?_) #[Y,Y,Y,Y,Y,Y,Y,Y,O] rfl rfl zx (fun _ _ _ h => h) (Or.inl ⟨by rfl, ?_⟩) ?_ ?_
           rotate_left; (intro w'; go_simp; with_reducible rfl); rotate_left; (simp only [Act.put,qa,qb,qc,i64_w,i32_w]; rfl)
           refine last_ (i := 8) (N := none) #[Y,Y,Y,Y,Y,Y,Y,Y,Y] rfl rfl (one_of HT_.out (by kernel_rfl)) (by decide) (fun K hK => ?_)
           have hs25 : w23.cell? ⟨gb555, 2, none⟩ = some (u556002) := (blk_cell BK555.out 2).trans rfl
           have hfs25 := blk_frozen BK555.out 2
           refine skip_ (w1 := ?_) (by rfl) rfl ?_ ?_
           rotate_left
           ·go_simp
            rfl
           refine hK.out _ _ ?_
           clear hK K
           refine done_ (done_of HT_.out (by kernel_rfl)) ?_
           try go_wp2
           go_roundg k3
           case measure => have := HK1.out; have := HJ4.out; have := HK3.out; omega
           case rel => exact ⟨(wrap64 (x8_3 - 1)), (t560), (t561), (y562), (.slice Ao24 y562.length co24), zf, H', ⟨by have := HK1.out; have := HJ4.out; have := HK3.out; omega⟩, ⟨by (with_reducible repeat (first | apply Kd.S_alloc | apply Kd.S_drewN | apply Kd.S_drew)); exact Kd.S_mono (Kd.S_far (p := ⟨gb555, 2, none⟩) (Kd.S_mono HO_5.out (fun k_ hk => (⟨hk, hk.1⟩ : _ ∧ k_ ≠ gb555))) (fun _ hk => hk.2) (.slice Ao24 y562.length co24)) (fun _ hk => ⟨hk.1.2, hk.1.1⟩)⟩, ⟨by (with_reducible repeat (first | apply Kd.R_alloc | apply Kd.R_drewN | apply Kd.R_drew)); exact Kd.R_mono (Kd.R_far (p := ⟨gb555, 2, none⟩) (Kd.R_types HO564.out BK555.out (by decide)) (fun _ hk => hk.2) (.slice Ao24 y562.length co24)) (fun _ hk => trivial)⟩, ⟨by (with_reducible repeat (first | refine blk_drewN ?_ _ | refine blk_drew ?_ | refine blk_alloc ?_ _)); refine blk_put (cs := #[.int .i64 x6_1, .int .i64 t552, u556002]) ?_ 2 _ rfl; (with_reducible repeat (first | refine blk_drewN ?_ _ | refine blk_drew ?_ | refine blk_alloc ?_ _)); exact BK555.out⟩, ⟨by repeat (first | (with_reducible first | exact HI0.out | apply IsS87.alloc | apply IsS87.drewN | apply IsS87.drew | apply IsS87.set_1 | apply IsS87.set_2 | refine IsS87.far ?_ NB0_555.out _) | exact HI0.out)⟩, ⟨by repeat (first | (with_reducible first | exact HK.out | apply KeepBut.set_ | apply keep_drewN | apply keep_drew | apply keep_alloc | refine keep_far ?_ GW555.out _) | exact HK.out)⟩, ⟨by repeat (first | (with_reducible first | exact HB.out | apply below_alloc | apply pw_below_drewN | apply below_drew1 | refine below_set ?_ (IsS87.ge HI0.out) | refine below_set ?_ GE555.out) | exact HB.out)⟩⟩
          ·rw [if_neg c20] at H
           exact absurd H (by simp)
         ·rw [if_neg c19] at H
          exact absurd H (by simp)
        ·rw [if_neg c17] at H
         have c17b0 : decide (0 < x8_3) = false := decide_eq_false c17
         clear c17
         by_cases c26 : (wrap64 (t552 + (x556002_3.length : Int))) > 0
         ·rw [if_pos c26] at H
          have c26b0 : decide (0 < (wrap64 (t552 + (x556002_3.length : Int)))) = true := decide_eq_true c26
          clear c26
          by_cases c27 : (wrap64 (x6_1 + t552)) < (l1.length : Int)
          ·rw [if_pos c27] at H
           have c27b0 : decide ((wrap64 (x6_1 + t552)) < (l1.length : Int)) = true := decide_eq_true c27
           clear c27
           by_cases c28 : x5_1.length < 3518437208883
           ·rw [if_pos c28] at H
            have LMc28 := am c28
            clear c28
            obtain ⟨y565, hy565⟩ : ∃ y_ : List (S106), y_ = (x5_1 ++ [(⟨x6_1, t552, x556002_3⟩ : S106)]) := ⟨_, rfl⟩
            replace H : ((spec_l1Cur_pick.f s0_0 x1001_3 x1002_3 3).bind fun bt568 => (spec_l1Cur_hunks.l0 k3 l1 y565 (wrap64 (x6_1 + (wrap64 ((wrap64 (t552 + 1)) + bt568.1)))) s0_0 bt568.2.1 bt568.2.2)) = some (r1, r2, r3) := by first | (rw [hy565]; with_reducible exact H) | (have H2_ := (Option.bind_some _ _).symm.trans H; rw [hy565]; with_reducible exact H2_) | (have H2_ := (Option.bind_some _ _).symm.trans H; with_reducible exact H2_) | with_reducible exact H | (rw [hy565]; exact H) | exact H
            have Ny565 := am hy565
            clear hy565
            replace H := Option.bind_eq_some_iff.mp H
            obtain ⟨⟨t568, t569, t570⟩, A290, H⟩ := H
            replace H : (spec_l1Cur_hunks.l0 k3 l1 y565 (wrap64 (x6_1 + (wrap64 ((wrap64 (t552 + 1)) + t568)))) s0_0 t569 t570) = some (r1, r2, r3) := H
            have A29 := am A290
            clear A290
            have H' := am H
            clear H
            have hnb30 := NB555_0.out
            have hnc30 := NB0_555.out
            have hcz31_0 : wr.cell? ⟨gb555, 0, none⟩ = some (.int .i64 x6_1) := (blk_cell BK555.out 0).trans rfl
            have hcz31_1 : wr.cell? ⟨gb555, 1, none⟩ = some (.int .i64 t552) := (blk_cell BK555.out 1).trans rfl
            have hcz31_2 : wr.cell? ⟨gb555, 2, none⟩ = some (u556002) := (blk_cell BK555.out 2).trans rfl
            have hfz31_0 := blk_frozen BK555.out 0
            have hfz31_1 := blk_frozen BK555.out 1
            have hfz31_2 := blk_frozen BK555.out 2
            obtain ⟨Ao32, co32, eo32⟩ := Kd.R_slice HO_556002.out
            subst eo32
            try go_wp2_with (first | ((with_reducible refine gateB (b := .append) (xs := #[.tmp 69, .tmp 71]) rfl ?_); (try (refine gate_guard (by rfl) ?_; dsimp only)); at_builtin; refine Kd.S_append k106 w.heap.size rfl (.tmp 69) (.tmp 71) 42 106 (.agg #[(.int .i64 0), (.int .i64 0), (.slice none 0 0)]) 40 rfl Try.underlying42 info106 rfl (by decide) (by omega) u5 x5_1 (⟨x6_1, t552, x556002_3⟩ : S106) [.int .i64 x6_1, .int .i64 t552, .slice Ao32 x556002_3.length co32] (fun k_ => k_ ≠ gb555) (fun k_ => some k_ = (.slice Ao32 x556002_3.length co32 : Value).ownBlock) rfl rfl ?aP (fun k_ hk_ => ((Kd.R_mono (ok' := fun k_ => ((fun k_ => k_ ≠ gb555)) k_ ∧ some k_ ≠ (u5 : Value).ownBlock) (Kd.R_types (Kd.R_apart' (HO_556002.out) (Kd.S_typed HO_5.out) (by decide)) BK555.out (by decide)) (fun k_ hk => ⟨hk.2, hk.1.2⟩))).1 k_ hk_.symm) ?aF ?aO (Below.refl _ _) ?aS ?aL ?_; (case aP => exact k106_mkM _ _ _ (⟨x6_1, t552, x556002_3⟩ : S106) (Kd.R_mono (Kd.R_tight rfl (Kd.R_mono (ok' := fun k_ => ((fun k_ => k_ ≠ gb555)) k_ ∧ some k_ ≠ (u5 : Value).ownBlock) (Kd.R_types (Kd.R_apart' (HO_556002.out) (Kd.S_typed HO_5.out) (by decide)) BK555.out (by decide)) (fun k_ hk => ⟨hk.2, hk.1.2⟩))) (fun _ h_ => h_))); (case aF => exact (fun k_ hk => Kd.freshB (g := gb555) (o := .cells #[.int .i64 x6_1, .int .i64 t552, .slice Ao32 x556002_3.length co32] 106 (0, 0)) (zk BK555.out) k_ hk)); (case aO => exact (by (with_reducible repeat (first | apply Kd.S_alloc | apply Kd.S_drewN | apply Kd.S_drew)); exact Kd.S_mono HO_5.out (fun k_ hk => ⟨hk.2, fun e_ => hk.1 e_⟩))); (case aS => exact (keep_size (w := w) (g := g) (row := none) (by repeat (first | (with_reducible first | exact HK.out | apply KeepBut.set_ | apply keep_drewN | apply keep_drew | apply keep_alloc | refine keep_far ?_ GW555.out _) | exact HK.out)))); (case aL => have := LMc28.out; omega); intro v566 w33 ho hb hg hat; rw [← Ny565.out] at ho; have n0_ := am (blk_grown (g := gb555) (o := .cells #[.int .i64 x6_1, .int .i64 t552, .slice Ao32 x556002_3.length co32] 106 (0, 0)) (zk BK555.out) hg (Kd.S_away HO_5.out (fun _ hk => hk.2))); have n1_ := am (IsS87.grown (by repeat (first | (with_reducible first | exact HI0.out | apply IsS87.alloc | apply IsS87.drewN | apply IsS87.drew | apply IsS87.set_1 | apply IsS87.set_2 | refine IsS87.far ?_ NB0_555.out _) | exact HI0.out)) hg (IsS87.own_neS HI0.out HO_5.out (by decide))); have n2_ := am (below_weaken (by repeat (first | (with_reducible first | exact HB.out | apply below_alloc | apply pw_below_drewN | apply below_drew1 | refine below_set ?_ (IsS87.ge HI0.out) | refine below_set ?_ GE555.out) | exact HB.out)) HL.out hb); have n3_ := am (KeepBut.trans (by repeat (first | (with_reducible first | exact HK.out | apply KeepBut.set_ | apply keep_drewN | apply keep_drew | apply keep_alloc | refine keep_far ?_ GW555.out _) | exact HK.out)) (KeepBut.of_grown hg g) (Kd.S_base2 HO_5.out)); have n4_ := am (ho); clear BK555; clear HI0; clear HB; clear HK; clear HO_5; clear HO_556002; have BK555 := n0_; have HI0 := n1_; have HB := n2_; have HK := n3_; have HO567 := n4_; clear n0_ n1_ n2_ n3_ n4_; clear ho hb hg hat))
            have n0_ := am (Kd.S_drew HO567.out)
            have n1_ := am (blk_drew BK555.out)
            have n2_ := am (IsS87.drew HI0.out)
            have n3_ := am (keep_drew HK.out)
            have n4_ := am (below_drew1 HB.out)
            clear HO567
            clear BK555
            clear HI0
            clear HK
            clear HB
            have HO567 := n0_
            have BK555 := n1_
            have HI0 := n2_
            have HK := n3_
            have HB := n4_
            clear n0_ n1_ n2_ n3_ n4_
            refine start_ (n := 9) (S := fun w' => w'.cell? ⟨gb555, 0, none⟩ = some (.int .i64 x6_1) ∧ w'.cell? ⟨gb555, 1, none⟩ = some (.int .i64 t552) ∧ w'.cell? ⟨gb555, 2, none⟩ = some (.slice Ao32 x556002_3.length co32)) (ds := []) #[O,O,O,O,O,O,O,O,O] (by kernel_rfl) rfl rfl ⟨(blk_cell BK555.out 0).trans rfl, (blk_cell BK555.out 1).trans rfl, (blk_cell BK555.out 2).trans rfl⟩ (fun hHeld => ?_); refine with_tabW spec_l1Cur_hunks.tab11 spec_l1Cur_hunks.bits11 (fun HT_ HW_ => ?_)
            generalize w33.drew = w34 at HO567 BK555 HI0 HK HB hHeld ⊢
            refine pure_ (i := 0) (N := some 73) (v := ?_) (a' := ?_) #[Y,O,O,O,O,O,O,O,O] rfl rfl zx (fun _ _ _ h => h) (Or.inl ⟨by rfl, ?_⟩) ?_ ?_
            rotate_left; (intro w'; go_simp; with_reducible rfl); rotate_left; (simp only [Act.put,qa,qb,qc,i64_w,i32_w]; rfl)
            refine pure_ (i := 1) (N := some 74) (v := ?_) (a' := ?_) #[Y,Y,O,O,O,O,O,O,O] rfl rfl zx (fun _ _ _ h => h) (Or.inl ⟨by rfl, ?_⟩) ?_ ?_
            rotate_left; (intro w'; go_simp; with_reducible rfl); rotate_left; (simp only [Act.put,qa,qb,qc,i64_w,i32_w]; rfl)
            refine pure_ (i := 4) (N := some 77) (v := ?_) (a' := ?_) #[Y,Y,O,O,Y,O,O,O,O] rfl rfl zx (fun _ _ _ h => h) (Or.inl ⟨by rfl, ?_⟩) ?_ ?_
            rotate_left; (intro w'; go_simp; with_reducible rfl); rotate_left; (simp only [Act.put,qa,qb,qc,i64_w,i32_w]; rfl)
            refine take_ (i := 2) (N := some 75) (v := ?_) (a' := ?_) #[Y,Y,Y,O,Y,O,O,O,O] rfl rfl (take_ofW HT_.out HW_.out (by kernel_rfl)) (fun _ _ _ h => h) (Or.inl ⟨by rfl, ?_⟩) hHeld ?_ ?_
            rotate_left; (rintro w' ⟨s0, s1, s2⟩; go_simp; with_reducible rfl); rotate_left; (simp only [Act.put,qa,qb,qc,i64_w,i32_w]; rfl)
            refine pure_ (i := 3) (N := some 76) (v := ?_) (a' := ?_) #[Y,Y,Y,Y,Y,O,O,O,O] rfl rfl zx (fun _ _ _ h => h) (Or.inl ⟨by rfl, ?_⟩) ?_ ?_
            rotate_left; (intro w'; go_simp; with_reducible rfl); rotate_left; (simp only [Act.put,qa,qb,qc,i64_w,i32_w]; rfl)
            refine one_ (i := 5) (N := some 78) #[Y,Y,Y,Y,Y,Y,O,O,O] rfl rfl (one_of HT_.out (by kernel_rfl)) (by decide) (fun K hK => ?_)
            refine goes_ Try.func62 (by kernel_rfl) rfl #[.pointer (some ⟨g, 0, none⟩), .int .i64 3] (by rfl) rfl rfl zm ?_
            with_reducible refine (spec_l1Cur_pick.calls g s0_0 x1001_3 x1002_3 3 t568 t569 t570 w0 _ ?side1 ?side2 A29.out).mono ?_
            (case side1 => repeat (first | (with_reducible first | exact HI0.out | apply IsS87.alloc | apply IsS87.drewN | apply IsS87.drew | apply IsS87.set_1 | apply IsS87.set_2 | refine IsS87.far ?_ NB0_555.out _) | exact HI0.out))
            (case side2 => repeat (first | (with_reducible first | exact HB.out | apply below_alloc | apply pw_below_drewN | apply below_drew1 | refine below_set ?_ (IsS87.ge HI0.out) | refine below_set ?_ GE555.out) | exact HB.out))
            rintro e w35 ⟨rfl, hi, hb, hk⟩
            refine ⟨_, rfl, ?_⟩
            have n0_ := am (KeepBut.blk hk (g' := gb555) (o := .cells #[.int .i64 x6_1, .int .i64 t552, .slice Ao32 x556002_3.length co32] 106 (0, 0)) (zk BK555.out) NB555_0.out (by simp))
            have n1_ := am (Kd.S_mono (Kd.S_keep (IsS87.apartS (show IsS87 w0 _ g s0_0 x1001_3 x1002_3 from by repeat (first | (with_reducible first | exact HI0.out | apply IsS87.alloc | apply IsS87.drewN | apply IsS87.drew | apply IsS87.set_1 | apply IsS87.set_2 | refine IsS87.far ?_ NB0_555.out _) | exact HI0.out)) (zs HO567.out) (by decide)) hk (fun _ h => h.2)) (fun _ h => h.1))
            have n2_ := am (KeepBut.trans (by repeat (first | (with_reducible first | exact HK.out | apply KeepBut.set_ | apply keep_drewN | apply keep_drew | apply keep_alloc | refine keep_far ?_ GW555.out _) | exact HK.out)) hk (.inl rfl))
            have n3_ := am (hb)
            have n4_ := am (hi)
            clear BK555
            clear HO567
            clear HK
            clear HB
            clear HI0
            have BK555 := n0_
            have HO567 := n1_
            have HK := n2_
            have HB := n3_
            have HI0 := n4_
            clear n0_ n1_ n2_ n3_ n4_
            (try clear hb)
            (try clear hb2)
            (try clear hk)
            (try clear hi)
            refine hK.out _ _ ⟨(blk_cell BK555.out 0).trans rfl, (blk_cell BK555.out 1).trans rfl, (blk_cell BK555.out 2).trans rfl⟩ (fun hHeld => ?_)
            clear hK K
            refine norm_ (a' := ?_) ?_ ?_
            rotate_left
            ·show Act.put _ (some 78) _ = _
             simp only [Act.put,qa,qb,qc,i64_w,i32_w]
             rfl
            refine pure_ (i := 6) (N := some 79) (v := ?_) (a' := ?_) #[Y,Y,Y,Y,Y,Y,Y,O,O] rfl rfl zx (fun _ _ _ h => h) (Or.inl ⟨by rfl, ?_⟩) ?_ ?_
            rotate_left; (intro w'; go_simp; with_reducible rfl); rotate_left; (simp only [Act.put,qa,qb,qc,i64_w,i32_w]; rfl)
            refine pure_ (i := 7) (N := some 80) (v := ?_) (a' := ?_) #[Y,Y,Y,Y,Y,Y,Y,Y,O] rfl rfl zx (fun _ _ _ h => h) (Or.inl ⟨by rfl, ?_⟩) ?_ ?_
            rotate_left; (intro w'; go_simp; with_reducible rfl); rotate_left; (simp only [Act.put,qa,qb,qc,i64_w,i32_w]; rfl)
            refine pure_ (i := 8) (N := some 6) (v := ?_) (a' := ?_) #[Y,Y,Y,Y,Y,Y,Y,Y,Y] rfl rfl zx (fun _ _ _ h => h) (Or.inl ⟨by rfl, ?_⟩) ?_ ?_
            rotate_left; (intro w'; go_simp; with_reducible rfl); rotate_left; (simp only [Act.put,qa,qb,qc,i64_w,i32_w]; rfl)
            refine done_ (done_of HT_.out (by kernel_rfl)) ?_
            try go_wp2
            go_roundg k3
            case measure => have := HK1.out; have := HJ4.out; have := HK3.out; omega
            case rel => exact ⟨(y565), (wrap64 (x6_1 + (wrap64 ((wrap64 (t552 + 1)) + t568)))), (t569), (t570), zf, H', ⟨by have := HK1.out; have := HJ4.out; have := HK3.out; omega⟩, ⟨by (with_reducible repeat (first | apply Kd.S_alloc | apply Kd.S_drewN | apply Kd.S_drew)); exact Kd.S_mono HO567.out (fun _ hk => trivial)⟩, ⟨by repeat (first | (with_reducible first | exact HI0.out | apply IsS87.alloc | apply IsS87.drewN | apply IsS87.drew | apply IsS87.set_1 | apply IsS87.set_2 | refine IsS87.far ?_ NB0_555.out _) | exact HI0.out)⟩, ⟨by repeat (first | (with_reducible first | exact HK.out | apply KeepBut.set_ | apply keep_drewN | apply keep_drew | apply keep_alloc | refine keep_far ?_ GW555.out _) | exact HK.out)⟩, ⟨by repeat (first | (with_reducible first | exact HB.out | apply below_alloc | apply pw_below_drewN | apply below_drew1 | refine below_set ?_ (IsS87.ge HI0.out) | refine below_set ?_ GE555.out) | exact HB.out)⟩⟩
           ·rw [if_neg c28] at H
            exact absurd H (by simp)
          ·rw [if_neg c27] at H
           have c27b0 : decide ((wrap64 (x6_1 + t552)) < (l1.length : Int)) = false := decide_eq_false c27
           clear c27
           replace H := Option.bind_eq_some_iff.mp H
           obtain ⟨t571, A360, H⟩ := H
           replace H : (if t571 = true then (if x5_1.length < 3518437208883 then ((spec_l1Cur_pick.f s0_0 x1001_3 x1002_3 3).bind fun bt575 => (spec_l1Cur_hunks.l0 k3 l1 (x5_1 ++ [(⟨x6_1, t552, x556002_3⟩ : S106)]) (wrap64 (x6_1 + (wrap64 ((wrap64 (t552 + 1)) + bt575.1)))) s0_0 bt575.2.1 bt575.2.2)) else (none)) else (if t552 > 0 then (if x5_1.length < 3518437208883 then ((spec_l1Cur_pick.f s0_0 x1001_3 x1002_3 3).bind fun bt581 => (spec_l1Cur_hunks.l0 k3 l1 (x5_1 ++ [(⟨x6_1, t552, x556002_3⟩ : S106)]) (wrap64 (x6_1 + (wrap64 ((wrap64 (t552 + 1)) + bt581.1)))) s0_0 bt581.2.1 bt581.2.2)) else (none)) else ((spec_l1Cur_pick.f s0_0 x1001_3 x1002_3 3).bind fun bt584 => (spec_l1Cur_hunks.l0 k3 l1 x5_1 (wrap64 (x6_1 + (wrap64 ((wrap64 (t552 + 1)) + bt584.1)))) s0_0 bt584.2.1 bt584.2.2)))) = some (r1, r2, r3) := H
           have A36 := am A360
           clear A360
           by_cases c37 : t571 = true
           ·subst c37
            have H1 : (if x5_1.length < 3518437208883 then ((spec_l1Cur_pick.f s0_0 x1001_3 x1002_3 3).bind fun bt575 => (spec_l1Cur_hunks.l0 k3 l1 (x5_1 ++ [(⟨x6_1, t552, x556002_3⟩ : S106)]) (wrap64 (x6_1 + (wrap64 ((wrap64 (t552 + 1)) + bt575.1)))) s0_0 bt575.2.1 bt575.2.2)) else (none)) = some (r1, r2, r3) := by rw [if_pos rfl] at H; exact H
            clear H
            have H := H1
            clear H1
            by_cases c38 : x5_1.length < 3518437208883
            ·rw [if_pos c38] at H
             have LMc38 := am c38
             clear c38
             obtain ⟨y572, hy572⟩ : ∃ y_ : List (S106), y_ = (x5_1 ++ [(⟨x6_1, t552, x556002_3⟩ : S106)]) := ⟨_, rfl⟩
             replace H : ((spec_l1Cur_pick.f s0_0 x1001_3 x1002_3 3).bind fun bt575 => (spec_l1Cur_hunks.l0 k3 l1 y572 (wrap64 (x6_1 + (wrap64 ((wrap64 (t552 + 1)) + bt575.1)))) s0_0 bt575.2.1 bt575.2.2)) = some (r1, r2, r3) := by first | (rw [hy572]; with_reducible exact H) | (have H2_ := (Option.bind_some _ _).symm.trans H; rw [hy572]; with_reducible exact H2_) | (have H2_ := (Option.bind_some _ _).symm.trans H; with_reducible exact H2_) | with_reducible exact H | (rw [hy572]; exact H) | exact H
             have Ny572 := am hy572
             clear hy572
             replace H := Option.bind_eq_some_iff.mp H
             obtain ⟨⟨t575, t576, t577⟩, A390, H⟩ := H
             replace H : (spec_l1Cur_hunks.l0 k3 l1 y572 (wrap64 (x6_1 + (wrap64 ((wrap64 (t552 + 1)) + t575)))) s0_0 t576 t577) = some (r1, r2, r3) := H
             have A39 := am A390
             clear A390
             have H' := am H
             clear H
             have hnb40 := NB555_0.out
             have hnc40 := NB0_555.out
             have hcz41_0 : wr.cell? ⟨gb555, 0, none⟩ = some (.int .i64 x6_1) := (blk_cell BK555.out 0).trans rfl
             have hcz41_1 : wr.cell? ⟨gb555, 1, none⟩ = some (.int .i64 t552) := (blk_cell BK555.out 1).trans rfl
             have hcz41_2 : wr.cell? ⟨gb555, 2, none⟩ = some (u556002) := (blk_cell BK555.out 2).trans rfl
             have hfz41_0 := blk_frozen BK555.out 0
             have hfz41_1 := blk_frozen BK555.out 1
             have hfz41_2 := blk_frozen BK555.out 2
             obtain ⟨Ao42, co42, eo42⟩ := Kd.R_slice HO_556002.out
             subst eo42
             try go_wp2_with (first | (go_at_call 152; (with_reducible refine (spec_l1Whole.calls _ _ l1 true _ ?side1 ?side2 A36.out).mono ?_); (case side1 => exact Kd.C_keep (⟨#[]⟩ : ByteArray) HR1.out (by repeat (first | (with_reducible first | exact HK.out | apply KeepBut.set_ | apply keep_drewN | apply keep_drew | apply keep_alloc | refine keep_far ?_ GW555.out _) | exact HK.out)) hf1); (case side2 => exact HC1.out); rintro e w' ⟨rfl, ⟨nd, rfl⟩⟩) | ((with_reducible refine gateB (b := .append) (xs := #[.tmp 69, .tmp 71]) rfl ?_); (try (refine gate_guard (by rfl) ?_; dsimp only)); at_builtin; refine Kd.S_append k106 w.heap.size rfl (.tmp 69) (.tmp 71) 42 106 (.agg #[(.int .i64 0), (.int .i64 0), (.slice none 0 0)]) 40 rfl Try.underlying42 info106 rfl (by decide) (by omega) u5 x5_1 (⟨x6_1, t552, x556002_3⟩ : S106) [.int .i64 x6_1, .int .i64 t552, .slice Ao42 x556002_3.length co42] (fun k_ => k_ ≠ gb555) (fun k_ => some k_ = (.slice Ao42 x556002_3.length co42 : Value).ownBlock) rfl rfl ?aP (fun k_ hk_ => ((Kd.R_mono (ok' := fun k_ => ((fun k_ => k_ ≠ gb555)) k_ ∧ some k_ ≠ (u5 : Value).ownBlock) (Kd.R_types (Kd.R_apart' (HO_556002.out) (Kd.S_typed HO_5.out) (by decide)) BK555.out (by decide)) (fun k_ hk => ⟨hk.2, hk.1.2⟩))).1 k_ hk_.symm) ?aF ?aO (Below.refl _ _) ?aS ?aL ?_; (case aP => exact k106_mkM _ _ _ (⟨x6_1, t552, x556002_3⟩ : S106) (Kd.R_mono (Kd.R_tight rfl (Kd.R_mono (ok' := fun k_ => ((fun k_ => k_ ≠ gb555)) k_ ∧ some k_ ≠ (u5 : Value).ownBlock) (Kd.R_types (Kd.R_apart' (HO_556002.out) (Kd.S_typed HO_5.out) (by decide)) BK555.out (by decide)) (fun k_ hk => ⟨hk.2, hk.1.2⟩))) (fun _ h_ => h_))); (case aF => exact (fun k_ hk => Kd.freshB (g := gb555) (o := .cells #[.int .i64 x6_1, .int .i64 t552, .slice Ao42 x556002_3.length co42] 106 (0, 0)) (zk BK555.out) k_ hk)); (case aO => exact (by (with_reducible repeat (first | apply Kd.S_alloc | apply Kd.S_drewN | apply Kd.S_drew)); exact Kd.S_mono HO_5.out (fun k_ hk => ⟨hk.2, fun e_ => hk.1 e_⟩))); (case aS => exact (keep_size (w := w) (g := g) (row := none) (by repeat (first | (with_reducible first | exact HK.out | apply KeepBut.set_ | apply keep_drewN | apply keep_drew | apply keep_alloc | refine keep_far ?_ GW555.out _) | exact HK.out)))); (case aL => have := LMc38.out; omega); intro v573 w43 ho hb hg hat; rw [← Ny572.out] at ho; have n0_ := am (blk_grown (g := gb555) (o := .cells #[.int .i64 x6_1, .int .i64 t552, .slice Ao42 x556002_3.length co42] 106 (0, 0)) (zk BK555.out) hg (Kd.S_away HO_5.out (fun _ hk => hk.2))); have n1_ := am (IsS87.grown (by repeat (first | (with_reducible first | exact HI0.out | apply IsS87.alloc | apply IsS87.drewN | apply IsS87.drew | apply IsS87.set_1 | apply IsS87.set_2 | refine IsS87.far ?_ NB0_555.out _) | exact HI0.out)) hg (IsS87.own_neS HI0.out HO_5.out (by decide))); have n2_ := am (below_weaken (by repeat (first | (with_reducible first | exact HB.out | apply below_alloc | apply pw_below_drewN | apply below_drew1 | refine below_set ?_ (IsS87.ge HI0.out) | refine below_set ?_ GE555.out) | exact HB.out)) HL.out hb); have n3_ := am (KeepBut.trans (by repeat (first | (with_reducible first | exact HK.out | apply KeepBut.set_ | apply keep_drewN | apply keep_drew | apply keep_alloc | refine keep_far ?_ GW555.out _) | exact HK.out)) (KeepBut.of_grown hg g) (Kd.S_base2 HO_5.out)); have n4_ := am (ho); clear BK555; clear HI0; clear HB; clear HK; clear HO_5; clear HO_556002; have BK555 := n0_; have HI0 := n1_; have HB := n2_; have HK := n3_; have HO574 := n4_; clear n0_ n1_ n2_ n3_ n4_; clear ho hb hg hat))
             have n0_ := am (Kd.S_drew HO574.out)
             have n1_ := am (blk_drew BK555.out)
             have n2_ := am (IsS87.drew HI0.out)
             have n3_ := am (keep_drew HK.out)
             have n4_ := am (below_drew1 HB.out)
             clear HO574
             clear BK555
             clear HI0
             clear HK
             clear HB
             have HO574 := n0_
             have BK555 := n1_
             have HI0 := n2_
             have HK := n3_
             have HB := n4_
             clear n0_ n1_ n2_ n3_ n4_
             refine start_ (n := 9) (S := fun w' => w'.cell? ⟨gb555, 0, none⟩ = some (.int .i64 x6_1) ∧ w'.cell? ⟨gb555, 1, none⟩ = some (.int .i64 t552) ∧ w'.cell? ⟨gb555, 2, none⟩ = some (.slice Ao42 x556002_3.length co42)) (ds := []) #[O,O,O,O,O,O,O,O,O] (by kernel_rfl) rfl rfl ⟨(blk_cell BK555.out 0).trans rfl, (blk_cell BK555.out 1).trans rfl, (blk_cell BK555.out 2).trans rfl⟩ (fun hHeld => ?_); refine with_tabW spec_l1Cur_hunks.tab11 spec_l1Cur_hunks.bits11 (fun HT_ HW_ => ?_)
             generalize w43.drew = w44 at HO574 BK555 HI0 HK HB hHeld ⊢
             refine pure_ (i := 0) (N := some 73) (v := ?_) (a' := ?_) #[Y,O,O,O,O,O,O,O,O] rfl rfl zx (fun _ _ _ h => h) (Or.inl ⟨by rfl, ?_⟩) ?_ ?_
             rotate_left; (intro w'; go_simp; with_reducible rfl); rotate_left; (simp only [Act.put,qa,qb,qc,i64_w,i32_w]; rfl)
             refine pure_ (i := 1) (N := some 74) (v := ?_) (a' := ?_) #[Y,Y,O,O,O,O,O,O,O] rfl rfl zx (fun _ _ _ h => h) (Or.inl ⟨by rfl, ?_⟩) ?_ ?_
             rotate_left; (intro w'; go_simp; with_reducible rfl); rotate_left; (simp only [Act.put,qa,qb,qc,i64_w,i32_w]; rfl)
             refine pure_ (i := 4) (N := some 77) (v := ?_) (a' := ?_) #[Y,Y,O,O,Y,O,O,O,O] rfl rfl zx (fun _ _ _ h => h) (Or.inl ⟨by rfl, ?_⟩) ?_ ?_
             rotate_left; (intro w'; go_simp; with_reducible rfl); rotate_left; (simp only [Act.put,qa,qb,qc,i64_w,i32_w]; rfl)
             refine take_ (i := 2) (N := some 75) (v := ?_) (a' := ?_) #[Y,Y,Y,O,Y,O,O,O,O] rfl rfl (take_ofW HT_.out HW_.out (by kernel_rfl)) (fun _ _ _ h => h) (Or.inl ⟨by rfl, ?_⟩) hHeld ?_ ?_
             rotate_left; (rintro w' ⟨s0, s1, s2⟩; go_simp; with_reducible rfl); rotate_left; (simp only [Act.put,qa,qb,qc,i64_w,i32_w]; rfl)
             refine pure_ (i := 3) (N := some 76) (v := ?_) (a' := ?_) #[Y,Y,Y,Y,Y,O,O,O,O] rfl rfl zx (fun _ _ _ h => h) (Or.inl ⟨by rfl, ?_⟩) ?_ ?_
             rotate_left; (intro w'; go_simp; with_reducible rfl); rotate_left; (simp only [Act.put,qa,qb,qc,i64_w,i32_w]; rfl)
             refine one_ (i := 5) (N := some 78) #[Y,Y,Y,Y,Y,Y,O,O,O] rfl rfl (one_of HT_.out (by kernel_rfl)) (by decide) (fun K hK => ?_)
             refine goes_ Try.func62 (by kernel_rfl) rfl #[.pointer (some ⟨g, 0, none⟩), .int .i64 3] (by rfl) rfl rfl zm ?_
             with_reducible refine (spec_l1Cur_pick.calls g s0_0 x1001_3 x1002_3 3 t575 t576 t577 w0 _ ?side1 ?side2 A39.out).mono ?_
             (case side1 => repeat (first | (with_reducible first | exact HI0.out | apply IsS87.alloc | apply IsS87.drewN | apply IsS87.drew | apply IsS87.set_1 | apply IsS87.set_2 | refine IsS87.far ?_ NB0_555.out _) | exact HI0.out))
             (case side2 => repeat (first | (with_reducible first | exact HB.out | apply below_alloc | apply pw_below_drewN | apply below_drew1 | refine below_set ?_ (IsS87.ge HI0.out) | refine below_set ?_ GE555.out) | exact HB.out))
             rintro e w45 ⟨rfl, hi, hb, hk⟩
             refine ⟨_, rfl, ?_⟩
             have n0_ := am (KeepBut.blk hk (g' := gb555) (o := .cells #[.int .i64 x6_1, .int .i64 t552, .slice Ao42 x556002_3.length co42] 106 (0, 0)) (zk BK555.out) NB555_0.out (by simp))
             have n1_ := am (Kd.S_mono (Kd.S_keep (IsS87.apartS (show IsS87 w0 _ g s0_0 x1001_3 x1002_3 from by repeat (first | (with_reducible first | exact HI0.out | apply IsS87.alloc | apply IsS87.drewN | apply IsS87.drew | apply IsS87.set_1 | apply IsS87.set_2 | refine IsS87.far ?_ NB0_555.out _) | exact HI0.out)) (zs HO574.out) (by decide)) hk (fun _ h => h.2)) (fun _ h => h.1))
             have n2_ := am (KeepBut.trans (by repeat (first | (with_reducible first | exact HK.out | apply KeepBut.set_ | apply keep_drewN | apply keep_drew | apply keep_alloc | refine keep_far ?_ GW555.out _) | exact HK.out)) hk (.inl rfl))
             have n3_ := am (hb)
             have n4_ := am (hi)
             clear BK555
             clear HO574
             clear HK
             clear HB
             clear HI0
             have BK555 := n0_
             have HO574 := n1_
             have HK := n2_
             have HB := n3_
             have HI0 := n4_
             clear n0_ n1_ n2_ n3_ n4_
             (try clear hb)
             (try clear hb2)
             (try clear hk)
             (try clear hi)
             refine hK.out _ _ ⟨(blk_cell BK555.out 0).trans rfl, (blk_cell BK555.out 1).trans rfl, (blk_cell BK555.out 2).trans rfl⟩ (fun hHeld => ?_)
             clear hK K
             refine norm_ (a' := ?_) ?_ ?_
             rotate_left
             ·show Act.put _ (some 78) _ = _
              simp only [Act.put,qa,qb,qc,i64_w,i32_w]
              rfl
             refine pure_ (i := 6) (N := some 79) (v := ?_) (a' := ?_) #[Y,Y,Y,Y,Y,Y,Y,O,O] rfl rfl zx (fun _ _ _ h => h) (Or.inl ⟨by rfl, ?_⟩) ?_ ?_
             rotate_left; (intro w'; go_simp; with_reducible rfl); rotate_left; (simp only [Act.put,qa,qb,qc,i64_w,i32_w]; rfl)
             refine pure_ (i := 7) (N := some 80) (v := ?_) (a' := ?_) #[Y,Y,Y,Y,Y,Y,Y,Y,O] rfl rfl zx (fun _ _ _ h => h) (Or.inl ⟨by rfl, ?_⟩) ?_ ?_
             rotate_left; (intro w'; go_simp; with_reducible rfl); rotate_left; (simp only [Act.put,qa,qb,qc,i64_w,i32_w]; rfl)
             refine pure_ (i := 8) (N := some 6) (v := ?_) (a' := ?_) #[Y,Y,Y,Y,Y,Y,Y,Y,Y] rfl rfl zx (fun _ _ _ h => h) (Or.inl ⟨by rfl, ?_⟩) ?_ ?_
             rotate_left; (intro w'; go_simp; with_reducible rfl); rotate_left; (simp only [Act.put,qa,qb,qc,i64_w,i32_w]; rfl)
             refine done_ (done_of HT_.out (by kernel_rfl)) ?_
             try go_wp2
             go_roundg k3
             case measure => have := HK1.out; have := HJ4.out; have := HK3.out; omega
             case rel => exact ⟨(y572), (wrap64 (x6_1 + (wrap64 ((wrap64 (t552 + 1)) + t575)))), (t576), (t577), zf, H', ⟨by have := HK1.out; have := HJ4.out; have := HK3.out; omega⟩, ⟨by (with_reducible repeat (first | apply Kd.S_alloc | apply Kd.S_drewN | apply Kd.S_drew)); exact Kd.S_mono HO574.out (fun _ hk => trivial)⟩, ⟨by repeat (first | (with_reducible first | exact HI0.out | apply IsS87.alloc | apply IsS87.drewN | apply IsS87.drew | apply IsS87.set_1 | apply IsS87.set_2 | refine IsS87.far ?_ NB0_555.out _) | exact HI0.out)⟩, ⟨by repeat (first | (with_reducible first | exact HK.out | apply KeepBut.set_ | apply keep_drewN | apply keep_drew | apply keep_alloc | refine keep_far ?_ GW555.out _) | exact HK.out)⟩, ⟨by repeat (first | (with_reducible first | exact HB.out | apply below_alloc | apply pw_below_drewN | apply below_drew1 | refine below_set ?_ (IsS87.ge HI0.out) | refine below_set ?_ GE555.out) | exact HB.out)⟩⟩
            ·rw [if_neg c38] at H
             exact absurd H (by simp)
           ·replace c37 := Bool.eq_false_iff.mpr c37
            subst c37
            have H1 : (if t552 > 0 then (if x5_1.length < 3518437208883 then ((spec_l1Cur_pick.f s0_0 x1001_3 x1002_3 3).bind fun bt581 => (spec_l1Cur_hunks.l0 k3 l1 (x5_1 ++ [(⟨x6_1, t552, x556002_3⟩ : S106)]) (wrap64 (x6_1 + (wrap64 ((wrap64 (t552 + 1)) + bt581.1)))) s0_0 bt581.2.1 bt581.2.2)) else (none)) else ((spec_l1Cur_pick.f s0_0 x1001_3 x1002_3 3).bind fun bt584 => (spec_l1Cur_hunks.l0 k3 l1 x5_1 (wrap64 (x6_1 + (wrap64 ((wrap64 (t552 + 1)) + bt584.1)))) s0_0 bt584.2.1 bt584.2.2))) = some (r1, r2, r3) := by rw [if_neg (show ¬ (false = true) by decide)] at H; exact H
            clear H
            have H := H1
            clear H1
            by_cases c46 : t552 > 0
            ·rw [if_pos c46] at H
             have c46b0 : decide (0 < t552) = true := decide_eq_true c46
             clear c46
             by_cases c47 : x5_1.length < 3518437208883
             ·rw [if_pos c47] at H
              have LMc47 := am c47
              clear c47
              obtain ⟨y578, hy578⟩ : ∃ y_ : List (S106), y_ = (x5_1 ++ [(⟨x6_1, t552, x556002_3⟩ : S106)]) := ⟨_, rfl⟩
              replace H : ((spec_l1Cur_pick.f s0_0 x1001_3 x1002_3 3).bind fun bt581 => (spec_l1Cur_hunks.l0 k3 l1 y578 (wrap64 (x6_1 + (wrap64 ((wrap64 (t552 + 1)) + bt581.1)))) s0_0 bt581.2.1 bt581.2.2)) = some (r1, r2, r3) := by first | (rw [hy578]; with_reducible exact H) | (have H2_ := (Option.bind_some _ _).symm.trans H; rw [hy578]; with_reducible exact H2_) | (have H2_ := (Option.bind_some _ _).symm.trans H; with_reducible exact H2_) | with_reducible exact H | (rw [hy578]; exact H) | exact H
              have Ny578 := am hy578
              clear hy578
              replace H := Option.bind_eq_some_iff.mp H
              obtain ⟨⟨t581, t582, t583⟩, A480, H⟩ := H
              replace H : (spec_l1Cur_hunks.l0 k3 l1 y578 (wrap64 (x6_1 + (wrap64 ((wrap64 (t552 + 1)) + t581)))) s0_0 t582 t583) = some (r1, r2, r3) := H
              have A48 := am A480
              clear A480
              have H' := am H
              clear H
              have hnb49 := NB555_0.out
              have hnc49 := NB0_555.out
              have hcz50_0 : wr.cell? ⟨gb555, 0, none⟩ = some (.int .i64 x6_1) := (blk_cell BK555.out 0).trans rfl
              have hcz50_1 : wr.cell? ⟨gb555, 1, none⟩ = some (.int .i64 t552) := (blk_cell BK555.out 1).trans rfl
              have hcz50_2 : wr.cell? ⟨gb555, 2, none⟩ = some (u556002) := (blk_cell BK555.out 2).trans rfl
              have hfz50_0 := blk_frozen BK555.out 0
              have hfz50_1 := blk_frozen BK555.out 1
              have hfz50_2 := blk_frozen BK555.out 2
              obtain ⟨Ao51, co51, eo51⟩ := Kd.R_slice HO_556002.out
              subst eo51
              try go_wp2_with (first | (go_at_call 152; (with_reducible refine (spec_l1Whole.calls _ _ l1 false _ ?side1 ?side2 A36.out).mono ?_); (case side1 => exact Kd.C_keep (⟨#[]⟩ : ByteArray) HR1.out (by repeat (first | (with_reducible first | exact HK.out | apply KeepBut.set_ | apply keep_drewN | apply keep_drew | apply keep_alloc | refine keep_far ?_ GW555.out _) | exact HK.out)) hf1); (case side2 => exact HC1.out); rintro e w' ⟨rfl, ⟨nd, rfl⟩⟩) | ((with_reducible refine gateB (b := .append) (xs := #[.tmp 69, .tmp 71]) rfl ?_); (try (refine gate_guard (by rfl) ?_; dsimp only)); at_builtin; refine Kd.S_append k106 w.heap.size rfl (.tmp 69) (.tmp 71) 42 106 (.agg #[(.int .i64 0), (.int .i64 0), (.slice none 0 0)]) 40 rfl Try.underlying42 info106 rfl (by decide) (by omega) u5 x5_1 (⟨x6_1, t552, x556002_3⟩ : S106) [.int .i64 x6_1, .int .i64 t552, .slice Ao51 x556002_3.length co51] (fun k_ => k_ ≠ gb555) (fun k_ => some k_ = (.slice Ao51 x556002_3.length co51 : Value).ownBlock) rfl rfl ?aP (fun k_ hk_ => ((Kd.R_mono (ok' := fun k_ => ((fun k_ => k_ ≠ gb555)) k_ ∧ some k_ ≠ (u5 : Value).ownBlock) (Kd.R_types (Kd.R_apart' (HO_556002.out) (Kd.S_typed HO_5.out) (by decide)) BK555.out (by decide)) (fun k_ hk => ⟨hk.2, hk.1.2⟩))).1 k_ hk_.symm) ?aF ?aO (Below.refl _ _) ?aS ?aL ?_; (case aP => exact k106_mkM _ _ _ (⟨x6_1, t552, x556002_3⟩ : S106) (Kd.R_mono (Kd.R_tight rfl (Kd.R_mono (ok' := fun k_ => ((fun k_ => k_ ≠ gb555)) k_ ∧ some k_ ≠ (u5 : Value).ownBlock) (Kd.R_types (Kd.R_apart' (HO_556002.out) (Kd.S_typed HO_5.out) (by decide)) BK555.out (by decide)) (fun k_ hk => ⟨hk.2, hk.1.2⟩))) (fun _ h_ => h_))); (case aF => exact (fun k_ hk => Kd.freshB (g := gb555) (o := .cells #[.int .i64 x6_1, .int .i64 t552, .slice Ao51 x556002_3.length co51] 106 (0, 0)) (zk BK555.out) k_ hk)); (case aO => exact (by (with_reducible repeat (first | apply Kd.S_alloc | apply Kd.S_drewN | apply Kd.S_drew)); exact Kd.S_mono HO_5.out (fun k_ hk => ⟨hk.2, fun e_ => hk.1 e_⟩))); (case aS => exact (keep_size (w := w) (g := g) (row := none) (by repeat (first | (with_reducible first | exact HK.out | apply KeepBut.set_ | apply keep_drewN | apply keep_drew | apply keep_alloc | refine keep_far ?_ GW555.out _) | exact HK.out)))); (case aL => have := LMc47.out; omega); intro v579 w52 ho hb hg hat; rw [← Ny578.out] at ho; have n0_ := am (blk_grown (g := gb555) (o := .cells #[.int .i64 x6_1, .int .i64 t552, .slice Ao51 x556002_3.length co51] 106 (0, 0)) (zk BK555.out) hg (Kd.S_away HO_5.out (fun _ hk => hk.2))); have n1_ := am (IsS87.grown (by repeat (first | (with_reducible first | exact HI0.out | apply IsS87.alloc | apply IsS87.drewN | apply IsS87.drew | apply IsS87.set_1 | apply IsS87.set_2 | refine IsS87.far ?_ NB0_555.out _) | exact HI0.out)) hg (IsS87.own_neS HI0.out HO_5.out (by decide))); have n2_ := am (below_weaken (by repeat (first | (with_reducible first | exact HB.out | apply below_alloc | apply pw_below_drewN | apply below_drew1 | refine below_set ?_ (IsS87.ge HI0.out) | refine below_set ?_ GE555.out) | exact HB.out)) HL.out hb); have n3_ := am (KeepBut.trans (by repeat (first | (with_reducible first | exact HK.out | apply KeepBut.set_ | apply keep_drewN | apply keep_drew | apply keep_alloc | refine keep_far ?_ GW555.out _) | exact HK.out)) (KeepBut.of_grown hg g) (Kd.S_base2 HO_5.out)); have n4_ := am (ho); clear BK555; clear HI0; clear HB; clear HK; clear HO_5; clear HO_556002; have BK555 := n0_; have HI0 := n1_; have HB := n2_; have HK := n3_; have HO580 := n4_; clear n0_ n1_ n2_ n3_ n4_; clear ho hb hg hat))
              have n0_ := am (Kd.S_drew HO580.out)
              have n1_ := am (blk_drew BK555.out)
              have n2_ := am (IsS87.drew HI0.out)
              have n3_ := am (keep_drew HK.out)
              have n4_ := am (below_drew1 HB.out)
              clear HO580
              clear BK555
              clear HI0
              clear HK
              clear HB
              have HO580 := n0_
              have BK555 := n1_
              have HI0 := n2_
              have HK := n3_
              have HB := n4_
              clear n0_ n1_ n2_ n3_ n4_
              refine start_ (n := 9) (S := fun w' => w'.cell? ⟨gb555, 0, none⟩ = some (.int .i64 x6_1) ∧ w'.cell? ⟨gb555, 1, none⟩ = some (.int .i64 t552) ∧ w'.cell? ⟨gb555, 2, none⟩ = some (.slice Ao51 x556002_3.length co51)) (ds := []) #[O,O,O,O,O,O,O,O,O] (by kernel_rfl) rfl rfl ⟨(blk_cell BK555.out 0).trans rfl, (blk_cell BK555.out 1).trans rfl, (blk_cell BK555.out 2).trans rfl⟩ (fun hHeld => ?_); refine with_tabW spec_l1Cur_hunks.tab11 spec_l1Cur_hunks.bits11 (fun HT_ HW_ => ?_)
              generalize w52.drew = w53 at HO580 BK555 HI0 HK HB hHeld ⊢
              refine pure_ (i := 0) (N := some 73) (v := ?_) (a' := ?_) #[Y,O,O,O,O,O,O,O,O] rfl rfl zx (fun _ _ _ h => h) (Or.inl ⟨by rfl, ?_⟩) ?_ ?_
              rotate_left; (intro w'; go_simp; with_reducible rfl); rotate_left; (simp only [Act.put,qa,qb,qc,i64_w,i32_w]; rfl)
              refine pure_ (i := 1) (N := some 74) (v := ?_) (a' := ?_) #[Y,Y,O,O,O,O,O,O,O] rfl rfl zx (fun _ _ _ h => h) (Or.inl ⟨by rfl, ?_⟩) ?_ ?_
              rotate_left; (intro w'; go_simp; with_reducible rfl); rotate_left; (simp only [Act.put,qa,qb,qc,i64_w,i32_w]; rfl)
              refine pure_ (i := 4) (N := some 77) (v := ?_) (a' := ?_) #[Y,Y,O,O,Y,O,O,O,O] rfl rfl zx (fun _ _ _ h => h) (Or.inl ⟨by rfl, ?_⟩) ?_ ?_
              rotate_left; (intro w'; go_simp; with_reducible rfl); rotate_left; (simp only [Act.put,qa,qb,qc,i64_w,i32_w]; rfl)
              refine take_ (i := 2) (N := some 75) (v := ?_) (a' := ?_) #[Y,Y,Y,O,Y,O,O,O,O] rfl rfl (take_ofW HT_.out HW_.out (by kernel_rfl)) (fun _ _ _ h => h) (Or.inl ⟨by rfl, ?_⟩) hHeld ?_ ?_
              rotate_left; (rintro w' ⟨s0, s1, s2⟩; go_simp; with_reducible rfl); rotate_left; (simp only [Act.put,qa,qb,qc,i64_w,i32_w]; rfl)
              refine pure_ (i := 3) (N := some 76) (v := ?_) (a' := ?_) #[Y,Y,Y,Y,Y,O,O,O,O] rfl rfl zx (fun _ _ _ h => h) (Or.inl ⟨by rfl, ?_⟩) ?_ ?_
              rotate_left; (intro w'; go_simp; with_reducible rfl); rotate_left; (simp only [Act.put,qa,qb,qc,i64_w,i32_w]; rfl)
              refine one_ (i := 5) (N := some 78) #[Y,Y,Y,Y,Y,Y,O,O,O] rfl rfl (one_of HT_.out (by kernel_rfl)) (by decide) (fun K hK => ?_)
              refine goes_ Try.func62 (by kernel_rfl) rfl #[.pointer (some ⟨g, 0, none⟩), .int .i64 3] (by rfl) rfl rfl zm ?_
              with_reducible refine (spec_l1Cur_pick.calls g s0_0 x1001_3 x1002_3 3 t581 t582 t583 w0 _ ?side1 ?side2 A48.out).mono ?_
              (case side1 => repeat (first | (with_reducible first | exact HI0.out | apply IsS87.alloc | apply IsS87.drewN | apply IsS87.drew | apply IsS87.set_1 | apply IsS87.set_2 | refine IsS87.far ?_ NB0_555.out _) | exact HI0.out))
              (case side2 => repeat (first | (with_reducible first | exact HB.out | apply below_alloc | apply pw_below_drewN | apply below_drew1 | refine below_set ?_ (IsS87.ge HI0.out) | refine below_set ?_ GE555.out) | exact HB.out))
              rintro e w54 ⟨rfl, hi, hb, hk⟩
              refine ⟨_, rfl, ?_⟩
              have n0_ := am (KeepBut.blk hk (g' := gb555) (o := .cells #[.int .i64 x6_1, .int .i64 t552, .slice Ao51 x556002_3.length co51] 106 (0, 0)) (zk BK555.out) NB555_0.out (by simp))
              have n1_ := am (Kd.S_mono (Kd.S_keep (IsS87.apartS (show IsS87 w0 _ g s0_0 x1001_3 x1002_3 from by repeat (first | (with_reducible first | exact HI0.out | apply IsS87.alloc | apply IsS87.drewN | apply IsS87.drew | apply IsS87.set_1 | apply IsS87.set_2 | refine IsS87.far ?_ NB0_555.out _) | exact HI0.out)) (zs HO580.out) (by decide)) hk (fun _ h => h.2)) (fun _ h => h.1))
              have n2_ := am (KeepBut.trans (by repeat (first | (with_reducible first | exact HK.out | apply KeepBut.set_ | apply keep_drewN | apply keep_drew | apply keep_alloc | refine keep_far ?_ GW555.out _) | exact HK.out)) hk (.inl rfl))
              have n3_ := am (hb)
              have n4_ := am (hi)
              clear BK555
              clear HO580
              clear HK
              clear HB
              clear HI0
              have BK555 := n0_
              have HO580 := n1_
              have HK := n2_
              have HB := n3_
              have HI0 := n4_
              clear n0_ n1_ n2_ n3_ n4_
              (try clear hb)
              (try clear hb2)
              (try clear hk)
              (try clear hi)
              refine hK.out _ _ ⟨(blk_cell BK555.out 0).trans rfl, (blk_cell BK555.out 1).trans rfl, (blk_cell BK555.out 2).trans rfl⟩ (fun hHeld => ?_)
              clear hK K
              refine norm_ (a' := ?_) ?_ ?_
              rotate_left
              ·show Act.put _ (some 78) _ = _
               simp only [Act.put,qa,qb,qc,i64_w,i32_w]
               rfl
              refine pure_ (i := 6) (N := some 79) (v := ?_) (a' := ?_) #[Y,Y,Y,Y,Y,Y,Y,O,O] rfl rfl zx (fun _ _ _ h => h) (Or.inl ⟨by rfl, ?_⟩) ?_ ?_
              rotate_left; (intro w'; go_simp; with_reducible rfl); rotate_left; (simp only [Act.put,qa,qb,qc,i64_w,i32_w]; rfl)
              refine pure_ (i := 7) (N := some 80) (v := ?_) (a' := ?_) #[Y,Y,Y,Y,Y,Y,Y,Y,O] rfl rfl zx (fun _ _ _ h => h) (Or.inl ⟨by rfl, ?_⟩) ?_ ?_
              rotate_left; (intro w'; go_simp; with_reducible rfl); rotate_left; (simp only [Act.put,qa,qb,qc,i64_w,i32_w]; rfl)
              refine pure_ (i := 8) (N := some 6) (v := ?_) (a' := ?_) #[Y,Y,Y,Y,Y,Y,Y,Y,Y] rfl rfl zx (fun _ _ _ h => h) (Or.inl ⟨by rfl, ?_⟩) ?_ ?_
              rotate_left; (intro w'; go_simp; with_reducible rfl); rotate_left; (simp only [Act.put,qa,qb,qc,i64_w,i32_w]; rfl)
              refine done_ (done_of HT_.out (by kernel_rfl)) ?_
              try go_wp2
              go_roundg k3
              case measure => have := HK1.out; have := HJ4.out; have := HK3.out; omega
              case rel => exact ⟨(y578), (wrap64 (x6_1 + (wrap64 ((wrap64 (t552 + 1)) + t581)))), (t582), (t583), zf, H', ⟨by have := HK1.out; have := HJ4.out; have := HK3.out; omega⟩, ⟨by (with_reducible repeat (first | apply Kd.S_alloc | apply Kd.S_drewN | apply Kd.S_drew)); exact Kd.S_mono HO580.out (fun _ hk => trivial)⟩, ⟨by repeat (first | (with_reducible first | exact HI0.out | apply IsS87.alloc | apply IsS87.drewN | apply IsS87.drew | apply IsS87.set_1 | apply IsS87.set_2 | refine IsS87.far ?_ NB0_555.out _) | exact HI0.out)⟩, ⟨by repeat (first | (with_reducible first | exact HK.out | apply KeepBut.set_ | apply keep_drewN | apply keep_drew | apply keep_alloc | refine keep_far ?_ GW555.out _) | exact HK.out)⟩, ⟨by repeat (first | (with_reducible first | exact HB.out | apply below_alloc | apply pw_below_drewN | apply below_drew1 | refine below_set ?_ (IsS87.ge HI0.out) | refine below_set ?_ GE555.out) | exact HB.out)⟩⟩
             ·rw [if_neg c47] at H
              exact absurd H (by simp)
            ·rw [if_neg c46] at H
             have c46b0 : decide (0 < t552) = false := decide_eq_false c46
             clear c46
             replace H := Option.bind_eq_some_iff.mp H
             obtain ⟨⟨t584, t585, t586⟩, A550, H⟩ := H
             replace H : (spec_l1Cur_hunks.l0 k3 l1 x5_1 (wrap64 (x6_1 + (wrap64 ((wrap64 (t552 + 1)) + t584)))) s0_0 t585 t586) = some (r1, r2, r3) := H
             have A55 := am A550
             clear A550
             have H' := am H
             clear H
             have hnb56 := NB555_0.out
             have hnc56 := NB0_555.out
             have hcz57_0 : wr.cell? ⟨gb555, 0, none⟩ = some (.int .i64 x6_1) := (blk_cell BK555.out 0).trans rfl
             have hcz57_1 : wr.cell? ⟨gb555, 1, none⟩ = some (.int .i64 t552) := (blk_cell BK555.out 1).trans rfl
             have hcz57_2 : wr.cell? ⟨gb555, 2, none⟩ = some (u556002) := (blk_cell BK555.out 2).trans rfl
             have hfz57_0 := blk_frozen BK555.out 0
             have hfz57_1 := blk_frozen BK555.out 1
             have hfz57_2 := blk_frozen BK555.out 2
             obtain ⟨Ao58, co58, eo58⟩ := Kd.R_slice HO_556002.out
             subst eo58
             try go_wp2_with (first | (go_at_call 152; (with_reducible refine (spec_l1Whole.calls _ _ l1 false _ ?side1 ?side2 A36.out).mono ?_); (case side1 => exact Kd.C_keep (⟨#[]⟩ : ByteArray) HR1.out (by repeat (first | (with_reducible first | exact HK.out | apply KeepBut.set_ | apply keep_drewN | apply keep_drew | apply keep_alloc | refine keep_far ?_ GW555.out _) | exact HK.out)) hf1); (case side2 => exact HC1.out); rintro e w' ⟨rfl, ⟨nd, rfl⟩⟩))
             (try (rw [drewN_self wr]; generalize hq_ : World.drewN wr _ = wr; have n0_ : Aside0 (Kd.S k106 106 wr w.heap.size (fun k_ => some k_ ≠ (.slice Ao58 x556002_3.length co58 : Value).ownBlock ∧ k_ ≠ gb555) u5 x5_1) := ⟨by rw [← hq_]; exact (zs HO_5.out)⟩; have n1_ : Aside0 (Kd.R Kd.string 9 wr w.heap.size (fun _ => True) (.slice Ao58 x556002_3.length co58) x556002_3) := ⟨by rw [← hq_]; exact (zr HO_556002.out)⟩; have n2_ : Aside0 (wr.heap[gb555]? = some (.cells #[.int .i64 x6_1, .int .i64 t552, .slice Ao58 x556002_3.length co58] 106 (0, 0))) := ⟨by rw [← hq_]; exact (zk BK555.out)⟩; have n3_ : Aside0 (IsS87 w0 wr g s0_0 x1001_3 x1002_3) := ⟨by rw [← hq_]; exact (by repeat (first | (with_reducible first | exact HI0.out | apply IsS87.alloc | apply IsS87.drewN | apply IsS87.drew | apply IsS87.set_1 | apply IsS87.set_2 | refine IsS87.far ?_ NB0_555.out _) | exact HI0.out))⟩; have n4_ : Aside0 (KeepBut w wr g none) := ⟨by rw [← hq_]; exact (by repeat (first | (with_reducible first | exact HK.out | apply KeepBut.set_ | apply keep_drewN | apply keep_drew | apply keep_alloc | refine keep_far ?_ GW555.out _) | exact HK.out))⟩; have n5_ : Aside0 (Below w0.heap.size w0 wr) := ⟨by rw [← hq_]; exact (by repeat (first | (with_reducible first | exact HB.out | apply below_alloc | apply pw_below_drewN | apply below_drew1 | refine below_set ?_ (IsS87.ge HI0.out) | refine below_set ?_ GE555.out) | exact HB.out))⟩; clear HO_5 HO_556002 BK555 HI0 HK HB hq_; have HO_5 := n0_; have HO_556002 := n1_; have BK555 := n2_; have HI0 := n3_; have HK := n4_; have HB := n5_; clear n0_ n1_ n2_ n3_ n4_ n5_))
             have n0_ := am (Kd.S_drew HO_5.out)
             have n1_ := am (Kd.R_drew HO_556002.out)
             have n2_ := am (blk_drew BK555.out)
             have n3_ := am (IsS87.drew HI0.out)
             have n4_ := am (keep_drew HK.out)
             have n5_ := am (below_drew1 HB.out)
             clear HO_5
             clear HO_556002
             clear BK555
             clear HI0
             clear HK
             clear HB
             have HO_5 := n0_
             have HO_556002 := n1_
             have BK555 := n2_
             have HI0 := n3_
             have HK := n4_
             have HB := n5_
             clear n0_ n1_ n2_ n3_ n4_ n5_
             refine start_ (n := 9) (S := fun w' => w'.cell? ⟨gb555, 0, none⟩ = some (.int .i64 x6_1) ∧ w'.cell? ⟨gb555, 1, none⟩ = some (.int .i64 t552) ∧ w'.cell? ⟨gb555, 2, none⟩ = some (.slice Ao58 x556002_3.length co58)) (ds := []) #[O,O,O,O,O,O,O,O,O] (by kernel_rfl) rfl rfl ⟨(blk_cell BK555.out 0).trans rfl, (blk_cell BK555.out 1).trans rfl, (blk_cell BK555.out 2).trans rfl⟩ (fun hHeld => ?_); refine with_tabW spec_l1Cur_hunks.tab11 spec_l1Cur_hunks.bits11 (fun HT_ HW_ => ?_)
             generalize wr.drew = w59 at HO_5 HO_556002 BK555 HI0 HK HB hHeld ⊢
             refine pure_ (i := 0) (N := some 73) (v := ?_) (a' := ?_) #[Y,O,O,O,O,O,O,O,O] rfl rfl zx (fun _ _ _ h => h) (Or.inl ⟨by rfl, ?_⟩) ?_ ?_
             rotate_left; (intro w'; go_simp; with_reducible rfl); rotate_left; (simp only [Act.put,qa,qb,qc,i64_w,i32_w]; rfl)
             refine pure_ (i := 1) (N := some 74) (v := ?_) (a' := ?_) #[Y,Y,O,O,O,O,O,O,O] rfl rfl zx (fun _ _ _ h => h) (Or.inl ⟨by rfl, ?_⟩) ?_ ?_
             rotate_left; (intro w'; go_simp; with_reducible rfl); rotate_left; (simp only [Act.put,qa,qb,qc,i64_w,i32_w]; rfl)
             refine pure_ (i := 4) (N := some 77) (v := ?_) (a' := ?_) #[Y,Y,O,O,Y,O,O,O,O] rfl rfl zx (fun _ _ _ h => h) (Or.inl ⟨by rfl, ?_⟩) ?_ ?_
             rotate_left; (intro w'; go_simp; with_reducible rfl); rotate_left; (simp only [Act.put,qa,qb,qc,i64_w,i32_w]; rfl)
             refine take_ (i := 2) (N := some 75) (v := ?_) (a' := ?_) #[Y,Y,Y,O,Y,O,O,O,O] rfl rfl (take_ofW HT_.out HW_.out (by kernel_rfl)) (fun _ _ _ h => h) (Or.inl ⟨by rfl, ?_⟩) hHeld ?_ ?_
             rotate_left; (rintro w' ⟨s0, s1, s2⟩; go_simp; with_reducible rfl); rotate_left; (simp only [Act.put,qa,qb,qc,i64_w,i32_w]; rfl)
             refine pure_ (i := 3) (N := some 76) (v := ?_) (a' := ?_) #[Y,Y,Y,Y,Y,O,O,O,O] rfl rfl zx (fun _ _ _ h => h) (Or.inl ⟨by rfl, ?_⟩) ?_ ?_
             rotate_left; (intro w'; go_simp; with_reducible rfl); rotate_left; (simp only [Act.put,qa,qb,qc,i64_w,i32_w]; rfl)
             refine one_ (i := 5) (N := some 78) #[Y,Y,Y,Y,Y,Y,O,O,O] rfl rfl (one_of HT_.out (by kernel_rfl)) (by decide) (fun K hK => ?_)
             refine goes_ Try.func62 (by kernel_rfl) rfl #[.pointer (some ⟨g, 0, none⟩), .int .i64 3] (by rfl) rfl rfl zm ?_
             with_reducible refine (spec_l1Cur_pick.calls g s0_0 x1001_3 x1002_3 3 t584 t585 t586 w0 _ ?side1 ?side2 A55.out).mono ?_
             (case side1 => repeat (first | (with_reducible first | exact HI0.out | apply IsS87.alloc | apply IsS87.drewN | apply IsS87.drew | apply IsS87.set_1 | apply IsS87.set_2 | refine IsS87.far ?_ NB0_555.out _) | exact HI0.out))
             (case side2 => repeat (first | (with_reducible first | exact HB.out | apply below_alloc | apply pw_below_drewN | apply below_drew1 | refine below_set ?_ (IsS87.ge HI0.out) | refine below_set ?_ GE555.out) | exact HB.out))
             rintro e w60 ⟨rfl, hi, hb, hk⟩
             refine ⟨_, rfl, ?_⟩
             have n0_ := am (Kd.S_mono (Kd.S_keep (IsS87.apartS (show IsS87 w0 _ g s0_0 x1001_3 x1002_3 from by repeat (first | (with_reducible first | exact HI0.out | apply IsS87.alloc | apply IsS87.drewN | apply IsS87.drew | apply IsS87.set_1 | apply IsS87.set_2 | refine IsS87.far ?_ NB0_555.out _) | exact HI0.out)) (zs HO_5.out) (by decide)) hk (fun _ h => h.2)) (fun _ h => h.1))
             have n1_ := am (Kd.R_mono (Kd.R_keep (IsS87.apart (show IsS87 w0 _ g s0_0 x1001_3 x1002_3 from by repeat (first | (with_reducible first | exact HI0.out | apply IsS87.alloc | apply IsS87.drewN | apply IsS87.drew | apply IsS87.set_1 | apply IsS87.set_2 | refine IsS87.far ?_ NB0_555.out _) | exact HI0.out)) (zr HO_556002.out) (by decide)) hk (fun _ h => h.2)) (fun _ h => h.1))
             have n2_ := am (KeepBut.blk hk (g' := gb555) (o := .cells #[.int .i64 x6_1, .int .i64 t552, .slice Ao58 x556002_3.length co58] 106 (0, 0)) (zk BK555.out) NB555_0.out (by simp))
             have n3_ := am (KeepBut.trans (by repeat (first | (with_reducible first | exact HK.out | apply KeepBut.set_ | apply keep_drewN | apply keep_drew | apply keep_alloc | refine keep_far ?_ GW555.out _) | exact HK.out)) hk (.inl rfl))
             have n4_ := am (hb)
             have n5_ := am (hi)
             clear HO_5
             clear HO_556002
             clear BK555
             clear HK
             clear HB
             clear HI0
             have HO_5 := n0_
             have HO_556002 := n1_
             have BK555 := n2_
             have HK := n3_
             have HB := n4_
             have HI0 := n5_
             clear n0_ n1_ n2_ n3_ n4_ n5_
             (try clear hb)
             (try clear hb2)
             (try clear hk)
             (try clear hi)
             refine hK.out _ _ ⟨(blk_cell BK555.out 0).trans rfl, (blk_cell BK555.out 1).trans rfl, (blk_cell BK555.out 2).trans rfl⟩ (fun hHeld => ?_)
             clear hK K
             refine norm_ (a' := ?_) ?_ ?_
             rotate_left
             ·show Act.put _ (some 78) _ = _
              simp only [Act.put,qa,qb,qc,i64_w,i32_w]
              rfl
             refine pure_ (i := 6) (N := some 79) (v := ?_) (a' := ?_) #[Y,Y,Y,Y,Y,Y,Y,O,O] rfl rfl zx (fun _ _ _ h => h) (Or.inl ⟨by rfl, ?_⟩) ?_ ?_
             rotate_left; (intro w'; go_simp; with_reducible rfl); rotate_left; (simp only [Act.put,qa,qb,qc,i64_w,i32_w]; rfl)
             refine pure_ (i := 7) (N := some 80) (v := ?_) (a' := ?_) #[Y,Y,Y,Y,Y,Y,Y,Y,O] rfl rfl zx (fun _ _ _ h => h) (Or.inl ⟨by rfl, ?_⟩) ?_ ?_
             rotate_left; (intro w'; go_simp; with_reducible rfl); rotate_left; (simp only [Act.put,qa,qb,qc,i64_w,i32_w]; rfl)
             refine pure_ (i := 8) (N := some 6) (v := ?_) (a' := ?_) #[Y,Y,Y,Y,Y,Y,Y,Y,Y] rfl rfl zx (fun _ _ _ h => h) (Or.inl ⟨by rfl, ?_⟩) ?_ ?_
             rotate_left; (intro w'; go_simp; with_reducible rfl); rotate_left; (simp only [Act.put,qa,qb,qc,i64_w,i32_w]; rfl)
             refine done_ (done_of HT_.out (by kernel_rfl)) ?_
             try go_wp2
             go_roundg k3
             case measure => have := HK1.out; have := HJ4.out; have := HK3.out; omega
             case rel => exact ⟨(x5_1), (wrap64 (x6_1 + (wrap64 ((wrap64 (t552 + 1)) + t584)))), (t585), (t586), zf, H', ⟨by have := HK1.out; have := HJ4.out; have := HK3.out; omega⟩, ⟨by (with_reducible repeat (first | apply Kd.S_alloc | apply Kd.S_drewN | apply Kd.S_drew)); exact Kd.S_mono HO_5.out (fun _ hk => trivial)⟩, ⟨by repeat (first | (with_reducible first | exact HI0.out | apply IsS87.alloc | apply IsS87.drewN | apply IsS87.drew | apply IsS87.set_1 | apply IsS87.set_2 | refine IsS87.far ?_ NB0_555.out _) | exact HI0.out)⟩, ⟨by repeat (first | (with_reducible first | exact HK.out | apply KeepBut.set_ | apply keep_drewN | apply keep_drew | apply keep_alloc | refine keep_far ?_ GW555.out _) | exact HK.out)⟩, ⟨by repeat (first | (with_reducible first | exact HB.out | apply below_alloc | apply pw_below_drewN | apply below_drew1 | refine below_set ?_ (IsS87.ge HI0.out) | refine below_set ?_ GE555.out) | exact HB.out)⟩⟩
         ·rw [if_neg c26] at H
          have c26b0 : decide (0 < (wrap64 (t552 + (x556002_3.length : Int)))) = false := decide_eq_false c26
          clear c26
          replace H := Option.bind_eq_some_iff.mp H
          obtain ⟨⟨t587, t588, t589⟩, A610, H⟩ := H
          replace H : (spec_l1Cur_hunks.l0 k3 l1 x5_1 (wrap64 (x6_1 + (wrap64 ((wrap64 (t552 + 1)) + t587)))) s0_0 t588 t589) = some (r1, r2, r3) := H
          have A61 := am A610
          clear A610
          have H' := am H
          clear H
          have hnb62 := NB555_0.out
          have hnc62 := NB0_555.out
          have hcz63_0 : wr.cell? ⟨gb555, 0, none⟩ = some (.int .i64 x6_1) := (blk_cell BK555.out 0).trans rfl
          have hcz63_1 : wr.cell? ⟨gb555, 1, none⟩ = some (.int .i64 t552) := (blk_cell BK555.out 1).trans rfl
          have hcz63_2 : wr.cell? ⟨gb555, 2, none⟩ = some (u556002) := (blk_cell BK555.out 2).trans rfl
          have hfz63_0 := blk_frozen BK555.out 0
          have hfz63_1 := blk_frozen BK555.out 1
          have hfz63_2 := blk_frozen BK555.out 2
          obtain ⟨Ao64, co64, eo64⟩ := Kd.R_slice HO_556002.out
          subst eo64
          try go_wp2
          have n0_ := am (Kd.S_drew HO_5.out)
          have n1_ := am (Kd.R_drew HO_556002.out)
          have n2_ := am (blk_drew BK555.out)
          have n3_ := am (IsS87.drew HI0.out)
          have n4_ := am (keep_drew HK.out)
          have n5_ := am (below_drew1 HB.out)
          clear HO_5
          clear HO_556002
          clear BK555
          clear HI0
          clear HK
          clear HB
          have HO_5 := n0_
          have HO_556002 := n1_
          have BK555 := n2_
          have HI0 := n3_
          have HK := n4_
          have HB := n5_
          clear n0_ n1_ n2_ n3_ n4_ n5_
          refine start_ (n := 9) (S := fun w' => w'.cell? ⟨gb555, 0, none⟩ = some (.int .i64 x6_1) ∧ w'.cell? ⟨gb555, 1, none⟩ = some (.int .i64 t552) ∧ w'.cell? ⟨gb555, 2, none⟩ = some (.slice Ao64 x556002_3.length co64)) (ds := []) #[O,O,O,O,O,O,O,O,O] (by kernel_rfl) rfl rfl ⟨(blk_cell BK555.out 0).trans rfl, (blk_cell BK555.out 1).trans rfl, (blk_cell BK555.out 2).trans rfl⟩ (fun hHeld => ?_); refine with_tabW spec_l1Cur_hunks.tab11 spec_l1Cur_hunks.bits11 (fun HT_ HW_ => ?_)
          generalize wr.drew = w65 at HO_5 HO_556002 BK555 HI0 HK HB hHeld ⊢
          refine pure_ (i := 0) (N := some 73) (v := ?_) (a' := ?_) #[Y,O,O,O,O,O,O,O,O] rfl rfl zx (fun _ _ _ h => h) (Or.inl ⟨by rfl, ?_⟩) ?_ ?_
          rotate_left; (intro w'; go_simp; with_reducible rfl); rotate_left; (simp only [Act.put,qa,qb,qc,i64_w,i32_w]; rfl)
          refine pure_ (i := 1) (N := some 74) (v := ?_) (a' := ?_) #[Y,Y,O,O,O,O,O,O,O] rfl rfl zx (fun _ _ _ h => h) (Or.inl ⟨by rfl, ?_⟩) ?_ ?_
          rotate_left; (intro w'; go_simp; with_reducible rfl); rotate_left; (simp only [Act.put,qa,qb,qc,i64_w,i32_w]; rfl)
          refine pure_ (i := 4) (N := some 77) (v := ?_) (a' := ?_) #[Y,Y,O,O,Y,O,O,O,O] rfl rfl zx (fun _ _ _ h => h) (Or.inl ⟨by rfl, ?_⟩) ?_ ?_
          rotate_left; (intro w'; go_simp; with_reducible rfl); rotate_left; (simp only [Act.put,qa,qb,qc,i64_w,i32_w]; rfl)
          refine take_ (i := 2) (N := some 75) (v := ?_) (a' := ?_) #[Y,Y,Y,O,Y,O,O,O,O] rfl rfl (take_ofW HT_.out HW_.out (by kernel_rfl)) (fun _ _ _ h => h) (Or.inl ⟨by rfl, ?_⟩) hHeld ?_ ?_
          rotate_left; (rintro w' ⟨s0, s1, s2⟩; go_simp; with_reducible rfl); rotate_left; (simp only [Act.put,qa,qb,qc,i64_w,i32_w]; rfl)
          refine pure_ (i := 3) (N := some 76) (v := ?_) (a' := ?_) #[Y,Y,Y,Y,Y,O,O,O,O] rfl rfl zx (fun _ _ _ h => h) (Or.inl ⟨by rfl, ?_⟩) ?_ ?_
          rotate_left; (intro w'; go_simp; with_reducible rfl); rotate_left; (simp only [Act.put,qa,qb,qc,i64_w,i32_w]; rfl)
          refine one_ (i := 5) (N := some 78) #[Y,Y,Y,Y,Y,Y,O,O,O] rfl rfl (one_of HT_.out (by kernel_rfl)) (by decide) (fun K hK => ?_)
          refine goes_ Try.func62 (by kernel_rfl) rfl #[.pointer (some ⟨g, 0, none⟩), .int .i64 3] (by rfl) rfl rfl zm ?_
          with_reducible refine (spec_l1Cur_pick.calls g s0_0 x1001_3 x1002_3 3 t587 t588 t589 w0 _ ?side1 ?side2 A61.out).mono ?_
          (case side1 => repeat (first | (with_reducible first | exact HI0.out | apply IsS87.alloc | apply IsS87.drewN | apply IsS87.drew | apply IsS87.set_1 | apply IsS87.set_2 | refine IsS87.far ?_ NB0_555.out _) | exact HI0.out))
          (case side2 => repeat (first | (with_reducible first | exact HB.out | apply below_alloc | apply pw_below_drewN | apply below_drew1 | refine below_set ?_ (IsS87.ge HI0.out) | refine below_set ?_ GE555.out) | exact HB.out))
          rintro e w66 ⟨rfl, hi, hb, hk⟩
          refine ⟨_, rfl, ?_⟩
          have n0_ := am (Kd.S_mono (Kd.S_keep (IsS87.apartS (show IsS87 w0 _ g s0_0 x1001_3 x1002_3 from by repeat (first | (with_reducible first | exact HI0.out | apply IsS87.alloc | apply IsS87.drewN | apply IsS87.drew | apply IsS87.set_1 | apply IsS87.set_2 | refine IsS87.far ?_ NB0_555.out _) | exact HI0.out)) (zs HO_5.out) (by decide)) hk (fun _ h => h.2)) (fun _ h => h.1))
          have n1_ := am (Kd.R_mono (Kd.R_keep (IsS87.apart (show IsS87 w0 _ g s0_0 x1001_3 x1002_3 from by repeat (first | (with_reducible first | exact HI0.out | apply IsS87.alloc | apply IsS87.drewN | apply IsS87.drew | apply IsS87.set_1 | apply IsS87.set_2 | refine IsS87.far ?_ NB0_555.out _) | exact HI0.out)) (zr HO_556002.out) (by decide)) hk (fun _ h => h.2)) (fun _ h => h.1))
          have n2_ := am (KeepBut.blk hk (g' := gb555) (o := .cells #[.int .i64 x6_1, .int .i64 t552, .slice Ao64 x556002_3.length co64] 106 (0, 0)) (zk BK555.out) NB555_0.out (by simp))
          have n3_ := am (KeepBut.trans (by repeat (first | (with_reducible first | exact HK.out | apply KeepBut.set_ | apply keep_drewN | apply keep_drew | apply keep_alloc | refine keep_far ?_ GW555.out _) | exact HK.out)) hk (.inl rfl))
          have n4_ := am (hb)
          have n5_ := am (hi)
          clear HO_5
          clear HO_556002
          clear BK555
          clear HK
          clear HB
          clear HI0
          have HO_5 := n0_
          have HO_556002 := n1_
          have BK555 := n2_
          have HK := n3_
          have HB := n4_
          have HI0 := n5_
          clear n0_ n1_ n2_ n3_ n4_ n5_
          (try clear hb)
          (try clear hb2)
          (try clear hk)
          (try clear hi)
          refine hK.out _ _ ⟨(blk_cell BK555.out 0).trans rfl, (blk_cell BK555.out 1).trans rfl, (blk_cell BK555.out 2).trans rfl⟩ (fun hHeld => ?_)
          clear hK K
          refine norm_ (a' := ?_) ?_ ?_
          rotate_left
          ·show Act.put _ (some 78) _ = _
           simp only [Act.put,qa,qb,qc,i64_w,i32_w]
           rfl
          refine pure_ (i := 6) (N := some 79) (v := ?_) (a' := ?_) #[Y,Y,Y,Y,Y,Y,Y,O,O] rfl rfl zx (fun _ _ _ h => h) (Or.inl ⟨by rfl, ?_⟩) ?_ ?_
          rotate_left; (intro w'; go_simp; with_reducible rfl); rotate_left; (simp only [Act.put,qa,qb,qc,i64_w,i32_w]; rfl)
          refine pure_ (i := 7) (N := some 80) (v := ?_) (a' := ?_) #[Y,Y,Y,Y,Y,Y,Y,Y,O] rfl rfl zx (fun _ _ _ h => h) (Or.inl ⟨by rfl, ?_⟩) ?_ ?_
          rotate_left; (intro w'; go_simp; with_reducible rfl); rotate_left; (simp only [Act.put,qa,qb,qc,i64_w,i32_w]; rfl)
          refine pure_ (i := 8) (N := some 6) (v := ?_) (a' := ?_) #[Y,Y,Y,Y,Y,Y,Y,Y,Y] rfl rfl zx (fun _ _ _ h => h) (Or.inl ⟨by rfl, ?_⟩) ?_ ?_
          rotate_left; (intro w'; go_simp; with_reducible rfl); rotate_left; (simp only [Act.put,qa,qb,qc,i64_w,i32_w]; rfl)
          refine done_ (done_of HT_.out (by kernel_rfl)) ?_
          try go_wp2
          go_roundg k3
          case measure => have := HK1.out; have := HJ4.out; have := HK3.out; omega
          case rel => exact ⟨(x5_1), (wrap64 (x6_1 + (wrap64 ((wrap64 (t552 + 1)) + t587)))), (t588), (t589), zf, H', ⟨by have := HK1.out; have := HJ4.out; have := HK3.out; omega⟩, ⟨by (with_reducible repeat (first | apply Kd.S_alloc | apply Kd.S_drewN | apply Kd.S_drew)); exact Kd.S_mono HO_5.out (fun _ hk => trivial)⟩, ⟨by repeat (first | (with_reducible first | exact HI0.out | apply IsS87.alloc | apply IsS87.drewN | apply IsS87.drew | apply IsS87.set_1 | apply IsS87.set_2 | refine IsS87.far ?_ NB0_555.out _) | exact HI0.out)⟩, ⟨by repeat (first | (with_reducible first | exact HK.out | apply KeepBut.set_ | apply keep_drewN | apply keep_drew | apply keep_alloc | refine keep_far ?_ GW555.out _) | exact HK.out)⟩, ⟨by repeat (first | (with_reducible first | exact HB.out | apply below_alloc | apply pw_below_drewN | apply below_drew1 | refine below_set ?_ (IsS87.ge HI0.out) | refine below_set ?_ GE555.out) | exact HB.out)⟩⟩
     ·replace c8 := Bool.eq_false_iff.mpr c8
      subst c8
      have H1 : (some (x5_1, x1001_1, x1002_1)) = some (r1, r2, r3) := by rw [if_neg (show ¬ (false = true) by decide)] at H; exact H
      clear H
      have H := H1
      clear H1
      simp only [Option.some.injEq, Prod.mk.injEq] at H
      obtain ⟨rfl, rfl, rfl⟩ := H
      go_wp2
      go_ret
      exact ⟨_, by first | rfl | (simp [errW_none, errW_some] <;> rfl) | (simp [*, errW_none, errW_some] <;> rfl), by (with_reducible repeat (first | apply Kd.S_alloc | apply Kd.S_drewN | apply Kd.S_drew)); exact HO_5.out, zi, zj, zh⟩
end Go.Proofs.Ytmcldkobejhaeaa.My
/- Written by this session's program (wip/gen): a plain function with the same answers as the Go function, and the proof that the Go code comes to them. Asked: that the plain function has an answer. -/
namespace Go.Proofs.Ytmcldkobejhaeaa.My
open Go.RowKit Go.Proofs.YtmcldkobejhaeaaW.PrintWords Go.Proofs.YtmcldkobejhaeaaW.PrintLast Go.Proofs.YtmcldkobejhaeaaW.PrintMore
attribute [local go_sem] max2_int min2_int max_two min_two max_three min_three max_four min_four
set_option linter.unusedVariables false
set_option linter.unusedSimpArgs false
def spec_l1Cur_anyHunks.f (k : Nat) (s0_0 : List Int) (s0_1 : Int) (s0_2 : Int) (l1 : List ByteArray) : Option ((List (S106)) × Int × Int) := (spec_l1Cur_hunks.f k s0_0 s0_1 s0_2 l1).bind fun bt594 => (if (bt594.1.length : Int) > 0 then ((spec_l1Cur_pick.f s0_0 bt594.2.1 bt594.2.2 (bt594.1.length : Int)).bind fun bt599 => ((spec_l1Cur_pick.f s0_0 bt599.2.1 bt599.2.2 25).bind fun bt602 => (if bt602.1 = 0 then ((spec_l1Cur_among.f s0_0 bt602.2.1 bt602.2.2 (([(-1), 40, 3] : List Int))).bind fun bt608 => (if 0 ≤ bt599.1 then (if bt599.1 < (bt594.1.length : Int) then (some ((bt594.1.set (bt599.1 : Int).toNat (⟨bt608.1, (rd_T106 bt594.1 bt599.1).f1, (rd_T106 bt594.1 bt599.1).f2⟩ : S106)), bt608.2.1, bt608.2.2)) else (none)) else (none))) else (if bt602.1 = 1 then (if 0 ≤ bt599.1 then (if bt599.1 < (bt594.1.length : Int) then (some ((bt594.1.set (bt599.1 : Int).toNat (⟨(rd_T106 bt594.1 bt599.1).f0, wrap64 (((rd_T106 bt594.1 bt599.1).f1) + 3), (rd_T106 bt594.1 bt599.1).f2⟩ : S106)), bt602.2.1, bt602.2.2)) else (none)) else (none)) else (if bt602.1 = 2 then (if 0 ≤ bt599.1 then (if bt599.1 < (bt594.1.length : Int) then (some ((bt594.1.set (bt599.1 : Int).toNat (⟨(rd_T106 bt594.1 bt599.1).f0, (rd_T106 bt594.1 bt599.1).f1, (([(⟨#[]⟩ : ByteArray)] : List ByteArray))⟩ : S106)), bt602.2.1, bt602.2.2)) else (none)) else (none)) else (if bt602.1 = 3 then (if 0 ≤ bt599.1 then (if bt599.1 < (bt594.1.length : Int) then (if ((rd_T106 bt594.1 bt599.1).f2).length < 8796093022208 then (some ((bt594.1.set (bt599.1 : Int).toNat (⟨(rd_T106 bt594.1 bt599.1).f0, (rd_T106 bt594.1 bt599.1).f1, (((rd_T106 bt594.1 bt599.1).f2) ++ [(⟨#[101, 110, 100]⟩ : ByteArray)])⟩ : S106)), bt602.2.1, bt602.2.2)) else (none)) else (none)) else (none)) else (some (bt594.1, bt602.2.1, bt602.2.2)))))))) else (some (bt594.1, bt594.2.1, bt594.2.2)))
set_option maxHeartbeats 8000000 in
set_option maxRecDepth 100000 in
theorem spec_l1Cur_anyHunks.calls (k : Nat) (g : Nat) (s0_0 : List Int) (s0_1 : Int) (s0_2 : Int) (A1 : Option Addr) (c1 : Nat) (l1 : List ByteArray) (r1 : List (S106)) (r2 : Int) (r3 : Int) (w0 w : World) (hI : IsS87 w0 w g s0_0 s0_1 s0_2) (hB : Below w0.heap.size w0 w) (hr1 : Kd.C Kd.string w A1 l1.length l1) (hc1 : l1.length ≤ c1) (hf1 : ∀ ad, A1 = some ad → 0 < l1.length → ad.block ≠ g) (h : spec_l1Cur_anyHunks.f k s0_0 s0_1 s0_2 l1 = some (r1, r2, r3)) :
  Calls Try.prog 132 #[.pointer (some ⟨g, 0, none⟩), .slice A1 l1.length c1] w fun e w' => ∃ v0_ : Value, e = .returned (v0_) ∧ Kd.S k106 106 w' w.heap.size (fun _ => True) v0_ r1 ∧ IsS87 w0 w' g s0_0 r2 r3 ∧ Below w0.heap.size w0 w' ∧ KeepBut w w' g none := by
 have HR1 := am hr1
 have HC1 := am hc1
 clear hr1 hc1
 have HI0 := am hI
 have HK := am (KeepBut.refl w g none)
 have HL := am hB.size
 clear hI
 have HW0 := am hB.size
 have HB := am hB
 clear hB
 have H : ((spec_l1Cur_hunks.f k s0_0 s0_1 s0_2 l1).bind fun bt594 => (if (bt594.1.length : Int) > 0 then ((spec_l1Cur_pick.f s0_0 bt594.2.1 bt594.2.2 (bt594.1.length : Int)).bind fun bt599 => ((spec_l1Cur_pick.f s0_0 bt599.2.1 bt599.2.2 25).bind fun bt602 => (if bt602.1 = 0 then ((spec_l1Cur_among.f s0_0 bt602.2.1 bt602.2.2 (([(-1), 40, 3] : List Int))).bind fun bt608 => (if 0 ≤ bt599.1 then (if bt599.1 < (bt594.1.length : Int) then (some ((bt594.1.set (bt599.1 : Int).toNat (⟨bt608.1, (rd_T106 bt594.1 bt599.1).f1, (rd_T106 bt594.1 bt599.1).f2⟩ : S106)), bt608.2.1, bt608.2.2)) else (none)) else (none))) else (if bt602.1 = 1 then (if 0 ≤ bt599.1 then (if bt599.1 < (bt594.1.length : Int) then (some ((bt594.1.set (bt599.1 : Int).toNat (⟨(rd_T106 bt594.1 bt599.1).f0, wrap64 (((rd_T106 bt594.1 bt599.1).f1) + 3), (rd_T106 bt594.1 bt599.1).f2⟩ : S106)), bt602.2.1, bt602.2.2)) else (none)) else (none)) else (if bt602.1 = 2 then (if 0 ≤ bt599.1 then (if bt599.1 < (bt594.1.length : Int) then (some ((bt594.1.set (bt599.1 : Int).toNat (⟨(rd_T106 bt594.1 bt599.1).f0, (rd_T106 bt594.1 bt599.1).f1, (([(⟨#[]⟩ : ByteArray)] : List ByteArray))⟩ : S106)), bt602.2.1, bt602.2.2)) else (none)) else (none)) else (if bt602.1 = 3 then (if 0 ≤ bt599.1 then (if bt599.1 < (bt594.1.length : Int) then (if ((rd_T106 bt594.1 bt599.1).f2).length < 8796093022208 then (some ((bt594.1.set (bt599.1 : Int).toNat (⟨(rd_T106 bt594.1 bt599.1).f0, (rd_T106 bt594.1 bt599.1).f1, (((rd_T106 bt594.1 bt599.1).f2) ++ [(⟨#[101, 110, 100]⟩ : ByteArray)])⟩ : S106)), bt602.2.1, bt602.2.2)) else (none)) else (none)) else (none)) else (some (bt594.1, bt602.2.1, bt602.2.2)))))))) else (some (bt594.1, bt594.2.1, bt594.2.2)))) = some (r1, r2, r3) := h
 clear h
 replace H := Option.bind_eq_some_iff.mp H
 obtain ⟨⟨t594, t597, t598⟩, A30, H⟩ := H
 replace H : (if (t594.length : Int) > 0 then ((spec_l1Cur_pick.f s0_0 t597 t598 (t594.length : Int)).bind fun bt599 => ((spec_l1Cur_pick.f s0_0 bt599.2.1 bt599.2.2 25).bind fun bt602 => (if bt602.1 = 0 then ((spec_l1Cur_among.f s0_0 bt602.2.1 bt602.2.2 (([(-1), 40, 3] : List Int))).bind fun bt608 => (if 0 ≤ bt599.1 then (if bt599.1 < (t594.length : Int) then (some ((t594.set (bt599.1 : Int).toNat (⟨bt608.1, (rd_T106 t594 bt599.1).f1, (rd_T106 t594 bt599.1).f2⟩ : S106)), bt608.2.1, bt608.2.2)) else (none)) else (none))) else (if bt602.1 = 1 then (if 0 ≤ bt599.1 then (if bt599.1 < (t594.length : Int) then (some ((t594.set (bt599.1 : Int).toNat (⟨(rd_T106 t594 bt599.1).f0, wrap64 (((rd_T106 t594 bt599.1).f1) + 3), (rd_T106 t594 bt599.1).f2⟩ : S106)), bt602.2.1, bt602.2.2)) else (none)) else (none)) else (if bt602.1 = 2 then (if 0 ≤ bt599.1 then (if bt599.1 < (t594.length : Int) then (some ((t594.set (bt599.1 : Int).toNat (⟨(rd_T106 t594 bt599.1).f0, (rd_T106 t594 bt599.1).f1, (([(⟨#[]⟩ : ByteArray)] : List ByteArray))⟩ : S106)), bt602.2.1, bt602.2.2)) else (none)) else (none)) else (if bt602.1 = 3 then (if 0 ≤ bt599.1 then (if bt599.1 < (t594.length : Int) then (if ((rd_T106 t594 bt599.1).f2).length < 8796093022208 then (some ((t594.set (bt599.1 : Int).toNat (⟨(rd_T106 t594 bt599.1).f0, (rd_T106 t594 bt599.1).f1, (((rd_T106 t594 bt599.1).f2) ++ [(⟨#[101, 110, 100]⟩ : ByteArray)])⟩ : S106)), bt602.2.1, bt602.2.2)) else (none)) else (none)) else (none)) else (some (t594, bt602.2.1, bt602.2.2)))))))) else (some (t594, t597, t598))) = some (r1, r2, r3) := H
 have A3 := am A30
 clear A30
 by_cases c4 : (t594.length : Int) > 0
 ·rw [if_pos c4] at H
  have c4b0 : decide (0 < (t594.length : Int)) = true := decide_eq_true c4
  have c4b1 : decide (0 < t594.length) = true := decide_eq_true (by omega)
  clear c4
  replace H := Option.bind_eq_some_iff.mp H
  obtain ⟨⟨t599, t600, t601⟩, A50, H⟩ := H
  replace H : ((spec_l1Cur_pick.f s0_0 t600 t601 25).bind fun bt602 => (if bt602.1 = 0 then ((spec_l1Cur_among.f s0_0 bt602.2.1 bt602.2.2 (([(-1), 40, 3] : List Int))).bind fun bt608 => (if 0 ≤ t599 then (if t599 < (t594.length : Int) then (some ((t594.set (t599 : Int).toNat (⟨bt608.1, (rd_T106 t594 t599).f1, (rd_T106 t594 t599).f2⟩ : S106)), bt608.2.1, bt608.2.2)) else (none)) else (none))) else (if bt602.1 = 1 then (if 0 ≤ t599 then (if t599 < (t594.length : Int) then (some ((t594.set (t599 : Int).toNat (⟨(rd_T106 t594 t599).f0, wrap64 (((rd_T106 t594 t599).f1) + 3), (rd_T106 t594 t599).f2⟩ : S106)), bt602.2.1, bt602.2.2)) else (none)) else (none)) else (if bt602.1 = 2 then (if 0 ≤ t599 then (if t599 < (t594.length : Int) then (some ((t594.set (t599 : Int).toNat (⟨(rd_T106 t594 t599).f0, (rd_T106 t594 t599).f1, (([(⟨#[]⟩ : ByteArray)] : List ByteArray))⟩ : S106)), bt602.2.1, bt602.2.2)) else (none)) else (none)) else (if bt602.1 = 3 then (if 0 ≤ t599 then (if t599 < (t594.length : Int) then (if ((rd_T106 t594 t599).f2).length < 8796093022208 then (some ((t594.set (t599 : Int).toNat (⟨(rd_T106 t594 t599).f0, (rd_T106 t594 t599).f1, (((rd_T106 t594 t599).f2) ++ [(⟨#[101, 110, 100]⟩ : ByteArray)])⟩ : S106)), bt602.2.1, bt602.2.2)) else (none)) else (none)) else (none)) else (some (t594, bt602.2.1, bt602.2.2))))))) = some (r1, r2, r3) := H
  have A5 := am A50
  clear A50
  replace H := Option.bind_eq_some_iff.mp H
  obtain ⟨⟨t602, t603, t604⟩, A60, H⟩ := H
  replace H : (if t602 = 0 then ((spec_l1Cur_among.f s0_0 t603 t604 (([(-1), 40, 3] : List Int))).bind fun bt608 => (if 0 ≤ t599 then (if t599 < (t594.length : Int) then (some ((t594.set (t599 : Int).toNat (⟨bt608.1, (rd_T106 t594 t599).f1, (rd_T106 t594 t599).f2⟩ : S106)), bt608.2.1, bt608.2.2)) else (none)) else (none))) else (if t602 = 1 then (if 0 ≤ t599 then (if t599 < (t594.length : Int) then (some ((t594.set (t599 : Int).toNat (⟨(rd_T106 t594 t599).f0, wrap64 (((rd_T106 t594 t599).f1) + 3), (rd_T106 t594 t599).f2⟩ : S106)), t603, t604)) else (none)) else (none)) else (if t602 = 2 then (if 0 ≤ t599 then (if t599 < (t594.length : Int) then (some ((t594.set (t599 : Int).toNat (⟨(rd_T106 t594 t599).f0, (rd_T106 t594 t599).f1, (([(⟨#[]⟩ : ByteArray)] : List ByteArray))⟩ : S106)), t603, t604)) else (none)) else (none)) else (if t602 = 3 then (if 0 ≤ t599 then (if t599 < (t594.length : Int) then (if ((rd_T106 t594 t599).f2).length < 8796093022208 then (some ((t594.set (t599 : Int).toNat (⟨(rd_T106 t594 t599).f0, (rd_T106 t594 t599).f1, (((rd_T106 t594 t599).f2) ++ [(⟨#[101, 110, 100]⟩ : ByteArray)])⟩ : S106)), t603, t604)) else (none)) else (none)) else (none)) else (some (t594, t603, t604)))))) = some (r1, r2, r3) := H
  have A6 := am A60
  clear A60
  by_cases c7 : t602 = 0
  ·rw [if_pos c7] at H
   have c7b0 : (t602 == 0) = true := beq_iff_eq.mpr c7
   have c7b1 : (t602 != 0) = false := bne_eq_false_iff_eq.mpr c7
   clear c7
   obtain ⟨y605, hy605⟩ : ∃ y_ : List Int, y_ = (([(-1), 40, 3] : List Int)) := ⟨_, rfl⟩
   replace H : ((spec_l1Cur_among.f s0_0 t603 t604 y605).bind fun bt608 => (if 0 ≤ t599 then (if t599 < (t594.length : Int) then (some ((t594.set (t599 : Int).toNat (⟨bt608.1, (rd_T106 t594 t599).f1, (rd_T106 t594 t599).f2⟩ : S106)), bt608.2.1, bt608.2.2)) else (none)) else (none))) = some (r1, r2, r3) := by first | (rw [hy605]; with_reducible exact H) | (have H2_ := (Option.bind_some _ _).symm.trans H; rw [hy605]; with_reducible exact H2_) | (have H2_ := (Option.bind_some _ _).symm.trans H; with_reducible exact H2_) | with_reducible exact H | (rw [hy605]; exact H) | exact H
   have Ny605 := am hy605
   clear hy605
   replace H := Option.bind_eq_some_iff.mp H
   obtain ⟨⟨t608, t609, t610⟩, A80, H⟩ := H
   replace H : (if 0 ≤ t599 then (if t599 < (t594.length : Int) then (some ((t594.set (t599 : Int).toNat (⟨t608, (rd_T106 t594 t599).f1, (rd_T106 t594 t599).f2⟩ : S106)), t609, t610)) else (none)) else (none)) = some (r1, r2, r3) := H
   have A8 := am A80
   clear A80
   by_cases c9 : 0 ≤ t599
   ·rw [if_pos c9] at H
    have c9b0 : decide (0 ≤ t599) = true := decide_eq_true c9
    clear c9
    by_cases c10 : t599 < (t594.length : Int)
    ·rw [if_pos c10] at H
     have c10b0 : decide (t599 < (t594.length : Int)) = true := decide_eq_true c10
     clear c10
     obtain ⟨y611, hy611⟩ : ∃ y_ : List (S106), y_ = (t594.set (t599 : Int).toNat (⟨t608, (rd_T106 t594 t599).f1, (rd_T106 t594 t599).f2⟩ : S106)) := ⟨_, rfl⟩
     replace H : (some (y611, t609, t610)) = some (r1, r2, r3) := by first | (rw [hy611]; with_reducible exact H) | (have H2_ := (Option.bind_some _ _).symm.trans H; rw [hy611]; with_reducible exact H2_) | (have H2_ := (Option.bind_some _ _).symm.trans H; with_reducible exact H2_) | with_reducible exact H | (rw [hy611]; exact H) | exact H
     have Ny611 := am hy611
     clear hy611
     simp only [Option.some.injEq, Prod.mk.injEq] at H
     obtain ⟨rfl, rfl, rfl⟩ := H
     go_enter Try.func132, Try.ntmps132
     go_wp2_with (first | ((with_reducible refine gateC (f := 153) rfl ?_); refine goesL_ (some 9) rfl rfl Try.func153 (by kernel_rfl) rfl #[.pointer (some ⟨g, 0, none⟩), .slice A1 l1.length c1] rfl zm ?_; (with_reducible refine (spec_l1Cur_hunks.calls k g s0_0 s0_1 s0_2 _ _ l1 t594 t597 t598 w0 _ ?side1 ?side2 ?side3 ?side4 ?side5 A3.out).mono ?_); (case side1 => exact zi); (case side2 => exact zj); (case side3 => exact Kd.C_keep (⟨#[]⟩ : ByteArray) HR1.out zh hf1); (case side4 => exact HC1.out); (case side5 => exact hf1); rintro e w12 ⟨v595, rfl, ho0, hi, hb, hk⟩; refine ⟨_, rfl, ?_⟩; have n0_ := am (Kd.S_lower ho0 (keep_size (w := w) (g := g) (row := none) zh)); have n1_ := am (KeepBut.trans zh hk (.inl rfl)); have n2_ := am (hb); have n3_ := am (hi); clear HK; clear HB; clear HI0; have HO596 := n0_; have HK := n1_; have HB := n2_; have HI0 := n3_; clear n0_ n1_ n2_ n3_; (try clear hb); (try clear hk); (try clear hi); (try clear ho0); obtain ⟨Ao13, co13, eo13⟩ := Kd.S_slice HO596.out; subst eo13) | ((with_reducible refine gateC (f := 62) rfl ?_); refine goesL_ (some 16) rfl rfl Try.func62 (by kernel_rfl) rfl #[.pointer (some ⟨g, 0, none⟩), .int .i64 (t594.length : Int)] rfl zm ?_; (with_reducible refine (spec_l1Cur_pick.calls g s0_0 t597 t598 (t594.length : Int) t599 t600 t601 w0 _ ?side1 ?side2 A5.out).mono ?_); (case side1 => exact zi); (case side2 => exact zj); rintro e w14 ⟨rfl, hi, hb, hk⟩; refine ⟨_, rfl, ?_⟩; have n0_ := am (Kd.S_mono (Kd.S_keep (IsS87.apartS (show IsS87 w0 _ g s0_0 t597 t598 from zi) (zs HO596.out) (by decide)) hk (fun _ h => h.2)) (fun _ h => h.1)); have n1_ := am (KeepBut.trans zh hk (.inl rfl)); have n2_ := am (hb); have n3_ := am (hi); clear HO596; clear HK; clear HB; clear HI0; have HO596 := n0_; have HK := n1_; have HB := n2_; have HI0 := n3_; clear n0_ n1_ n2_ n3_; (try clear hb); (try clear hk); (try clear hi)) | ((with_reducible refine gateC (f := 62) rfl ?_); refine goesL_ (some 18) rfl rfl Try.func62 (by kernel_rfl) rfl #[.pointer (some ⟨g, 0, none⟩), .int .i64 25] rfl zm ?_; (with_reducible refine (spec_l1Cur_pick.calls g s0_0 t600 t601 25 t602 t603 t604 w0 _ ?side1 ?side2 A6.out).mono ?_); (case side1 => exact zi); (case side2 => exact zj); rintro e w15 ⟨rfl, hi, hb, hk⟩; refine ⟨_, rfl, ?_⟩; have n0_ := am (Kd.S_mono (Kd.S_keep (IsS87.apartS (show IsS87 w0 _ g s0_0 t600 t601 from zi) (zs HO596.out) (by decide)) hk (fun _ h => h.2)) (fun _ h => h.1)); have n1_ := am (KeepBut.trans zh hk (.inl rfl)); have n2_ := am (hb); have n3_ := am (hi); clear HO596; clear HK; clear HB; clear HI0; have HO596 := n0_; have HK := n1_; have HB := n2_; have HI0 := n3_; clear n0_ n1_ n2_ n3_; (try clear hb); (try clear hk); (try clear hi)) | ((with_reducible refine gate_dst (N := 24) rfl ?_); refine Kd.R_lit (Kd.int .i64) _ 3 ?hg (N := 24) ?hd (xs := ([(-1), 40, 3] : List Int)) (inner := [.int .i64 (-1), .int .i64 40, .int .i64 3]) (ok := fun _ => True) (okp := fun _ => True) ?hr ?hp (fun _ hk => hk) trivial (Below.refl _ _) (Nat.le_refl _) (by simp) ?_; (case hd => rfl); (case hg => rfl); (case hr => first | (go_simp; done) | (go_simp; rfl)); (case hp => exact (Reps.one (show Kd.M (Kd.int .i64) _ _ _ (-1) [.int .i64 (-1)] from rfl) (Reps.one (show Kd.M (Kd.int .i64) _ _ _ 40 [.int .i64 40] from rfl) (Reps.one (show Kd.M (Kd.int .i64) _ _ _ 3 [.int .i64 3] from rfl) (Reps.none _ _))))); intro v606 w16 ho17 hb hg_ hnew_; clear hg_ hnew_; (first | rw [← Ny605.out] at ho17 | (simp only [Int.reduceToNat] at ho17; rw [← Ny605.out] at ho17)); have n0_ := am (Kd.S_below (zs HO596.out) hb); have n1_ := am (Kd.R_lower ho17 (keep_size (w := w) (g := g) (row := none) zh)); have n2_ := am (IsS87.below zi hb); have n3_ := am (KeepBut.trans zh (KeepBut.of_below hb g none) (.inl rfl)); have n4_ := am (below_step zj hb); clear HO596; clear HI0; clear HK; clear HB; have HO596 := n0_; have HO607 := n1_; have HI0 := n2_; have HK := n3_; have HB := n4_; clear n0_ n1_ n2_ n3_ n4_; clear hb ho17; obtain ⟨Ao18, co18, eo18⟩ := Kd.R_slice HO607.out; subst eo18) | ((with_reducible refine gateC (f := 154) rfl ?_); refine goesL_ (some 25) rfl rfl Try.func154 (by kernel_rfl) rfl #[.pointer (some ⟨g, 0, none⟩), .slice Ao18 y605.length co18] rfl zm ?_; (with_reducible refine (spec_l1Cur_among.calls g s0_0 t603 t604 _ _ y605 t608 t609 t610 w0 _ ?side1 ?side2 ?side3 ?side4 ?side5 A8.out).mono ?_); (case side1 => exact zi); (case side2 => exact zj); (case side3 => repeat (first | exact (Kd.R_reads' HO607.out).2.2 | (with_reducible refine Kd.C_alloc ?_ _) | (with_reducible refine Kd.C_drewN ?_ _) | (with_reducible refine Kd.C_drew ?_))); (case side4 => exact (Kd.R_reads' HO607.out).2.1); (case side5 => exact far_slice (IsS87.own_ne HI0.out HO607.out (by decide))); rintro e w19 ⟨rfl, hi, hb, hk⟩; refine ⟨_, rfl, ?_⟩; have n0_ := am (Kd.S_mono (Kd.S_keep (IsS87.apartS (show IsS87 w0 _ g s0_0 t603 t604 from zi) (zs HO596.out) (by decide)) hk (fun _ h => h.2)) (fun _ h => h.1)); have n1_ := am (Kd.R_mono (Kd.R_keep (IsS87.apart (show IsS87 w0 _ g s0_0 t603 t604 from zi) (zr HO607.out) (by decide)) hk (fun _ h => h.2)) (fun _ h => h.1)); have n2_ := am (KeepBut.trans zh hk (.inl rfl)); have n3_ := am (hb); have n4_ := am (hi); clear HO596; clear HO607; clear HK; clear HB; clear HI0; have HO596 := n0_; have HO607 := n1_; have HK := n2_; have HB := n3_; have HI0 := n4_; clear n0_ n1_ n2_ n3_ n4_; (try clear hb); (try clear hk); (try clear hi); have p11 : 0 ≤ (t599 : Int) := oa; have q11 : (t599 : Int) < ((t594.length : Int) : Int) := oa; obtain ⟨go11, co11, eo11, gb11, gl11, cl11, HG11⟩ := Kd.S_form HO596.out (by omega); (first | cases eo11 | (injection eo11 with ea_ en_ ec_; (first | subst ea_ | (injection ea_ with ea_; subst ea_)); subst ec_; clear en_)); have GB11 := am gb11; have GG11 := am HG11; clear gb11 gl11 HG11; obtain ⟨_, ce11, hcl11, hM11, hcc11, hfr11, _, _⟩ := Kd.S_elem HO596.out z106 (t599 : Int) p11 q11; obtain ⟨ve11_2, rfl, ge11_2⟩ := k106_openM hM11; have hx11_0 : w19.cell? ⟨go11, (t599 : Int).toNat * 3, none⟩ = some (.int .i64 ((rd_T106 t594 t599).f0)) := hcc11 0 _ rfl; have hx11_1 : w19.cell? ⟨go11, (t599 : Int).toNat * 3 + 1, none⟩ = some (.int .i64 ((rd_T106 t594 t599).f1)) := hcc11 1 _ rfl; have hx11_2 : w19.cell? ⟨go11, (t599 : Int).toNat * 3 + 2, none⟩ = some (ve11_2) := hcc11 2 _ rfl; have hf11_0 : w19.frozen? ⟨go11, (t599 : Int).toNat * 3, none⟩ = false := hfr11 0; have hf11_1 : w19.frozen? ⟨go11, (t599 : Int).toNat * 3 + 1, none⟩ = false := hfr11 1; have hf11_2 : w19.frozen? ⟨go11, (t599 : Int).toNat * 3 + 2, none⟩ = false := hfr11 2; clear hcl11 hcc11 hfr11; (try clear hM11); replace p11 := eq_true p11; replace q11 := eq_true q11; have HX20 := am (show Kd.S k106 106 w19 w.heap.size (fun k_ => ((fun _ => True)) k_ ∧ ¬ ((fun _ => False)) k_) (.slice (some ⟨go11, 0, none⟩) t594.length co13) t594 from (by (with_reducible repeat (first | apply Kd.S_alloc | apply Kd.S_drewN | apply Kd.S_drew)); exact Kd.S_mono HO596.out (fun k_ hk => ⟨trivial, fun e_ => e_⟩))); obtain ⟨oki20, ce20, hcl20, hM20, hcc20, hfr20, hoki20, hH20⟩ := Kd.S_elem HX20.out z106 (t599 : Int) oa (by have h_ : (t599 : Int) < ((t594.length : Int) : Int) := oa; first | exact h_ | (have e_ := (Kd.S_reads' HO596.out).1; omega) | simpa using h_); obtain ⟨ve20_2, rfl, ge20_2⟩ := k106_openM hM20; have HP20 := Kd.S_seg hH20 oa (by have h_ : (t599 : Int) < ((t594.length : Int) : Int) := oa; first | exact h_ | (have e_ := (Kd.S_reads' HO596.out).1; omega) | simpa using h_) (seg := [.int .i64 t608]) (j := 0) (show 1 ≤ 3 from by decide) (x' := (⟨t608, (rd_T106 t594 t599).f1, (rd_T106 t594 t599).f2⟩ : S106)) (k106_mkM _ _ _ (⟨t608, (rd_T106 t594 t599).f1, (rd_T106 t594 t599).f2⟩ : S106) (Kd.R_mono ge20_2 (fun _ h_ => Or.inl h_))) (fun _ hk => hk) (fun k_ hk_ => hk_.elim); have hx20_0 := hcc20 0 _ rfl; (try simp only [show (k106).sz = 3 from rfl, Nat.mul_one, Nat.add_zero] at hx20_0); have hf20_0 := hfr20 0; (try simp only [show (k106).sz = 3 from rfl, Nat.mul_one, Nat.add_zero] at hf20_0); clear hcl20 hcc20 hfr20 hoki20 hH20; (try clear hM20)) | ((with_reducible refine gate_store (t := 3) (p := 27) rfl ?_); refine store_event (t := 3) (p := 27) (v := ?vo_w21) (w1 := (w19.setCell ⟨go11, (t599 : Int).toNat * 3, none⟩ (.int .i64 t608))) ?hg ?ho ?hn ?hr ?_; (case ho => rfl); (case hg => rfl); (case hn => rfl); (case hr => first | (go_simp; done) | (go_simp; rfl)); intro w21 hw; have hg : w19.grownBy w21 (some go11) := (by rw [hw]; exact HP20.2); have hp_ : Kd.S k106 106 w21 w.heap.size (fun _ => True) (.slice (some ⟨go11, 0, none⟩) t594.length co13) y611 := (by rw [hw, Ny611.out]; exact HP20.1); clear HP20; have n0_ := am (IsS87.grown zi hg (IsS87.own_neS HI0.out HO596.out (by decide))); have n1_ := am (hp_); have n2_ := am (Kd.R_over' (v := (.slice (some ⟨go11, 0, none⟩) t594.length co13)) (zr HO607.out) (Kd.S_typed HO596.out) (by decide) hg); have n3_ := am ((by rw [hw]; exact below_set (HB.out) (Nat.le_trans HL.out GB11.out) : Below w0.heap.size w0 w21)); have n4_ := am (KeepBut.trans zh (KeepBut.of_grown hg g) (Kd.S_base2 HO596.out)); clear HI0; clear HO596; clear HO607; clear HB; clear HK; have HI0 := n0_; have HO596 := n1_; have HO607 := n2_; have HB := n3_; have HK := n4_; clear n0_ n1_ n2_ n3_ n4_; clear hg hw hp_))
     go_ret
     exact ⟨_, by first | rfl | (simp [errW_none, errW_some] <;> rfl) | (simp [*, errW_none, errW_some] <;> rfl), by (with_reducible repeat (first | apply Kd.S_alloc | apply Kd.S_drewN | apply Kd.S_drew)); exact HO596.out, zi, zj, zh⟩
    ·rw [if_neg c10] at H
     exact absurd H (by simp)
   ·rw [if_neg c9] at H
    exact absurd H (by simp)
  ·rw [if_neg c7] at H
   have c7b0 : (t602 == 0) = false := beq_eq_false_iff_ne.mpr c7
   have c7b1 : (t602 != 0) = true := bne_iff_ne.mpr c7
   by_cases c22 : t602 = 1
   ·rw [if_pos c22] at H
    have c22b0 : (t602 == 1) = true := beq_iff_eq.mpr c22
    have c22b1 : (t602 != 1) = false := bne_eq_false_iff_eq.mpr c22
    clear c22
    by_cases c23 : 0 ≤ t599
    ·rw [if_pos c23] at H
     have c23b0 : decide (0 ≤ t599) = true := decide_eq_true c23
     clear c23
     by_cases c24 : t599 < (t594.length : Int)
     ·rw [if_pos c24] at H
      have c24b0 : decide (t599 < (t594.length : Int)) = true := decide_eq_true c24
      clear c24
      obtain ⟨y613, hy613⟩ : ∃ y_ : List (S106), y_ = (t594.set (t599 : Int).toNat (⟨(rd_T106 t594 t599).f0, wrap64 (((rd_T106 t594 t599).f1) + 3), (rd_T106 t594 t599).f2⟩ : S106)) := ⟨_, rfl⟩
      replace H : (some (y613, t603, t604)) = some (r1, r2, r3) := by first | (rw [hy613]; with_reducible exact H) | (have H2_ := (Option.bind_some _ _).symm.trans H; rw [hy613]; with_reducible exact H2_) | (have H2_ := (Option.bind_some _ _).symm.trans H; with_reducible exact H2_) | with_reducible exact H | (rw [hy613]; exact H) | exact H
      have Ny613 := am hy613
      clear hy613
      simp only [Option.some.injEq, Prod.mk.injEq] at H
      obtain ⟨rfl, rfl, rfl⟩ := H
      go_enter Try.func132, Try.ntmps132
      go_wp2_with (first | ((with_reducible refine gateC (f := 153) rfl ?_); refine goesL_ (some 9) rfl rfl Try.func153 (by kernel_rfl) rfl #[.pointer (some ⟨g, 0, none⟩), .slice A1 l1.length c1] rfl zm ?_; (with_reducible refine (spec_l1Cur_hunks.calls k g s0_0 s0_1 s0_2 _ _ l1 t594 t597 t598 w0 _ ?side1 ?side2 ?side3 ?side4 ?side5 A3.out).mono ?_); (case side1 => exact zi); (case side2 => exact zj); (case side3 => exact Kd.C_keep (⟨#[]⟩ : ByteArray) HR1.out zh hf1); (case side4 => exact HC1.out); (case side5 => exact hf1); rintro e w26 ⟨v595, rfl, ho0, hi, hb, hk⟩; refine ⟨_, rfl, ?_⟩; have n0_ := am (Kd.S_lower ho0 (keep_size (w := w) (g := g) (row := none) zh)); have n1_ := am (KeepBut.trans zh hk (.inl rfl)); have n2_ := am (hb); have n3_ := am (hi); clear HK; clear HB; clear HI0; have HO596 := n0_; have HK := n1_; have HB := n2_; have HI0 := n3_; clear n0_ n1_ n2_ n3_; (try clear hb); (try clear hk); (try clear hi); (try clear ho0); obtain ⟨Ao27, co27, eo27⟩ := Kd.S_slice HO596.out; subst eo27) | ((with_reducible refine gateC (f := 62) rfl ?_); refine goesL_ (some 16) rfl rfl Try.func62 (by kernel_rfl) rfl #[.pointer (some ⟨g, 0, none⟩), .int .i64 (t594.length : Int)] rfl zm ?_; (with_reducible refine (spec_l1Cur_pick.calls g s0_0 t597 t598 (t594.length : Int) t599 t600 t601 w0 _ ?side1 ?side2 A5.out).mono ?_); (case side1 => exact zi); (case side2 => exact zj); rintro e w28 ⟨rfl, hi, hb, hk⟩; refine ⟨_, rfl, ?_⟩; have n0_ := am (Kd.S_mono (Kd.S_keep (IsS87.apartS (show IsS87 w0 _ g s0_0 t597 t598 from zi) (zs HO596.out) (by decide)) hk (fun _ h => h.2)) (fun _ h => h.1)); have n1_ := am (KeepBut.trans zh hk (.inl rfl)); have n2_ := am (hb); have n3_ := am (hi); clear HO596; clear HK; clear HB; clear HI0; have HO596 := n0_; have HK := n1_; have HB := n2_; have HI0 := n3_; clear n0_ n1_ n2_ n3_; (try clear hb); (try clear hk); (try clear hi)) | ((with_reducible refine gateC (f := 62) rfl ?_); refine goesL_ (some 18) rfl rfl Try.func62 (by kernel_rfl) rfl #[.pointer (some ⟨g, 0, none⟩), .int .i64 25] rfl zm ?_; (with_reducible refine (spec_l1Cur_pick.calls g s0_0 t600 t601 25 t602 t603 t604 w0 _ ?side1 ?side2 A6.out).mono ?_); (case side1 => exact zi); (case side2 => exact zj); rintro e w29 ⟨rfl, hi, hb, hk⟩; refine ⟨_, rfl, ?_⟩; have n0_ := am (Kd.S_mono (Kd.S_keep (IsS87.apartS (show IsS87 w0 _ g s0_0 t600 t601 from zi) (zs HO596.out) (by decide)) hk (fun _ h => h.2)) (fun _ h => h.1)); have n1_ := am (KeepBut.trans zh hk (.inl rfl)); have n2_ := am (hb); have n3_ := am (hi); clear HO596; clear HK; clear HB; clear HI0; have HO596 := n0_; have HK := n1_; have HB := n2_; have HI0 := n3_; clear n0_ n1_ n2_ n3_; (try clear hb); (try clear hk); (try clear hi); have p612 : 0 ≤ (t599 : Int) := oa; have q612 : t599 < (t594.length : Int) := oa; obtain ⟨ad612, A612_2, c612_2, e612, hx612_0, hx612_1, hx612_2, hl612_2, hi612_2⟩ := at_T106 (Kd.S_reads' HO596.out).2.2 t599 p612 q612; cases e612; obtain ⟨ce612, hce612, hMe612, hcc612⟩ := Kd.S_get HO596.out z106 t599 p612 (by first | exact q612 | exact oa | (have e_ := (Kd.S_reads' HO596.out).1; omega)); obtain ⟨ve612_2, rfl, ge612_2⟩ := k106_openM hMe612; have hv612_2 := hcc612 2 _ rfl; rw [add_field _ _ 2 (by omega)] at hv612_2; replace hv612_2 := Option.some.inj (hv612_2.symm.trans hx612_2); rw [hv612_2] at ge612_2; have HL612_2 := am (show Kd.R Kd.string 9 _ _ _ _ ((rd_T106 t594 t599).f2) from ge612_2); clear hv612_2 ge612_2; have HX612_2 := am hx612_2; clear hcc612 hce612; have HR612_2 := am hi612_2; have HC612_2 := am hl612_2; clear hi612_2 hl612_2; replace p612 := eq_true p612; replace q612 := eq_true q612; have p25 : 0 ≤ (t599 : Int) := oa; have q25 : (t599 : Int) < ((t594.length : Int) : Int) := oa; obtain ⟨go25, co25, eo25, gb25, gl25, cl25, HG25⟩ := Kd.S_form HO596.out (by omega); (first | cases eo25 | (injection eo25 with ea_ en_ ec_; (first | subst ea_ | (injection ea_ with ea_; subst ea_)); subst ec_; clear en_)); have GB25 := am gb25; have GG25 := am HG25; clear gb25 gl25 HG25; (first | simp only [add_plain] at hx612_0 | skip); (first | simp only [add_plain] at hx612_1 | skip); (first | simp only [add_plain] at hx612_2 | skip); obtain ⟨_, ce25, hcl25, hM25, hcc25, hfr25, _, _⟩ := Kd.S_elem HO596.out z106 (t599 : Int) p25 q25; obtain ⟨ve25_2, rfl, ge25_2⟩ := k106_openM hM25; have hx25_0 : w29.cell? ⟨go25, (t599 : Int).toNat * 3, none⟩ = some (.int .i64 ((rd_T106 t594 t599).f0)) := hcc25 0 _ rfl; have hx25_1 : w29.cell? ⟨go25, (t599 : Int).toNat * 3 + 1, none⟩ = some (.int .i64 ((rd_T106 t594 t599).f1)) := hcc25 1 _ rfl; have hx25_2 : w29.cell? ⟨go25, (t599 : Int).toNat * 3 + 2, none⟩ = some (ve25_2) := hcc25 2 _ rfl; have hf25_0 : w29.frozen? ⟨go25, (t599 : Int).toNat * 3, none⟩ = false := hfr25 0; have hf25_1 : w29.frozen? ⟨go25, (t599 : Int).toNat * 3 + 1, none⟩ = false := hfr25 1; have hf25_2 : w29.frozen? ⟨go25, (t599 : Int).toNat * 3 + 2, none⟩ = false := hfr25 2; clear hcl25 hcc25 hfr25; (try clear hM25); replace p25 := eq_true p25; replace q25 := eq_true q25; have HX30 := am (show Kd.S k106 106 w29 w.heap.size (fun k_ => ((fun _ => True)) k_ ∧ ¬ ((fun _ => False)) k_) (.slice (some ⟨go25, 0, none⟩) t594.length co27) t594 from (by (with_reducible repeat (first | apply Kd.S_alloc | apply Kd.S_drewN | apply Kd.S_drew)); exact Kd.S_mono HO596.out (fun k_ hk => ⟨trivial, fun e_ => e_⟩))); obtain ⟨oki30, ce30, hcl30, hM30, hcc30, hfr30, hoki30, hH30⟩ := Kd.S_elem HX30.out z106 (t599 : Int) oa (by have h_ : (t599 : Int) < ((t594.length : Int) : Int) := oa; first | exact h_ | (have e_ := (Kd.S_reads' HO596.out).1; omega) | simpa using h_); obtain ⟨ve30_2, rfl, ge30_2⟩ := k106_openM hM30; have HP30 := Kd.S_seg hH30 oa (by have h_ : (t599 : Int) < ((t594.length : Int) : Int) := oa; first | exact h_ | (have e_ := (Kd.S_reads' HO596.out).1; omega) | simpa using h_) (seg := [.int .i64 (wrap64 (((rd_T106 t594 t599).f1) + 3))]) (j := 1) (show 2 ≤ 3 from by decide) (x' := (⟨(rd_T106 t594 t599).f0, wrap64 (((rd_T106 t594 t599).f1) + 3), (rd_T106 t594 t599).f2⟩ : S106)) (k106_mkM _ _ _ (⟨(rd_T106 t594 t599).f0, wrap64 (((rd_T106 t594 t599).f1) + 3), (rd_T106 t594 t599).f2⟩ : S106) (Kd.R_mono ge30_2 (fun _ h_ => Or.inl h_))) (fun _ hk => hk) (fun k_ hk_ => hk_.elim); have hx30_1 := hcc30 1 _ rfl; (try simp only [show (k106).sz = 3 from rfl, Nat.mul_one, Nat.add_zero] at hx30_1); have hf30_1 := hfr30 1; (try simp only [show (k106).sz = 3 from rfl, Nat.mul_one, Nat.add_zero] at hf30_1); clear hcl30 hcc30 hfr30 hoki30 hH30; (try clear hM30)) | ((with_reducible refine gate_store (t := 3) (p := 37) rfl ?_); refine store_event (t := 3) (p := 37) (v := ?vo_w31) (w1 := (w29.setCell ⟨go25, (t599 : Int).toNat * 3 + 1, none⟩ (.int .i64 (wrap64 (((rd_T106 t594 t599).f1) + 3))))) ?hg ?ho ?hn ?hr ?_; (case ho => rfl); (case hg => rfl); (case hn => rfl); (case hr => first | (go_simp; done) | (go_simp; rfl)); intro w31 hw; have hg : w29.grownBy w31 (some go25) := (by rw [hw]; exact HP30.2); have hp_ : Kd.S k106 106 w31 w.heap.size (fun _ => True) (.slice (some ⟨go25, 0, none⟩) t594.length co27) y613 := (by rw [hw, Ny613.out]; exact HP30.1); clear HP30; have n0_ := am (IsS87.grown zi hg (IsS87.own_neS HI0.out HO596.out (by decide))); have n1_ := am (hp_); have n2_ := am (Kd.R_after (v := (.slice (some ⟨go25, 0, none⟩) t594.length co27)) (v1 := (.slice (some ⟨go25, 0, none⟩) t594.length co27)) (ok := (fun _ => True)) (zr HL612_2.out) hg (.inl rfl)); have n3_ := am ((by rw [hw]; exact below_set (HB.out) (Nat.le_trans HL.out GB25.out) : Below w0.heap.size w0 w31)); have n4_ := am (KeepBut.trans zh (KeepBut.of_grown hg g) (Kd.S_base2 HO596.out)); clear HI0; clear HO596; clear HL612_2; clear HB; clear HK; have HI0 := n0_; have HO596 := n1_; have HL612_2 := n2_; have HB := n3_; have HK := n4_; clear n0_ n1_ n2_ n3_ n4_; clear hg hw hp_))
      go_ret
      exact ⟨_, by first | rfl | (simp [errW_none, errW_some] <;> rfl) | (simp [*, errW_none, errW_some] <;> rfl), by (with_reducible repeat (first | apply Kd.S_alloc | apply Kd.S_drewN | apply Kd.S_drew)); exact HO596.out, zi, zj, zh⟩
     ·rw [if_neg c24] at H
      exact absurd H (by simp)
    ·rw [if_neg c23] at H
     exact absurd H (by simp)
   ·rw [if_neg c22] at H
    have c22b0 : (t602 == 1) = false := beq_eq_false_iff_ne.mpr c22
    have c22b1 : (t602 != 1) = true := bne_iff_ne.mpr c22
    by_cases c32 : t602 = 2
    ·rw [if_pos c32] at H
     have c32b0 : (t602 == 2) = true := beq_iff_eq.mpr c32
     have c32b1 : (t602 != 2) = false := bne_eq_false_iff_eq.mpr c32
     clear c32
     obtain ⟨y614, hy614⟩ : ∃ y_ : List ByteArray, y_ = (([(⟨#[]⟩ : ByteArray)] : List ByteArray)) := ⟨_, rfl⟩
     replace H : (if 0 ≤ t599 then (if t599 < (t594.length : Int) then (some ((t594.set (t599 : Int).toNat (⟨(rd_T106 t594 t599).f0, (rd_T106 t594 t599).f1, y614⟩ : S106)), t603, t604)) else (none)) else (none)) = some (r1, r2, r3) := by first | (rw [hy614]; with_reducible exact H) | (have H2_ := (Option.bind_some _ _).symm.trans H; rw [hy614]; with_reducible exact H2_) | (have H2_ := (Option.bind_some _ _).symm.trans H; with_reducible exact H2_) | with_reducible exact H | (rw [hy614]; exact H) | exact H
     have Ny614 := am hy614
     clear hy614
     by_cases c33 : 0 ≤ t599
     ·rw [if_pos c33] at H
      have c33b0 : decide (0 ≤ t599) = true := decide_eq_true c33
      clear c33
      by_cases c34 : t599 < (t594.length : Int)
      ·rw [if_pos c34] at H
       have c34b0 : decide (t599 < (t594.length : Int)) = true := decide_eq_true c34
       clear c34
       obtain ⟨y617, hy617⟩ : ∃ y_ : List (S106), y_ = (t594.set (t599 : Int).toNat (⟨(rd_T106 t594 t599).f0, (rd_T106 t594 t599).f1, y614⟩ : S106)) := ⟨_, rfl⟩
       replace H : (some (y617, t603, t604)) = some (r1, r2, r3) := by first | (rw [hy617]; with_reducible exact H) | (have H2_ := (Option.bind_some _ _).symm.trans H; rw [hy617]; with_reducible exact H2_) | (have H2_ := (Option.bind_some _ _).symm.trans H; with_reducible exact H2_) | with_reducible exact H | (rw [hy617]; exact H) | exact H
       have Ny617 := am hy617
       clear hy617
       simp only [Option.some.injEq, Prod.mk.injEq] at H
       obtain ⟨rfl, rfl, rfl⟩ := H
       go_enter Try.func132, Try.ntmps132
       go_wp2_with (first | ((with_reducible refine gateC (f := 153) rfl ?_); refine goesL_ (some 9) rfl rfl Try.func153 (by kernel_rfl) rfl #[.pointer (some ⟨g, 0, none⟩), .slice A1 l1.length c1] rfl zm ?_; (with_reducible refine (spec_l1Cur_hunks.calls k g s0_0 s0_1 s0_2 _ _ l1 t594 t597 t598 w0 _ ?side1 ?side2 ?side3 ?side4 ?side5 A3.out).mono ?_); (case side1 => exact zi); (case side2 => exact zj); (case side3 => exact Kd.C_keep (⟨#[]⟩ : ByteArray) HR1.out zh hf1); (case side4 => exact HC1.out); (case side5 => exact hf1); rintro e w36 ⟨v595, rfl, ho0, hi, hb, hk⟩; refine ⟨_, rfl, ?_⟩; have n0_ := am (Kd.S_lower ho0 (keep_size (w := w) (g := g) (row := none) zh)); have n1_ := am (KeepBut.trans zh hk (.inl rfl)); have n2_ := am (hb); have n3_ := am (hi); clear HK; clear HB; clear HI0; have HO596 := n0_; have HK := n1_; have HB := n2_; have HI0 := n3_; clear n0_ n1_ n2_ n3_; (try clear hb); (try clear hk); (try clear hi); (try clear ho0); obtain ⟨Ao37, co37, eo37⟩ := Kd.S_slice HO596.out; subst eo37) | ((with_reducible refine gateC (f := 62) rfl ?_); refine goesL_ (some 16) rfl rfl Try.func62 (by kernel_rfl) rfl #[.pointer (some ⟨g, 0, none⟩), .int .i64 (t594.length : Int)] rfl zm ?_; (with_reducible refine (spec_l1Cur_pick.calls g s0_0 t597 t598 (t594.length : Int) t599 t600 t601 w0 _ ?side1 ?side2 A5.out).mono ?_); (case side1 => exact zi); (case side2 => exact zj); rintro e w38 ⟨rfl, hi, hb, hk⟩; refine ⟨_, rfl, ?_⟩; have n0_ := am (Kd.S_mono (Kd.S_keep (IsS87.apartS (show IsS87 w0 _ g s0_0 t597 t598 from zi) (zs HO596.out) (by decide)) hk (fun _ h => h.2)) (fun _ h => h.1)); have n1_ := am (KeepBut.trans zh hk (.inl rfl)); have n2_ := am (hb); have n3_ := am (hi); clear HO596; clear HK; clear HB; clear HI0; have HO596 := n0_; have HK := n1_; have HB := n2_; have HI0 := n3_; clear n0_ n1_ n2_ n3_; (try clear hb); (try clear hk); (try clear hi)) | ((with_reducible refine gateC (f := 62) rfl ?_); refine goesL_ (some 18) rfl rfl Try.func62 (by kernel_rfl) rfl #[.pointer (some ⟨g, 0, none⟩), .int .i64 25] rfl zm ?_; (with_reducible refine (spec_l1Cur_pick.calls g s0_0 t600 t601 25 t602 t603 t604 w0 _ ?side1 ?side2 A6.out).mono ?_); (case side1 => exact zi); (case side2 => exact zj); rintro e w39 ⟨rfl, hi, hb, hk⟩; refine ⟨_, rfl, ?_⟩; have n0_ := am (Kd.S_mono (Kd.S_keep (IsS87.apartS (show IsS87 w0 _ g s0_0 t600 t601 from zi) (zs HO596.out) (by decide)) hk (fun _ h => h.2)) (fun _ h => h.1)); have n1_ := am (KeepBut.trans zh hk (.inl rfl)); have n2_ := am (hb); have n3_ := am (hi); clear HO596; clear HK; clear HB; clear HI0; have HO596 := n0_; have HK := n1_; have HB := n2_; have HI0 := n3_; clear n0_ n1_ n2_ n3_; (try clear hb); (try clear hk); (try clear hi)) | ((with_reducible refine gate_dst (N := 42) rfl ?_); refine Kd.R_lit Kd.string _ 9 ?hg (N := 42) ?hd (xs := ([(⟨#[]⟩ : ByteArray)] : List ByteArray)) (inner := [.string (⟨#[]⟩ : ByteArray)]) (ok := fun _ => True) (okp := fun _ => True) ?hr ?hp (fun _ hk => hk) trivial (Below.refl _ _) (Nat.le_refl _) (by simp) ?_; (case hd => rfl); (case hg => rfl); (case hr => first | (go_simp; done) | (go_simp; rfl)); (case hp => exact (Reps.one (show Kd.M Kd.string _ _ _ (⟨#[]⟩ : ByteArray) [.string (⟨#[]⟩ : ByteArray)] from rfl) (Reps.none _ _))); intro v615 w40 ho41 hb hg_ hnew_; clear hg_ hnew_; (first | rw [← Ny614.out] at ho41 | (simp only [Int.reduceToNat] at ho41; rw [← Ny614.out] at ho41)); have n0_ := am (Kd.S_elder' (zs HO596.out) (Kd.R_base ho41) hb); have n1_ := am (Kd.R_lower ho41 (keep_size (w := w) (g := g) (row := none) zh)); have n2_ := am (IsS87.below zi hb); have n3_ := am (KeepBut.trans zh (KeepBut.of_below hb g none) (.inl rfl)); have n4_ := am (below_step zj hb); clear HO596; clear HI0; clear HK; clear HB; have HO596 := n0_; have HO616 := n1_; have HI0 := n2_; have HK := n3_; have HB := n4_; clear n0_ n1_ n2_ n3_ n4_; clear hb ho41; have p35 : 0 ≤ (t599 : Int) := oa; have q35 : (t599 : Int) < ((t594.length : Int) : Int) := oa; obtain ⟨go35, co35, eo35, gb35, gl35, cl35, HG35⟩ := Kd.S_form HO596.out (by omega); (first | cases eo35 | (injection eo35 with ea_ en_ ec_; (first | subst ea_ | (injection ea_ with ea_; subst ea_)); subst ec_; clear en_)); have GB35 := am gb35; have GG35 := am HG35; clear gb35 gl35 HG35; obtain ⟨_, ce35, hcl35, hM35, hcc35, hfr35, _, _⟩ := Kd.S_elem HO596.out z106 (t599 : Int) p35 q35; obtain ⟨ve35_2, rfl, ge35_2⟩ := k106_openM hM35; have hx35_0 : w40.cell? ⟨go35, (t599 : Int).toNat * 3, none⟩ = some (.int .i64 ((rd_T106 t594 t599).f0)) := hcc35 0 _ rfl; have hx35_1 : w40.cell? ⟨go35, (t599 : Int).toNat * 3 + 1, none⟩ = some (.int .i64 ((rd_T106 t594 t599).f1)) := hcc35 1 _ rfl; have hx35_2 : w40.cell? ⟨go35, (t599 : Int).toNat * 3 + 2, none⟩ = some (ve35_2) := hcc35 2 _ rfl; have hf35_0 : w40.frozen? ⟨go35, (t599 : Int).toNat * 3, none⟩ = false := hfr35 0; have hf35_1 : w40.frozen? ⟨go35, (t599 : Int).toNat * 3 + 1, none⟩ = false := hfr35 1; have hf35_2 : w40.frozen? ⟨go35, (t599 : Int).toNat * 3 + 2, none⟩ = false := hfr35 2; clear hcl35 hcc35 hfr35; (try clear hM35); replace p35 := eq_true p35; replace q35 := eq_true q35; have n_ := am (Kd.S_mono (ok' := (fun k_ => some k_ ≠ (v615 : Value).ownBlock)) HO596.out (fun k_ hk => hk.2)); clear HO596; have HO596 := n_; clear n_; have HX42 := am (show Kd.S k106 106 w40 w.heap.size (fun k_ => ((fun _ => True)) k_ ∧ ¬ ((fun k_ => some k_ = (v615 : Value).ownBlock)) k_) (.slice (some ⟨go35, 0, none⟩) t594.length co37) t594 from (by (with_reducible repeat (first | apply Kd.S_alloc | apply Kd.S_drewN | apply Kd.S_drew)); exact Kd.S_mono HO596.out (fun k_ hk => ⟨trivial, fun e_ => hk e_⟩))); obtain ⟨oki42, ce42, hcl42, hM42, hcc42, hfr42, hoki42, hH42⟩ := Kd.S_elem HX42.out z106 (t599 : Int) oa (by have h_ : (t599 : Int) < ((t594.length : Int) : Int) := oa; first | exact h_ | (have e_ := (Kd.S_reads' HO596.out).1; omega) | simpa using h_); obtain ⟨ve42_2, rfl, ge42_2⟩ := k106_openM hM42; have HP42 := Kd.S_seg hH42 oa (by have h_ : (t599 : Int) < ((t594.length : Int) : Int) := oa; first | exact h_ | (have e_ := (Kd.S_reads' HO596.out).1; omega) | simpa using h_) (seg := [v615]) (j := 2) (show 3 ≤ 3 from by decide) (x' := (⟨(rd_T106 t594 t599).f0, (rd_T106 t594 t599).f1, y614⟩ : S106)) (k106_mkM _ _ _ (⟨(rd_T106 t594 t599).f0, (rd_T106 t594 t599).f1, y614⟩ : S106) (Kd.R_mono (Kd.R_tight rfl (Kd.R_mono (ok' := fun k_ => ((fun _ => True)) k_ ∧ k_ ≠ go35) (Kd.R_apart' (HO616.out) (Kd.S_typed HO596.out) (by decide)) (fun k_ hk => ⟨trivial, fun e_ => (hk.2) (by rw [e_]; rfl)⟩))) (fun _ h_ => Or.inr (h_)))) (fun _ hk => hk) (fun k_ hk_ => ((Kd.R_mono (ok' := fun k_ => ((fun _ => True)) k_ ∧ k_ ≠ go35) (Kd.R_apart' (HO616.out) (Kd.S_typed HO596.out) (by decide)) (fun k_ hk => ⟨trivial, fun e_ => (hk.2) (by rw [e_]; rfl)⟩))).1 k_ hk_.symm); have hx42_2 := hcc42 2 _ rfl; (try simp only [show (k106).sz = 3 from rfl, Nat.mul_one, Nat.add_zero] at hx42_2); have hf42_2 := hfr42 2; (try simp only [show (k106).sz = 3 from rfl, Nat.mul_one, Nat.add_zero] at hf42_2); clear hcl42 hcc42 hfr42 hoki42 hH42; (try clear hM42)) | ((with_reducible refine gate_store (t := 24) (p := 44) rfl ?_); refine store_event (t := 24) (p := 44) (v := ?vo_w43) (w1 := (w40.setCell ⟨go35, (t599 : Int).toNat * 3 + 2, none⟩ (v615))) ?hg ?ho ?hn ?hr ?_; (case ho => rfl); (case hg => rfl); (case hn => rfl); (case hr => (obtain ⟨A0_, c0_, e0_⟩ := Kd.R_slice HO616.out); (subst e0_); first | (go_simp; done) | (go_simp; rfl)); intro w43 hw; have hg : w40.grownBy w43 (some go35) := (by rw [hw]; exact HP42.2); have hp_ : Kd.S k106 106 w43 w.heap.size (fun _ => True) (.slice (some ⟨go35, 0, none⟩) t594.length co37) y617 := (by rw [hw, Ny617.out]; exact HP42.1); clear HP42; have n0_ := am (IsS87.grown zi hg (IsS87.own_neS HI0.out HO596.out (by decide))); have n1_ := am (hp_); have n2_ := am ((by rw [hw]; exact below_set (HB.out) (Nat.le_trans HL.out GB35.out) : Below w0.heap.size w0 w43)); have n3_ := am (KeepBut.trans zh (KeepBut.of_grown hg g) (Kd.S_base2 HO596.out)); clear HI0; clear HO596; clear HB; clear HK; clear HO616; have HI0 := n0_; have HO596 := n1_; have HB := n2_; have HK := n3_; clear n0_ n1_ n2_ n3_; clear hg hw hp_))
       go_ret
       exact ⟨_, by first | rfl | (simp [errW_none, errW_some] <;> rfl) | (simp [*, errW_none, errW_some] <;> rfl), by (with_reducible repeat (first | apply Kd.S_alloc | apply Kd.S_drewN | apply Kd.S_drew)); exact HO596.out, zi, zj, zh⟩
      ·rw [if_neg c34] at H
       exact absurd H (by simp)
     ·rw [if_neg c33] at H
      exact absurd H (by simp)
    ·rw [if_neg c32] at H
     have c32b0 : (t602 == 2) = false := beq_eq_false_iff_ne.mpr c32
     have c32b1 : (t602 != 2) = true := bne_iff_ne.mpr c32
     by_cases c44 : t602 = 3
     ·rw [if_pos c44] at H
      have c44b0 : (t602 == 3) = true := beq_iff_eq.mpr c44
      have c44b1 : (t602 != 3) = false := bne_eq_false_iff_eq.mpr c44
      clear c44
      by_cases c45 : 0 ≤ t599
      ·rw [if_pos c45] at H
       have c45b0 : decide (0 ≤ t599) = true := decide_eq_true c45
       clear c45
       by_cases c46 : t599 < (t594.length : Int)
       ·rw [if_pos c46] at H
        have c46b0 : decide (t599 < (t594.length : Int)) = true := decide_eq_true c46
        clear c46
        by_cases c47 : ((rd_T106 t594 t599).f2).length < 8796093022208
        ·rw [if_pos c47] at H
         have LMc47 := am c47
         clear c47
         obtain ⟨y619, hy619⟩ : ∃ y_ : List ByteArray, y_ = (((rd_T106 t594 t599).f2) ++ [(⟨#[101, 110, 100]⟩ : ByteArray)]) := ⟨_, rfl⟩
         replace H : (some ((t594.set (t599 : Int).toNat (⟨(rd_T106 t594 t599).f0, (rd_T106 t594 t599).f1, y619⟩ : S106)), t603, t604)) = some (r1, r2, r3) := by first | (rw [hy619]; with_reducible exact H) | (have H2_ := (Option.bind_some _ _).symm.trans H; rw [hy619]; with_reducible exact H2_) | (have H2_ := (Option.bind_some _ _).symm.trans H; with_reducible exact H2_) | with_reducible exact H | (rw [hy619]; exact H) | exact H
         have Ny619 := am hy619
         clear hy619
         obtain ⟨y622, hy622⟩ : ∃ y_ : List (S106), y_ = (t594.set (t599 : Int).toNat (⟨(rd_T106 t594 t599).f0, (rd_T106 t594 t599).f1, y619⟩ : S106)) := ⟨_, rfl⟩
         replace H : (some (y622, t603, t604)) = some (r1, r2, r3) := by first | (rw [hy622]; with_reducible exact H) | (have H2_ := (Option.bind_some _ _).symm.trans H; rw [hy622]; with_reducible exact H2_) | (have H2_ := (Option.bind_some _ _).symm.trans H; with_reducible exact H2_) | with_reducible exact H | (rw [hy622]; exact H) | exact H
         have Ny622 := am hy622
         clear hy622
         simp only [Option.some.injEq, Prod.mk.injEq] at H
         obtain ⟨rfl, rfl, rfl⟩ := H
         go_enter Try.func132, Try.ntmps132
         go_wp2_with (first | ((with_reducible refine gateC (f := 153) rfl ?_); refine goesL_ (some 9) rfl rfl Try.func153 (by kernel_rfl) rfl #[.pointer (some ⟨g, 0, none⟩), .slice A1 l1.length c1] rfl zm ?_; (with_reducible refine (spec_l1Cur_hunks.calls k g s0_0 s0_1 s0_2 _ _ l1 t594 t597 t598 w0 _ ?side1 ?side2 ?side3 ?side4 ?side5 A3.out).mono ?_); (case side1 => exact zi); (case side2 => exact zj); (case side3 => exact Kd.C_keep (⟨#[]⟩ : ByteArray) HR1.out zh hf1); (case side4 => exact HC1.out); (case side5 => exact hf1); rintro e w49 ⟨v595, rfl, ho0, hi, hb, hk⟩; refine ⟨_, rfl, ?_⟩; have n0_ := am (Kd.S_lower ho0 (keep_size (w := w) (g := g) (row := none) zh)); have n1_ := am (KeepBut.trans zh hk (.inl rfl)); have n2_ := am (hb); have n3_ := am (hi); clear HK; clear HB; clear HI0; have HO596 := n0_; have HK := n1_; have HB := n2_; have HI0 := n3_; clear n0_ n1_ n2_ n3_; (try clear hb); (try clear hk); (try clear hi); (try clear ho0); obtain ⟨Ao50, co50, eo50⟩ := Kd.S_slice HO596.out; subst eo50) | ((with_reducible refine gateC (f := 62) rfl ?_); refine goesL_ (some 16) rfl rfl Try.func62 (by kernel_rfl) rfl #[.pointer (some ⟨g, 0, none⟩), .int .i64 (t594.length : Int)] rfl zm ?_; (with_reducible refine (spec_l1Cur_pick.calls g s0_0 t597 t598 (t594.length : Int) t599 t600 t601 w0 _ ?side1 ?side2 A5.out).mono ?_); (case side1 => exact zi); (case side2 => exact zj); rintro e w51 ⟨rfl, hi, hb, hk⟩; refine ⟨_, rfl, ?_⟩; have n0_ := am (Kd.S_mono (Kd.S_keep (IsS87.apartS (show IsS87 w0 _ g s0_0 t597 t598 from zi) (zs HO596.out) (by decide)) hk (fun _ h => h.2)) (fun _ h => h.1)); have n1_ := am (KeepBut.trans zh hk (.inl rfl)); have n2_ := am (hb); have n3_ := am (hi); clear HO596; clear HK; clear HB; clear HI0; have HO596 := n0_; have HK := n1_; have HB := n2_; have HI0 := n3_; clear n0_ n1_ n2_ n3_; (try clear hb); (try clear hk); (try clear hi)) | ((with_reducible refine gateC (f := 62) rfl ?_); refine goesL_ (some 18) rfl rfl Try.func62 (by kernel_rfl) rfl #[.pointer (some ⟨g, 0, none⟩), .int .i64 25] rfl zm ?_; (with_reducible refine (spec_l1Cur_pick.calls g s0_0 t600 t601 25 t602 t603 t604 w0 _ ?side1 ?side2 A6.out).mono ?_); (case side1 => exact zi); (case side2 => exact zj); rintro e w52 ⟨rfl, hi, hb, hk⟩; refine ⟨_, rfl, ?_⟩; have n0_ := am (Kd.S_mono (Kd.S_keep (IsS87.apartS (show IsS87 w0 _ g s0_0 t600 t601 from zi) (zs HO596.out) (by decide)) hk (fun _ h => h.2)) (fun _ h => h.1)); have n1_ := am (KeepBut.trans zh hk (.inl rfl)); have n2_ := am (hb); have n3_ := am (hi); clear HO596; clear HK; clear HB; clear HI0; have HO596 := n0_; have HK := n1_; have HB := n2_; have HI0 := n3_; clear n0_ n1_ n2_ n3_; (try clear hb); (try clear hk); (try clear hi); have p618 : 0 ≤ (t599 : Int) := oa; have q618 : t599 < (t594.length : Int) := oa; obtain ⟨ad618, A618_2, c618_2, e618, hx618_0, hx618_1, hx618_2, hl618_2, hi618_2⟩ := at_T106 (Kd.S_reads' HO596.out).2.2 t599 p618 q618; cases e618; obtain ⟨ce618, hce618, hMe618, hcc618⟩ := Kd.S_get HO596.out z106 t599 p618 (by first | exact q618 | exact oa | (have e_ := (Kd.S_reads' HO596.out).1; omega)); obtain ⟨ve618_2, rfl, ge618_2⟩ := k106_openM hMe618; have hv618_2 := hcc618 2 _ rfl; rw [add_field _ _ 2 (by omega)] at hv618_2; replace hv618_2 := Option.some.inj (hv618_2.symm.trans hx618_2); rw [hv618_2] at ge618_2; have HL618_2 := am (show Kd.R Kd.string 9 _ _ _ _ ((rd_T106 t594 t599).f2) from ge618_2); clear hv618_2 ge618_2; have HX618_2 := am hx618_2; clear hcc618 hce618; have HR618_2 := am hi618_2; have HC618_2 := am hl618_2; clear hi618_2 hl618_2; replace p618 := eq_true p618; replace q618 := eq_true q618; obtain ⟨go53, co53, eo53, gb53, gl53, cl53, HG53⟩ := Kd.S_form HO596.out (by have h_ : (t599 : Int) < ((t594.length : Int) : Int) := oa; have h2_ : 0 ≤ (t599 : Int) := oa; omega); (first | cases eo53 | (injection eo53 with ea_ en_ ec_; (first | subst ea_ | (injection ea_ with ea_; subst ea_)); subst ec_; clear en_)); have GB53 := am gb53; have GG53 := am HG53; clear gb53 gl53 HG53; (first | simp only [add_plain] at hx618_0 | skip); (first | simp only [add_plain] at hx618_1 | skip); (first | simp only [add_plain] at hx618_2 | skip); obtain ⟨oki53, ce53, hcl53, hM53, hcc53, _, _, hH53⟩ := Kd.S_elem HO596.out z106 (t599 : Int) oa (by have h_ : (t599 : Int) < ((t594.length : Int) : Int) := oa; first | exact h_ | (have e_ := (Kd.S_reads' HO596.out).1; omega) | simpa using h_); obtain ⟨ve53_2, rfl, ge53_2⟩ := k106_openM hM53; have hv53 := hcc53 2 _ rfl; have hX53 := HX618_2.out; (try simp only [add_plain] at hX53); (try simp only [Nat.add_zero] at hv53); replace hv53 := Option.some.inj (hv53.symm.trans hX53); subst hv53; clear hX53 hcc53 hcl53; have UU53 := am (show Kd.R Kd.string 9 _ w.heap.size oki53 (.slice A618_2 ((rd_T106 t594 t599).f2).length c618_2) ((rd_T106 t594 t599).f2) from ge53_2); have HH53 := am hH53; have HN53 := am (Kd.S_reads' HO596.out).1; clear hH53 ge53_2) | ((with_reducible refine gateB (b := .append) (xs := #[.tmp 53, .tmp 54]) rfl ?_); at_builtin; refine Kd.R_append Kd.string w.heap.size rfl (.tmp 53) (.tmp 54) 24 9 (.string ⟨#[]⟩) 16 rfl Try.underlying24 info9 rfl (by decide) (by omega) (.slice A618_2 ((rd_T106 t594 t599).f2).length c618_2) ((rd_T106 t594 t599).f2) (⟨#[101, 110, 100]⟩ : ByteArray) [.string (⟨#[101, 110, 100]⟩ : ByteArray)] (fun k_ => oki53 k_ ∨ ((fun _ => True)) k_ ∧ w52.heap.size ≤ k_) (fun _ => False) rfl rfl ?aP (fun _ hk => hk.elim) ?aF ?aO (Below.refl _ _) ?aS ?aL ?_; (case aP => exact rfl); (case aF => exact (fun k_ hk => .inr ⟨trivial, hk⟩)); (case aO => exact (by (with_reducible repeat (first | apply Kd.R_alloc | apply Kd.R_drewN | apply Kd.R_drew)); exact Kd.R_mono UU53.out (fun _ hk => .inl hk))); (case aS => exact (keep_size (w := w) (g := g) (row := none) zh)); (case aL => have := LMc47.out; omega); intro v620 w54 ho hb hg hat; rw [← Ny619.out] at ho; have n0_ := am (IsS87.grown zi hg (IsS87.own_ne HI0.out HL618_2.out (by decide))); have n1_ := am (below_weaken zj HL.out hb); have n2_ := am (KeepBut.trans zh (KeepBut.of_grown hg g) (Kd.R_base2 HL618_2.out)); have n3_ := am (Kd.H_grown (Kd.H_widen (by repeat (first | exact HH53.out | refine Kd.H_alloc ?_ _ | refine Kd.H_drewN ?_ _ | refine Kd.H_drew ?_))) hg (fun k_ e_ => .inl (UU53.out.1 k_ e_))); have n4_ := am (ho); clear HI0; clear HB; clear HK; clear HH53; clear HO596; clear UU53; clear HL618_2; have HI0 := n0_; have HB := n1_; have HK := n2_; have HH53 := n3_; have HO621 := n4_; clear n0_ n1_ n2_ n3_ n4_; clear ho hb hg hat; have p48 : 0 ≤ (t599 : Int) := oa; have q48 : (t599 : Int) < ((t594.length : Int) : Int) := oa; replace p48 := eq_true p48; replace q48 := eq_true q48; obtain ⟨Ao57, co57, eo57⟩ := Kd.R_slice HO621.out; subst eo57; obtain ⟨_, _, hraw55, _, _, hcc55, _⟩ := Kd.H_raw HH53.out oa (by have h_ : (t599 : Int) < ((t594.length : Int) : Int) := oa; first | exact h_ | (have e_ := (HN53.out); omega) | simpa using h_); obtain ⟨_, hfr55⟩ := Kd.H_at HH53.out oa (by have h_ : (t599 : Int) < ((t594.length : Int) : Int) := oa; first | exact h_ | (have e_ := (HN53.out); omega) | simpa using h_); have hx55_0 := hcc55 2 _ rfl; have hf55_0 := hfr55 2; (try rw [show (k106).sz = 3 from rfl] at hx55_0); (try rw [show (k106).sz = 3 from rfl] at hf55_0); have HP55 := Kd.S_seg0 HH53.out oa (by have h_ : (t599 : Int) < ((t594.length : Int) : Int) := oa; first | exact h_ | (have e_ := (HN53.out); omega) | simpa using h_) (seg := [.slice Ao57 y619.length co57]) (j := 2) (show 3 ≤ 3 from by decide) (x' := (⟨(rd_T106 t594 t599).f0, (rd_T106 t594 t599).f1, y619⟩ : S106)) (k106_mkM _ _ _ (⟨(rd_T106 t594 t599).f0, (rd_T106 t594 t599).f1, y619⟩ : S106) HO621.out) (fun _ hk => hk); clear hcc55 hfr55) | ((with_reducible refine gate_store (t := 24) (p := 57) rfl ?_); refine store_event (t := 24) (p := 57) (v := ?vo_w56) (w1 := (w54.setCell ⟨go53, (t599 : Int).toNat * 3 + 2, none⟩ (.slice Ao57 y619.length co57))) ?hg ?ho ?hn ?hr ?_; (case ho => rfl); (case hg => rfl); (case hn => rfl); (case hr => first | (go_simp; done) | (go_simp; rfl)); intro w56 hw; have hg : w54.grownBy w56 (some go53) := (by rw [hw]; exact HP55.2); have hp_ : Kd.S k106 106 w56 w.heap.size (fun _ => True) (.slice (some ⟨go53, 0, none⟩) t594.length co50) y622 := (by rw [hw, Ny622.out]; exact HP55.1); clear HP55; have n0_ := am (IsS87.grown zi hg (IsS87.own_ne HI0.out hraw55 (by decide))); have n1_ := am ((by rw [hw]; exact below_set HB.out (Nat.le_trans HL.out GB53.out) : Below w0.heap.size w0 w56)); have n2_ := am (KeepBut.trans zh (KeepBut.of_grown hg g) (Kd.R_base2 hraw55)); have n3_ := am (hp_); clear HI0; clear HB; clear HK; clear HO621; clear HH53; have HI0 := n0_; have HB := n1_; have HK := n2_; have HO596 := n3_; clear n0_ n1_ n2_ n3_; clear hg hw hp_ hraw55))
         go_ret
         exact ⟨_, by first | rfl | (simp [errW_none, errW_some] <;> rfl) | (simp [*, errW_none, errW_some] <;> rfl), by (with_reducible repeat (first | apply Kd.S_alloc | apply Kd.S_drewN | apply Kd.S_drew)); exact HO596.out, zi, zj, zh⟩
        ·rw [if_neg c47] at H
         exact absurd H (by simp)
       ·rw [if_neg c46] at H
        exact absurd H (by simp)
      ·rw [if_neg c45] at H
       exact absurd H (by simp)
     ·rw [if_neg c44] at H
      have c44b0 : (t602 == 3) = false := beq_eq_false_iff_ne.mpr c44
      have c44b1 : (t602 != 3) = true := bne_iff_ne.mpr c44
      simp only [Option.some.injEq, Prod.mk.injEq] at H
      obtain ⟨rfl, rfl, rfl⟩ := H
      go_enter Try.func132, Try.ntmps132
      go_wp2_with (first | ((with_reducible refine gateC (f := 153) rfl ?_); refine goesL_ (some 9) rfl rfl Try.func153 (by kernel_rfl) rfl #[.pointer (some ⟨g, 0, none⟩), .slice A1 l1.length c1] rfl zm ?_; (with_reducible refine (spec_l1Cur_hunks.calls k g s0_0 s0_1 s0_2 _ _ l1 t594 t597 t598 w0 _ ?side1 ?side2 ?side3 ?side4 ?side5 A3.out).mono ?_); (case side1 => exact zi); (case side2 => exact zj); (case side3 => exact Kd.C_keep (⟨#[]⟩ : ByteArray) HR1.out zh hf1); (case side4 => exact HC1.out); (case side5 => exact hf1); rintro e w58 ⟨v595, rfl, ho0, hi, hb, hk⟩; refine ⟨_, rfl, ?_⟩; have n0_ := am (Kd.S_lower ho0 (keep_size (w := w) (g := g) (row := none) zh)); have n1_ := am (KeepBut.trans zh hk (.inl rfl)); have n2_ := am (hb); have n3_ := am (hi); clear HK; clear HB; clear HI0; have HO596 := n0_; have HK := n1_; have HB := n2_; have HI0 := n3_; clear n0_ n1_ n2_ n3_; (try clear hb); (try clear hk); (try clear hi); (try clear ho0); obtain ⟨Ao59, co59, eo59⟩ := Kd.S_slice HO596.out; subst eo59) | ((with_reducible refine gateC (f := 62) rfl ?_); refine goesL_ (some 16) rfl rfl Try.func62 (by kernel_rfl) rfl #[.pointer (some ⟨g, 0, none⟩), .int .i64 (t594.length : Int)] rfl zm ?_; (with_reducible refine (spec_l1Cur_pick.calls g s0_0 t597 t598 (t594.length : Int) t599 t600 t601 w0 _ ?side1 ?side2 A5.out).mono ?_); (case side1 => exact zi); (case side2 => exact zj); rintro e w60 ⟨rfl, hi, hb, hk⟩; refine ⟨_, rfl, ?_⟩; have n0_ := am (Kd.S_mono (Kd.S_keep (IsS87.apartS (show IsS87 w0 _ g s0_0 t597 t598 from zi) (zs HO596.out) (by decide)) hk (fun _ h => h.2)) (fun _ h => h.1)); have n1_ := am (KeepBut.trans zh hk (.inl rfl)); have n2_ := am (hb); have n3_ := am (hi); clear HO596; clear HK; clear HB; clear HI0; have HO596 := n0_; have HK := n1_; have HB := n2_; have HI0 := n3_; clear n0_ n1_ n2_ n3_; (try clear hb); (try clear hk); (try clear hi)) | ((with_reducible refine gateC (f := 62) rfl ?_); refine goesL_ (some 18) rfl rfl Try.func62 (by kernel_rfl) rfl #[.pointer (some ⟨g, 0, none⟩), .int .i64 25] rfl zm ?_; (with_reducible refine (spec_l1Cur_pick.calls g s0_0 t600 t601 25 t602 t603 t604 w0 _ ?side1 ?side2 A6.out).mono ?_); (case side1 => exact zi); (case side2 => exact zj); rintro e w61 ⟨rfl, hi, hb, hk⟩; refine ⟨_, rfl, ?_⟩; have n0_ := am (Kd.S_mono (Kd.S_keep (IsS87.apartS (show IsS87 w0 _ g s0_0 t600 t601 from zi) (zs HO596.out) (by decide)) hk (fun _ h => h.2)) (fun _ h => h.1)); have n1_ := am (KeepBut.trans zh hk (.inl rfl)); have n2_ := am (hb); have n3_ := am (hi); clear HO596; clear HK; clear HB; clear HI0; have HO596 := n0_; have HK := n1_; have HB := n2_; have HI0 := n3_; clear n0_ n1_ n2_ n3_; (try clear hb); (try clear hk); (try clear hi)))
      go_ret
      exact ⟨_, by first | rfl | (simp [errW_none, errW_some] <;> rfl) | (simp [*, errW_none, errW_some] <;> rfl), by (with_reducible repeat (first | apply Kd.S_alloc | apply Kd.S_drewN | apply Kd.S_drew)); exact HO596.out, zi, zj, zh⟩
 ·rw [if_neg c4] at H
  have c4b0 : decide (0 < (t594.length : Int)) = false := decide_eq_false c4
  have c4b1 : decide (0 < t594.length) = false := decide_eq_false (by omega)
  clear c4
  simp only [Option.some.injEq, Prod.mk.injEq] at H
  obtain ⟨rfl, rfl, rfl⟩ := H
  go_enter Try.func132, Try.ntmps132
  go_wp2_with (first | ((with_reducible refine gateC (f := 153) rfl ?_); refine goesL_ (some 9) rfl rfl Try.func153 (by kernel_rfl) rfl #[.pointer (some ⟨g, 0, none⟩), .slice A1 l1.length c1] rfl zm ?_; (with_reducible refine (spec_l1Cur_hunks.calls k g s0_0 s0_1 s0_2 _ _ l1 t594 t597 t598 w0 _ ?side1 ?side2 ?side3 ?side4 ?side5 A3.out).mono ?_); (case side1 => exact zi); (case side2 => exact zj); (case side3 => exact Kd.C_keep (⟨#[]⟩ : ByteArray) HR1.out zh hf1); (case side4 => exact HC1.out); (case side5 => exact hf1); rintro e w62 ⟨v595, rfl, ho0, hi, hb, hk⟩; refine ⟨_, rfl, ?_⟩; have n0_ := am (Kd.S_lower ho0 (keep_size (w := w) (g := g) (row := none) zh)); have n1_ := am (KeepBut.trans zh hk (.inl rfl)); have n2_ := am (hb); have n3_ := am (hi); clear HK; clear HB; clear HI0; have HO596 := n0_; have HK := n1_; have HB := n2_; have HI0 := n3_; clear n0_ n1_ n2_ n3_; (try clear hb); (try clear hk); (try clear hi); (try clear ho0); obtain ⟨Ao63, co63, eo63⟩ := Kd.S_slice HO596.out; subst eo63))
  go_ret
  exact ⟨_, by first | rfl | (simp [errW_none, errW_some] <;> rfl) | (simp [*, errW_none, errW_some] <;> rfl), by (with_reducible repeat (first | apply Kd.S_alloc | apply Kd.S_drewN | apply Kd.S_drew)); exact HO596.out, zi, zj, zh⟩
end Go.Proofs.Ytmcldkobejhaeaa.My
/- Written by this session's program (wip/gen): a plain function with the same answers as the Go function, and the proof that the Go code comes to them. Asked: that the plain function has an answer. -/
namespace Go.Proofs.Ytmcldkobejhaeaa.My
open Go.RowKit Go.Proofs.YtmcldkobejhaeaaW.PrintWords Go.Proofs.YtmcldkobejhaeaaW.PrintLast Go.Proofs.YtmcldkobejhaeaaW.PrintMore
attribute [local go_sem] max2_int min2_int max_two min_two max_three min_three max_four min_four
set_option linter.unusedVariables false
set_option linter.unusedSimpArgs false
def spec_l1Cur_one.f (s0_0 : List Int) (s0_1 : Int) (s0_2 : Int) (a1 : Int) : Option (Bool × Int × Int) := (spec_l1Cur_pick.f s0_0 s0_1 s0_2 a1).bind fun bt118 => (some ((bt118.1 == 0), bt118.2.1, bt118.2.2))
set_option maxHeartbeats 8000000 in
set_option maxRecDepth 100000 in
theorem spec_l1Cur_one.calls (g : Nat) (s0_0 : List Int) (s0_1 : Int) (s0_2 : Int) (a1 : Int) (r1 : Bool) (r2 : Int) (r3 : Int) (w0 w : World) (hI : IsS87 w0 w g s0_0 s0_1 s0_2) (hB : Below w0.heap.size w0 w) (h : spec_l1Cur_one.f s0_0 s0_1 s0_2 a1 = some (r1, r2, r3)) :
  Calls Try.prog 85 #[.pointer (some ⟨g, 0, none⟩), .int .i64 a1] w fun e w' => e = .returned (.bool r1) ∧ IsS87 w0 w' g s0_0 r2 r3 ∧ Below w0.heap.size w0 w' ∧ KeepBut w w' g none := by
 have HI0 := am hI
 have HK := am (KeepBut.refl w g none)
 have HL := am hB.size
 clear hI
 have HW0 := am hB.size
 have HB := am hB
 clear hB
 have H : ((spec_l1Cur_pick.f s0_0 s0_1 s0_2 a1).bind fun bt118 => (some ((bt118.1 == 0), bt118.2.1, bt118.2.2))) = some (r1, r2, r3) := h
 clear h
 replace H := Option.bind_eq_some_iff.mp H
 obtain ⟨⟨t118, t119, t120⟩, A30, H⟩ := H
 replace H : (some ((t118 == 0), t119, t120)) = some (r1, r2, r3) := H
 have A3 := am A30
 clear A30
 simp only [Option.some.injEq, Prod.mk.injEq] at H
 obtain ⟨rfl, rfl, rfl⟩ := H
 go_enter Try.func85, Try.ntmps85
 go_wp2_with (first | ((with_reducible refine gateC (f := 62) rfl ?_); refine goesL_ (some 7) rfl rfl Try.func62 (by kernel_rfl) rfl #[.pointer (some ⟨g, 0, none⟩), .int .i64 a1] rfl zm ?_; (with_reducible refine (spec_l1Cur_pick.calls g s0_0 s0_1 s0_2 a1 t118 t119 t120 w0 _ ?side1 ?side2 A3.out).mono ?_); (case side1 => exact zi); (case side2 => exact zj); rintro e w4 ⟨rfl, hi, hb, hk⟩; refine ⟨_, rfl, ?_⟩; have n0_ := am (KeepBut.trans zh hk (.inl rfl)); have n1_ := am (hb); have n2_ := am (hi); clear HK; clear HB; clear HI0; have HK := n0_; have HB := n1_; have HI0 := n2_; clear n0_ n1_ n2_; (try clear hb); (try clear hk); (try clear hi)))
 go_ret
 exact ⟨by first | rfl | (simp [errW_none, errW_some] <;> rfl) | (simp [*, errW_none, errW_some] <;> rfl), zi, zj, zh⟩
end Go.Proofs.Ytmcldkobejhaeaa.My
/- Written by this session's program (wip/gen): a plain function with the same answers as the Go function, and the proof that the Go code comes to them. Asked: that the plain function has an answer. -/
namespace Go.Proofs.Ytmcldkobejhaeaa.My
open Go.RowKit Go.Proofs.YtmcldkobejhaeaaW.PrintWords Go.Proofs.YtmcldkobejhaeaaW.PrintLast Go.Proofs.YtmcldkobejhaeaaW.PrintMore
attribute [local go_sem] max2_int min2_int max_two min_two max_three min_three max_four min_four
set_option linter.unusedVariables false
set_option linter.unusedSimpArgs false
def spec_l1Cur_text.l0 : Nat → List ByteArray → Int → List Int → Int → Int → Option (List ByteArray × Int × Int)
 | 0, _, _, _, _, _ => none
 | k + 1, x3, x4, x1000, x1001, x1002 => if x4 > 0 then ((spec_l1Cur_line.f x1000 x1001 x1002).bind fun bt124 => (if bt124.1.size + 1 ≤ 9223372036854775807 then (if x3.length < 8796093022208 then (spec_l1Cur_text.l0 k (x3 ++ [bt124.1 ++ (⟨#[10]⟩ : ByteArray)]) (wrap64 (x4 - 1)) x1000 bt124.2.1 bt124.2.2) else (none)) else (none))) else ((spec_l1Cur_one.f x1000 x1001 x1002 5).bind fun bt130 => (if bt130.1 = true then ((spec_l1Cur_of.f x1000 bt130.2.1 bt130.2.2 (([(⟨#[97]⟩ : ByteArray), (⟨#[101, 110, 100]⟩ : ByteArray), (⟨#[46]⟩ : ByteArray)] : List ByteArray))).bind fun bt136 => (if x3.length < 8796093022208 then (some ((x3 ++ [bt136.1]), bt136.2.1, bt136.2.2)) else (none))) else (some (x3, bt130.2.1, bt130.2.2))))
def spec_l1Cur_text.f (k : Nat) (s0_0 : List Int) (s0_1 : Int) (s0_2 : Int) : Option (List ByteArray × Int × Int) := (spec_l1Cur_pick.f s0_0 s0_1 s0_2 9).bind fun bt121 => (spec_l1Cur_text.l0 k ([] : List ByteArray) bt121.1 s0_0 bt121.2.1 bt121.2.2)
set_option maxHeartbeats 8000000 in
set_option maxRecDepth 100000 in
theorem spec_l1Cur_text.calls (k : Nat) (g : Nat) (s0_0 : List Int) (s0_1 : Int) (s0_2 : Int) (r1 : List ByteArray) (r2 : Int) (r3 : Int) (w0 w : World) (hI : IsS87 w0 w g s0_0 s0_1 s0_2) (hB : Below w0.heap.size w0 w) (h : spec_l1Cur_text.f k s0_0 s0_1 s0_2 = some (r1, r2, r3)) :
  Calls Try.prog 123 #[.pointer (some ⟨g, 0, none⟩)] w fun e w' => ∃ v0_ : Value, e = .returned (v0_) ∧ Kd.R Kd.string 9 w' w.heap.size (fun _ => True) v0_ r1 ∧ IsS87 w0 w' g s0_0 r2 r3 ∧ Below w0.heap.size w0 w' ∧ KeepBut w w' g none := by
 have HI0 := am hI
 have HK := am (KeepBut.refl w g none)
 have HL := am hB.size
 clear hI
 have HW0 := am hB.size
 have HB := am hB
 clear hB
 have H : ((spec_l1Cur_pick.f s0_0 s0_1 s0_2 9).bind fun bt121 => (spec_l1Cur_text.l0 k ([] : List ByteArray) bt121.1 s0_0 bt121.2.1 bt121.2.2)) = some (r1, r2, r3) := h
 clear h
 replace H := Option.bind_eq_some_iff.mp H
 obtain ⟨⟨t121, t122, t123⟩, A20, H⟩ := H
 replace H : (spec_l1Cur_text.l0 k ([] : List ByteArray) t121 s0_0 t122 t123) = some (r1, r2, r3) := H
 have A2 := am A20
 clear A20
 have H' := am H
 clear H
 go_enter Try.func123, Try.ntmps123
 go_wp2_with (first | ((with_reducible refine gateC (f := 62) rfl ?_); refine goesL_ (some 6) rfl rfl Try.func62 (by kernel_rfl) rfl #[.pointer (some ⟨g, 0, none⟩), .int .i64 9] rfl zm ?_; (with_reducible refine (spec_l1Cur_pick.calls g s0_0 s0_1 s0_2 9 t121 t122 t123 w0 _ ?side1 ?side2 A2.out).mono ?_); (case side1 => exact zi); (case side2 => exact zj); rintro e w3 ⟨rfl, hi, hb, hk⟩; refine ⟨_, rfl, ?_⟩; have n0_ := am (KeepBut.trans zh hk (.inl rfl)); have n1_ := am (hb); have n2_ := am (hi); clear HK; clear HB; clear HI0; have HK := n0_; have HB := n1_; have HI0 := n2_; clear n0_ n1_ n2_; (try clear hb); (try clear hk); (try clear hi)))
 go_loopg [3, 4] k (fun kq v3 v4 w' => ∃ (x3_1 : List ByteArray) (x4_1 : Int) (x1001_1 : Int) (x1002_1 : Int), v4 = .int .i64 x4_1 ∧ Aside0 (spec_l1Cur_text.l0 kq x3_1 x4_1 s0_0 x1001_1 x1002_1 = some (r1, r2, r3)) ∧ Aside0 (kq ≤ k) ∧ Aside0 (Kd.R Kd.string 9 w' w.heap.size (fun _ => True) v3 x3_1) ∧ Aside0 (IsS87 w0 w' g s0_0 x1001_1 x1002_1) ∧ Aside0 (KeepBut w w' g none) ∧ Aside0 (Below w0.heap.size w0 w'))
 case atStart => exact ⟨(([] : List ByteArray)), (t121), (t122), (t123), zf, H', ⟨Nat.le_refl _⟩, ⟨by first | exact Kd.R_nil _ _ _ _ _ | exact Kd.Q_nil _ _ _ _ _ | exact Kd.S_nil _ _ _ _ _⟩, ⟨by repeat (first | (with_reducible first | exact HI0.out | apply IsS87.alloc | apply IsS87.drewN | apply IsS87.drew | apply IsS87.set_1 | apply IsS87.set_2) | exact HI0.out)⟩, ⟨by repeat (first | (with_reducible first | exact HK.out | apply KeepBut.set_ | apply keep_drewN | apply keep_drew | apply keep_alloc) | exact HK.out)⟩, ⟨by repeat (first | (with_reducible first | exact HB.out | apply below_alloc | apply pw_below_drewN | apply below_drew1 | refine below_set ?_ (IsS87.ge HI0.out)) | exact HB.out)⟩⟩
 case round =>
  clear H'
  try clear c1
  try clear p2
  obtain ⟨x3_1, x4_1, x1001_1, x1002_1, rfl, HA, HK1, HO_3, HI0, HK, HB⟩ := hrel
  cases gk with
  | zero => exact absurd HA.out (by simp [spec_l1Cur_text.l0])
  | succ k1 =>
   have H := HA.out
   clear HA
   simp only [spec_l1Cur_text.l0] at H
   by_cases c4 : x4_1 > 0
   ·rw [if_pos c4] at H
    have c4b0 : decide (0 < x4_1) = true := decide_eq_true c4
    clear c4
    replace H := Option.bind_eq_some_iff.mp H
    obtain ⟨⟨t124, t125, t126⟩, A50, H⟩ := H
    replace H : (if t124.size + 1 ≤ 9223372036854775807 then (if x3_1.length < 8796093022208 then (spec_l1Cur_text.l0 k1 (x3_1 ++ [t124 ++ (⟨#[10]⟩ : ByteArray)]) (wrap64 (x4_1 - 1)) s0_0 t125 t126) else (none)) else (none)) = some (r1, r2, r3) := H
    have A5 := am A50
    clear A50
    by_cases c6 : t124.size + 1 ≤ 9223372036854775807
    ·rw [if_pos c6] at H
     have c6b0 := eq_true c6
     have c6b1 : decide (t124.size + 1 ≤ 9223372036854775807) = true := decide_eq_true c6
     try have c6b2 : (9223372036854775807 < t124.size + 1) = False := eq_false (Nat.not_lt.2 c6)
     by_cases c7 : x3_1.length < 8796093022208
     ·rw [if_pos c7] at H
      have LMc7 := am c7
      clear c7
      obtain ⟨y127, hy127⟩ : ∃ y_ : List ByteArray, y_ = (x3_1 ++ [t124 ++ (⟨#[10]⟩ : ByteArray)]) := ⟨_, rfl⟩
      replace H : (spec_l1Cur_text.l0 k1 y127 (wrap64 (x4_1 - 1)) s0_0 t125 t126) = some (r1, r2, r3) := by first | (rw [hy127]; with_reducible exact H) | (have H2_ := (Option.bind_some _ _).symm.trans H; rw [hy127]; with_reducible exact H2_) | (have H2_ := (Option.bind_some _ _).symm.trans H; with_reducible exact H2_) | with_reducible exact H | (rw [hy127]; exact H) | exact H
      have Ny127 := am hy127
      clear hy127
      have H' := am H
      clear H
      go_wp2_with (first | ((with_reducible refine gateC (f := 71) rfl ?_); refine goesL_ (some 13) rfl rfl Try.func71 (by kernel_rfl) rfl #[.pointer (some ⟨g, 0, none⟩)] rfl zm ?_; (with_reducible refine (spec_l1Cur_line.calls g s0_0 x1001_1 x1002_1 t124 t125 t126 w0 _ ?side1 ?side2 A5.out).mono ?_); (case side1 => exact zi); (case side2 => exact zj); rintro e w8 ⟨rfl, hi, hb, hk⟩; refine ⟨_, rfl, ?_⟩; have n0_ := am (Kd.R_mono (Kd.R_keep (IsS87.apart (show IsS87 w0 _ g s0_0 x1001_1 x1002_1 from zi) (zr HO_3.out) (by decide)) hk (fun _ h => h.2)) (fun _ h => h.1)); have n1_ := am (KeepBut.trans zh hk (.inl rfl)); have n2_ := am (hb); have n3_ := am (hi); clear HO_3; clear HK; clear HB; clear HI0; have HO_3 := n0_; have HK := n1_; have HB := n2_; have HI0 := n3_; clear n0_ n1_ n2_ n3_; (try clear hb); (try clear hk); (try clear hi)) | ((with_reducible refine gateB (b := .append) (xs := #[.tmp 11, .tmp 15]) rfl ?_); at_builtin; refine Kd.R_append Kd.string w.heap.size rfl (.tmp 11) (.tmp 15) 24 9 (.string ⟨#[]⟩) 16 rfl Try.underlying24 info9 rfl (by decide) (by omega) u3 x3_1 (t124 ++ (⟨#[10]⟩ : ByteArray)) [.string (t124 ++ (⟨#[10]⟩ : ByteArray))] (fun _ => True) (fun _ => False) rfl rfl ?aP (fun _ hk => hk.elim) ?aF ?aO (Below.refl _ _) ?aS ?aL ?_; (case aP => exact rfl); (case aF => exact (fun _ _ => trivial)); (case aO => exact (zr HO_3.out)); (case aS => exact (keep_size (w := w) (g := g) (row := none) zh)); (case aL => have := LMc7.out; omega); intro v128 w9 ho hb hg hat; rw [← Ny127.out] at ho; have n0_ := am (IsS87.grown zi hg (IsS87.own_ne HI0.out HO_3.out (by decide))); have n1_ := am (below_weaken zj HL.out hb); have n2_ := am (KeepBut.trans zh (KeepBut.of_grown hg g) (Kd.R_base2 HO_3.out)); have n3_ := am (ho); clear HI0; clear HB; clear HK; clear HO_3; have HI0 := n0_; have HB := n1_; have HK := n2_; have HO129 := n3_; clear n0_ n1_ n2_ n3_; clear ho hb hg hat))
      go_roundg k1
      case measure => have := HK1.out; omega
      case rel => exact ⟨(y127), (wrap64 (x4_1 - 1)), (t125), (t126), zf, H', ⟨by have := HK1.out; omega⟩, ⟨by (with_reducible repeat (first | apply Kd.R_alloc | apply Kd.R_drewN | apply Kd.R_drew)); exact HO129.out⟩, ⟨by repeat (first | (with_reducible first | exact HI0.out | apply IsS87.alloc | apply IsS87.drewN | apply IsS87.drew | apply IsS87.set_1 | apply IsS87.set_2) | exact HI0.out)⟩, ⟨by repeat (first | (with_reducible first | exact HK.out | apply KeepBut.set_ | apply keep_drewN | apply keep_drew | apply keep_alloc) | exact HK.out)⟩, ⟨by repeat (first | (with_reducible first | exact HB.out | apply below_alloc | apply pw_below_drewN | apply below_drew1 | refine below_set ?_ (IsS87.ge HI0.out)) | exact HB.out)⟩⟩
     ·rw [if_neg c7] at H
      exact absurd H (by simp)
    ·rw [if_neg c6] at H
     exact absurd H (by simp)
   ·rw [if_neg c4] at H
    have c4b0 : decide (0 < x4_1) = false := decide_eq_false c4
    clear c4
    replace H := Option.bind_eq_some_iff.mp H
    obtain ⟨⟨t130, t131, t132⟩, A100, H⟩ := H
    replace H : (if t130 = true then ((spec_l1Cur_of.f s0_0 t131 t132 (([(⟨#[97]⟩ : ByteArray), (⟨#[101, 110, 100]⟩ : ByteArray), (⟨#[46]⟩ : ByteArray)] : List ByteArray))).bind fun bt136 => (if x3_1.length < 8796093022208 then (some ((x3_1 ++ [bt136.1]), bt136.2.1, bt136.2.2)) else (none))) else (some (x3_1, t131, t132))) = some (r1, r2, r3) := H
    have A10 := am A100
    clear A100
    by_cases c11 : t130 = true
    ·subst c11
     have H1 : ((spec_l1Cur_of.f s0_0 t131 t132 (([(⟨#[97]⟩ : ByteArray), (⟨#[101, 110, 100]⟩ : ByteArray), (⟨#[46]⟩ : ByteArray)] : List ByteArray))).bind fun bt136 => (if x3_1.length < 8796093022208 then (some ((x3_1 ++ [bt136.1]), bt136.2.1, bt136.2.2)) else (none))) = some (r1, r2, r3) := by rw [if_pos rfl] at H; exact H
     clear H
     have H := H1
     clear H1
     obtain ⟨y133, hy133⟩ : ∃ y_ : List ByteArray, y_ = (([(⟨#[97]⟩ : ByteArray), (⟨#[101, 110, 100]⟩ : ByteArray), (⟨#[46]⟩ : ByteArray)] : List ByteArray)) := ⟨_, rfl⟩
     replace H : ((spec_l1Cur_of.f s0_0 t131 t132 y133).bind fun bt136 => (if x3_1.length < 8796093022208 then (some ((x3_1 ++ [bt136.1]), bt136.2.1, bt136.2.2)) else (none))) = some (r1, r2, r3) := by first | (rw [hy133]; with_reducible exact H) | (have H2_ := (Option.bind_some _ _).symm.trans H; rw [hy133]; with_reducible exact H2_) | (have H2_ := (Option.bind_some _ _).symm.trans H; with_reducible exact H2_) | with_reducible exact H | (rw [hy133]; exact H) | exact H
     have Ny133 := am hy133
     clear hy133
     replace H := Option.bind_eq_some_iff.mp H
     obtain ⟨⟨t136, t137, t138⟩, A120, H⟩ := H
     replace H : (if x3_1.length < 8796093022208 then (some ((x3_1 ++ [t136]), t137, t138)) else (none)) = some (r1, r2, r3) := H
     have A12 := am A120
     clear A120
     by_cases c13 : x3_1.length < 8796093022208
     ·rw [if_pos c13] at H
      have LMc13 := am c13
      clear c13
      obtain ⟨y139, hy139⟩ : ∃ y_ : List ByteArray, y_ = (x3_1 ++ [t136]) := ⟨_, rfl⟩
      replace H : (some (y139, t137, t138)) = some (r1, r2, r3) := by first | (rw [hy139]; with_reducible exact H) | (have H2_ := (Option.bind_some _ _).symm.trans H; rw [hy139]; with_reducible exact H2_) | (have H2_ := (Option.bind_some _ _).symm.trans H; with_reducible exact H2_) | with_reducible exact H | (rw [hy139]; exact H) | exact H
      have Ny139 := am hy139
      clear hy139
      simp only [Option.some.injEq, Prod.mk.injEq] at H
      obtain ⟨rfl, rfl, rfl⟩ := H
      go_wp2_with (first | ((with_reducible refine gateC (f := 85) rfl ?_); refine goesL_ (some 18) rfl rfl Try.func85 (by kernel_rfl) rfl #[.pointer (some ⟨g, 0, none⟩), .int .i64 5] rfl zm ?_; (with_reducible refine (spec_l1Cur_one.calls g s0_0 x1001_1 x1002_1 5 true t131 t132 w0 _ ?side1 ?side2 A10.out).mono ?_); (case side1 => exact zi); (case side2 => exact zj); rintro e w14 ⟨rfl, hi, hb, hk⟩; refine ⟨_, rfl, ?_⟩; have n0_ := am (Kd.R_mono (Kd.R_keep (IsS87.apart (show IsS87 w0 _ g s0_0 x1001_1 x1002_1 from zi) (zr HO_3.out) (by decide)) hk (fun _ h => h.2)) (fun _ h => h.1)); have n1_ := am (KeepBut.trans zh hk (.inl rfl)); have n2_ := am (hb); have n3_ := am (hi); clear HO_3; clear HK; clear HB; clear HI0; have HO_3 := n0_; have HK := n1_; have HB := n2_; have HI0 := n3_; clear n0_ n1_ n2_ n3_; (try clear hb); (try clear hk); (try clear hi)) | ((with_reducible refine gate_dst (N := 21) rfl ?_); refine Kd.R_lit Kd.string _ 9 ?hg (N := 21) ?hd (xs := ([(⟨#[97]⟩ : ByteArray), (⟨#[101, 110, 100]⟩ : ByteArray), (⟨#[46]⟩ : ByteArray)] : List ByteArray)) (inner := [.string (⟨#[97]⟩ : ByteArray), .string (⟨#[101, 110, 100]⟩ : ByteArray), .string (⟨#[46]⟩ : ByteArray)]) (ok := fun _ => True) (okp := fun _ => True) ?hr ?hp (fun _ hk => hk) trivial (Below.refl _ _) (Nat.le_refl _) (by simp) ?_; (case hd => rfl); (case hg => rfl); (case hr => first | (go_simp; done) | (go_simp; rfl)); (case hp => exact (Reps.one (show Kd.M Kd.string _ _ _ (⟨#[97]⟩ : ByteArray) [.string (⟨#[97]⟩ : ByteArray)] from rfl) (Reps.one (show Kd.M Kd.string _ _ _ (⟨#[101, 110, 100]⟩ : ByteArray) [.string (⟨#[101, 110, 100]⟩ : ByteArray)] from rfl) (Reps.one (show Kd.M Kd.string _ _ _ (⟨#[46]⟩ : ByteArray) [.string (⟨#[46]⟩ : ByteArray)] from rfl) (Reps.none _ _))))); intro v134 w15 ho16 hb hg_ hnew_; clear hg_ hnew_; (first | rw [← Ny133.out] at ho16 | (simp only [Int.reduceToNat] at ho16; rw [← Ny133.out] at ho16)); have n0_ := am (Kd.R_elder' (zr HO_3.out) (Kd.R_base ho16) hb); have n1_ := am (Kd.R_lower (Kd.R_new' ho16 (Kd.R_lt (zr HO_3.out))) (keep_size (w := w) (g := g) (row := none) zh)); have n2_ := am (IsS87.below zi hb); have n3_ := am (KeepBut.trans zh (KeepBut.of_below hb g none) (.inl rfl)); have n4_ := am (below_step zj hb); clear HO_3; clear HI0; clear HK; clear HB; have HO_3 := n0_; have HO135 := n1_; have HI0 := n2_; have HK := n3_; have HB := n4_; clear n0_ n1_ n2_ n3_ n4_; clear hb ho16; obtain ⟨Ao17, co17, eo17⟩ := Kd.R_slice HO135.out; subst eo17) | ((with_reducible refine gateC (f := 72) rfl ?_); refine goesL_ (some 22) rfl rfl Try.func72 (by kernel_rfl) rfl #[.pointer (some ⟨g, 0, none⟩), .slice Ao17 y133.length co17] rfl zm ?_; (with_reducible refine (spec_l1Cur_of.calls g s0_0 t131 t132 _ _ y133 t136 t137 t138 w0 _ ?side1 ?side2 ?side3 ?side4 ?side5 A12.out).mono ?_); (case side1 => exact zi); (case side2 => exact zj); (case side3 => repeat (first | exact (Kd.R_reads' HO135.out).2.2 | (with_reducible refine Kd.C_alloc ?_ _) | (with_reducible refine Kd.C_drewN ?_ _) | (with_reducible refine Kd.C_drew ?_))); (case side4 => exact (Kd.R_reads' HO135.out).2.1); (case side5 => exact far_slice (IsS87.own_ne HI0.out HO135.out (by decide))); rintro e w18 ⟨rfl, hi, hb, hk⟩; refine ⟨_, rfl, ?_⟩; have n0_ := am (Kd.R_mono (Kd.R_keep (IsS87.apart (show IsS87 w0 _ g s0_0 t131 t132 from zi) (zr HO_3.out) (by decide)) hk (fun _ h => h.2)) (fun _ h => h.1)); have n1_ := am (Kd.R_mono (Kd.R_keep (IsS87.apart (show IsS87 w0 _ g s0_0 t131 t132 from zi) (zr HO135.out) (by decide)) hk (fun _ h => h.2)) (fun _ h => h.1)); have n2_ := am (KeepBut.trans zh hk (.inl rfl)); have n3_ := am (hb); have n4_ := am (hi); clear HO_3; clear HO135; clear HK; clear HB; clear HI0; have HO_3 := n0_; have HO135 := n1_; have HK := n2_; have HB := n3_; have HI0 := n4_; clear n0_ n1_ n2_ n3_ n4_; (try clear hb); (try clear hk); (try clear hi)) | ((with_reducible refine gateB (b := .append) (xs := #[.tmp 19, .tmp 23]) rfl ?_); at_builtin; refine Kd.R_append Kd.string w.heap.size rfl (.tmp 19) (.tmp 23) 24 9 (.string ⟨#[]⟩) 16 rfl Try.underlying24 info9 rfl (by decide) (by omega) u3 x3_1 t136 [.string t136] (fun k_ => some k_ ≠ (.slice Ao17 y133.length co17 : Value).ownBlock) (fun _ => False) rfl rfl ?aP (fun _ hk => hk.elim) ?aF ?aO (Below.refl _ _) ?aS ?aL ?_; (case aP => exact rfl); (case aF => exact (fun k_ hk => Kd.fresh' (Kd.R_lt (zr HO135.out)) k_ hk)); (case aO => exact (by (with_reducible repeat (first | apply Kd.R_alloc | apply Kd.R_drewN | apply Kd.R_drew)); exact Kd.R_mono HO_3.out (fun _ hk => hk.2))); (case aS => exact (keep_size (w := w) (g := g) (row := none) zh)); (case aL => have := LMc13.out; omega); intro v140 w19 ho hb hg hat; rw [← Ny139.out] at ho; have n0_ := am (IsS87.grown zi hg (IsS87.own_ne HI0.out HO_3.out (by decide))); have n1_ := am (Kd.R_after (ok := (fun _ => True)) (zr HO135.out) hg hat); have n2_ := am (below_weaken zj HL.out hb); have n3_ := am (KeepBut.trans zh (KeepBut.of_grown hg g) (Kd.R_base2 HO_3.out)); have n4_ := am (ho); clear HI0; clear HO135; clear HB; clear HK; clear HO_3; have HI0 := n0_; have HO135 := n1_; have HB := n2_; have HK := n3_; have HO141 := n4_; clear n0_ n1_ n2_ n3_ n4_; clear ho hb hg hat))
      go_ret
      exact ⟨_, by first | rfl | (simp [errW_none, errW_some] <;> rfl) | (simp [*, errW_none, errW_some] <;> rfl), by (with_reducible repeat (first | apply Kd.R_alloc | apply Kd.R_drewN | apply Kd.R_drew)); exact Kd.R_mono HO141.out (fun _ hk => trivial), zi, zj, zh⟩
     ·rw [if_neg c13] at H
      exact absurd H (by simp)
    ·replace c11 := Bool.eq_false_iff.mpr c11
     subst c11
     have H1 : (some (x3_1, t131, t132)) = some (r1, r2, r3) := by rw [if_neg (show ¬ (false = true) by decide)] at H; exact H
     clear H
     have H := H1
     clear H1
     simp only [Option.some.injEq, Prod.mk.injEq] at H
     obtain ⟨rfl, rfl, rfl⟩ := H
     go_wp2_with (first | ((with_reducible refine gateC (f := 85) rfl ?_); refine goesL_ (some 18) rfl rfl Try.func85 (by kernel_rfl) rfl #[.pointer (some ⟨g, 0, none⟩), .int .i64 5] rfl zm ?_; (with_reducible refine (spec_l1Cur_one.calls g s0_0 x1001_1 x1002_1 5 false t131 t132 w0 _ ?side1 ?side2 A10.out).mono ?_); (case side1 => exact zi); (case side2 => exact zj); rintro e w20 ⟨rfl, hi, hb, hk⟩; refine ⟨_, rfl, ?_⟩; have n0_ := am (Kd.R_mono (Kd.R_keep (IsS87.apart (show IsS87 w0 _ g s0_0 x1001_1 x1002_1 from zi) (zr HO_3.out) (by decide)) hk (fun _ h => h.2)) (fun _ h => h.1)); have n1_ := am (KeepBut.trans zh hk (.inl rfl)); have n2_ := am (hb); have n3_ := am (hi); clear HO_3; clear HK; clear HB; clear HI0; have HO_3 := n0_; have HK := n1_; have HB := n2_; have HI0 := n3_; clear n0_ n1_ n2_ n3_; (try clear hb); (try clear hk); (try clear hi)))
     go_ret
     exact ⟨_, by first | rfl | (simp [errW_none, errW_some] <;> rfl) | (simp [*, errW_none, errW_some] <;> rfl), by (with_reducible repeat (first | apply Kd.R_alloc | apply Kd.R_drewN | apply Kd.R_drew)); exact HO_3.out, zi, zj, zh⟩
end Go.Proofs.Ytmcldkobejhaeaa.My
/- Written by this session's program (wip/gen): a plain function with the same answers as the Go function, and the proof that the Go code comes to them. Asked: that the plain function has an answer. -/
namespace Go.Proofs.Ytmcldkobejhaeaa.My
open Go.RowKit Go.Proofs.YtmcldkobejhaeaaW.PrintWords Go.Proofs.YtmcldkobejhaeaaW.PrintLast Go.Proofs.YtmcldkobejhaeaaW.PrintMore
attribute [local go_sem] max2_int min2_int max_two min_two max_three min_three max_four min_four
set_option linter.unusedVariables false
set_option linter.unusedSimpArgs false
def spec_l1Cur_anyText.f (k : Nat) (s0_0 : List Int) (s0_1 : Int) (s0_2 : Int) : Option (List ByteArray × Int × Int) := (spec_l1Cur_text.f k s0_0 s0_1 s0_2).bind fun bt142 => (if (bt142.1.length : Int) > 1 then ((spec_l1Cur_pick.f s0_0 bt142.2.1 bt142.2.2 25).bind fun bt147 => (if bt147.1 = 0 then (if 0 < (bt142.1.length : Int) then (some ((bt142.1.set (0 : Int).toNat (⟨#[120]⟩ : ByteArray)), bt147.2.1, bt147.2.2)) else (none)) else (if bt147.1 = 1 then (if 0 < (bt142.1.length : Int) then (some ((bt142.1.set (0 : Int).toNat (⟨#[]⟩ : ByteArray)), bt147.2.1, bt147.2.2)) else (none)) else (if bt147.1 = 2 then (if 0 < (bt142.1.length : Int) then (some ((bt142.1.set (0 : Int).toNat (⟨#[97, 10, 98, 10]⟩ : ByteArray)), bt147.2.1, bt147.2.2)) else (none)) else (some (bt142.1, bt147.2.1, bt147.2.2)))))) else (some (bt142.1, bt142.2.1, bt142.2.2)))
set_option maxHeartbeats 8000000 in
set_option maxRecDepth 100000 in
theorem spec_l1Cur_anyText.calls (k : Nat) (g : Nat) (s0_0 : List Int) (s0_1 : Int) (s0_2 : Int) (r1 : List ByteArray) (r2 : Int) (r3 : Int) (w0 w : World) (hI : IsS87 w0 w g s0_0 s0_1 s0_2) (hB : Below w0.heap.size w0 w) (h : spec_l1Cur_anyText.f k s0_0 s0_1 s0_2 = some (r1, r2, r3)) :
  Calls Try.prog 61 #[.pointer (some ⟨g, 0, none⟩)] w fun e w' => ∃ v0_ : Value, e = .returned (v0_) ∧ Kd.R Kd.string 9 w' w.heap.size (fun _ => True) v0_ r1 ∧ IsS87 w0 w' g s0_0 r2 r3 ∧ Below w0.heap.size w0 w' ∧ KeepBut w w' g none := by
 have HI0 := am hI
 have HK := am (KeepBut.refl w g none)
 have HL := am hB.size
 clear hI
 have HW0 := am hB.size
 have HB := am hB
 clear hB
 have H : ((spec_l1Cur_text.f k s0_0 s0_1 s0_2).bind fun bt142 => (if (bt142.1.length : Int) > 1 then ((spec_l1Cur_pick.f s0_0 bt142.2.1 bt142.2.2 25).bind fun bt147 => (if bt147.1 = 0 then (if 0 < (bt142.1.length : Int) then (some ((bt142.1.set (0 : Int).toNat (⟨#[120]⟩ : ByteArray)), bt147.2.1, bt147.2.2)) else (none)) else (if bt147.1 = 1 then (if 0 < (bt142.1.length : Int) then (some ((bt142.1.set (0 : Int).toNat (⟨#[]⟩ : ByteArray)), bt147.2.1, bt147.2.2)) else (none)) else (if bt147.1 = 2 then (if 0 < (bt142.1.length : Int) then (some ((bt142.1.set (0 : Int).toNat (⟨#[97, 10, 98, 10]⟩ : ByteArray)), bt147.2.1, bt147.2.2)) else (none)) else (some (bt142.1, bt147.2.1, bt147.2.2)))))) else (some (bt142.1, bt142.2.1, bt142.2.2)))) = some (r1, r2, r3) := h
 clear h
 replace H := Option.bind_eq_some_iff.mp H
 obtain ⟨⟨t142, t145, t146⟩, A20, H⟩ := H
 replace H : (if (t142.length : Int) > 1 then ((spec_l1Cur_pick.f s0_0 t145 t146 25).bind fun bt147 => (if bt147.1 = 0 then (if 0 < (t142.length : Int) then (some ((t142.set (0 : Int).toNat (⟨#[120]⟩ : ByteArray)), bt147.2.1, bt147.2.2)) else (none)) else (if bt147.1 = 1 then (if 0 < (t142.length : Int) then (some ((t142.set (0 : Int).toNat (⟨#[]⟩ : ByteArray)), bt147.2.1, bt147.2.2)) else (none)) else (if bt147.1 = 2 then (if 0 < (t142.length : Int) then (some ((t142.set (0 : Int).toNat (⟨#[97, 10, 98, 10]⟩ : ByteArray)), bt147.2.1, bt147.2.2)) else (none)) else (some (t142, bt147.2.1, bt147.2.2)))))) else (some (t142, t145, t146))) = some (r1, r2, r3) := H
 have A2 := am A20
 clear A20
 by_cases c3 : (t142.length : Int) > 1
 ·rw [if_pos c3] at H
  have c3b0 : decide (1 < (t142.length : Int)) = true := decide_eq_true c3
  have c3b1 : decide (1 < t142.length) = true := decide_eq_true (by omega)
  clear c3
  replace H := Option.bind_eq_some_iff.mp H
  obtain ⟨⟨t147, t148, t149⟩, A40, H⟩ := H
  replace H : (if t147 = 0 then (if 0 < (t142.length : Int) then (some ((t142.set (0 : Int).toNat (⟨#[120]⟩ : ByteArray)), t148, t149)) else (none)) else (if t147 = 1 then (if 0 < (t142.length : Int) then (some ((t142.set (0 : Int).toNat (⟨#[]⟩ : ByteArray)), t148, t149)) else (none)) else (if t147 = 2 then (if 0 < (t142.length : Int) then (some ((t142.set (0 : Int).toNat (⟨#[97, 10, 98, 10]⟩ : ByteArray)), t148, t149)) else (none)) else (some (t142, t148, t149))))) = some (r1, r2, r3) := H
  have A4 := am A40
  clear A40
  by_cases c5 : t147 = 0
  ·rw [if_pos c5] at H
   have c5b0 : (t147 == 0) = true := beq_iff_eq.mpr c5
   have c5b1 : (t147 != 0) = false := bne_eq_false_iff_eq.mpr c5
   clear c5
   by_cases c6 : 0 < (t142.length : Int)
   ·rw [if_pos c6] at H
    have c6b0 : decide (0 < (t142.length : Int)) = true := decide_eq_true c6
    have c6b1 : decide (0 < t142.length) = true := decide_eq_true (by omega)
    clear c6
    obtain ⟨y150, hy150⟩ : ∃ y_ : List ByteArray, y_ = (t142.set (0 : Int).toNat (⟨#[120]⟩ : ByteArray)) := ⟨_, rfl⟩
    replace H : (some (y150, t148, t149)) = some (r1, r2, r3) := by first | (rw [hy150]; with_reducible exact H) | (have H2_ := (Option.bind_some _ _).symm.trans H; rw [hy150]; with_reducible exact H2_) | (have H2_ := (Option.bind_some _ _).symm.trans H; with_reducible exact H2_) | with_reducible exact H | (rw [hy150]; exact H) | exact H
    have Ny150 := am hy150
    clear hy150
    simp only [Option.some.injEq, Prod.mk.injEq] at H
    obtain ⟨rfl, rfl, rfl⟩ := H
    go_enter Try.func61, Try.ntmps61
    go_wp2_with (first | ((with_reducible refine gateC (f := 123) rfl ?_); refine goesL_ (some 5) rfl rfl Try.func123 (by kernel_rfl) rfl #[.pointer (some ⟨g, 0, none⟩)] rfl zm ?_; (with_reducible refine (spec_l1Cur_text.calls k g s0_0 s0_1 s0_2 t142 t145 t146 w0 _ ?side1 ?side2 A2.out).mono ?_); (case side1 => exact zi); (case side2 => exact zj); rintro e w8 ⟨v143, rfl, ho0, hi, hb, hk⟩; refine ⟨_, rfl, ?_⟩; have n0_ := am (Kd.R_lower ho0 (keep_size (w := w) (g := g) (row := none) zh)); have n1_ := am (KeepBut.trans zh hk (.inl rfl)); have n2_ := am (hb); have n3_ := am (hi); clear HK; clear HB; clear HI0; have HO144 := n0_; have HK := n1_; have HB := n2_; have HI0 := n3_; clear n0_ n1_ n2_ n3_; (try clear hb); (try clear hk); (try clear hi); (try clear ho0); obtain ⟨Ao9, co9, eo9⟩ := Kd.R_slice HO144.out; subst eo9) | ((with_reducible refine gateC (f := 62) rfl ?_); refine goesL_ (some 10) rfl rfl Try.func62 (by kernel_rfl) rfl #[.pointer (some ⟨g, 0, none⟩), .int .i64 25] rfl zm ?_; (with_reducible refine (spec_l1Cur_pick.calls g s0_0 t145 t146 25 t147 t148 t149 w0 _ ?side1 ?side2 A4.out).mono ?_); (case side1 => exact zi); (case side2 => exact zj); rintro e w10 ⟨rfl, hi, hb, hk⟩; refine ⟨_, rfl, ?_⟩; have n0_ := am (Kd.R_mono (Kd.R_keep (IsS87.apart (show IsS87 w0 _ g s0_0 t145 t146 from zi) (zr HO144.out) (by decide)) hk (fun _ h => h.2)) (fun _ h => h.1)); have n1_ := am (KeepBut.trans zh hk (.inl rfl)); have n2_ := am (hb); have n3_ := am (hi); clear HO144; clear HK; clear HB; clear HI0; have HO144 := n0_; have HK := n1_; have HB := n2_; have HI0 := n3_; clear n0_ n1_ n2_ n3_; (try clear hb); (try clear hk); (try clear hi); have p7 : 0 ≤ (0 : Int) := (by omega); have q7 : (0 : Int) < ((t142.length : Int) : Int) := oa; have qi7 : (0 < t142.length) = True := eq_true (by omega); obtain ⟨go7, co7, eo7, gb7, gl7, cl7, HG7⟩ := Kd.R_form HO144.out (by omega); (first | cases eo7 | (injection eo7 with ea_ en_ ec_; (first | subst ea_ | (injection ea_ with ea_; subst ea_)); subst ec_; clear en_)); have GB7 := am gb7; have GG7 := am HG7; clear gb7 gl7 HG7; obtain ⟨hx7_0, hf7_0⟩ := Kd.R_celln (⟨#[]⟩ : ByteArray) HO144.out (0 : Int) p7 q7; (try rw [show ((0 : Int)).toNat = 0 from rfl] at hx7_0); (try simp only [Nat.reduceMul, Nat.zero_mul, Nat.zero_add, Nat.reduceAdd] at hx7_0); (try rw [show ((0 : Int)).toNat = 0 from rfl] at hf7_0); (try simp only [Nat.reduceMul, Nat.zero_mul, Nat.zero_add, Nat.reduceAdd] at hf7_0); replace p7 := eq_true p7; replace q7 := eq_true q7; obtain ⟨hy11_, hz11_⟩ := Kd.R_celln (⟨#[]⟩ : ByteArray) HO144.out (0 : Int) (by omega) oa; (try simp only [Int.reduceToNat, Int.toNat_zero, Int.toNat_ofNat, Nat.reduceMul, Nat.zero_mul, Nat.zero_add] at hy11_ hz11_); (try rw [show ((0 : Int)).toNat = 0 from rfl] at hy11_); (try rw [show ((0 : Int)).toNat = 0 from rfl] at hz11_); have HP11 := Kd.R_putg HO144.out (0 : Int) (⟨#[120]⟩ : ByteArray)) | ((with_reducible refine gate_store (t := 9) (p := 14) rfl ?_); refine store_event (t := 9) (p := 14) (v := ?vo_w12) (w1 := (w10.setCell ⟨go7, (0 : Int).toNat, none⟩ (.string (⟨#[120]⟩ : ByteArray)))) ?hg ?ho ?hn ?hr ?_; (case ho => rfl); (case hg => rfl); (case hn => rfl); (case hr => first | (go_simp; done) | (go_simp; rfl)); intro w12 hw; have hg : w10.grownBy w12 (some go7) := (by rw [hw]; exact HP11.2); have hp_ : Kd.R Kd.string 9 w12 w.heap.size (fun _ => True) (.slice (some ⟨go7, 0, none⟩) t142.length co9) y150 := (by rw [hw, Ny150.out]; exact HP11.1); clear HP11; have n0_ := am (IsS87.grown zi hg (IsS87.own_ne HI0.out HO144.out (by decide))); have n1_ := am (hp_); have n2_ := am ((by rw [hw]; exact below_set (HB.out) (Nat.le_trans HL.out GB7.out) : Below w0.heap.size w0 w12)); have n3_ := am (KeepBut.trans zh (KeepBut.of_grown hg g) (Kd.R_base2 HO144.out)); clear HI0; clear HO144; clear HB; clear HK; have HI0 := n0_; have HO144 := n1_; have HB := n2_; have HK := n3_; clear n0_ n1_ n2_ n3_; clear hg hw hp_))
    go_ret
    exact ⟨_, by first | rfl | (simp [errW_none, errW_some] <;> rfl) | (simp [*, errW_none, errW_some] <;> rfl), by (with_reducible repeat (first | apply Kd.R_alloc | apply Kd.R_drewN | apply Kd.R_drew)); exact HO144.out, zi, zj, zh⟩
   ·rw [if_neg c6] at H
    exact absurd H (by simp)
  ·rw [if_neg c5] at H
   have c5b0 : (t147 == 0) = false := beq_eq_false_iff_ne.mpr c5
   have c5b1 : (t147 != 0) = true := bne_iff_ne.mpr c5
   by_cases c13 : t147 = 1
   ·rw [if_pos c13] at H
    have c13b0 : (t147 == 1) = true := beq_iff_eq.mpr c13
    have c13b1 : (t147 != 1) = false := bne_eq_false_iff_eq.mpr c13
    clear c13
    by_cases c14 : 0 < (t142.length : Int)
    ·rw [if_pos c14] at H
     have c14b0 : decide (0 < (t142.length : Int)) = true := decide_eq_true c14
     have c14b1 : decide (0 < t142.length) = true := decide_eq_true (by omega)
     clear c14
     obtain ⟨y151, hy151⟩ : ∃ y_ : List ByteArray, y_ = (t142.set (0 : Int).toNat (⟨#[]⟩ : ByteArray)) := ⟨_, rfl⟩
     replace H : (some (y151, t148, t149)) = some (r1, r2, r3) := by first | (rw [hy151]; with_reducible exact H) | (have H2_ := (Option.bind_some _ _).symm.trans H; rw [hy151]; with_reducible exact H2_) | (have H2_ := (Option.bind_some _ _).symm.trans H; with_reducible exact H2_) | with_reducible exact H | (rw [hy151]; exact H) | exact H
     have Ny151 := am hy151
     clear hy151
     simp only [Option.some.injEq, Prod.mk.injEq] at H
     obtain ⟨rfl, rfl, rfl⟩ := H
     go_enter Try.func61, Try.ntmps61
     go_wp2_with (first | ((with_reducible refine gateC (f := 123) rfl ?_); refine goesL_ (some 5) rfl rfl Try.func123 (by kernel_rfl) rfl #[.pointer (some ⟨g, 0, none⟩)] rfl zm ?_; (with_reducible refine (spec_l1Cur_text.calls k g s0_0 s0_1 s0_2 t142 t145 t146 w0 _ ?side1 ?side2 A2.out).mono ?_); (case side1 => exact zi); (case side2 => exact zj); rintro e w16 ⟨v143, rfl, ho0, hi, hb, hk⟩; refine ⟨_, rfl, ?_⟩; have n0_ := am (Kd.R_lower ho0 (keep_size (w := w) (g := g) (row := none) zh)); have n1_ := am (KeepBut.trans zh hk (.inl rfl)); have n2_ := am (hb); have n3_ := am (hi); clear HK; clear HB; clear HI0; have HO144 := n0_; have HK := n1_; have HB := n2_; have HI0 := n3_; clear n0_ n1_ n2_ n3_; (try clear hb); (try clear hk); (try clear hi); (try clear ho0); obtain ⟨Ao17, co17, eo17⟩ := Kd.R_slice HO144.out; subst eo17) | ((with_reducible refine gateC (f := 62) rfl ?_); refine goesL_ (some 10) rfl rfl Try.func62 (by kernel_rfl) rfl #[.pointer (some ⟨g, 0, none⟩), .int .i64 25] rfl zm ?_; (with_reducible refine (spec_l1Cur_pick.calls g s0_0 t145 t146 25 t147 t148 t149 w0 _ ?side1 ?side2 A4.out).mono ?_); (case side1 => exact zi); (case side2 => exact zj); rintro e w18 ⟨rfl, hi, hb, hk⟩; refine ⟨_, rfl, ?_⟩; have n0_ := am (Kd.R_mono (Kd.R_keep (IsS87.apart (show IsS87 w0 _ g s0_0 t145 t146 from zi) (zr HO144.out) (by decide)) hk (fun _ h => h.2)) (fun _ h => h.1)); have n1_ := am (KeepBut.trans zh hk (.inl rfl)); have n2_ := am (hb); have n3_ := am (hi); clear HO144; clear HK; clear HB; clear HI0; have HO144 := n0_; have HK := n1_; have HB := n2_; have HI0 := n3_; clear n0_ n1_ n2_ n3_; (try clear hb); (try clear hk); (try clear hi); have p15 : 0 ≤ (0 : Int) := (by omega); have q15 : (0 : Int) < ((t142.length : Int) : Int) := oa; have qi15 : (0 < t142.length) = True := eq_true (by omega); obtain ⟨go15, co15, eo15, gb15, gl15, cl15, HG15⟩ := Kd.R_form HO144.out (by omega); (first | cases eo15 | (injection eo15 with ea_ en_ ec_; (first | subst ea_ | (injection ea_ with ea_; subst ea_)); subst ec_; clear en_)); have GB15 := am gb15; have GG15 := am HG15; clear gb15 gl15 HG15; obtain ⟨hx15_0, hf15_0⟩ := Kd.R_celln (⟨#[]⟩ : ByteArray) HO144.out (0 : Int) p15 q15; (try rw [show ((0 : Int)).toNat = 0 from rfl] at hx15_0); (try simp only [Nat.reduceMul, Nat.zero_mul, Nat.zero_add, Nat.reduceAdd] at hx15_0); (try rw [show ((0 : Int)).toNat = 0 from rfl] at hf15_0); (try simp only [Nat.reduceMul, Nat.zero_mul, Nat.zero_add, Nat.reduceAdd] at hf15_0); replace p15 := eq_true p15; replace q15 := eq_true q15; obtain ⟨hy19_, hz19_⟩ := Kd.R_celln (⟨#[]⟩ : ByteArray) HO144.out (0 : Int) (by omega) oa; (try simp only [Int.reduceToNat, Int.toNat_zero, Int.toNat_ofNat, Nat.reduceMul, Nat.zero_mul, Nat.zero_add] at hy19_ hz19_); (try rw [show ((0 : Int)).toNat = 0 from rfl] at hy19_); (try rw [show ((0 : Int)).toNat = 0 from rfl] at hz19_); have HP19 := Kd.R_putg HO144.out (0 : Int) (⟨#[]⟩ : ByteArray)) | ((with_reducible refine gate_store (t := 9) (p := 18) rfl ?_); refine store_event (t := 9) (p := 18) (v := ?vo_w20) (w1 := (w18.setCell ⟨go15, (0 : Int).toNat, none⟩ (.string (⟨#[]⟩ : ByteArray)))) ?hg ?ho ?hn ?hr ?_; (case ho => rfl); (case hg => rfl); (case hn => rfl); (case hr => first | (go_simp; done) | (go_simp; rfl)); intro w20 hw; have hg : w18.grownBy w20 (some go15) := (by rw [hw]; exact HP19.2); have hp_ : Kd.R Kd.string 9 w20 w.heap.size (fun _ => True) (.slice (some ⟨go15, 0, none⟩) t142.length co17) y151 := (by rw [hw, Ny151.out]; exact HP19.1); clear HP19; have n0_ := am (IsS87.grown zi hg (IsS87.own_ne HI0.out HO144.out (by decide))); have n1_ := am (hp_); have n2_ := am ((by rw [hw]; exact below_set (HB.out) (Nat.le_trans HL.out GB15.out) : Below w0.heap.size w0 w20)); have n3_ := am (KeepBut.trans zh (KeepBut.of_grown hg g) (Kd.R_base2 HO144.out)); clear HI0; clear HO144; clear HB; clear HK; have HI0 := n0_; have HO144 := n1_; have HB := n2_; have HK := n3_; clear n0_ n1_ n2_ n3_; clear hg hw hp_))
     go_ret
     exact ⟨_, by first | rfl | (simp [errW_none, errW_some] <;> rfl) | (simp [*, errW_none, errW_some] <;> rfl), by (with_reducible repeat (first | apply Kd.R_alloc | apply Kd.R_drewN | apply Kd.R_drew)); exact HO144.out, zi, zj, zh⟩
    ·rw [if_neg c14] at H
     exact absurd H (by simp)
   ·rw [if_neg c13] at H
    have c13b0 : (t147 == 1) = false := beq_eq_false_iff_ne.mpr c13
    have c13b1 : (t147 != 1) = true := bne_iff_ne.mpr c13
    by_cases c21 : t147 = 2
    ·rw [if_pos c21] at H
     have c21b0 : (t147 == 2) = true := beq_iff_eq.mpr c21
     have c21b1 : (t147 != 2) = false := bne_eq_false_iff_eq.mpr c21
     clear c21
     by_cases c22 : 0 < (t142.length : Int)
     ·rw [if_pos c22] at H
      have c22b0 : decide (0 < (t142.length : Int)) = true := decide_eq_true c22
      have c22b1 : decide (0 < t142.length) = true := decide_eq_true (by omega)
      clear c22
      obtain ⟨y152, hy152⟩ : ∃ y_ : List ByteArray, y_ = (t142.set (0 : Int).toNat (⟨#[97, 10, 98, 10]⟩ : ByteArray)) := ⟨_, rfl⟩
      replace H : (some (y152, t148, t149)) = some (r1, r2, r3) := by first | (rw [hy152]; with_reducible exact H) | (have H2_ := (Option.bind_some _ _).symm.trans H; rw [hy152]; with_reducible exact H2_) | (have H2_ := (Option.bind_some _ _).symm.trans H; with_reducible exact H2_) | with_reducible exact H | (rw [hy152]; exact H) | exact H
      have Ny152 := am hy152
      clear hy152
      simp only [Option.some.injEq, Prod.mk.injEq] at H
      obtain ⟨rfl, rfl, rfl⟩ := H
      go_enter Try.func61, Try.ntmps61
      go_wp2_with (first | ((with_reducible refine gateC (f := 123) rfl ?_); refine goesL_ (some 5) rfl rfl Try.func123 (by kernel_rfl) rfl #[.pointer (some ⟨g, 0, none⟩)] rfl zm ?_; (with_reducible refine (spec_l1Cur_text.calls k g s0_0 s0_1 s0_2 t142 t145 t146 w0 _ ?side1 ?side2 A2.out).mono ?_); (case side1 => exact zi); (case side2 => exact zj); rintro e w24 ⟨v143, rfl, ho0, hi, hb, hk⟩; refine ⟨_, rfl, ?_⟩; have n0_ := am (Kd.R_lower ho0 (keep_size (w := w) (g := g) (row := none) zh)); have n1_ := am (KeepBut.trans zh hk (.inl rfl)); have n2_ := am (hb); have n3_ := am (hi); clear HK; clear HB; clear HI0; have HO144 := n0_; have HK := n1_; have HB := n2_; have HI0 := n3_; clear n0_ n1_ n2_ n3_; (try clear hb); (try clear hk); (try clear hi); (try clear ho0); obtain ⟨Ao25, co25, eo25⟩ := Kd.R_slice HO144.out; subst eo25) | ((with_reducible refine gateC (f := 62) rfl ?_); refine goesL_ (some 10) rfl rfl Try.func62 (by kernel_rfl) rfl #[.pointer (some ⟨g, 0, none⟩), .int .i64 25] rfl zm ?_; (with_reducible refine (spec_l1Cur_pick.calls g s0_0 t145 t146 25 t147 t148 t149 w0 _ ?side1 ?side2 A4.out).mono ?_); (case side1 => exact zi); (case side2 => exact zj); rintro e w26 ⟨rfl, hi, hb, hk⟩; refine ⟨_, rfl, ?_⟩; have n0_ := am (Kd.R_mono (Kd.R_keep (IsS87.apart (show IsS87 w0 _ g s0_0 t145 t146 from zi) (zr HO144.out) (by decide)) hk (fun _ h => h.2)) (fun _ h => h.1)); have n1_ := am (KeepBut.trans zh hk (.inl rfl)); have n2_ := am (hb); have n3_ := am (hi); clear HO144; clear HK; clear HB; clear HI0; have HO144 := n0_; have HK := n1_; have HB := n2_; have HI0 := n3_; clear n0_ n1_ n2_ n3_; (try clear hb); (try clear hk); (try clear hi); have p23 : 0 ≤ (0 : Int) := (by omega); have q23 : (0 : Int) < ((t142.length : Int) : Int) := oa; have qi23 : (0 < t142.length) = True := eq_true (by omega); obtain ⟨go23, co23, eo23, gb23, gl23, cl23, HG23⟩ := Kd.R_form HO144.out (by omega); (first | cases eo23 | (injection eo23 with ea_ en_ ec_; (first | subst ea_ | (injection ea_ with ea_; subst ea_)); subst ec_; clear en_)); have GB23 := am gb23; have GG23 := am HG23; clear gb23 gl23 HG23; obtain ⟨hx23_0, hf23_0⟩ := Kd.R_celln (⟨#[]⟩ : ByteArray) HO144.out (0 : Int) p23 q23; (try rw [show ((0 : Int)).toNat = 0 from rfl] at hx23_0); (try simp only [Nat.reduceMul, Nat.zero_mul, Nat.zero_add, Nat.reduceAdd] at hx23_0); (try rw [show ((0 : Int)).toNat = 0 from rfl] at hf23_0); (try simp only [Nat.reduceMul, Nat.zero_mul, Nat.zero_add, Nat.reduceAdd] at hf23_0); replace p23 := eq_true p23; replace q23 := eq_true q23; obtain ⟨hy27_, hz27_⟩ := Kd.R_celln (⟨#[]⟩ : ByteArray) HO144.out (0 : Int) (by omega) oa; (try simp only [Int.reduceToNat, Int.toNat_zero, Int.toNat_ofNat, Nat.reduceMul, Nat.zero_mul, Nat.zero_add] at hy27_ hz27_); (try rw [show ((0 : Int)).toNat = 0 from rfl] at hy27_); (try rw [show ((0 : Int)).toNat = 0 from rfl] at hz27_); have HP27 := Kd.R_putg HO144.out (0 : Int) (⟨#[97, 10, 98, 10]⟩ : ByteArray)) | ((with_reducible refine gate_store (t := 9) (p := 22) rfl ?_); refine store_event (t := 9) (p := 22) (v := ?vo_w28) (w1 := (w26.setCell ⟨go23, (0 : Int).toNat, none⟩ (.string (⟨#[97, 10, 98, 10]⟩ : ByteArray)))) ?hg ?ho ?hn ?hr ?_; (case ho => rfl); (case hg => rfl); (case hn => rfl); (case hr => first | (go_simp; done) | (go_simp; rfl)); intro w28 hw; have hg : w26.grownBy w28 (some go23) := (by rw [hw]; exact HP27.2); have hp_ : Kd.R Kd.string 9 w28 w.heap.size (fun _ => True) (.slice (some ⟨go23, 0, none⟩) t142.length co25) y152 := (by rw [hw, Ny152.out]; exact HP27.1); clear HP27; have n0_ := am (IsS87.grown zi hg (IsS87.own_ne HI0.out HO144.out (by decide))); have n1_ := am (hp_); have n2_ := am ((by rw [hw]; exact below_set (HB.out) (Nat.le_trans HL.out GB23.out) : Below w0.heap.size w0 w28)); have n3_ := am (KeepBut.trans zh (KeepBut.of_grown hg g) (Kd.R_base2 HO144.out)); clear HI0; clear HO144; clear HB; clear HK; have HI0 := n0_; have HO144 := n1_; have HB := n2_; have HK := n3_; clear n0_ n1_ n2_ n3_; clear hg hw hp_))
      go_ret
      exact ⟨_, by first | rfl | (simp [errW_none, errW_some] <;> rfl) | (simp [*, errW_none, errW_some] <;> rfl), by (with_reducible repeat (first | apply Kd.R_alloc | apply Kd.R_drewN | apply Kd.R_drew)); exact HO144.out, zi, zj, zh⟩
     ·rw [if_neg c22] at H
      exact absurd H (by simp)
    ·rw [if_neg c21] at H
     have c21b0 : (t147 == 2) = false := beq_eq_false_iff_ne.mpr c21
     have c21b1 : (t147 != 2) = true := bne_iff_ne.mpr c21
     simp only [Option.some.injEq, Prod.mk.injEq] at H
     obtain ⟨rfl, rfl, rfl⟩ := H
     go_enter Try.func61, Try.ntmps61
     go_wp2_with (first | ((with_reducible refine gateC (f := 123) rfl ?_); refine goesL_ (some 5) rfl rfl Try.func123 (by kernel_rfl) rfl #[.pointer (some ⟨g, 0, none⟩)] rfl zm ?_; (with_reducible refine (spec_l1Cur_text.calls k g s0_0 s0_1 s0_2 t142 t145 t146 w0 _ ?side1 ?side2 A2.out).mono ?_); (case side1 => exact zi); (case side2 => exact zj); rintro e w29 ⟨v143, rfl, ho0, hi, hb, hk⟩; refine ⟨_, rfl, ?_⟩; have n0_ := am (Kd.R_lower ho0 (keep_size (w := w) (g := g) (row := none) zh)); have n1_ := am (KeepBut.trans zh hk (.inl rfl)); have n2_ := am (hb); have n3_ := am (hi); clear HK; clear HB; clear HI0; have HO144 := n0_; have HK := n1_; have HB := n2_; have HI0 := n3_; clear n0_ n1_ n2_ n3_; (try clear hb); (try clear hk); (try clear hi); (try clear ho0); obtain ⟨Ao30, co30, eo30⟩ := Kd.R_slice HO144.out; subst eo30) | ((with_reducible refine gateC (f := 62) rfl ?_); refine goesL_ (some 10) rfl rfl Try.func62 (by kernel_rfl) rfl #[.pointer (some ⟨g, 0, none⟩), .int .i64 25] rfl zm ?_; (with_reducible refine (spec_l1Cur_pick.calls g s0_0 t145 t146 25 t147 t148 t149 w0 _ ?side1 ?side2 A4.out).mono ?_); (case side1 => exact zi); (case side2 => exact zj); rintro e w31 ⟨rfl, hi, hb, hk⟩; refine ⟨_, rfl, ?_⟩; have n0_ := am (Kd.R_mono (Kd.R_keep (IsS87.apart (show IsS87 w0 _ g s0_0 t145 t146 from zi) (zr HO144.out) (by decide)) hk (fun _ h => h.2)) (fun _ h => h.1)); have n1_ := am (KeepBut.trans zh hk (.inl rfl)); have n2_ := am (hb); have n3_ := am (hi); clear HO144; clear HK; clear HB; clear HI0; have HO144 := n0_; have HK := n1_; have HB := n2_; have HI0 := n3_; clear n0_ n1_ n2_ n3_; (try clear hb); (try clear hk); (try clear hi)))
     go_ret
     exact ⟨_, by first | rfl | (simp [errW_none, errW_some] <;> rfl) | (simp [*, errW_none, errW_some] <;> rfl), by (with_reducible repeat (first | apply Kd.R_alloc | apply Kd.R_drewN | apply Kd.R_drew)); exact HO144.out, zi, zj, zh⟩
 ·rw [if_neg c3] at H
  have c3b0 : decide (1 < (t142.length : Int)) = false := decide_eq_false c3
  have c3b1 : decide (1 < t142.length) = false := decide_eq_false (by omega)
  clear c3
  simp only [Option.some.injEq, Prod.mk.injEq] at H
  obtain ⟨rfl, rfl, rfl⟩ := H
  go_enter Try.func61, Try.ntmps61
  go_wp2_with (first | ((with_reducible refine gateC (f := 123) rfl ?_); refine goesL_ (some 5) rfl rfl Try.func123 (by kernel_rfl) rfl #[.pointer (some ⟨g, 0, none⟩)] rfl zm ?_; (with_reducible refine (spec_l1Cur_text.calls k g s0_0 s0_1 s0_2 t142 t145 t146 w0 _ ?side1 ?side2 A2.out).mono ?_); (case side1 => exact zi); (case side2 => exact zj); rintro e w32 ⟨v143, rfl, ho0, hi, hb, hk⟩; refine ⟨_, rfl, ?_⟩; have n0_ := am (Kd.R_lower ho0 (keep_size (w := w) (g := g) (row := none) zh)); have n1_ := am (KeepBut.trans zh hk (.inl rfl)); have n2_ := am (hb); have n3_ := am (hi); clear HK; clear HB; clear HI0; have HO144 := n0_; have HK := n1_; have HB := n2_; have HI0 := n3_; clear n0_ n1_ n2_ n3_; (try clear hb); (try clear hk); (try clear hi); (try clear ho0); obtain ⟨Ao33, co33, eo33⟩ := Kd.R_slice HO144.out; subst eo33))
  go_ret
  exact ⟨_, by first | rfl | (simp [errW_none, errW_some] <;> rfl) | (simp [*, errW_none, errW_some] <;> rfl), by (with_reducible repeat (first | apply Kd.R_alloc | apply Kd.R_drewN | apply Kd.R_drew)); exact HO144.out, zi, zj, zh⟩
end Go.Proofs.Ytmcldkobejhaeaa.My
/- Written by this session's program (wip/gen): a plain function with the same answers as the Go function, and the proof that the Go code comes to them. Asked: that the plain function has an answer. -/
namespace Go.Proofs.Ytmcldkobejhaeaa.My
open Go.RowKit Go.Proofs.YtmcldkobejhaeaaW.PrintWords Go.Proofs.YtmcldkobejhaeaaW.PrintLast Go.Proofs.YtmcldkobejhaeaaW.PrintMore
attribute [local go_sem] max2_int min2_int max_two min_two max_three min_three max_four min_four
set_option linter.unusedVariables false
set_option linter.unusedSimpArgs false
def spec_l1Cur_hunked.f (k : Nat) (s0_0 : List Int) (s0_1 : Int) (s0_2 : Int) : Option (List ByteArray × (List (S106)) × Int × Int) := (spec_l1Cur_anyText.f k s0_0 s0_1 s0_2).bind fun bt623 => ((spec_l1Cur_anyHunks.f k s0_0 bt623.2.1 bt623.2.2 bt623.1).bind fun bt628 => (some (bt623.1, bt628.1, bt628.2.1, bt628.2.2)))
set_option maxHeartbeats 8000000 in
set_option maxRecDepth 100000 in
theorem spec_l1Cur_hunked.calls (k : Nat) (g : Nat) (s0_0 : List Int) (s0_1 : Int) (s0_2 : Int) (r1 : List ByteArray) (r2 : List (S106)) (r3 : Int) (r4 : Int) (w0 w : World) (hI : IsS87 w0 w g s0_0 s0_1 s0_2) (hB : Below w0.heap.size w0 w) (h : spec_l1Cur_hunked.f k s0_0 s0_1 s0_2 = some (r1, r2, r3, r4)) :
  Calls Try.prog 83 #[.pointer (some ⟨g, 0, none⟩)] w fun e w' => ∃ v0_ v1_ : Value, e = .returned (.tuple #[v0_, v1_]) ∧ Kd.R Kd.string 9 w' w.heap.size (fun _ => True) v0_ r1 ∧ Kd.S k106 106 w' w.heap.size (fun k_ => some k_ ≠ (v0_ : Value).ownBlock) v1_ r2 ∧ IsS87 w0 w' g s0_0 r3 r4 ∧ Below w0.heap.size w0 w' ∧ KeepBut w w' g none := by
 have HI0 := am hI
 have HK := am (KeepBut.refl w g none)
 have HL := am hB.size
 clear hI
 have HW0 := am hB.size
 have HB := am hB
 clear hB
 have H : ((spec_l1Cur_anyText.f k s0_0 s0_1 s0_2).bind fun bt623 => ((spec_l1Cur_anyHunks.f k s0_0 bt623.2.1 bt623.2.2 bt623.1).bind fun bt628 => (some (bt623.1, bt628.1, bt628.2.1, bt628.2.2)))) = some (r1, r2, r3, r4) := h
 clear h
 replace H := Option.bind_eq_some_iff.mp H
 obtain ⟨⟨t623, t626, t627⟩, A20, H⟩ := H
 replace H : ((spec_l1Cur_anyHunks.f k s0_0 t626 t627 t623).bind fun bt628 => (some (t623, bt628.1, bt628.2.1, bt628.2.2))) = some (r1, r2, r3, r4) := H
 have A2 := am A20
 clear A20
 replace H := Option.bind_eq_some_iff.mp H
 obtain ⟨⟨t628, t631, t632⟩, A30, H⟩ := H
 replace H : (some (t623, t628, t631, t632)) = some (r1, r2, r3, r4) := H
 have A3 := am A30
 clear A30
 simp only [Option.some.injEq, Prod.mk.injEq] at H
 obtain ⟨rfl, rfl, rfl, rfl⟩ := H
 go_enter Try.func83, Try.ntmps83
 go_wp2_with (first | ((with_reducible refine gateC (f := 61) rfl ?_); refine goesL_ (some 6) rfl rfl Try.func61 (by kernel_rfl) rfl #[.pointer (some ⟨g, 0, none⟩)] rfl zm ?_; (with_reducible refine (spec_l1Cur_anyText.calls k g s0_0 s0_1 s0_2 t623 t626 t627 w0 _ ?side1 ?side2 A2.out).mono ?_); (case side1 => exact zi); (case side2 => exact zj); rintro e w4 ⟨v624, rfl, ho0, hi, hb, hk⟩; refine ⟨_, rfl, ?_⟩; have n0_ := am (Kd.R_lower ho0 (keep_size (w := w) (g := g) (row := none) zh)); have n1_ := am (KeepBut.trans zh hk (.inl rfl)); have n2_ := am (hb); have n3_ := am (hi); clear HK; clear HB; clear HI0; have HO625 := n0_; have HK := n1_; have HB := n2_; have HI0 := n3_; clear n0_ n1_ n2_ n3_; (try clear hb); (try clear hk); (try clear hi); (try clear ho0); obtain ⟨Ao5, co5, eo5⟩ := Kd.R_slice HO625.out; subst eo5) | ((with_reducible refine gateC (f := 132) rfl ?_); refine goesL_ (some 10) rfl rfl Try.func132 (by kernel_rfl) rfl #[.pointer (some ⟨g, 0, none⟩), .slice Ao5 t623.length co5] rfl zm ?_; (with_reducible refine (spec_l1Cur_anyHunks.calls k g s0_0 t626 t627 _ _ t623 t628 t631 t632 w0 _ ?side1 ?side2 ?side3 ?side4 ?side5 A3.out).mono ?_); (case side1 => exact zi); (case side2 => exact zj); (case side3 => repeat (first | exact (Kd.R_reads' HO625.out).2.2 | (with_reducible refine Kd.C_alloc ?_ _) | (with_reducible refine Kd.C_drewN ?_ _) | (with_reducible refine Kd.C_drew ?_))); (case side4 => exact (Kd.R_reads' HO625.out).2.1); (case side5 => exact far_slice (IsS87.own_ne HI0.out HO625.out (by decide))); rintro e w6 ⟨v629, rfl, ho0, hi, hb, hk⟩; refine ⟨_, rfl, ?_⟩; have n0_ := am (Kd.R_mono (Kd.R_keep (IsS87.apart (show IsS87 w0 _ g s0_0 t626 t627 from zi) (zr HO625.out) (by decide)) hk (fun _ h => h.2)) (fun _ h => h.1)); have n1_ := am (Kd.S_lower (Kd.S_new' ho0 (Kd.R_lt (zr HO625.out))) (keep_size (w := w) (g := g) (row := none) zh)); have n2_ := am (KeepBut.trans zh hk (.inl rfl)); have n3_ := am (hb); have n4_ := am (hi); clear HO625; clear HK; clear HB; clear HI0; have HO625 := n0_; have HO630 := n1_; have HK := n2_; have HB := n3_; have HI0 := n4_; clear n0_ n1_ n2_ n3_ n4_; (try clear hb); (try clear hk); (try clear hi); (try clear ho0)))
 go_ret2
 exact ⟨_, _, by first | rfl | (simp [errW_none, errW_some] <;> rfl) | (simp [*, errW_none, errW_some] <;> rfl), by (with_reducible repeat (first | apply Kd.R_alloc | apply Kd.R_drewN | apply Kd.R_drew)); exact HO625.out, by (with_reducible repeat (first | apply Kd.S_alloc | apply Kd.S_drewN | apply Kd.S_drew)); exact Kd.S_mono HO630.out (fun _ hk => hk.2), zi, zj, zh⟩
end Go.Proofs.Ytmcldkobejhaeaa.My
/- Written by this session's program (wip/gen): a plain function with the same answers as the Go function, and the proof that the Go code comes to them. Asked: that the plain function has an answer. -/
namespace Go.Proofs.Ytmcldkobejhaeaa.My
open Go.RowKit Go.Proofs.YtmcldkobejhaeaaW.PrintWords Go.Proofs.YtmcldkobejhaeaaW.PrintLast Go.Proofs.YtmcldkobejhaeaaW.PrintMore
attribute [local go_sem] max2_int min2_int max_two min_two max_three min_three max_four min_four
set_option linter.unusedVariables false
set_option linter.unusedSimpArgs false
def spec_DrawPlaceOf.g (k : Nat) (s0_0 : List Int) (s0_1 : Int) (s0_2 : Int) : Option ((List (S106)) × Int × Int × Int × Int) := (spec_l1Cur_hunked.f k s0_0 s0_1 s0_2).bind fun bt767 => ((spec_l1Cur_pick.f s0_0 bt767.2.2.1 bt767.2.2.2 (wrap64 ((bt767.1.length : Int) + 2))).bind fun bt775 => ((spec_l1Cur_pick.f s0_0 bt775.2.1 bt775.2.2 20).bind fun bt778 => (some (bt767.2.1, (bt767.1.length : Int), wrap64 (bt775.1 - (wrap64 (Int.tdiv bt778.1 19))), bt778.2.1, bt778.2.2))))
def spec_DrawPlaceOf.f (k : Nat) (l0 : List Int) : Option ((List (S106)) × Int × Int) := (spec_DrawPlaceOf.g k l0 0 0).bind fun r => some (r.1, r.2.1, r.2.2.1)
set_option maxHeartbeats 8000000 in
set_option maxRecDepth 100000 in
theorem spec_DrawPlaceOf.made (k : Nat) (A0 : Option Addr) (c0 : Nat) (l0 : List Int) (r1 : List (S106)) (r2 : Int) (r3 : Int) (r4 : Int) (r5 : Int) (w0 : World) (hr0 : Kd.C (Kd.int .u8) w0 A0 l0.length l0) (h : spec_DrawPlaceOf.g k l0 0 0 = some (r1, r2, r3, r4, r5)) :
  Calls Try.prog 34 #[.slice A0 l0.length c0] w0 fun e w' => ∃ (g : Nat) (w : World), w0.heap.size ≤ w.heap.size ∧ ∃ v0_ : Value, e = .returned (.tuple #[v0_, .int .i64 r2, .int .i64 r3]) ∧ Kd.S k106 106 w' w.heap.size (fun _ => True) v0_ r1 ∧ IsS87 w0 w' g l0 r4 r5 ∧ Below w0.heap.size w0 w' ∧ KeepBut w w' g none := by
 have HR0 := am hr0
 clear hr0
 have HB := am (Below.refl w0.heap.size w0)
 have H : ((spec_l1Cur_hunked.f k l0 0 0).bind fun bt767 => ((spec_l1Cur_pick.f l0 bt767.2.2.1 bt767.2.2.2 (wrap64 ((bt767.1.length : Int) + 2))).bind fun bt775 => ((spec_l1Cur_pick.f l0 bt775.2.1 bt775.2.2 20).bind fun bt778 => (some (bt767.2.1, (bt767.1.length : Int), wrap64 (bt775.1 - (wrap64 (Int.tdiv bt778.1 19))), bt778.2.1, bt778.2.2))))) = some (r1, r2, r3, r4, r5) := h
 clear h
 replace H := Option.bind_eq_some_iff.mp H
 obtain ⟨⟨t767, t770, t773, t774⟩, A20, H⟩ := H
 replace H : ((spec_l1Cur_pick.f l0 t773 t774 (wrap64 ((t767.length : Int) + 2))).bind fun bt775 => ((spec_l1Cur_pick.f l0 bt775.2.1 bt775.2.2 20).bind fun bt778 => (some (t770, (t767.length : Int), wrap64 (bt775.1 - (wrap64 (Int.tdiv bt778.1 19))), bt778.2.1, bt778.2.2)))) = some (r1, r2, r3, r4, r5) := H
 have A2 := am A20
 clear A20
 replace H := Option.bind_eq_some_iff.mp H
 obtain ⟨⟨t775, t776, t777⟩, A30, H⟩ := H
 replace H : ((spec_l1Cur_pick.f l0 t776 t777 20).bind fun bt778 => (some (t770, (t767.length : Int), wrap64 (t775 - (wrap64 (Int.tdiv bt778.1 19))), bt778.2.1, bt778.2.2))) = some (r1, r2, r3, r4, r5) := H
 have A3 := am A30
 clear A30
 replace H := Option.bind_eq_some_iff.mp H
 obtain ⟨⟨t778, t779, t780⟩, A40, H⟩ := H
 replace H : (some (t770, (t767.length : Int), wrap64 (t775 - (wrap64 (Int.tdiv t778 19))), t779, t780)) = some (r1, r2, r3, r4, r5) := H
 have A4 := am A40
 clear A40
 simp only [Option.some.injEq, Prod.mk.injEq] at H
 obtain ⟨rfl, rfl, rfl, rfl, rfl⟩ := H
 go_enter Try.func34, Try.ntmps34
 go_wp2_with (first | ((with_reducible refine gate_dst (N := 10) rfl ?_); refine box_event ?hg (N := 10) ?hd (cs := #[.slice A0 l0.length c0, .int .i64 0, .int .u64 0]) (t := 87) ?hr ?_; (case hd => rfl); (case hg => rfl); (case hr => first | (go_simp; done) | (go_simp; rfl)); intro g hg w hbox hb; have n0_ := am (show IsS87 w0 w g l0 0 0 from ⟨A0, c0, hbox, (by rw [hg]; exact below_size zb), HR0.out⟩); have n1_ := am (below_step zb hb); clear HB HR0; have HI0 := n0_; have HB := n1_; have HK := am (KeepBut.refl w g none); have HL := am HB.out.size; have HW0 := am HB.out.size; clear n0_ n1_ hb hbox hg) | ((with_reducible refine gateC (f := 83) rfl ?_); refine goesL_ (some 13) rfl rfl Try.func83 (by kernel_rfl) rfl #[.pointer (some ⟨g, 0, none⟩)] rfl zm ?_; (with_reducible refine (spec_l1Cur_hunked.calls k g l0 0 0 t767 t770 t773 t774 w0 _ ?side1 ?side2 A2.out).mono ?_); (case side1 => exact zi); (case side2 => exact zj); rintro e w5 ⟨v768, v771, rfl, ho0, ho1, hi, hb, hk⟩; refine ⟨_, rfl, ?_⟩; have n0_ := am (Kd.R_lower ho0 (keep_size (w := w) (g := g) (row := none) zh)); have n1_ := am (Kd.S_lower ho1 (keep_size (w := w) (g := g) (row := none) zh)); have n2_ := am (KeepBut.trans zh hk (.inl rfl)); have n3_ := am (hb); have n4_ := am (hi); clear HK; clear HB; clear HI0; have HO769 := n0_; have HO772 := n1_; have HK := n2_; have HB := n3_; have HI0 := n4_; clear n0_ n1_ n2_ n3_ n4_; (try clear hb); (try clear hk); (try clear hi); (try clear ho0); (try clear ho1); obtain ⟨Ao6, co6, eo6⟩ := Kd.R_slice HO769.out; subst eo6) | ((with_reducible refine gateC (f := 62) rfl ?_); refine goesL_ (some 23) rfl rfl Try.func62 (by kernel_rfl) rfl #[.pointer (some ⟨g, 0, none⟩), .int .i64 (wrap64 ((t767.length : Int) + 2))] rfl zm ?_; (with_reducible refine (spec_l1Cur_pick.calls g l0 t773 t774 (wrap64 ((t767.length : Int) + 2)) t775 t776 t777 w0 _ ?side1 ?side2 A3.out).mono ?_); (case side1 => exact zi); (case side2 => exact zj); rintro e w7 ⟨rfl, hi, hb, hk⟩; refine ⟨_, rfl, ?_⟩; have n0_ := am (Kd.R_mono (Kd.R_keep (IsS87.apart (show IsS87 w0 _ g l0 t773 t774 from zi) (zr HO769.out) (by decide)) hk (fun _ h => h.2)) (fun _ h => h.1)); have n1_ := am (Kd.S_mono (Kd.S_keep (IsS87.apartS (show IsS87 w0 _ g l0 t773 t774 from zi) (zs HO772.out) (by decide)) hk (fun _ h => h.2)) (fun _ h => h.1)); have n2_ := am (KeepBut.trans zh hk (.inl rfl)); have n3_ := am (hb); have n4_ := am (hi); clear HO769; clear HO772; clear HK; clear HB; clear HI0; have HO769 := n0_; have HO772 := n1_; have HK := n2_; have HB := n3_; have HI0 := n4_; clear n0_ n1_ n2_ n3_ n4_; (try clear hb); (try clear hk); (try clear hi)) | ((with_reducible refine gateC (f := 62) rfl ?_); refine goesL_ (some 25) rfl rfl Try.func62 (by kernel_rfl) rfl #[.pointer (some ⟨g, 0, none⟩), .int .i64 20] rfl zm ?_; (with_reducible refine (spec_l1Cur_pick.calls g l0 t776 t777 20 t778 t779 t780 w0 _ ?side1 ?side2 A4.out).mono ?_); (case side1 => exact zi); (case side2 => exact zj); rintro e w8 ⟨rfl, hi, hb, hk⟩; refine ⟨_, rfl, ?_⟩; have n0_ := am (Kd.R_mono (Kd.R_keep (IsS87.apart (show IsS87 w0 _ g l0 t776 t777 from zi) (zr HO769.out) (by decide)) hk (fun _ h => h.2)) (fun _ h => h.1)); have n1_ := am (Kd.S_mono (Kd.S_keep (IsS87.apartS (show IsS87 w0 _ g l0 t776 t777 from zi) (zs HO772.out) (by decide)) hk (fun _ h => h.2)) (fun _ h => h.1)); have n2_ := am (KeepBut.trans zh hk (.inl rfl)); have n3_ := am (hb); have n4_ := am (hi); clear HO769; clear HO772; clear HK; clear HB; clear HI0; have HO769 := n0_; have HO772 := n1_; have HK := n2_; have HB := n3_; have HI0 := n4_; clear n0_ n1_ n2_ n3_ n4_; (try clear hb); (try clear hk); (try clear hi)))
 go_ret3
 exact ⟨g, w, HW0.out, _, by first | rfl | (simp [errW_none, errW_some] <;> rfl) | (simp [*, errW_none, errW_some] <;> rfl), by (with_reducible repeat (first | apply Kd.S_alloc | apply Kd.S_drewN | apply Kd.S_drew)); exact Kd.S_mono HO772.out (fun _ hk => trivial), zi, zj, zh⟩
theorem spec_DrawPlaceOf.calls (k : Nat) (A0 : Option Addr) (c0 : Nat) (l0 : List Int) (r1 : List (S106)) (r2 : Int) (r3 : Int) (w0 : World) (hr0 : Kd.C (Kd.int .u8) w0 A0 l0.length l0) (hc0 : l0.length ≤ c0) (h : spec_DrawPlaceOf.f k l0 = some (r1, r2, r3)) :
  Calls Try.prog 34 #[.slice A0 l0.length c0] w0 fun e w' => ∃ v0_ : Value, e = .returned (.tuple #[v0_, .int .i64 r2, .int .i64 r3]) ∧ Kd.S k106 106 w' w0.heap.size (fun _ => True) v0_ r1 ∧ Below w0.heap.size w0 w' := by
  obtain ⟨q, hq, e⟩ := Option.bind_eq_some_iff.1 h
  obtain ⟨q0, q1, q2, q3, q4⟩ := q
  injection e with e
  simp only [Prod.mk.injEq] at e
  obtain ⟨rfl, rfl, rfl⟩ := e
  refine (spec_DrawPlaceOf.made k A0 c0 l0 _ _ _ _ _ w0 hr0 hq).mono ?_
  rintro e w' ⟨g, w, hw, v0_, h0, h1, _, hb, _⟩
  exact ⟨v0_, h0, Kd.S_lower h1 hw, hb⟩
end Go.Proofs.Ytmcldkobejhaeaa.My
/- Written by this session's program (wip/gen): a plain function with the same answers as the Go function, and the proof that the Go code comes to them. Asked: that the plain function has an answer. -/
namespace Go.Proofs.Ytmcldkobejhaeaa.My
open Go.RowKit Go.Proofs.YtmcldkobejhaeaaW.PrintWords Go.Proofs.YtmcldkobejhaeaaW.PrintLast Go.Proofs.YtmcldkobejhaeaaW.PrintMore
attribute [local go_sem] max2_int min2_int max_two min_two max_three min_three max_four min_four
set_option linter.unusedVariables false
set_option linter.unusedSimpArgs false
def spec_l1In.f (a0 : Int) (a1 : Int) (a2 : Int) : Option (Bool) := if a0 ≥ a1 then (some (decide (a0 ≤ a2))) else (some false)
set_option maxHeartbeats 8000000 in
set_option maxRecDepth 100000 in
theorem spec_l1In.calls (a0 : Int) (a1 : Int) (a2 : Int) (r : Bool) (w : World) (h : spec_l1In.f a0 a1 a2 = some r) :
  Calls Try.prog 67 #[.int .i64 a0, .int .i64 a1, .int .i64 a2] w fun e w' => e = .returned (.bool r) ∧ Drawn0 w w' := by
 have H : (if a0 ≥ a1 then (some (decide (a0 ≤ a2))) else (some false)) = some r := h
 clear h
 by_cases c4 : a0 ≥ a1
 ·rw [if_pos c4] at H
  have c4b0 : decide (a1 ≤ a0) = true := decide_eq_true c4
  clear c4
  obtain rfl := Option.some.inj H
  go_enter Try.func67, Try.ntmps67
  go_wp2
  go_ret
  exact ⟨by first | rfl | (simp; done) | (simp [*]; done), by repeat (first | exact Drawn0.refl _ | apply Drawn0.step)⟩
 ·rw [if_neg c4] at H
  have c4b0 : decide (a1 ≤ a0) = false := decide_eq_false c4
  clear c4
  obtain rfl := Option.some.inj H
  go_enter Try.func67, Try.ntmps67
  go_wp2
  go_ret
  exact ⟨by first | rfl | (simp; done) | (simp [*]; done), by repeat (first | exact Drawn0.refl _ | apply Drawn0.step)⟩
end Go.Proofs.Ytmcldkobejhaeaa.My
/- Written by this session's program (wip/gen): a plain function with the same answers as the Go function, and the proof that the Go code comes to them. Asked: that the plain function has an answer. -/
namespace Go.Proofs.Ytmcldkobejhaeaa.My
open Go.RowKit Go.Proofs.YtmcldkobejhaeaaW.PrintWords Go.Proofs.YtmcldkobejhaeaaW.PrintLast Go.Proofs.YtmcldkobejhaeaaW.PrintMore
attribute [local go_sem] max2_int min2_int max_two min_two max_three min_three max_four min_four
set_option linter.unusedVariables false
set_option linter.unusedSimpArgs false
def spec_l1Line.l0 : Nat → ByteArray → Int → Option (Bool)
 | 0, _, _ => none
 | k + 1, x0, x3 => if x3 < (wrap64 ((x0.size : Int) - 1)) then (if 0 ≤ x3 then (if x3 < (x0.size : Int) then (if (bt x0 x3) = 10 then (some false) else (spec_l1Line.l0 k x0 (wrap64 (x3 + 1)))) else (none)) else (none)) else ((spec_l1In.f (x0.size : Int) 1 30).bind fun t183 => (some t183))
def spec_l1Line.f (k : Nat) (a0 : ByteArray) : Option (Bool) := spec_l1Line.l0 k a0 0
set_option maxHeartbeats 8000000 in
set_option maxRecDepth 100000 in
theorem spec_l1Line.calls (k : Nat) (a0 : ByteArray) (r : Bool) (w : World) (h : spec_l1Line.f k a0 = some r) :
  Calls Try.prog 73 #[.string a0] w fun e w' => e = .returned (.bool r) ∧ Drawn0 w w' := by
 have H : (spec_l1Line.l0 k a0 0) = some r := h
 clear h
 have H' := am H
 clear H
 go_enter Try.func73, Try.ntmps73
 go_wp2
 go_loopg [3] k (fun kq v3 w' => ∃ (x3_1 : Int), v3 = .int .i64 x3_1 ∧ Aside0 (spec_l1Line.l0 kq a0 x3_1 = some r) ∧ Aside0 (kq ≤ k) ∧ Drawn0 w w')
 case atStart => exact ⟨(0), zf, H', ⟨Nat.le_refl _⟩, by repeat (first | exact Drawn0.refl _ | apply Drawn0.step)⟩
 case round =>
  clear H'
  obtain ⟨x3_1, rfl, HA, HK1, ⟨m1, rfl⟩⟩ := hrel
  cases gk with
  | zero => exact absurd HA.out (by simp [spec_l1Line.l0])
  | succ k1 =>
   have H := HA.out
   clear HA
   simp only [spec_l1Line.l0] at H
   by_cases c2 : x3_1 < (wrap64 ((a0.size : Int) - 1))
   ·rw [if_pos c2] at H
    have c2b0 : decide (x3_1 < (wrap64 ((a0.size : Int) - 1))) = true := decide_eq_true c2
    clear c2
    by_cases c3 : 0 ≤ x3_1
    ·rw [if_pos c3] at H
     have c3b0 : decide (0 ≤ x3_1) = true := decide_eq_true c3
     clear c3
     by_cases c4 : x3_1 < (a0.size : Int)
     ·rw [if_pos c4] at H
      have c4b0 : decide (x3_1 < (a0.size : Int)) = true := decide_eq_true c4
      clear c4
      by_cases c6 : (bt a0 x3_1) = 10
      ·rw [if_pos c6] at H
       have c6b0 : ((bt a0 x3_1) == 10) = true := beq_iff_eq.mpr c6
       have c6b1 : ((bt a0 x3_1) != 10) = false := bne_eq_false_iff_eq.mpr c6
       clear c6
       obtain rfl := Option.some.inj H
       have p5 : 0 ≤ (x3_1 : Int) := oa
       have q5 : x3_1 < (a0.size : Int) := oa
       have hx5 := bt_at a0 x3_1
       replace p5 := eq_true p5
       replace q5 := eq_true q5
       go_wp2
       go_ret
       exact ⟨by first | rfl | (simp; done) | (simp [*]; done), by repeat (first | exact Drawn0.refl _ | apply Drawn0.step)⟩
      ·rw [if_neg c6] at H
       have c6b0 : ((bt a0 x3_1) == 10) = false := beq_eq_false_iff_ne.mpr c6
       have c6b1 : ((bt a0 x3_1) != 10) = true := bne_iff_ne.mpr c6
       have H' := am H
       clear H
       have p5 : 0 ≤ (x3_1 : Int) := oa
       have q5 : x3_1 < (a0.size : Int) := oa
       have hx5 := bt_at a0 x3_1
       replace p5 := eq_true p5
       replace q5 := eq_true q5
       go_wp2
       go_roundg k1
       case measure => have := HK1.out; omega
       case rel => exact ⟨(wrap64 (x3_1 + 1)), zf, H', ⟨by have := HK1.out; omega⟩, by repeat (first | exact Drawn0.refl _ | apply Drawn0.step)⟩
     ·rw [if_neg c4] at H
      exact absurd H (by simp)
    ·rw [if_neg c3] at H
     exact absurd H (by simp)
   ·rw [if_neg c2] at H
    have c2b0 : decide (x3_1 < (wrap64 ((a0.size : Int) - 1))) = false := decide_eq_false c2
    clear c2
    replace H := Option.bind_eq_some_iff.mp H
    obtain ⟨t183, A70, H⟩ := H
    replace H : (some t183) = some r := H
    have A7 := am A70
    clear A70
    obtain rfl := Option.some.inj H
    go_wp2_with (first | ((with_reducible refine gateC (f := 67) rfl ?_); refine goesL_ (some 17) rfl rfl Try.func67 (by kernel_rfl) rfl #[.int .i64 (a0.size : Int), .int .i64 1, .int .i64 30] rfl zm ?_; (with_reducible refine (spec_l1In.calls (a0.size : Int) 1 30 t183 _ A7.out).mono ?_); rintro e w' ⟨rfl, ⟨nd, rfl⟩⟩; refine ⟨_, rfl, ?_⟩))
    go_ret
    exact ⟨by first | rfl | (simp; done) | (simp [*]; done), by repeat (first | exact Drawn0.refl _ | apply Drawn0.step)⟩
end Go.Proofs.Ytmcldkobejhaeaa.My
/- Written by this session's program (wip/gen): a plain function with the same answers as the Go function, and the proof that the Go code comes to them. Asked: that the plain function has an answer. -/
namespace Go.Proofs.Ytmcldkobejhaeaa.My
open Go.RowKit Go.Proofs.YtmcldkobejhaeaaW.PrintWords Go.Proofs.YtmcldkobejhaeaaW.PrintLast Go.Proofs.YtmcldkobejhaeaaW.PrintMore
attribute [local go_sem] max2_int min2_int max_two min_two max_three min_three max_four min_four
set_option linter.unusedVariables false
set_option linter.unusedSimpArgs false
def spec_l1Good.l0 : Nat → List ByteArray → List ByteArray → Int → Int → Option (Bool)
 | 0, _, _, _, _ => none
 | k + 1, x0, x5, x6, x7 => if x7 < x6 then (if 0 ≤ x7 then (if x7 < (x5.length : Int) then ((spec_l1Line.f k (rdOf ByteArray.empty x5 x7)).bind fun t185 => (if t185 = true then (if x7 < (wrap64 ((x0.length : Int) - 1)) then ((spec_l1Ends.f (rdOf ByteArray.empty x5 x7)).bind fun t186 => (if t186 = true then (spec_l1Good.l0 k x0 x5 x6 (wrap64 (x7 + 1))) else (some false))) else (spec_l1Good.l0 k x0 x5 x6 (wrap64 (x7 + 1)))) else (some false))) else (none)) else (none)) else (some (decide ((x0.length : Int) ≤ 40)))
def spec_l1Good.f (k : Nat) (l0 : List ByteArray) : Option (Bool) := spec_l1Good.l0 k l0 l0 (l0.length : Int) 0
set_option maxHeartbeats 8000000 in
set_option maxRecDepth 100000 in
theorem spec_l1Good.calls (k : Nat) (A0 : Option Addr) (c0 : Nat) (l0 : List ByteArray) (r : Bool) (w : World) (hr0 : Kd.C Kd.string w A0 l0.length l0) (hc0 : l0.length ≤ c0) (h : spec_l1Good.f k l0 = some r) :
  Calls Try.prog 66 #[.slice A0 l0.length c0] w fun e w' => e = .returned (.bool r) ∧ Drawn0 w w' := by
 have HR0 := am hr0
 have HC0 := am hc0
 clear hr0 hc0
 have H : (spec_l1Good.l0 k l0 l0 (l0.length : Int) 0) = some r := h
 clear h
 have H' := am H
 clear H
 go_enter Try.func66, Try.ntmps66
 go_wp2
 go_loopg [7] k (fun kq v7 w' => ∃ (x7_1 : Int), v7 = .int .i64 x7_1 ∧ Aside0 (spec_l1Good.l0 kq l0 l0 (l0.length : Int) x7_1 = some r) ∧ Aside0 (kq ≤ k) ∧ Drawn0 w w')
 case atStart => exact ⟨(0), zf, H', ⟨Nat.le_refl _⟩, by repeat (first | exact Drawn0.refl _ | apply Drawn0.step)⟩
 case round =>
  clear H'
  obtain ⟨x7_1, rfl, HA, HK1, ⟨m1, rfl⟩⟩ := hrel
  cases gk with
  | zero => exact absurd HA.out (by simp [spec_l1Good.l0])
  | succ k1 =>
   have H := HA.out
   clear HA
   simp only [spec_l1Good.l0] at H
   by_cases c2 : x7_1 < (l0.length : Int)
   ·rw [if_pos c2] at H
    have c2b0 : decide (x7_1 < (l0.length : Int)) = true := decide_eq_true c2
    clear c2
    by_cases c3 : 0 ≤ x7_1
    ·rw [if_pos c3] at H
     have c3b0 : decide (0 ≤ x7_1) = true := decide_eq_true c3
     clear c3
     by_cases c4 : x7_1 < (l0.length : Int)
     ·rw [if_pos c4] at H
      have c4b0 : decide (x7_1 < (l0.length : Int)) = true := decide_eq_true c4
      clear c4
      replace H := Option.bind_eq_some_iff.mp H
      obtain ⟨t185, A50, H⟩ := H
      replace H : (if t185 = true then (if x7_1 < (wrap64 ((l0.length : Int) - 1)) then ((spec_l1Ends.f (rdOf ByteArray.empty l0 x7_1)).bind fun t186 => (if t186 = true then (spec_l1Good.l0 k1 l0 l0 (l0.length : Int) (wrap64 (x7_1 + 1))) else (some false))) else (spec_l1Good.l0 k1 l0 l0 (l0.length : Int) (wrap64 (x7_1 + 1)))) else (some false)) = some r := H
      have A5 := am A50
      clear A50
      by_cases c6 : t185 = true
      ·subst c6
       have H1 : (if x7_1 < (wrap64 ((l0.length : Int) - 1)) then ((spec_l1Ends.f (rdOf ByteArray.empty l0 x7_1)).bind fun t186 => (if t186 = true then (spec_l1Good.l0 k1 l0 l0 (l0.length : Int) (wrap64 (x7_1 + 1))) else (some false))) else (spec_l1Good.l0 k1 l0 l0 (l0.length : Int) (wrap64 (x7_1 + 1)))) = some r := by rw [if_pos rfl] at H; exact H
       clear H
       have H := H1
       clear H1
       by_cases c7 : x7_1 < (wrap64 ((l0.length : Int) - 1))
       ·rw [if_pos c7] at H
        have c7b0 : decide (x7_1 < (wrap64 ((l0.length : Int) - 1))) = true := decide_eq_true c7
        clear c7
        replace H := Option.bind_eq_some_iff.mp H
        obtain ⟨t186, A80, H⟩ := H
        replace H : (if t186 = true then (spec_l1Good.l0 k1 l0 l0 (l0.length : Int) (wrap64 (x7_1 + 1))) else (some false)) = some r := H
        have A8 := am A80
        clear A80
        by_cases c9 : t186 = true
        ·subst c9
         have H1 : (spec_l1Good.l0 k1 l0 l0 (l0.length : Int) (wrap64 (x7_1 + 1))) = some r := by rw [if_pos rfl] at H; exact H
         clear H
         have H := H1
         clear H1
         have H' := am H
         clear H
         have p184 : 0 ≤ (x7_1 : Int) := oa
         have q184 : x7_1 < (l0.length : Int) := oa
         obtain ⟨ad184, e184, hx184_0⟩ := Kd.at_string HR0.out x7_1 p184 q184
         cases e184
         replace p184 := eq_true p184
         replace q184 := eq_true q184
         go_wp2_with (first | ((with_reducible refine gateC (f := 73) rfl ?_); refine goesL_ (some 13) rfl rfl Try.func73 (by kernel_rfl) rfl #[.string (rdOf ByteArray.empty l0 x7_1)] rfl zm ?_; (with_reducible refine (spec_l1Line.calls k1 (rdOf ByteArray.empty l0 x7_1) true _ A5.out).mono ?_); rintro e w' ⟨rfl, ⟨nd, rfl⟩⟩; refine ⟨_, rfl, ?_⟩) | (go_at_call 127; (with_reducible refine (spec_l1Ends.calls (rdOf ByteArray.empty l0 x7_1) true _ A8.out).mono ?_); rintro e w' ⟨rfl, ⟨nd, rfl⟩⟩))
         go_roundg k1
         case measure => have := HK1.out; omega
         case rel => exact ⟨(wrap64 (x7_1 + 1)), zf, H', ⟨by have := HK1.out; omega⟩, by repeat (first | exact Drawn0.refl _ | apply Drawn0.step)⟩
        ·replace c9 := Bool.eq_false_iff.mpr c9
         subst c9
         have H1 : (some false) = some r := by rw [if_neg (show ¬ (false = true) by decide)] at H; exact H
         clear H
         have H := H1
         clear H1
         obtain rfl := Option.some.inj H
         have p184 : 0 ≤ (x7_1 : Int) := oa
         have q184 : x7_1 < (l0.length : Int) := oa
         obtain ⟨ad184, e184, hx184_0⟩ := Kd.at_string HR0.out x7_1 p184 q184
         cases e184
         replace p184 := eq_true p184
         replace q184 := eq_true q184
         go_wp2_with (first | ((with_reducible refine gateC (f := 73) rfl ?_); refine goesL_ (some 13) rfl rfl Try.func73 (by kernel_rfl) rfl #[.string (rdOf ByteArray.empty l0 x7_1)] rfl zm ?_; (with_reducible refine (spec_l1Line.calls k1 (rdOf ByteArray.empty l0 x7_1) true _ A5.out).mono ?_); rintro e w' ⟨rfl, ⟨nd, rfl⟩⟩; refine ⟨_, rfl, ?_⟩) | (go_at_call 127; (with_reducible refine (spec_l1Ends.calls (rdOf ByteArray.empty l0 x7_1) false _ A8.out).mono ?_); rintro e w' ⟨rfl, ⟨nd, rfl⟩⟩))
         go_ret
         exact ⟨by first | rfl | (simp; done) | (simp [*]; done), by repeat (first | exact Drawn0.refl _ | apply Drawn0.step)⟩
       ·rw [if_neg c7] at H
        have c7b0 : decide (x7_1 < (wrap64 ((l0.length : Int) - 1))) = false := decide_eq_false c7
        clear c7
        have H' := am H
        clear H
        have p184 : 0 ≤ (x7_1 : Int) := oa
        have q184 : x7_1 < (l0.length : Int) := oa
        obtain ⟨ad184, e184, hx184_0⟩ := Kd.at_string HR0.out x7_1 p184 q184
        cases e184
        replace p184 := eq_true p184
        replace q184 := eq_true q184
        go_wp2_with (first | ((with_reducible refine gateC (f := 73) rfl ?_); refine goesL_ (some 13) rfl rfl Try.func73 (by kernel_rfl) rfl #[.string (rdOf ByteArray.empty l0 x7_1)] rfl zm ?_; (with_reducible refine (spec_l1Line.calls k1 (rdOf ByteArray.empty l0 x7_1) true _ A5.out).mono ?_); rintro e w' ⟨rfl, ⟨nd, rfl⟩⟩; refine ⟨_, rfl, ?_⟩))
        go_roundg k1
        case measure => have := HK1.out; omega
        case rel => exact ⟨(wrap64 (x7_1 + 1)), zf, H', ⟨by have := HK1.out; omega⟩, by repeat (first | exact Drawn0.refl _ | apply Drawn0.step)⟩
      ·replace c6 := Bool.eq_false_iff.mpr c6
       subst c6
       have H1 : (some false) = some r := by rw [if_neg (show ¬ (false = true) by decide)] at H; exact H
       clear H
       have H := H1
       clear H1
       obtain rfl := Option.some.inj H
       have p184 : 0 ≤ (x7_1 : Int) := oa
       have q184 : x7_1 < (l0.length : Int) := oa
       obtain ⟨ad184, e184, hx184_0⟩ := Kd.at_string HR0.out x7_1 p184 q184
       cases e184
       replace p184 := eq_true p184
       replace q184 := eq_true q184
       go_wp2_with (first | ((with_reducible refine gateC (f := 73) rfl ?_); refine goesL_ (some 13) rfl rfl Try.func73 (by kernel_rfl) rfl #[.string (rdOf ByteArray.empty l0 x7_1)] rfl zm ?_; (with_reducible refine (spec_l1Line.calls k1 (rdOf ByteArray.empty l0 x7_1) false _ A5.out).mono ?_); rintro e w' ⟨rfl, ⟨nd, rfl⟩⟩; refine ⟨_, rfl, ?_⟩))
       go_ret
       exact ⟨by first | rfl | (simp; done) | (simp [*]; done), by repeat (first | exact Drawn0.refl _ | apply Drawn0.step)⟩
     ·rw [if_neg c4] at H
      exact absurd H (by simp)
    ·rw [if_neg c3] at H
     exact absurd H (by simp)
   ·rw [if_neg c2] at H
    have c2b0 : decide (x7_1 < (l0.length : Int)) = false := decide_eq_false c2
    clear c2
    obtain rfl := Option.some.inj H
    go_wp2
    go_ret
    exact ⟨by first | rfl | (simp; done) | (simp [*]; done), by repeat (first | exact Drawn0.refl _ | apply Drawn0.step)⟩
end Go.Proofs.Ytmcldkobejhaeaa.My