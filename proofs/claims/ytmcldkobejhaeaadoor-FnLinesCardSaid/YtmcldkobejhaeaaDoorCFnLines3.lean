/- Part 3 of 5 of a proof of this sentence: The Go function loop.example/g00825/laws.FnLines returns true for every input, and each argument reads afterwards as it read before. No condition. -/
import Derived.Test.YtmcldkobejhaeaaDoorCFnLines2
/- Written by this session's program (wip/gen): a plain function with the same answers as the Go function, and the proof that the Go code comes to them. Asked: that the plain function has an answer. -/
namespace Go.Proofs.YtmcldkobejhaeaaDoor.My
open Go.RowKit Go.Proofs.YtmcldkobejhaeaaDoorW.PrintWords Go.Proofs.YtmcldkobejhaeaaDoorW.PrintLast Go.Proofs.YtmcldkobejhaeaaDoorW.PrintMore
attribute [local go_sem] max2_int min2_int max_two min_two max_three min_three max_four min_four
set_option linter.unusedVariables false
set_option linter.unusedSimpArgs false
def spec_l1Cur_text.l0 : Nat → List ByteArray → Int → List Int → Int → Int → Option (List ByteArray × Int × Int)
 | 0, _, _, _, _, _ => none
 | k + 1, x3, x4, x1000, x1001, x1002 => if x4 > 0 then ((spec_l1Cur_line.f x1000 x1001 x1002).bind fun bt226 => (if bt226.1.size + 1 ≤ 9223372036854775807 then (if x3.length < 8796093022208 then (spec_l1Cur_text.l0 k (x3 ++ [bt226.1 ++ (⟨#[10]⟩ : ByteArray)]) (wrap64 (x4 - 1)) x1000 bt226.2.1 bt226.2.2) else (none)) else (none))) else ((spec_l1Cur_one.f x1000 x1001 x1002 5).bind fun bt232 => (if bt232.1 = true then ((spec_l1Cur_of.f x1000 bt232.2.1 bt232.2.2 (([(⟨#[97]⟩ : ByteArray), (⟨#[101, 110, 100]⟩ : ByteArray), (⟨#[46]⟩ : ByteArray)] : List ByteArray))).bind fun bt238 => (if x3.length < 8796093022208 then (some ((x3 ++ [bt238.1]), bt238.2.1, bt238.2.2)) else (none))) else (some (x3, bt232.2.1, bt232.2.2))))
def spec_l1Cur_text.f (k : Nat) (s0_0 : List Int) (s0_1 : Int) (s0_2 : Int) : Option (List ByteArray × Int × Int) := (spec_l1Cur_pick.f s0_0 s0_1 s0_2 9).bind fun bt223 => (spec_l1Cur_text.l0 k ([] : List ByteArray) bt223.1 s0_0 bt223.2.1 bt223.2.2)
set_option maxHeartbeats 8000000 in
set_option maxRecDepth 100000 in
theorem spec_l1Cur_text.calls (k : Nat) (g : Nat) (s0_0 : List Int) (s0_1 : Int) (s0_2 : Int) (r1 : List ByteArray) (r2 : Int) (r3 : Int) (w0 w : World) (hI : IsS50 w0 w g s0_0 s0_1 s0_2) (hB : Below w0.heap.size w0 w) (h : spec_l1Cur_text.f k s0_0 s0_1 s0_2 = some (r1, r2, r3)) :
  Calls Tryd.prog 37 #[.pointer (some ⟨g, 0, none⟩)] w fun e w' => ∃ v0_ : Value, e = .returned (v0_) ∧ Kd.R Kd.string 9 w' w.heap.size (fun _ => True) v0_ r1 ∧ IsS50 w0 w' g s0_0 r2 r3 ∧ Below w0.heap.size w0 w' ∧ KeepBut w w' g none := by
 have HI0 := am hI
 have HK := am (KeepBut.refl w g none)
 have HL := am hB.size
 clear hI
 have HW0 := am hB.size
 have HB := am hB
 clear hB
 have H : ((spec_l1Cur_pick.f s0_0 s0_1 s0_2 9).bind fun bt223 => (spec_l1Cur_text.l0 k ([] : List ByteArray) bt223.1 s0_0 bt223.2.1 bt223.2.2)) = some (r1, r2, r3) := h
 clear h
 replace H := Option.bind_eq_some_iff.mp H
 obtain ⟨⟨t223, t224, t225⟩, A20, H⟩ := H
 replace H : (spec_l1Cur_text.l0 k ([] : List ByteArray) t223 s0_0 t224 t225) = some (r1, r2, r3) := H
 have A2 := am A20
 clear A20
 have H' := am H
 clear H
 go_enter Tryd.func37, Tryd.ntmps37
 go_wp2_with (first | ((with_reducible refine gateC (f := 38) rfl ?_); refine goesL_ (some 6) rfl rfl Tryd.func38 (by kernel_rfl) rfl #[.pointer (some ⟨g, 0, none⟩), .int .i64 9] rfl zm ?_; (with_reducible refine (spec_l1Cur_pick.calls g s0_0 s0_1 s0_2 9 t223 t224 t225 w0 _ ?side1 ?side2 A2.out).mono ?_); (case side1 => exact zi); (case side2 => exact zj); rintro e w3 ⟨rfl, hi, hb, hk⟩; refine ⟨_, rfl, ?_⟩; have n0_ := am (KeepBut.trans zh hk (.inl rfl)); have n1_ := am (hb); have n2_ := am (hi); clear HK; clear HB; clear HI0; have HK := n0_; have HB := n1_; have HI0 := n2_; clear n0_ n1_ n2_; (try clear hb); (try clear hk); (try clear hi)))
 go_loopg [3, 4] k (fun kq v3 v4 w' => ∃ (x3_1 : List ByteArray) (x4_1 : Int) (x1001_1 : Int) (x1002_1 : Int), v4 = .int .i64 x4_1 ∧ Aside0 (spec_l1Cur_text.l0 kq x3_1 x4_1 s0_0 x1001_1 x1002_1 = some (r1, r2, r3)) ∧ Aside0 (kq ≤ k) ∧ Aside0 (Kd.R Kd.string 9 w' w.heap.size (fun _ => True) v3 x3_1) ∧ Aside0 (IsS50 w0 w' g s0_0 x1001_1 x1002_1) ∧ Aside0 (KeepBut w w' g none) ∧ Aside0 (Below w0.heap.size w0 w'))
 case atStart => exact ⟨(([] : List ByteArray)), (t223), (t224), (t225), zf, H', ⟨Nat.le_refl _⟩, ⟨by first | exact Kd.R_nil _ _ _ _ _ | exact Kd.Q_nil _ _ _ _ _ | exact Kd.S_nil _ _ _ _ _⟩, ⟨by repeat (first | (with_reducible first | exact HI0.out | apply IsS50.alloc | apply IsS50.drewN | apply IsS50.drew | apply IsS50.set_1 | apply IsS50.set_2) | exact HI0.out)⟩, ⟨by repeat (first | (with_reducible first | exact HK.out | apply KeepBut.set_ | apply keep_drewN | apply keep_drew | apply keep_alloc) | exact HK.out)⟩, ⟨by repeat (first | (with_reducible first | exact HB.out | apply below_alloc | apply pw_below_drewN | apply below_drew1 | refine below_set ?_ (IsS50.ge HI0.out)) | exact HB.out)⟩⟩
 case round =>
  clear H'
  try clear p2
  try clear c3
  obtain ⟨x3_1, x4_1, x1001_1, x1002_1, rfl, HA, HK1, HO_3, HI0, HK, HB⟩ := hrel
  cases gk with
  | zero => exact absurd HA.out (by simp [spec_l1Cur_text.l0])
  | succ k1 =>
   have H := HA.out
   clear HA
   simp only [spec_l1Cur_text.l0] at H
   by_cases c4 : x4_1 > 0
   ·rw [if_pos c4] at H
    have c4b0 : decide (0 < x4_1) = true := decide_eq_true c4
    clear c4
    replace H := Option.bind_eq_some_iff.mp H
    obtain ⟨⟨t226, t227, t228⟩, A50, H⟩ := H
    replace H : (if t226.size + 1 ≤ 9223372036854775807 then (if x3_1.length < 8796093022208 then (spec_l1Cur_text.l0 k1 (x3_1 ++ [t226 ++ (⟨#[10]⟩ : ByteArray)]) (wrap64 (x4_1 - 1)) s0_0 t227 t228) else (none)) else (none)) = some (r1, r2, r3) := H
    have A5 := am A50
    clear A50
    by_cases c6 : t226.size + 1 ≤ 9223372036854775807
    ·rw [if_pos c6] at H
     have c6b0 := eq_true c6
     have c6b1 : decide (t226.size + 1 ≤ 9223372036854775807) = true := decide_eq_true c6
     try have c6b2 : (9223372036854775807 < t226.size + 1) = False := eq_false (Nat.not_lt.2 c6)
     by_cases c7 : x3_1.length < 8796093022208
     ·rw [if_pos c7] at H
      have LMc7 := am c7
      clear c7
      obtain ⟨y229, hy229⟩ : ∃ y_ : List ByteArray, y_ = (x3_1 ++ [t226 ++ (⟨#[10]⟩ : ByteArray)]) := ⟨_, rfl⟩
      replace H : (spec_l1Cur_text.l0 k1 y229 (wrap64 (x4_1 - 1)) s0_0 t227 t228) = some (r1, r2, r3) := by first | (rw [hy229]; with_reducible exact H) | (have H2_ := (Option.bind_some _ _).symm.trans H; rw [hy229]; with_reducible exact H2_) | (have H2_ := (Option.bind_some _ _).symm.trans H; with_reducible exact H2_) | with_reducible exact H | (rw [hy229]; exact H) | exact H
      have Ny229 := am hy229
      clear hy229
      have H' := am H
      clear H
      go_wp2_with (first | ((with_reducible refine gateC (f := 54) rfl ?_); refine goesL_ (some 13) rfl rfl Tryd.func54 (by kernel_rfl) rfl #[.pointer (some ⟨g, 0, none⟩)] rfl zm ?_; (with_reducible refine (spec_l1Cur_line.calls g s0_0 x1001_1 x1002_1 t226 t227 t228 w0 _ ?side1 ?side2 A5.out).mono ?_); (case side1 => exact zi); (case side2 => exact zj); rintro e w8 ⟨rfl, hi, hb, hk⟩; refine ⟨_, rfl, ?_⟩; have n0_ := am (Kd.R_mono (Kd.R_keep (IsS50.apart (show IsS50 w0 _ g s0_0 x1001_1 x1002_1 from zi) (zr HO_3.out) (by decide)) hk (fun _ h => h.2)) (fun _ h => h.1)); have n1_ := am (KeepBut.trans zh hk (.inl rfl)); have n2_ := am (hb); have n3_ := am (hi); clear HO_3; clear HK; clear HB; clear HI0; have HO_3 := n0_; have HK := n1_; have HB := n2_; have HI0 := n3_; clear n0_ n1_ n2_ n3_; (try clear hb); (try clear hk); (try clear hi)) | ((with_reducible refine gateB (b := .append) (xs := #[.tmp 11, .tmp 15]) rfl ?_); at_builtin; refine Kd.R_append Kd.string w.heap.size rfl (.tmp 11) (.tmp 15) 22 9 (.string ⟨#[]⟩) 16 rfl Tryd.underlying22 info9 rfl (by decide) (by omega) u3 x3_1 (t226 ++ (⟨#[10]⟩ : ByteArray)) [.string (t226 ++ (⟨#[10]⟩ : ByteArray))] (fun _ => True) (fun _ => False) rfl rfl ?aP (fun _ hk => hk.elim) ?aF ?aO (Below.refl _ _) ?aS ?aL ?_; (case aP => exact rfl); (case aF => exact (fun _ _ => trivial)); (case aO => exact (zr HO_3.out)); (case aS => exact (keep_size (w := w) (g := g) (row := none) zh)); (case aL => have := LMc7.out; omega); intro v230 w9 ho hb hg hat; rw [← Ny229.out] at ho; have n0_ := am (IsS50.grown zi hg (IsS50.own_ne HI0.out HO_3.out (by decide))); have n1_ := am (below_weaken zj HL.out hb); have n2_ := am (KeepBut.trans zh (KeepBut.of_grown hg g) (Kd.R_base2 HO_3.out)); have n3_ := am (ho); clear HI0; clear HB; clear HK; clear HO_3; have HI0 := n0_; have HB := n1_; have HK := n2_; have HO231 := n3_; clear n0_ n1_ n2_ n3_; clear ho hb hg hat))
      go_roundg k1
      case measure => have := HK1.out; omega
      case rel => exact ⟨(y229), (wrap64 (x4_1 - 1)), (t227), (t228), zf, H', ⟨by have := HK1.out; omega⟩, ⟨by (with_reducible repeat (first | apply Kd.R_alloc | apply Kd.R_drewN | apply Kd.R_drew)); exact HO231.out⟩, ⟨by repeat (first | (with_reducible first | exact HI0.out | apply IsS50.alloc | apply IsS50.drewN | apply IsS50.drew | apply IsS50.set_1 | apply IsS50.set_2) | exact HI0.out)⟩, ⟨by repeat (first | (with_reducible first | exact HK.out | apply KeepBut.set_ | apply keep_drewN | apply keep_drew | apply keep_alloc) | exact HK.out)⟩, ⟨by repeat (first | (with_reducible first | exact HB.out | apply below_alloc | apply pw_below_drewN | apply below_drew1 | refine below_set ?_ (IsS50.ge HI0.out)) | exact HB.out)⟩⟩
     ·rw [if_neg c7] at H
      exact absurd H (by simp)
    ·rw [if_neg c6] at H
     exact absurd H (by simp)
   ·rw [if_neg c4] at H
    have c4b0 : decide (0 < x4_1) = false := decide_eq_false c4
    clear c4
    replace H := Option.bind_eq_some_iff.mp H
    obtain ⟨⟨t232, t233, t234⟩, A100, H⟩ := H
    replace H : (if t232 = true then ((spec_l1Cur_of.f s0_0 t233 t234 (([(⟨#[97]⟩ : ByteArray), (⟨#[101, 110, 100]⟩ : ByteArray), (⟨#[46]⟩ : ByteArray)] : List ByteArray))).bind fun bt238 => (if x3_1.length < 8796093022208 then (some ((x3_1 ++ [bt238.1]), bt238.2.1, bt238.2.2)) else (none))) else (some (x3_1, t233, t234))) = some (r1, r2, r3) := H
    have A10 := am A100
    clear A100
    by_cases c11 : t232 = true
    ·subst c11
     have H1 : ((spec_l1Cur_of.f s0_0 t233 t234 (([(⟨#[97]⟩ : ByteArray), (⟨#[101, 110, 100]⟩ : ByteArray), (⟨#[46]⟩ : ByteArray)] : List ByteArray))).bind fun bt238 => (if x3_1.length < 8796093022208 then (some ((x3_1 ++ [bt238.1]), bt238.2.1, bt238.2.2)) else (none))) = some (r1, r2, r3) := by rw [if_pos rfl] at H; exact H
     clear H
     have H := H1
     clear H1
     obtain ⟨y235, hy235⟩ : ∃ y_ : List ByteArray, y_ = (([(⟨#[97]⟩ : ByteArray), (⟨#[101, 110, 100]⟩ : ByteArray), (⟨#[46]⟩ : ByteArray)] : List ByteArray)) := ⟨_, rfl⟩
     replace H : ((spec_l1Cur_of.f s0_0 t233 t234 y235).bind fun bt238 => (if x3_1.length < 8796093022208 then (some ((x3_1 ++ [bt238.1]), bt238.2.1, bt238.2.2)) else (none))) = some (r1, r2, r3) := by first | (rw [hy235]; with_reducible exact H) | (have H2_ := (Option.bind_some _ _).symm.trans H; rw [hy235]; with_reducible exact H2_) | (have H2_ := (Option.bind_some _ _).symm.trans H; with_reducible exact H2_) | with_reducible exact H | (rw [hy235]; exact H) | exact H
     have Ny235 := am hy235
     clear hy235
     replace H := Option.bind_eq_some_iff.mp H
     obtain ⟨⟨t238, t239, t240⟩, A120, H⟩ := H
     replace H : (if x3_1.length < 8796093022208 then (some ((x3_1 ++ [t238]), t239, t240)) else (none)) = some (r1, r2, r3) := H
     have A12 := am A120
     clear A120
     by_cases c13 : x3_1.length < 8796093022208
     ·rw [if_pos c13] at H
      have LMc13 := am c13
      clear c13
      obtain ⟨y241, hy241⟩ : ∃ y_ : List ByteArray, y_ = (x3_1 ++ [t238]) := ⟨_, rfl⟩
      replace H : (some (y241, t239, t240)) = some (r1, r2, r3) := by first | (rw [hy241]; with_reducible exact H) | (have H2_ := (Option.bind_some _ _).symm.trans H; rw [hy241]; with_reducible exact H2_) | (have H2_ := (Option.bind_some _ _).symm.trans H; with_reducible exact H2_) | with_reducible exact H | (rw [hy241]; exact H) | exact H
      have Ny241 := am hy241
      clear hy241
      simp only [Option.some.injEq, Prod.mk.injEq] at H
      obtain ⟨rfl, rfl, rfl⟩ := H
      go_wp2_with (first | ((with_reducible refine gateC (f := 42) rfl ?_); refine goesL_ (some 18) rfl rfl Tryd.func42 (by kernel_rfl) rfl #[.pointer (some ⟨g, 0, none⟩), .int .i64 5] rfl zm ?_; (with_reducible refine (spec_l1Cur_one.calls g s0_0 x1001_1 x1002_1 5 true t233 t234 w0 _ ?side1 ?side2 A10.out).mono ?_); (case side1 => exact zi); (case side2 => exact zj); rintro e w14 ⟨rfl, hi, hb, hk⟩; refine ⟨_, rfl, ?_⟩; have n0_ := am (Kd.R_mono (Kd.R_keep (IsS50.apart (show IsS50 w0 _ g s0_0 x1001_1 x1002_1 from zi) (zr HO_3.out) (by decide)) hk (fun _ h => h.2)) (fun _ h => h.1)); have n1_ := am (KeepBut.trans zh hk (.inl rfl)); have n2_ := am (hb); have n3_ := am (hi); clear HO_3; clear HK; clear HB; clear HI0; have HO_3 := n0_; have HK := n1_; have HB := n2_; have HI0 := n3_; clear n0_ n1_ n2_ n3_; (try clear hb); (try clear hk); (try clear hi)) | ((with_reducible refine gate_dst (N := 21) rfl ?_); refine Kd.R_lit Kd.string _ 9 ?hg (N := 21) ?hd (xs := ([(⟨#[97]⟩ : ByteArray), (⟨#[101, 110, 100]⟩ : ByteArray), (⟨#[46]⟩ : ByteArray)] : List ByteArray)) (inner := [.string (⟨#[97]⟩ : ByteArray), .string (⟨#[101, 110, 100]⟩ : ByteArray), .string (⟨#[46]⟩ : ByteArray)]) (ok := fun _ => True) (okp := fun _ => True) ?hr ?hp (fun _ hk => hk) trivial (Below.refl _ _) (Nat.le_refl _) (by simp) ?_; (case hd => rfl); (case hg => rfl); (case hr => first | (go_simp; done) | (go_simp; rfl)); (case hp => exact (Reps.one (show Kd.M Kd.string _ _ _ (⟨#[97]⟩ : ByteArray) [.string (⟨#[97]⟩ : ByteArray)] from rfl) (Reps.one (show Kd.M Kd.string _ _ _ (⟨#[101, 110, 100]⟩ : ByteArray) [.string (⟨#[101, 110, 100]⟩ : ByteArray)] from rfl) (Reps.one (show Kd.M Kd.string _ _ _ (⟨#[46]⟩ : ByteArray) [.string (⟨#[46]⟩ : ByteArray)] from rfl) (Reps.none _ _))))); intro v236 w15 ho16 hb hg_ hnew_; clear hg_ hnew_; (first | rw [← Ny235.out] at ho16 | (simp only [Int.reduceToNat] at ho16; rw [← Ny235.out] at ho16)); have n0_ := am (Kd.R_elder' (zr HO_3.out) (Kd.R_base ho16) hb); have n1_ := am (Kd.R_lower (Kd.R_new' ho16 (Kd.R_lt (zr HO_3.out))) (keep_size (w := w) (g := g) (row := none) zh)); have n2_ := am (IsS50.below zi hb); have n3_ := am (KeepBut.trans zh (KeepBut.of_below hb g none) (.inl rfl)); have n4_ := am (below_step zj hb); clear HO_3; clear HI0; clear HK; clear HB; have HO_3 := n0_; have HO237 := n1_; have HI0 := n2_; have HK := n3_; have HB := n4_; clear n0_ n1_ n2_ n3_ n4_; clear hb ho16; obtain ⟨Ao17, co17, eo17⟩ := Kd.R_slice HO237.out; subst eo17) | ((with_reducible refine gateC (f := 55) rfl ?_); refine goesL_ (some 22) rfl rfl Tryd.func55 (by kernel_rfl) rfl #[.pointer (some ⟨g, 0, none⟩), .slice Ao17 y235.length co17] rfl zm ?_; (with_reducible refine (spec_l1Cur_of.calls g s0_0 t233 t234 _ _ y235 t238 t239 t240 w0 _ ?side1 ?side2 ?side3 ?side4 ?side5 A12.out).mono ?_); (case side1 => exact zi); (case side2 => exact zj); (case side3 => repeat (first | exact (Kd.R_reads' HO237.out).2.2 | (with_reducible refine Kd.C_alloc ?_ _) | (with_reducible refine Kd.C_drewN ?_ _) | (with_reducible refine Kd.C_drew ?_))); (case side4 => exact (Kd.R_reads' HO237.out).2.1); (case side5 => exact far_slice (IsS50.own_ne HI0.out HO237.out (by decide))); rintro e w18 ⟨rfl, hi, hb, hk⟩; refine ⟨_, rfl, ?_⟩; have n0_ := am (Kd.R_mono (Kd.R_keep (IsS50.apart (show IsS50 w0 _ g s0_0 t233 t234 from zi) (zr HO_3.out) (by decide)) hk (fun _ h => h.2)) (fun _ h => h.1)); have n1_ := am (Kd.R_mono (Kd.R_keep (IsS50.apart (show IsS50 w0 _ g s0_0 t233 t234 from zi) (zr HO237.out) (by decide)) hk (fun _ h => h.2)) (fun _ h => h.1)); have n2_ := am (KeepBut.trans zh hk (.inl rfl)); have n3_ := am (hb); have n4_ := am (hi); clear HO_3; clear HO237; clear HK; clear HB; clear HI0; have HO_3 := n0_; have HO237 := n1_; have HK := n2_; have HB := n3_; have HI0 := n4_; clear n0_ n1_ n2_ n3_ n4_; (try clear hb); (try clear hk); (try clear hi)) | ((with_reducible refine gateB (b := .append) (xs := #[.tmp 19, .tmp 23]) rfl ?_); at_builtin; refine Kd.R_append Kd.string w.heap.size rfl (.tmp 19) (.tmp 23) 22 9 (.string ⟨#[]⟩) 16 rfl Tryd.underlying22 info9 rfl (by decide) (by omega) u3 x3_1 t238 [.string t238] (fun k_ => some k_ ≠ (.slice Ao17 y235.length co17 : Value).ownBlock) (fun _ => False) rfl rfl ?aP (fun _ hk => hk.elim) ?aF ?aO (Below.refl _ _) ?aS ?aL ?_; (case aP => exact rfl); (case aF => exact (fun k_ hk => Kd.fresh' (Kd.R_lt (zr HO237.out)) k_ hk)); (case aO => exact (by (with_reducible repeat (first | apply Kd.R_alloc | apply Kd.R_drewN | apply Kd.R_drew)); exact Kd.R_mono HO_3.out (fun _ hk => hk.2))); (case aS => exact (keep_size (w := w) (g := g) (row := none) zh)); (case aL => have := LMc13.out; omega); intro v242 w19 ho hb hg hat; rw [← Ny241.out] at ho; have n0_ := am (IsS50.grown zi hg (IsS50.own_ne HI0.out HO_3.out (by decide))); have n1_ := am (Kd.R_after (ok := (fun _ => True)) (zr HO237.out) hg hat); have n2_ := am (below_weaken zj HL.out hb); have n3_ := am (KeepBut.trans zh (KeepBut.of_grown hg g) (Kd.R_base2 HO_3.out)); have n4_ := am (ho); clear HI0; clear HO237; clear HB; clear HK; clear HO_3; have HI0 := n0_; have HO237 := n1_; have HB := n2_; have HK := n3_; have HO243 := n4_; clear n0_ n1_ n2_ n3_ n4_; clear ho hb hg hat))
      go_ret
      exact ⟨_, by first | rfl | (simp [errW_none, errW_some] <;> rfl) | (simp [*, errW_none, errW_some] <;> rfl), by (with_reducible repeat (first | apply Kd.R_alloc | apply Kd.R_drewN | apply Kd.R_drew)); exact Kd.R_mono HO243.out (fun _ hk => trivial), zi, zj, zh⟩
     ·rw [if_neg c13] at H
      exact absurd H (by simp)
    ·replace c11 := Bool.eq_false_iff.mpr c11
     subst c11
     have H1 : (some (x3_1, t233, t234)) = some (r1, r2, r3) := by rw [if_neg (show ¬ (false = true) by decide)] at H; exact H
     clear H
     have H := H1
     clear H1
     simp only [Option.some.injEq, Prod.mk.injEq] at H
     obtain ⟨rfl, rfl, rfl⟩ := H
     go_wp2_with (first | ((with_reducible refine gateC (f := 42) rfl ?_); refine goesL_ (some 18) rfl rfl Tryd.func42 (by kernel_rfl) rfl #[.pointer (some ⟨g, 0, none⟩), .int .i64 5] rfl zm ?_; (with_reducible refine (spec_l1Cur_one.calls g s0_0 x1001_1 x1002_1 5 false t233 t234 w0 _ ?side1 ?side2 A10.out).mono ?_); (case side1 => exact zi); (case side2 => exact zj); rintro e w20 ⟨rfl, hi, hb, hk⟩; refine ⟨_, rfl, ?_⟩; have n0_ := am (Kd.R_mono (Kd.R_keep (IsS50.apart (show IsS50 w0 _ g s0_0 x1001_1 x1002_1 from zi) (zr HO_3.out) (by decide)) hk (fun _ h => h.2)) (fun _ h => h.1)); have n1_ := am (KeepBut.trans zh hk (.inl rfl)); have n2_ := am (hb); have n3_ := am (hi); clear HO_3; clear HK; clear HB; clear HI0; have HO_3 := n0_; have HK := n1_; have HB := n2_; have HI0 := n3_; clear n0_ n1_ n2_ n3_; (try clear hb); (try clear hk); (try clear hi)))
     go_ret
     exact ⟨_, by first | rfl | (simp [errW_none, errW_some] <;> rfl) | (simp [*, errW_none, errW_some] <;> rfl), by (with_reducible repeat (first | apply Kd.R_alloc | apply Kd.R_drewN | apply Kd.R_drew)); exact HO_3.out, zi, zj, zh⟩
end Go.Proofs.YtmcldkobejhaeaaDoor.My
/- Written by this session's program (wip/gen): a plain function with the same answers as the Go function, and the proof that the Go code comes to them. Asked: that the plain function has an answer. -/
namespace Go.Proofs.YtmcldkobejhaeaaDoor.My
open Go.RowKit Go.Proofs.YtmcldkobejhaeaaDoorW.PrintWords Go.Proofs.YtmcldkobejhaeaaDoorW.PrintLast Go.Proofs.YtmcldkobejhaeaaDoorW.PrintMore
attribute [local go_sem] max2_int min2_int max_two min_two max_three min_three max_four min_four
set_option linter.unusedVariables false
set_option linter.unusedSimpArgs false
def spec_l1Text.l0 : Nat → ByteArray → List ByteArray → Int → Int → Option (ByteArray)
 | 0, _, _, _, _ => none
 | k + 1, x3, x6, x7, x8 => if x8 < x7 then (if 0 ≤ x8 then (if x8 < (x6.length : Int) then (if x3.size + (rdOf ByteArray.empty x6 x8).size ≤ 9223372036854775807 then (spec_l1Text.l0 k (x3 ++ (rdOf ByteArray.empty x6 x8)) x6 x7 (wrap64 (x8 + 1))) else (none)) else (none)) else (none)) else (some x3)
def spec_l1Text.f (k : Nat) (l0 : List ByteArray) : Option (ByteArray) := spec_l1Text.l0 k (⟨#[]⟩ : ByteArray) l0 (l0.length : Int) 0
set_option maxHeartbeats 8000000 in
set_option maxRecDepth 100000 in
theorem spec_l1Text.calls (k : Nat) (A0 : Option Addr) (c0 : Nat) (l0 : List ByteArray) (r : ByteArray) (w : World) (hr0 : Kd.C Kd.string w A0 l0.length l0) (hc0 : l0.length ≤ c0) (h : spec_l1Text.f k l0 = some r) :
  Calls Tryd.prog 36 #[.slice A0 l0.length c0] w fun e w' => e = .returned (.string r) ∧ Drawn0 w w' := by
 have HR0 := am hr0
 have HC0 := am hc0
 clear hr0 hc0
 have H : (spec_l1Text.l0 k (⟨#[]⟩ : ByteArray) l0 (l0.length : Int) 0) = some r := h
 clear h
 have H' := am H
 clear H
 go_enter Tryd.func36, Tryd.ntmps36
 go_wp2
 go_loopg [3, 8] k (fun kq v3 v8 w' => ∃ (x3_1 : ByteArray) (x8_1 : Int), v3 = .string x3_1 ∧ v8 = .int .i64 x8_1 ∧ Aside0 (spec_l1Text.l0 kq x3_1 l0 (l0.length : Int) x8_1 = some r) ∧ Aside0 (kq ≤ k) ∧ Drawn0 w w')
 case atStart => exact ⟨((⟨#[]⟩ : ByteArray)), (0), zf, zf, H', ⟨Nat.le_refl _⟩, by repeat (first | exact Drawn0.refl _ | apply Drawn0.step)⟩
 case round =>
  clear H'
  obtain ⟨x3_1, x8_1, rfl, rfl, HA, HK1, ⟨m1, rfl⟩⟩ := hrel
  cases gk with
  | zero => exact absurd HA.out (by simp [spec_l1Text.l0])
  | succ k1 =>
   have H := HA.out
   clear HA
   simp only [spec_l1Text.l0] at H
   by_cases c2 : x8_1 < (l0.length : Int)
   ·rw [if_pos c2] at H
    have c2b0 : decide (x8_1 < (l0.length : Int)) = true := decide_eq_true c2
    clear c2
    by_cases c3 : 0 ≤ x8_1
    ·rw [if_pos c3] at H
     have c3b0 : decide (0 ≤ x8_1) = true := decide_eq_true c3
     clear c3
     by_cases c4 : x8_1 < (l0.length : Int)
     ·rw [if_pos c4] at H
      have c4b0 : decide (x8_1 < (l0.length : Int)) = true := decide_eq_true c4
      clear c4
      by_cases c5 : x3_1.size + (rdOf ByteArray.empty l0 x8_1).size ≤ 9223372036854775807
      ·rw [if_pos c5] at H
       have c5b0 := eq_true c5
       have c5b1 : decide (x3_1.size + (rdOf ByteArray.empty l0 x8_1).size ≤ 9223372036854775807) = true := decide_eq_true c5
       try have c5b2 : (9223372036854775807 < x3_1.size + (rdOf ByteArray.empty l0 x8_1).size) = False := eq_false (Nat.not_lt.2 c5)
       have H' := am H
       clear H
       have p202 : 0 ≤ (x8_1 : Int) := oa
       have q202 : x8_1 < (l0.length : Int) := oa
       obtain ⟨ad202, e202, hx202_0⟩ := Kd.at_string HR0.out x8_1 p202 q202
       cases e202
       replace p202 := eq_true p202
       replace q202 := eq_true q202
       go_wp2
       go_roundg k1
       case measure => have := HK1.out; omega
       case rel => exact ⟨(x3_1 ++ (rdOf ByteArray.empty l0 x8_1)), (wrap64 (x8_1 + 1)), zf, zf, H', ⟨by have := HK1.out; omega⟩, by repeat (first | exact Drawn0.refl _ | apply Drawn0.step)⟩
      ·rw [if_neg c5] at H
       exact absurd H (by simp)
     ·rw [if_neg c4] at H
      exact absurd H (by simp)
    ·rw [if_neg c3] at H
     exact absurd H (by simp)
   ·rw [if_neg c2] at H
    have c2b0 : decide (x8_1 < (l0.length : Int)) = false := decide_eq_false c2
    clear c2
    obtain rfl := Option.some.inj H
    go_wp2
    go_ret
    exact ⟨by first | rfl | (simp; done) | (simp [*]; done), by repeat (first | exact Drawn0.refl _ | apply Drawn0.step)⟩
end Go.Proofs.YtmcldkobejhaeaaDoor.My
/- Written by this session's program (wip/gen): a plain function with the same answers as the Go function, and the proof that the Go code comes to them. Asked: that the plain function has an answer. -/
namespace Go.Proofs.YtmcldkobejhaeaaDoor.My
open Go.RowKit Go.Proofs.YtmcldkobejhaeaaDoorW.PrintWords Go.Proofs.YtmcldkobejhaeaaDoorW.PrintLast Go.Proofs.YtmcldkobejhaeaaDoorW.PrintMore
attribute [local go_sem] max2_int min2_int max_two min_two max_three min_three max_four min_four
set_option linter.unusedVariables false
set_option linter.unusedSimpArgs false
def spec_DrawLinesOf.l0 : Nat → ByteArray → Int → List Int → Int → Int → Option (ByteArray × Int × Int)
 | 0, _, _, _, _, _ => none
 | k + 1, x4, x5, x1000, x1001, x1002 => if x5 < 38 then (if x4.size + 1 ≤ 9223372036854775807 then (spec_DrawLinesOf.l0 k (x4 ++ (⟨#[10]⟩ : ByteArray)) (wrap64 (x5 + 1)) x1000 x1001 x1002) else (none)) else (some (x4, x1001, x1002))
def spec_DrawLinesOf.g (k : Nat) (s0_0 : List Int) (s0_1 : Int) (s0_2 : Int) : Option (ByteArray × Int × Int) := (spec_l1Cur_text.f k s0_0 s0_1 s0_2).bind fun bt244 => ((spec_l1Text.f k bt244.1).bind fun t249 => ((spec_l1Cur_pick.f s0_0 bt244.2.1 bt244.2.2 12).bind fun bt250 => (if bt250.1 = 0 then ((spec_l1Cur_pick.f s0_0 bt250.2.1 bt250.2.2 2).bind fun bt253 => (if 0 ≤ (wrap64 (30 + bt253.1)) then (if (wrap64 (30 + bt253.1) : Int).toNat ≤ 281474976710656 then ((some (List.replicate (wrap64 (30 + bt253.1) : Int).toNat 0 : List Int)).bind fun y256 => (if t249.size + (strOfNums y256).size ≤ 9223372036854775807 then (some (t249 ++ (strOfNums y256), bt253.2.1, bt253.2.2)) else (none))) else (none)) else (none))) else (if bt250.1 = 1 then (spec_DrawLinesOf.l0 k t249 0 s0_0 bt250.2.1 bt250.2.2) else (some (t249, bt250.2.1, bt250.2.2))))))
def spec_DrawLinesOf.f (k : Nat) (l0 : List Int) : Option (ByteArray) := (spec_DrawLinesOf.g k l0 0 0).bind fun r => some (r.1)
set_option maxHeartbeats 8000000 in
set_option maxRecDepth 100000 in
theorem spec_DrawLinesOf.made (k : Nat) (A0 : Option Addr) (c0 : Nat) (l0 : List Int) (r1 : ByteArray) (r2 : Int) (r3 : Int) (w0 : World) (hr0 : Kd.C (Kd.int .u8) w0 A0 l0.length l0) (h : spec_DrawLinesOf.g k l0 0 0 = some (r1, r2, r3)) :
  Calls Tryd.prog 11 #[.slice A0 l0.length c0] w0 fun e w' => ∃ (g : Nat) (w : World), w0.heap.size ≤ w.heap.size ∧ e = .returned (.string r1) ∧ IsS50 w0 w' g l0 r2 r3 ∧ Below w0.heap.size w0 w' ∧ KeepBut w w' g none := by
 have HR0 := am hr0
 clear hr0
 have HB := am (Below.refl w0.heap.size w0)
 have H : ((spec_l1Cur_text.f k l0 0 0).bind fun bt244 => ((spec_l1Text.f k bt244.1).bind fun t249 => ((spec_l1Cur_pick.f l0 bt244.2.1 bt244.2.2 12).bind fun bt250 => (if bt250.1 = 0 then ((spec_l1Cur_pick.f l0 bt250.2.1 bt250.2.2 2).bind fun bt253 => (if 0 ≤ (wrap64 (30 + bt253.1)) then (if (wrap64 (30 + bt253.1) : Int).toNat ≤ 281474976710656 then ((some (List.replicate (wrap64 (30 + bt253.1) : Int).toNat 0 : List Int)).bind fun y256 => (if t249.size + (strOfNums y256).size ≤ 9223372036854775807 then (some (t249 ++ (strOfNums y256), bt253.2.1, bt253.2.2)) else (none))) else (none)) else (none))) else (if bt250.1 = 1 then (spec_DrawLinesOf.l0 k t249 0 l0 bt250.2.1 bt250.2.2) else (some (t249, bt250.2.1, bt250.2.2))))))) = some (r1, r2, r3) := h
 clear h
 replace H := Option.bind_eq_some_iff.mp H
 obtain ⟨⟨t244, t247, t248⟩, A20, H⟩ := H
 replace H : ((spec_l1Text.f k t244).bind fun t249 => ((spec_l1Cur_pick.f l0 t247 t248 12).bind fun bt250 => (if bt250.1 = 0 then ((spec_l1Cur_pick.f l0 bt250.2.1 bt250.2.2 2).bind fun bt253 => (if 0 ≤ (wrap64 (30 + bt253.1)) then (if (wrap64 (30 + bt253.1) : Int).toNat ≤ 281474976710656 then ((some (List.replicate (wrap64 (30 + bt253.1) : Int).toNat 0 : List Int)).bind fun y256 => (if t249.size + (strOfNums y256).size ≤ 9223372036854775807 then (some (t249 ++ (strOfNums y256), bt253.2.1, bt253.2.2)) else (none))) else (none)) else (none))) else (if bt250.1 = 1 then (spec_DrawLinesOf.l0 k t249 0 l0 bt250.2.1 bt250.2.2) else (some (t249, bt250.2.1, bt250.2.2)))))) = some (r1, r2, r3) := H
 have A2 := am A20
 clear A20
 replace H := Option.bind_eq_some_iff.mp H
 obtain ⟨t249, A30, H⟩ := H
 replace H : ((spec_l1Cur_pick.f l0 t247 t248 12).bind fun bt250 => (if bt250.1 = 0 then ((spec_l1Cur_pick.f l0 bt250.2.1 bt250.2.2 2).bind fun bt253 => (if 0 ≤ (wrap64 (30 + bt253.1)) then (if (wrap64 (30 + bt253.1) : Int).toNat ≤ 281474976710656 then ((some (List.replicate (wrap64 (30 + bt253.1) : Int).toNat 0 : List Int)).bind fun y256 => (if t249.size + (strOfNums y256).size ≤ 9223372036854775807 then (some (t249 ++ (strOfNums y256), bt253.2.1, bt253.2.2)) else (none))) else (none)) else (none))) else (if bt250.1 = 1 then (spec_DrawLinesOf.l0 k t249 0 l0 bt250.2.1 bt250.2.2) else (some (t249, bt250.2.1, bt250.2.2))))) = some (r1, r2, r3) := H
 have A3 := am A30
 clear A30
 replace H := Option.bind_eq_some_iff.mp H
 obtain ⟨⟨t250, t251, t252⟩, A40, H⟩ := H
 replace H : (if t250 = 0 then ((spec_l1Cur_pick.f l0 t251 t252 2).bind fun bt253 => (if 0 ≤ (wrap64 (30 + bt253.1)) then (if (wrap64 (30 + bt253.1) : Int).toNat ≤ 281474976710656 then ((some (List.replicate (wrap64 (30 + bt253.1) : Int).toNat 0 : List Int)).bind fun y256 => (if t249.size + (strOfNums y256).size ≤ 9223372036854775807 then (some (t249 ++ (strOfNums y256), bt253.2.1, bt253.2.2)) else (none))) else (none)) else (none))) else (if t250 = 1 then (spec_DrawLinesOf.l0 k t249 0 l0 t251 t252) else (some (t249, t251, t252)))) = some (r1, r2, r3) := H
 have A4 := am A40
 clear A40
 by_cases c5 : t250 = 0
 ·rw [if_pos c5] at H
  have c5b0 : (t250 == 0) = true := beq_iff_eq.mpr c5
  have c5b1 : (t250 != 0) = false := bne_eq_false_iff_eq.mpr c5
  clear c5
  replace H := Option.bind_eq_some_iff.mp H
  obtain ⟨⟨t253, t254, t255⟩, A60, H⟩ := H
  replace H : (if 0 ≤ (wrap64 (30 + t253)) then (if (wrap64 (30 + t253) : Int).toNat ≤ 281474976710656 then ((some (List.replicate (wrap64 (30 + t253) : Int).toNat 0 : List Int)).bind fun y256 => (if t249.size + (strOfNums y256).size ≤ 9223372036854775807 then (some (t249 ++ (strOfNums y256), t254, t255)) else (none))) else (none)) else (none)) = some (r1, r2, r3) := H
  have A6 := am A60
  clear A60
  obtain ⟨ji7, hji7⟩ : ∃ j_ : Int, (wrap64 (30 + t253)) = j_ := ⟨_, rfl⟩
  replace H : (if 0 ≤ (ji7) then (if (ji7 : Int).toNat ≤ 281474976710656 then ((some (List.replicate (ji7 : Int).toNat 0 : List Int)).bind fun y256 => (if t249.size + (strOfNums y256).size ≤ 9223372036854775807 then (some (t249 ++ (strOfNums y256), t254, t255)) else (none))) else (none)) else (none)) = some (r1, r2, r3) := by first | (rw [hji7] at H; exact H) | (simp only [hji7] at H ⊢; exact H)
  (try rw [hji7] at A2)
  (try rw [hji7] at A3)
  (try rw [hji7] at A4)
  (try rw [hji7] at A6)
  have hji7w : (IntKind.i64.wrap (30 + t253)) = ji7 := (i64_w _).trans hji7
  by_cases c8 : 0 ≤ (ji7)
  ·rw [if_pos c8] at H
   have c8b0 := eq_true c8
   have c8b1 : decide (0 ≤ (ji7)) = true := decide_eq_true c8
   clear c8
   by_cases c9 : (ji7 : Int).toNat ≤ 281474976710656
   ·rw [if_pos c9] at H
    have c9b0 := eq_true c9
    have c9b1 : decide ((ji7 : Int).toNat ≤ 281474976710656) = true := decide_eq_true c9
    clear c9
    obtain ⟨y256, hy256⟩ : ∃ y_ : List Int, y_ = (List.replicate (ji7 : Int).toNat 0) := ⟨_, rfl⟩
    replace H : (if t249.size + (strOfNums y256).size ≤ 9223372036854775807 then (some (t249 ++ (strOfNums y256), t254, t255)) else (none)) = some (r1, r2, r3) := by first | (rw [hy256]; with_reducible exact H) | (have H2_ := (Option.bind_some _ _).symm.trans H; rw [hy256]; with_reducible exact H2_) | (have H2_ := (Option.bind_some _ _).symm.trans H; with_reducible exact H2_) | with_reducible exact H | (rw [hy256]; exact H) | exact H
    have Ny256 := am hy256
    clear hy256
    by_cases c10 : t249.size + (strOfNums y256).size ≤ 9223372036854775807
    ·rw [if_pos c10] at H
     have c10b0 := eq_true c10
     have c10b1 : decide (t249.size + (strOfNums y256).size ≤ 9223372036854775807) = true := decide_eq_true c10
     try have c10b2 : (9223372036854775807 < t249.size + (strOfNums y256).size) = False := eq_false (Nat.not_lt.2 c10)
     simp only [Option.some.injEq, Prod.mk.injEq] at H
     obtain ⟨rfl, rfl, rfl⟩ := H
     go_enter Tryd.func11, Tryd.ntmps11
     go_wp2_with (first | ((with_reducible refine gate_dst (N := 8) rfl ?_); refine box_event ?hg (N := 8) ?hd (cs := #[.slice A0 l0.length c0, .int .i64 0, .int .u64 0]) (t := 50) ?hr ?_; (case hd => rfl); (case hg => rfl); (case hr => first | (go_simp; done) | (go_simp; rfl)); intro g hg w hbox hb; have n0_ := am (show IsS50 w0 w g l0 0 0 from ⟨A0, c0, hbox, (by rw [hg]; exact below_size zb), HR0.out⟩); have n1_ := am (below_step zb hb); clear HB HR0; have HI0 := n0_; have HB := n1_; have HK := am (KeepBut.refl w g none); have HL := am HB.out.size; have HW0 := am HB.out.size; clear n0_ n1_ hb hbox hg) | ((with_reducible refine gateC (f := 37) rfl ?_); refine goesL_ (some 10) rfl rfl Tryd.func37 (by kernel_rfl) rfl #[.pointer (some ⟨g, 0, none⟩)] rfl zm ?_; (with_reducible refine (spec_l1Cur_text.calls k g l0 0 0 t244 t247 t248 w0 _ ?side1 ?side2 A2.out).mono ?_); (case side1 => exact zi); (case side2 => exact zj); rintro e w11 ⟨v245, rfl, ho0, hi, hb, hk⟩; refine ⟨_, rfl, ?_⟩; have n0_ := am (Kd.R_lower ho0 (keep_size (w := w) (g := g) (row := none) zh)); have n1_ := am (KeepBut.trans zh hk (.inl rfl)); have n2_ := am (hb); have n3_ := am (hi); clear HK; clear HB; clear HI0; have HO246 := n0_; have HK := n1_; have HB := n2_; have HI0 := n3_; clear n0_ n1_ n2_ n3_; (try clear hb); (try clear hk); (try clear hi); (try clear ho0); obtain ⟨Ao12, co12, eo12⟩ := Kd.R_slice HO246.out; subst eo12) | ((with_reducible refine gateC (f := 36) rfl ?_); refine goesL_ (some 11) rfl rfl Tryd.func36 (by kernel_rfl) rfl #[.slice Ao12 t244.length co12] rfl zm ?_; (with_reducible refine (spec_l1Text.calls k _ _ t244 t249 _ ?side1 ?side2 A3.out).mono ?_); (case side1 => repeat (first | exact (Kd.R_reads' HO246.out).2.2 | (with_reducible refine Kd.C_alloc ?_ _) | (with_reducible refine Kd.C_drewN ?_ _) | (with_reducible refine Kd.C_drew ?_))); (case side2 => exact (Kd.R_reads' HO246.out).2.1); rintro e w' ⟨rfl, ⟨nd, rfl⟩⟩; refine ⟨_, rfl, ?_⟩) | ((with_reducible refine gateC (f := 38) rfl ?_); refine goesL_ (some 13) rfl rfl Tryd.func38 (by kernel_rfl) rfl #[.pointer (some ⟨g, 0, none⟩), .int .i64 12] rfl zm ?_; (with_reducible refine (spec_l1Cur_pick.calls g l0 t247 t248 12 t250 t251 t252 w0 _ ?side1 ?side2 A4.out).mono ?_); (case side1 => exact zi); (case side2 => exact zj); rintro e w13 ⟨rfl, hi, hb, hk⟩; refine ⟨_, rfl, ?_⟩; have n0_ := am (Kd.R_mono (Kd.R_keep (IsS50.apart (show IsS50 w0 _ g l0 t247 t248 from zi) (zr HO246.out) (by decide)) hk (fun _ h => h.2)) (fun _ h => h.1)); have n1_ := am (KeepBut.trans zh hk (.inl rfl)); have n2_ := am (hb); have n3_ := am (hi); clear HO246; clear HK; clear HB; clear HI0; have HO246 := n0_; have HK := n1_; have HB := n2_; have HI0 := n3_; clear n0_ n1_ n2_ n3_; (try clear hb); (try clear hk); (try clear hi)) | ((with_reducible refine gateC (f := 38) rfl ?_); refine goesL_ (some 18) rfl rfl Tryd.func38 (by kernel_rfl) rfl #[.pointer (some ⟨g, 0, none⟩), .int .i64 2] rfl zm ?_; (with_reducible refine (spec_l1Cur_pick.calls g l0 t251 t252 2 t253 t254 t255 w0 _ ?side1 ?side2 A6.out).mono ?_); (case side1 => exact zi); (case side2 => exact zj); rintro e w14 ⟨rfl, hi, hb, hk⟩; refine ⟨_, rfl, ?_⟩; have n0_ := am (Kd.R_mono (Kd.R_keep (IsS50.apart (show IsS50 w0 _ g l0 t251 t252 from zi) (zr HO246.out) (by decide)) hk (fun _ h => h.2)) (fun _ h => h.1)); have n1_ := am (KeepBut.trans zh hk (.inl rfl)); have n2_ := am (hb); have n3_ := am (hi); clear HO246; clear HK; clear HB; clear HI0; have HO246 := n0_; have HK := n1_; have HB := n2_; have HI0 := n3_; clear n0_ n1_ n2_ n3_; (try clear hb); (try clear hk); (try clear hi)) | ((with_reducible refine gate_dst (N := 20) rfl ?_); refine Kd.R_make (Kd.int .u8) _ 5 rfl (N := 20) rfl 28 _ _ rfl ji7 rfl rfl Tryd.underlying28 (.int .u8 0) 1 info5 rfl (by decide) (by omega) 0 (ok := fun _ => True) (okp := fun _ => True) rfl (fun _ hk => hk) trivial oa (Nat.le_trans (Nat.mul_le_mul_right _ (oa : ji7.toNat ≤ 281474976710656)) (by omega)) (Below.refl _ _) (Nat.le_refl _) ?_; intro v257 w15 ho16 hb hg_ hnew_; clear hg_ hnew_; (first | rw [← Ny256.out] at ho16 | (simp only [Int.reduceToNat] at ho16; rw [← Ny256.out] at ho16)); have n0_ := am (Kd.R_below (zr HO246.out) hb); have n1_ := am (Kd.R_lower ho16 (keep_size (w := w) (g := g) (row := none) zh)); have n2_ := am (IsS50.below zi hb); have n3_ := am (KeepBut.trans zh (KeepBut.of_below hb g none) (.inl rfl)); have n4_ := am (below_step zj hb); clear HO246; clear HI0; clear HK; clear HB; have HO246 := n0_; have HO258 := n1_; have HI0 := n2_; have HK := n3_; have HB := n4_; clear n0_ n1_ n2_ n3_ n4_; clear hb ho16; have hcv17 := own_string (P := Tryd.prog) Tryd.underlying28 Tryd.underlying5 Tryd.underlying9 (Kd.own_of_R HO258.out)))
     go_ret
     exact ⟨g, w, HW0.out, by first | rfl | (simp [errW_none, errW_some] <;> rfl) | (simp only [← hji7]; first | rfl | (simp [errW_none, errW_some] <;> rfl)) | (simp [*, errW_none, errW_some] <;> rfl), zi, zj, zh⟩
    ·rw [if_neg c10] at H
     exact absurd H (by simp)
   ·rw [if_neg c9] at H
    exact absurd H (by simp)
  ·rw [if_neg c8] at H
   exact absurd H (by simp)
 ·rw [if_neg c5] at H
  have c5b0 : (t250 == 0) = false := beq_eq_false_iff_ne.mpr c5
  have c5b1 : (t250 != 0) = true := bne_iff_ne.mpr c5
  by_cases c18 : t250 = 1
  ·rw [if_pos c18] at H
   have c18b0 : (t250 == 1) = true := beq_iff_eq.mpr c18
   have c18b1 : (t250 != 1) = false := bne_eq_false_iff_eq.mpr c18
   clear c18
   have H' := am H
   clear H
   go_enter Tryd.func11, Tryd.ntmps11
   go_wp2_with (first | ((with_reducible refine gate_dst (N := 8) rfl ?_); refine box_event ?hg (N := 8) ?hd (cs := #[.slice A0 l0.length c0, .int .i64 0, .int .u64 0]) (t := 50) ?hr ?_; (case hd => rfl); (case hg => rfl); (case hr => first | (go_simp; done) | (go_simp; rfl)); intro g hg w hbox hb; have n0_ := am (show IsS50 w0 w g l0 0 0 from ⟨A0, c0, hbox, (by rw [hg]; exact below_size zb), HR0.out⟩); have n1_ := am (below_step zb hb); clear HB HR0; have HI0 := n0_; have HB := n1_; have HK := am (KeepBut.refl w g none); have HL := am HB.out.size; have HW0 := am HB.out.size; clear n0_ n1_ hb hbox hg) | ((with_reducible refine gateC (f := 37) rfl ?_); refine goesL_ (some 10) rfl rfl Tryd.func37 (by kernel_rfl) rfl #[.pointer (some ⟨g, 0, none⟩)] rfl zm ?_; (with_reducible refine (spec_l1Cur_text.calls k g l0 0 0 t244 t247 t248 w0 _ ?side1 ?side2 A2.out).mono ?_); (case side1 => exact zi); (case side2 => exact zj); rintro e w19 ⟨v245, rfl, ho0, hi, hb, hk⟩; refine ⟨_, rfl, ?_⟩; have n0_ := am (Kd.R_lower ho0 (keep_size (w := w) (g := g) (row := none) zh)); have n1_ := am (KeepBut.trans zh hk (.inl rfl)); have n2_ := am (hb); have n3_ := am (hi); clear HK; clear HB; clear HI0; have HO246 := n0_; have HK := n1_; have HB := n2_; have HI0 := n3_; clear n0_ n1_ n2_ n3_; (try clear hb); (try clear hk); (try clear hi); (try clear ho0); obtain ⟨Ao20, co20, eo20⟩ := Kd.R_slice HO246.out; subst eo20) | ((with_reducible refine gateC (f := 36) rfl ?_); refine goesL_ (some 11) rfl rfl Tryd.func36 (by kernel_rfl) rfl #[.slice Ao20 t244.length co20] rfl zm ?_; (with_reducible refine (spec_l1Text.calls k _ _ t244 t249 _ ?side1 ?side2 A3.out).mono ?_); (case side1 => repeat (first | exact (Kd.R_reads' HO246.out).2.2 | (with_reducible refine Kd.C_alloc ?_ _) | (with_reducible refine Kd.C_drewN ?_ _) | (with_reducible refine Kd.C_drew ?_))); (case side2 => exact (Kd.R_reads' HO246.out).2.1); rintro e w' ⟨rfl, ⟨nd, rfl⟩⟩; refine ⟨_, rfl, ?_⟩) | ((with_reducible refine gateC (f := 38) rfl ?_); refine goesL_ (some 13) rfl rfl Tryd.func38 (by kernel_rfl) rfl #[.pointer (some ⟨g, 0, none⟩), .int .i64 12] rfl zm ?_; (with_reducible refine (spec_l1Cur_pick.calls g l0 t247 t248 12 t250 t251 t252 w0 _ ?side1 ?side2 A4.out).mono ?_); (case side1 => exact zi); (case side2 => exact zj); rintro e w21 ⟨rfl, hi, hb, hk⟩; refine ⟨_, rfl, ?_⟩; have n0_ := am (Kd.R_mono (Kd.R_keep (IsS50.apart (show IsS50 w0 _ g l0 t247 t248 from zi) (zr HO246.out) (by decide)) hk (fun _ h => h.2)) (fun _ h => h.1)); have n1_ := am (KeepBut.trans zh hk (.inl rfl)); have n2_ := am (hb); have n3_ := am (hi); clear HO246; clear HK; clear HB; clear HI0; have HO246 := n0_; have HK := n1_; have HB := n2_; have HI0 := n3_; clear n0_ n1_ n2_ n3_; (try clear hb); (try clear hk); (try clear hi)))
   go_loopg [4, 5] k (fun kq v4 v5 w' => ∃ (x4_1 : ByteArray) (x5_1 : Int), v4 = .string x4_1 ∧ v5 = .int .i64 x5_1 ∧ Aside0 (spec_DrawLinesOf.l0 kq x4_1 x5_1 l0 t251 t252 = some (r1, r2, r3)) ∧ Aside0 (kq ≤ k) ∧ Aside0 (IsS50 w0 w' g l0 t251 t252) ∧ Aside0 (KeepBut w w' g none) ∧ Aside0 (Below w0.heap.size w0 w'))
   case atStart => exact ⟨(t249), (0), zf, zf, H', ⟨Nat.le_refl _⟩, ⟨by repeat (first | (with_reducible first | exact HI0.out | apply IsS50.alloc | apply IsS50.drewN | apply IsS50.drew | apply IsS50.set_1 | apply IsS50.set_2) | exact HI0.out)⟩, ⟨by repeat (first | (with_reducible first | exact HK.out | apply KeepBut.set_ | apply keep_drewN | apply keep_drew | apply keep_alloc) | exact HK.out)⟩, ⟨by repeat (first | (with_reducible first | exact HB.out | apply below_alloc | apply pw_below_drewN | apply below_drew1 | refine below_set ?_ (IsS50.ge HI0.out)) | exact HB.out)⟩⟩
   case round =>
    clear H'
    try clear c1
    try clear hcv1
    try clear p2
    try clear c3
    try clear c5
    try clear c5b0
    try clear c5b1
    try clear p6
    try clear c8
    try clear c8b0
    try clear c8b1
    try clear c9
    try clear c9b0
    try clear c9b1
    try clear c10
    try clear c10b0
    try clear c10b1
    try clear c10b2
    try clear c11
    try clear hcv17
    try clear c18
    try clear c18b0
    try clear c18b1
    obtain ⟨x4_1, x5_1, rfl, rfl, HA, HK1, HI0, HK, HB⟩ := hrel
    cases gk with
    | zero => exact absurd HA.out (by simp [spec_DrawLinesOf.l0])
    | succ k1 =>
     have H := HA.out
     clear HA
     simp only [spec_DrawLinesOf.l0] at H
     by_cases c22 : x5_1 < 38
     ·rw [if_pos c22] at H
      have c22b0 : decide (x5_1 < 38) = true := decide_eq_true c22
      clear c22
      by_cases c23 : x4_1.size + 1 ≤ 9223372036854775807
      ·rw [if_pos c23] at H
       have c23b0 := eq_true c23
       have c23b1 : decide (x4_1.size + 1 ≤ 9223372036854775807) = true := decide_eq_true c23
       try have c23b2 : (9223372036854775807 < x4_1.size + 1) = False := eq_false (Nat.not_lt.2 c23)
       have H' := am H
       clear H
       go_wp2
       go_roundg k1
       case measure => have := HK1.out; omega
       case rel => exact ⟨(x4_1 ++ (⟨#[10]⟩ : ByteArray)), (wrap64 (x5_1 + 1)), zf, zf, H', ⟨by have := HK1.out; omega⟩, ⟨by repeat (first | (with_reducible first | exact HI0.out | apply IsS50.alloc | apply IsS50.drewN | apply IsS50.drew | apply IsS50.set_1 | apply IsS50.set_2) | exact HI0.out)⟩, ⟨by repeat (first | (with_reducible first | exact HK.out | apply KeepBut.set_ | apply keep_drewN | apply keep_drew | apply keep_alloc) | exact HK.out)⟩, ⟨by repeat (first | (with_reducible first | exact HB.out | apply below_alloc | apply pw_below_drewN | apply below_drew1 | refine below_set ?_ (IsS50.ge HI0.out)) | exact HB.out)⟩⟩
      ·rw [if_neg c23] at H
       exact absurd H (by simp)
     ·rw [if_neg c22] at H
      have c22b0 : decide (x5_1 < 38) = false := decide_eq_false c22
      clear c22
      simp only [Option.some.injEq, Prod.mk.injEq] at H
      obtain ⟨rfl, rfl, rfl⟩ := H
      go_wp2
      go_ret
      exact ⟨g, w, HW0.out, by first | rfl | (simp [errW_none, errW_some] <;> rfl) | (simp [*, errW_none, errW_some] <;> rfl), zi, zj, zh⟩
  ·rw [if_neg c18] at H
   have c18b0 : (t250 == 1) = false := beq_eq_false_iff_ne.mpr c18
   have c18b1 : (t250 != 1) = true := bne_iff_ne.mpr c18
   simp only [Option.some.injEq, Prod.mk.injEq] at H
   obtain ⟨rfl, rfl, rfl⟩ := H
   go_enter Tryd.func11, Tryd.ntmps11
   go_wp2_with (first | ((with_reducible refine gate_dst (N := 8) rfl ?_); refine box_event ?hg (N := 8) ?hd (cs := #[.slice A0 l0.length c0, .int .i64 0, .int .u64 0]) (t := 50) ?hr ?_; (case hd => rfl); (case hg => rfl); (case hr => first | (go_simp; done) | (go_simp; rfl)); intro g hg w hbox hb; have n0_ := am (show IsS50 w0 w g l0 0 0 from ⟨A0, c0, hbox, (by rw [hg]; exact below_size zb), HR0.out⟩); have n1_ := am (below_step zb hb); clear HB HR0; have HI0 := n0_; have HB := n1_; have HK := am (KeepBut.refl w g none); have HL := am HB.out.size; have HW0 := am HB.out.size; clear n0_ n1_ hb hbox hg) | ((with_reducible refine gateC (f := 37) rfl ?_); refine goesL_ (some 10) rfl rfl Tryd.func37 (by kernel_rfl) rfl #[.pointer (some ⟨g, 0, none⟩)] rfl zm ?_; (with_reducible refine (spec_l1Cur_text.calls k g l0 0 0 t244 t247 t248 w0 _ ?side1 ?side2 A2.out).mono ?_); (case side1 => exact zi); (case side2 => exact zj); rintro e w24 ⟨v245, rfl, ho0, hi, hb, hk⟩; refine ⟨_, rfl, ?_⟩; have n0_ := am (Kd.R_lower ho0 (keep_size (w := w) (g := g) (row := none) zh)); have n1_ := am (KeepBut.trans zh hk (.inl rfl)); have n2_ := am (hb); have n3_ := am (hi); clear HK; clear HB; clear HI0; have HO246 := n0_; have HK := n1_; have HB := n2_; have HI0 := n3_; clear n0_ n1_ n2_ n3_; (try clear hb); (try clear hk); (try clear hi); (try clear ho0); obtain ⟨Ao25, co25, eo25⟩ := Kd.R_slice HO246.out; subst eo25) | ((with_reducible refine gateC (f := 36) rfl ?_); refine goesL_ (some 11) rfl rfl Tryd.func36 (by kernel_rfl) rfl #[.slice Ao25 t244.length co25] rfl zm ?_; (with_reducible refine (spec_l1Text.calls k _ _ t244 t249 _ ?side1 ?side2 A3.out).mono ?_); (case side1 => repeat (first | exact (Kd.R_reads' HO246.out).2.2 | (with_reducible refine Kd.C_alloc ?_ _) | (with_reducible refine Kd.C_drewN ?_ _) | (with_reducible refine Kd.C_drew ?_))); (case side2 => exact (Kd.R_reads' HO246.out).2.1); rintro e w' ⟨rfl, ⟨nd, rfl⟩⟩; refine ⟨_, rfl, ?_⟩) | ((with_reducible refine gateC (f := 38) rfl ?_); refine goesL_ (some 13) rfl rfl Tryd.func38 (by kernel_rfl) rfl #[.pointer (some ⟨g, 0, none⟩), .int .i64 12] rfl zm ?_; (with_reducible refine (spec_l1Cur_pick.calls g l0 t247 t248 12 t250 t251 t252 w0 _ ?side1 ?side2 A4.out).mono ?_); (case side1 => exact zi); (case side2 => exact zj); rintro e w26 ⟨rfl, hi, hb, hk⟩; refine ⟨_, rfl, ?_⟩; have n0_ := am (Kd.R_mono (Kd.R_keep (IsS50.apart (show IsS50 w0 _ g l0 t247 t248 from zi) (zr HO246.out) (by decide)) hk (fun _ h => h.2)) (fun _ h => h.1)); have n1_ := am (KeepBut.trans zh hk (.inl rfl)); have n2_ := am (hb); have n3_ := am (hi); clear HO246; clear HK; clear HB; clear HI0; have HO246 := n0_; have HK := n1_; have HB := n2_; have HI0 := n3_; clear n0_ n1_ n2_ n3_; (try clear hb); (try clear hk); (try clear hi)))
   go_ret
   exact ⟨g, w, HW0.out, by first | rfl | (simp [errW_none, errW_some] <;> rfl) | (simp [*, errW_none, errW_some] <;> rfl), zi, zj, zh⟩
theorem spec_DrawLinesOf.calls (k : Nat) (A0 : Option Addr) (c0 : Nat) (l0 : List Int) (r1 : ByteArray) (w0 : World) (hr0 : Kd.C (Kd.int .u8) w0 A0 l0.length l0) (hc0 : l0.length ≤ c0) (h : spec_DrawLinesOf.f k l0 = some (r1)) :
  Calls Tryd.prog 11 #[.slice A0 l0.length c0] w0 fun e w' => e = .returned (.string r1) ∧ Below w0.heap.size w0 w' := by
  obtain ⟨q, hq, e⟩ := Option.bind_eq_some_iff.1 h
  obtain ⟨q0, q1, q2⟩ := q
  injection e with e
  subst e
  refine (spec_DrawLinesOf.made k A0 c0 l0 _ _ _ w0 hr0 hq).mono ?_
  rintro e w' ⟨g, w, hw, h0, _, hb, _⟩
  exact ⟨h0, hb⟩
end Go.Proofs.YtmcldkobejhaeaaDoor.My
/- Written by this session's program (wip/gen): a plain function with the same answers as the Go function, and the proof that the Go code comes to them. Asked: that the plain function has an answer. -/
namespace Go.Proofs.YtmcldkobejhaeaaDoor.My
open Go.RowKit Go.Proofs.YtmcldkobejhaeaaDoorW.PrintWords Go.Proofs.YtmcldkobejhaeaaDoorW.PrintLast Go.Proofs.YtmcldkobejhaeaaDoorW.PrintMore
attribute [local go_sem] max2_int min2_int max_two min_two max_three min_three max_four min_four
set_option linter.unusedVariables false
set_option linter.unusedSimpArgs false
def spec_l1Cur_anyText.f (k : Nat) (s0_0 : List Int) (s0_1 : Int) (s0_2 : Int) : Option (List ByteArray × Int × Int) := (spec_l1Cur_text.f k s0_0 s0_1 s0_2).bind fun bt253 => (if (bt253.1.length : Int) > 1 then ((spec_l1Cur_pick.f s0_0 bt253.2.1 bt253.2.2 25).bind fun bt258 => (if bt258.1 = 0 then (if 0 < (bt253.1.length : Int) then (some ((bt253.1.set (0 : Int).toNat (⟨#[120]⟩ : ByteArray)), bt258.2.1, bt258.2.2)) else (none)) else (if bt258.1 = 1 then (if 0 < (bt253.1.length : Int) then (some ((bt253.1.set (0 : Int).toNat (⟨#[]⟩ : ByteArray)), bt258.2.1, bt258.2.2)) else (none)) else (if bt258.1 = 2 then (if 0 < (bt253.1.length : Int) then (some ((bt253.1.set (0 : Int).toNat (⟨#[97, 10, 98, 10]⟩ : ByteArray)), bt258.2.1, bt258.2.2)) else (none)) else (some (bt253.1, bt258.2.1, bt258.2.2)))))) else (some (bt253.1, bt253.2.1, bt253.2.2)))
set_option maxHeartbeats 8000000 in
set_option maxRecDepth 100000 in
theorem spec_l1Cur_anyText.calls (k : Nat) (g : Nat) (s0_0 : List Int) (s0_1 : Int) (s0_2 : Int) (r1 : List ByteArray) (r2 : Int) (r3 : Int) (w0 w : World) (hI : IsS50 w0 w g s0_0 s0_1 s0_2) (hB : Below w0.heap.size w0 w) (h : spec_l1Cur_anyText.f k s0_0 s0_1 s0_2 = some (r1, r2, r3)) :
  Calls Tryd.prog 41 #[.pointer (some ⟨g, 0, none⟩)] w fun e w' => ∃ v0_ : Value, e = .returned (v0_) ∧ Kd.R Kd.string 9 w' w.heap.size (fun _ => True) v0_ r1 ∧ IsS50 w0 w' g s0_0 r2 r3 ∧ Below w0.heap.size w0 w' ∧ KeepBut w w' g none := by
 have HI0 := am hI
 have HK := am (KeepBut.refl w g none)
 have HL := am hB.size
 clear hI
 have HW0 := am hB.size
 have HB := am hB
 clear hB
 have H : ((spec_l1Cur_text.f k s0_0 s0_1 s0_2).bind fun bt253 => (if (bt253.1.length : Int) > 1 then ((spec_l1Cur_pick.f s0_0 bt253.2.1 bt253.2.2 25).bind fun bt258 => (if bt258.1 = 0 then (if 0 < (bt253.1.length : Int) then (some ((bt253.1.set (0 : Int).toNat (⟨#[120]⟩ : ByteArray)), bt258.2.1, bt258.2.2)) else (none)) else (if bt258.1 = 1 then (if 0 < (bt253.1.length : Int) then (some ((bt253.1.set (0 : Int).toNat (⟨#[]⟩ : ByteArray)), bt258.2.1, bt258.2.2)) else (none)) else (if bt258.1 = 2 then (if 0 < (bt253.1.length : Int) then (some ((bt253.1.set (0 : Int).toNat (⟨#[97, 10, 98, 10]⟩ : ByteArray)), bt258.2.1, bt258.2.2)) else (none)) else (some (bt253.1, bt258.2.1, bt258.2.2)))))) else (some (bt253.1, bt253.2.1, bt253.2.2)))) = some (r1, r2, r3) := h
 clear h
 replace H := Option.bind_eq_some_iff.mp H
 obtain ⟨⟨t253, t256, t257⟩, A20, H⟩ := H
 replace H : (if (t253.length : Int) > 1 then ((spec_l1Cur_pick.f s0_0 t256 t257 25).bind fun bt258 => (if bt258.1 = 0 then (if 0 < (t253.length : Int) then (some ((t253.set (0 : Int).toNat (⟨#[120]⟩ : ByteArray)), bt258.2.1, bt258.2.2)) else (none)) else (if bt258.1 = 1 then (if 0 < (t253.length : Int) then (some ((t253.set (0 : Int).toNat (⟨#[]⟩ : ByteArray)), bt258.2.1, bt258.2.2)) else (none)) else (if bt258.1 = 2 then (if 0 < (t253.length : Int) then (some ((t253.set (0 : Int).toNat (⟨#[97, 10, 98, 10]⟩ : ByteArray)), bt258.2.1, bt258.2.2)) else (none)) else (some (t253, bt258.2.1, bt258.2.2)))))) else (some (t253, t256, t257))) = some (r1, r2, r3) := H
 have A2 := am A20
 clear A20
 by_cases c3 : (t253.length : Int) > 1
 ·rw [if_pos c3] at H
  have c3b0 : decide (1 < (t253.length : Int)) = true := decide_eq_true c3
  have c3b1 : decide (1 < t253.length) = true := decide_eq_true (by omega)
  clear c3
  replace H := Option.bind_eq_some_iff.mp H
  obtain ⟨⟨t258, t259, t260⟩, A40, H⟩ := H
  replace H : (if t258 = 0 then (if 0 < (t253.length : Int) then (some ((t253.set (0 : Int).toNat (⟨#[120]⟩ : ByteArray)), t259, t260)) else (none)) else (if t258 = 1 then (if 0 < (t253.length : Int) then (some ((t253.set (0 : Int).toNat (⟨#[]⟩ : ByteArray)), t259, t260)) else (none)) else (if t258 = 2 then (if 0 < (t253.length : Int) then (some ((t253.set (0 : Int).toNat (⟨#[97, 10, 98, 10]⟩ : ByteArray)), t259, t260)) else (none)) else (some (t253, t259, t260))))) = some (r1, r2, r3) := H
  have A4 := am A40
  clear A40
  by_cases c5 : t258 = 0
  ·rw [if_pos c5] at H
   have c5b0 : (t258 == 0) = true := beq_iff_eq.mpr c5
   have c5b1 : (t258 != 0) = false := bne_eq_false_iff_eq.mpr c5
   clear c5
   by_cases c6 : 0 < (t253.length : Int)
   ·rw [if_pos c6] at H
    have c6b0 : decide (0 < (t253.length : Int)) = true := decide_eq_true c6
    have c6b1 : decide (0 < t253.length) = true := decide_eq_true (by omega)
    clear c6
    obtain ⟨y261, hy261⟩ : ∃ y_ : List ByteArray, y_ = (t253.set (0 : Int).toNat (⟨#[120]⟩ : ByteArray)) := ⟨_, rfl⟩
    replace H : (some (y261, t259, t260)) = some (r1, r2, r3) := by first | (rw [hy261]; with_reducible exact H) | (have H2_ := (Option.bind_some _ _).symm.trans H; rw [hy261]; with_reducible exact H2_) | (have H2_ := (Option.bind_some _ _).symm.trans H; with_reducible exact H2_) | with_reducible exact H | (rw [hy261]; exact H) | exact H
    have Ny261 := am hy261
    clear hy261
    simp only [Option.some.injEq, Prod.mk.injEq] at H
    obtain ⟨rfl, rfl, rfl⟩ := H
    go_enter Tryd.func41, Tryd.ntmps41
    go_wp2_with (first | ((with_reducible refine gateC (f := 37) rfl ?_); refine goesL_ (some 5) rfl rfl Tryd.func37 (by kernel_rfl) rfl #[.pointer (some ⟨g, 0, none⟩)] rfl zm ?_; (with_reducible refine (spec_l1Cur_text.calls k g s0_0 s0_1 s0_2 t253 t256 t257 w0 _ ?side1 ?side2 A2.out).mono ?_); (case side1 => exact zi); (case side2 => exact zj); rintro e w8 ⟨v254, rfl, ho0, hi, hb, hk⟩; refine ⟨_, rfl, ?_⟩; have n0_ := am (Kd.R_lower ho0 (keep_size (w := w) (g := g) (row := none) zh)); have n1_ := am (KeepBut.trans zh hk (.inl rfl)); have n2_ := am (hb); have n3_ := am (hi); clear HK; clear HB; clear HI0; have HO255 := n0_; have HK := n1_; have HB := n2_; have HI0 := n3_; clear n0_ n1_ n2_ n3_; (try clear hb); (try clear hk); (try clear hi); (try clear ho0); obtain ⟨Ao9, co9, eo9⟩ := Kd.R_slice HO255.out; subst eo9) | ((with_reducible refine gateC (f := 38) rfl ?_); refine goesL_ (some 10) rfl rfl Tryd.func38 (by kernel_rfl) rfl #[.pointer (some ⟨g, 0, none⟩), .int .i64 25] rfl zm ?_; (with_reducible refine (spec_l1Cur_pick.calls g s0_0 t256 t257 25 t258 t259 t260 w0 _ ?side1 ?side2 A4.out).mono ?_); (case side1 => exact zi); (case side2 => exact zj); rintro e w10 ⟨rfl, hi, hb, hk⟩; refine ⟨_, rfl, ?_⟩; have n0_ := am (Kd.R_mono (Kd.R_keep (IsS50.apart (show IsS50 w0 _ g s0_0 t256 t257 from zi) (zr HO255.out) (by decide)) hk (fun _ h => h.2)) (fun _ h => h.1)); have n1_ := am (KeepBut.trans zh hk (.inl rfl)); have n2_ := am (hb); have n3_ := am (hi); clear HO255; clear HK; clear HB; clear HI0; have HO255 := n0_; have HK := n1_; have HB := n2_; have HI0 := n3_; clear n0_ n1_ n2_ n3_; (try clear hb); (try clear hk); (try clear hi); have p7 : 0 ≤ (0 : Int) := (by omega); have q7 : (0 : Int) < ((t253.length : Int) : Int) := oa; have qi7 : (0 < t253.length) = True := eq_true (by omega); obtain ⟨go7, co7, eo7, gb7, gl7, cl7, HG7⟩ := Kd.R_form HO255.out (by omega); (first | cases eo7 | (injection eo7 with ea_ en_ ec_; (first | subst ea_ | (injection ea_ with ea_; subst ea_)); subst ec_; clear en_)); have GB7 := am gb7; have GG7 := am HG7; clear gb7 gl7 HG7; obtain ⟨hx7_0, hf7_0⟩ := Kd.R_celln (⟨#[]⟩ : ByteArray) HO255.out (0 : Int) p7 q7; (try rw [show ((0 : Int)).toNat = 0 from rfl] at hx7_0); (try simp only [Nat.reduceMul, Nat.zero_mul, Nat.zero_add, Nat.reduceAdd] at hx7_0); (try rw [show ((0 : Int)).toNat = 0 from rfl] at hf7_0); (try simp only [Nat.reduceMul, Nat.zero_mul, Nat.zero_add, Nat.reduceAdd] at hf7_0); replace p7 := eq_true p7; replace q7 := eq_true q7; obtain ⟨hy11_, hz11_⟩ := Kd.R_celln (⟨#[]⟩ : ByteArray) HO255.out (0 : Int) (by omega) oa; (try simp only [Int.reduceToNat, Int.toNat_zero, Int.toNat_ofNat, Nat.reduceMul, Nat.zero_mul, Nat.zero_add] at hy11_ hz11_); (try rw [show ((0 : Int)).toNat = 0 from rfl] at hy11_); (try rw [show ((0 : Int)).toNat = 0 from rfl] at hz11_); have HP11 := Kd.R_putg HO255.out (0 : Int) (⟨#[120]⟩ : ByteArray)) | ((with_reducible refine gate_store (t := 9) (p := 14) rfl ?_); refine store_event (t := 9) (p := 14) (v := ?vo_w12) (w1 := (w10.setCell ⟨go7, (0 : Int).toNat, none⟩ (.string (⟨#[120]⟩ : ByteArray)))) ?hg ?ho ?hn ?hr ?_; (case ho => rfl); (case hg => rfl); (case hn => rfl); (case hr => first | (go_simp; done) | (go_simp; rfl)); intro w12 hw; have hg : w10.grownBy w12 (some go7) := (by rw [hw]; exact HP11.2); have hp_ : Kd.R Kd.string 9 w12 w.heap.size (fun _ => True) (.slice (some ⟨go7, 0, none⟩) t253.length co9) y261 := (by rw [hw, Ny261.out]; exact HP11.1); clear HP11; have n0_ := am (IsS50.grown zi hg (IsS50.own_ne HI0.out HO255.out (by decide))); have n1_ := am (hp_); have n2_ := am ((by rw [hw]; exact below_set (HB.out) (Nat.le_trans HL.out GB7.out) : Below w0.heap.size w0 w12)); have n3_ := am (KeepBut.trans zh (KeepBut.of_grown hg g) (Kd.R_base2 HO255.out)); clear HI0; clear HO255; clear HB; clear HK; have HI0 := n0_; have HO255 := n1_; have HB := n2_; have HK := n3_; clear n0_ n1_ n2_ n3_; clear hg hw hp_))
    go_ret
    exact ⟨_, by first | rfl | (simp [errW_none, errW_some] <;> rfl) | (simp [*, errW_none, errW_some] <;> rfl), by (with_reducible repeat (first | apply Kd.R_alloc | apply Kd.R_drewN | apply Kd.R_drew)); exact HO255.out, zi, zj, zh⟩
   ·rw [if_neg c6] at H
    exact absurd H (by simp)
  ·rw [if_neg c5] at H
   have c5b0 : (t258 == 0) = false := beq_eq_false_iff_ne.mpr c5
   have c5b1 : (t258 != 0) = true := bne_iff_ne.mpr c5
   by_cases c13 : t258 = 1
   ·rw [if_pos c13] at H
    have c13b0 : (t258 == 1) = true := beq_iff_eq.mpr c13
    have c13b1 : (t258 != 1) = false := bne_eq_false_iff_eq.mpr c13
    clear c13
    by_cases c14 : 0 < (t253.length : Int)
    ·rw [if_pos c14] at H
     have c14b0 : decide (0 < (t253.length : Int)) = true := decide_eq_true c14
     have c14b1 : decide (0 < t253.length) = true := decide_eq_true (by omega)
     clear c14
     obtain ⟨y262, hy262⟩ : ∃ y_ : List ByteArray, y_ = (t253.set (0 : Int).toNat (⟨#[]⟩ : ByteArray)) := ⟨_, rfl⟩
     replace H : (some (y262, t259, t260)) = some (r1, r2, r3) := by first | (rw [hy262]; with_reducible exact H) | (have H2_ := (Option.bind_some _ _).symm.trans H; rw [hy262]; with_reducible exact H2_) | (have H2_ := (Option.bind_some _ _).symm.trans H; with_reducible exact H2_) | with_reducible exact H | (rw [hy262]; exact H) | exact H
     have Ny262 := am hy262
     clear hy262
     simp only [Option.some.injEq, Prod.mk.injEq] at H
     obtain ⟨rfl, rfl, rfl⟩ := H
     go_enter Tryd.func41, Tryd.ntmps41
     go_wp2_with (first | ((with_reducible refine gateC (f := 37) rfl ?_); refine goesL_ (some 5) rfl rfl Tryd.func37 (by kernel_rfl) rfl #[.pointer (some ⟨g, 0, none⟩)] rfl zm ?_; (with_reducible refine (spec_l1Cur_text.calls k g s0_0 s0_1 s0_2 t253 t256 t257 w0 _ ?side1 ?side2 A2.out).mono ?_); (case side1 => exact zi); (case side2 => exact zj); rintro e w16 ⟨v254, rfl, ho0, hi, hb, hk⟩; refine ⟨_, rfl, ?_⟩; have n0_ := am (Kd.R_lower ho0 (keep_size (w := w) (g := g) (row := none) zh)); have n1_ := am (KeepBut.trans zh hk (.inl rfl)); have n2_ := am (hb); have n3_ := am (hi); clear HK; clear HB; clear HI0; have HO255 := n0_; have HK := n1_; have HB := n2_; have HI0 := n3_; clear n0_ n1_ n2_ n3_; (try clear hb); (try clear hk); (try clear hi); (try clear ho0); obtain ⟨Ao17, co17, eo17⟩ := Kd.R_slice HO255.out; subst eo17) | ((with_reducible refine gateC (f := 38) rfl ?_); refine goesL_ (some 10) rfl rfl Tryd.func38 (by kernel_rfl) rfl #[.pointer (some ⟨g, 0, none⟩), .int .i64 25] rfl zm ?_; (with_reducible refine (spec_l1Cur_pick.calls g s0_0 t256 t257 25 t258 t259 t260 w0 _ ?side1 ?side2 A4.out).mono ?_); (case side1 => exact zi); (case side2 => exact zj); rintro e w18 ⟨rfl, hi, hb, hk⟩; refine ⟨_, rfl, ?_⟩; have n0_ := am (Kd.R_mono (Kd.R_keep (IsS50.apart (show IsS50 w0 _ g s0_0 t256 t257 from zi) (zr HO255.out) (by decide)) hk (fun _ h => h.2)) (fun _ h => h.1)); have n1_ := am (KeepBut.trans zh hk (.inl rfl)); have n2_ := am (hb); have n3_ := am (hi); clear HO255; clear HK; clear HB; clear HI0; have HO255 := n0_; have HK := n1_; have HB := n2_; have HI0 := n3_; clear n0_ n1_ n2_ n3_; (try clear hb); (try clear hk); (try clear hi); have p15 : 0 ≤ (0 : Int) := (by omega); have q15 : (0 : Int) < ((t253.length : Int) : Int) := oa; have qi15 : (0 < t253.length) = True := eq_true (by omega); obtain ⟨go15, co15, eo15, gb15, gl15, cl15, HG15⟩ := Kd.R_form HO255.out (by omega); (first | cases eo15 | (injection eo15 with ea_ en_ ec_; (first | subst ea_ | (injection ea_ with ea_; subst ea_)); subst ec_; clear en_)); have GB15 := am gb15; have GG15 := am HG15; clear gb15 gl15 HG15; obtain ⟨hx15_0, hf15_0⟩ := Kd.R_celln (⟨#[]⟩ : ByteArray) HO255.out (0 : Int) p15 q15; (try rw [show ((0 : Int)).toNat = 0 from rfl] at hx15_0); (try simp only [Nat.reduceMul, Nat.zero_mul, Nat.zero_add, Nat.reduceAdd] at hx15_0); (try rw [show ((0 : Int)).toNat = 0 from rfl] at hf15_0); (try simp only [Nat.reduceMul, Nat.zero_mul, Nat.zero_add, Nat.reduceAdd] at hf15_0); replace p15 := eq_true p15; replace q15 := eq_true q15; obtain ⟨hy19_, hz19_⟩ := Kd.R_celln (⟨#[]⟩ : ByteArray) HO255.out (0 : Int) (by omega) oa; (try simp only [Int.reduceToNat, Int.toNat_zero, Int.toNat_ofNat, Nat.reduceMul, Nat.zero_mul, Nat.zero_add] at hy19_ hz19_); (try rw [show ((0 : Int)).toNat = 0 from rfl] at hy19_); (try rw [show ((0 : Int)).toNat = 0 from rfl] at hz19_); have HP19 := Kd.R_putg HO255.out (0 : Int) (⟨#[]⟩ : ByteArray)) | ((with_reducible refine gate_store (t := 9) (p := 18) rfl ?_); refine store_event (t := 9) (p := 18) (v := ?vo_w20) (w1 := (w18.setCell ⟨go15, (0 : Int).toNat, none⟩ (.string (⟨#[]⟩ : ByteArray)))) ?hg ?ho ?hn ?hr ?_; (case ho => rfl); (case hg => rfl); (case hn => rfl); (case hr => first | (go_simp; done) | (go_simp; rfl)); intro w20 hw; have hg : w18.grownBy w20 (some go15) := (by rw [hw]; exact HP19.2); have hp_ : Kd.R Kd.string 9 w20 w.heap.size (fun _ => True) (.slice (some ⟨go15, 0, none⟩) t253.length co17) y262 := (by rw [hw, Ny262.out]; exact HP19.1); clear HP19; have n0_ := am (IsS50.grown zi hg (IsS50.own_ne HI0.out HO255.out (by decide))); have n1_ := am (hp_); have n2_ := am ((by rw [hw]; exact below_set (HB.out) (Nat.le_trans HL.out GB15.out) : Below w0.heap.size w0 w20)); have n3_ := am (KeepBut.trans zh (KeepBut.of_grown hg g) (Kd.R_base2 HO255.out)); clear HI0; clear HO255; clear HB; clear HK; have HI0 := n0_; have HO255 := n1_; have HB := n2_; have HK := n3_; clear n0_ n1_ n2_ n3_; clear hg hw hp_))
     go_ret
     exact ⟨_, by first | rfl | (simp [errW_none, errW_some] <;> rfl) | (simp [*, errW_none, errW_some] <;> rfl), by (with_reducible repeat (first | apply Kd.R_alloc | apply Kd.R_drewN | apply Kd.R_drew)); exact HO255.out, zi, zj, zh⟩
    ·rw [if_neg c14] at H
     exact absurd H (by simp)
   ·rw [if_neg c13] at H
    have c13b0 : (t258 == 1) = false := beq_eq_false_iff_ne.mpr c13
    have c13b1 : (t258 != 1) = true := bne_iff_ne.mpr c13
    by_cases c21 : t258 = 2
    ·rw [if_pos c21] at H
     have c21b0 : (t258 == 2) = true := beq_iff_eq.mpr c21
     have c21b1 : (t258 != 2) = false := bne_eq_false_iff_eq.mpr c21
     clear c21
     by_cases c22 : 0 < (t253.length : Int)
     ·rw [if_pos c22] at H
      have c22b0 : decide (0 < (t253.length : Int)) = true := decide_eq_true c22
      have c22b1 : decide (0 < t253.length) = true := decide_eq_true (by omega)
      clear c22
      obtain ⟨y263, hy263⟩ : ∃ y_ : List ByteArray, y_ = (t253.set (0 : Int).toNat (⟨#[97, 10, 98, 10]⟩ : ByteArray)) := ⟨_, rfl⟩
      replace H : (some (y263, t259, t260)) = some (r1, r2, r3) := by first | (rw [hy263]; with_reducible exact H) | (have H2_ := (Option.bind_some _ _).symm.trans H; rw [hy263]; with_reducible exact H2_) | (have H2_ := (Option.bind_some _ _).symm.trans H; with_reducible exact H2_) | with_reducible exact H | (rw [hy263]; exact H) | exact H
      have Ny263 := am hy263
      clear hy263
      simp only [Option.some.injEq, Prod.mk.injEq] at H
      obtain ⟨rfl, rfl, rfl⟩ := H
      go_enter Tryd.func41, Tryd.ntmps41
      go_wp2_with (first | ((with_reducible refine gateC (f := 37) rfl ?_); refine goesL_ (some 5) rfl rfl Tryd.func37 (by kernel_rfl) rfl #[.pointer (some ⟨g, 0, none⟩)] rfl zm ?_; (with_reducible refine (spec_l1Cur_text.calls k g s0_0 s0_1 s0_2 t253 t256 t257 w0 _ ?side1 ?side2 A2.out).mono ?_); (case side1 => exact zi); (case side2 => exact zj); rintro e w24 ⟨v254, rfl, ho0, hi, hb, hk⟩; refine ⟨_, rfl, ?_⟩; have n0_ := am (Kd.R_lower ho0 (keep_size (w := w) (g := g) (row := none) zh)); have n1_ := am (KeepBut.trans zh hk (.inl rfl)); have n2_ := am (hb); have n3_ := am (hi); clear HK; clear HB; clear HI0; have HO255 := n0_; have HK := n1_; have HB := n2_; have HI0 := n3_; clear n0_ n1_ n2_ n3_; (try clear hb); (try clear hk); (try clear hi); (try clear ho0); obtain ⟨Ao25, co25, eo25⟩ := Kd.R_slice HO255.out; subst eo25) | ((with_reducible refine gateC (f := 38) rfl ?_); refine goesL_ (some 10) rfl rfl Tryd.func38 (by kernel_rfl) rfl #[.pointer (some ⟨g, 0, none⟩), .int .i64 25] rfl zm ?_; (with_reducible refine (spec_l1Cur_pick.calls g s0_0 t256 t257 25 t258 t259 t260 w0 _ ?side1 ?side2 A4.out).mono ?_); (case side1 => exact zi); (case side2 => exact zj); rintro e w26 ⟨rfl, hi, hb, hk⟩; refine ⟨_, rfl, ?_⟩; have n0_ := am (Kd.R_mono (Kd.R_keep (IsS50.apart (show IsS50 w0 _ g s0_0 t256 t257 from zi) (zr HO255.out) (by decide)) hk (fun _ h => h.2)) (fun _ h => h.1)); have n1_ := am (KeepBut.trans zh hk (.inl rfl)); have n2_ := am (hb); have n3_ := am (hi); clear HO255; clear HK; clear HB; clear HI0; have HO255 := n0_; have HK := n1_; have HB := n2_; have HI0 := n3_; clear n0_ n1_ n2_ n3_; (try clear hb); (try clear hk); (try clear hi); have p23 : 0 ≤ (0 : Int) := (by omega); have q23 : (0 : Int) < ((t253.length : Int) : Int) := oa; have qi23 : (0 < t253.length) = True := eq_true (by omega); obtain ⟨go23, co23, eo23, gb23, gl23, cl23, HG23⟩ := Kd.R_form HO255.out (by omega); (first | cases eo23 | (injection eo23 with ea_ en_ ec_; (first | subst ea_ | (injection ea_ with ea_; subst ea_)); subst ec_; clear en_)); have GB23 := am gb23; have GG23 := am HG23; clear gb23 gl23 HG23; obtain ⟨hx23_0, hf23_0⟩ := Kd.R_celln (⟨#[]⟩ : ByteArray) HO255.out (0 : Int) p23 q23; (try rw [show ((0 : Int)).toNat = 0 from rfl] at hx23_0); (try simp only [Nat.reduceMul, Nat.zero_mul, Nat.zero_add, Nat.reduceAdd] at hx23_0); (try rw [show ((0 : Int)).toNat = 0 from rfl] at hf23_0); (try simp only [Nat.reduceMul, Nat.zero_mul, Nat.zero_add, Nat.reduceAdd] at hf23_0); replace p23 := eq_true p23; replace q23 := eq_true q23; obtain ⟨hy27_, hz27_⟩ := Kd.R_celln (⟨#[]⟩ : ByteArray) HO255.out (0 : Int) (by omega) oa; (try simp only [Int.reduceToNat, Int.toNat_zero, Int.toNat_ofNat, Nat.reduceMul, Nat.zero_mul, Nat.zero_add] at hy27_ hz27_); (try rw [show ((0 : Int)).toNat = 0 from rfl] at hy27_); (try rw [show ((0 : Int)).toNat = 0 from rfl] at hz27_); have HP27 := Kd.R_putg HO255.out (0 : Int) (⟨#[97, 10, 98, 10]⟩ : ByteArray)) | ((with_reducible refine gate_store (t := 9) (p := 22) rfl ?_); refine store_event (t := 9) (p := 22) (v := ?vo_w28) (w1 := (w26.setCell ⟨go23, (0 : Int).toNat, none⟩ (.string (⟨#[97, 10, 98, 10]⟩ : ByteArray)))) ?hg ?ho ?hn ?hr ?_; (case ho => rfl); (case hg => rfl); (case hn => rfl); (case hr => first | (go_simp; done) | (go_simp; rfl)); intro w28 hw; have hg : w26.grownBy w28 (some go23) := (by rw [hw]; exact HP27.2); have hp_ : Kd.R Kd.string 9 w28 w.heap.size (fun _ => True) (.slice (some ⟨go23, 0, none⟩) t253.length co25) y263 := (by rw [hw, Ny263.out]; exact HP27.1); clear HP27; have n0_ := am (IsS50.grown zi hg (IsS50.own_ne HI0.out HO255.out (by decide))); have n1_ := am (hp_); have n2_ := am ((by rw [hw]; exact below_set (HB.out) (Nat.le_trans HL.out GB23.out) : Below w0.heap.size w0 w28)); have n3_ := am (KeepBut.trans zh (KeepBut.of_grown hg g) (Kd.R_base2 HO255.out)); clear HI0; clear HO255; clear HB; clear HK; have HI0 := n0_; have HO255 := n1_; have HB := n2_; have HK := n3_; clear n0_ n1_ n2_ n3_; clear hg hw hp_))
      go_ret
      exact ⟨_, by first | rfl | (simp [errW_none, errW_some] <;> rfl) | (simp [*, errW_none, errW_some] <;> rfl), by (with_reducible repeat (first | apply Kd.R_alloc | apply Kd.R_drewN | apply Kd.R_drew)); exact HO255.out, zi, zj, zh⟩
     ·rw [if_neg c22] at H
      exact absurd H (by simp)
    ·rw [if_neg c21] at H
     have c21b0 : (t258 == 2) = false := beq_eq_false_iff_ne.mpr c21
     have c21b1 : (t258 != 2) = true := bne_iff_ne.mpr c21
     simp only [Option.some.injEq, Prod.mk.injEq] at H
     obtain ⟨rfl, rfl, rfl⟩ := H
     go_enter Tryd.func41, Tryd.ntmps41
     go_wp2_with (first | ((with_reducible refine gateC (f := 37) rfl ?_); refine goesL_ (some 5) rfl rfl Tryd.func37 (by kernel_rfl) rfl #[.pointer (some ⟨g, 0, none⟩)] rfl zm ?_; (with_reducible refine (spec_l1Cur_text.calls k g s0_0 s0_1 s0_2 t253 t256 t257 w0 _ ?side1 ?side2 A2.out).mono ?_); (case side1 => exact zi); (case side2 => exact zj); rintro e w29 ⟨v254, rfl, ho0, hi, hb, hk⟩; refine ⟨_, rfl, ?_⟩; have n0_ := am (Kd.R_lower ho0 (keep_size (w := w) (g := g) (row := none) zh)); have n1_ := am (KeepBut.trans zh hk (.inl rfl)); have n2_ := am (hb); have n3_ := am (hi); clear HK; clear HB; clear HI0; have HO255 := n0_; have HK := n1_; have HB := n2_; have HI0 := n3_; clear n0_ n1_ n2_ n3_; (try clear hb); (try clear hk); (try clear hi); (try clear ho0); obtain ⟨Ao30, co30, eo30⟩ := Kd.R_slice HO255.out; subst eo30) | ((with_reducible refine gateC (f := 38) rfl ?_); refine goesL_ (some 10) rfl rfl Tryd.func38 (by kernel_rfl) rfl #[.pointer (some ⟨g, 0, none⟩), .int .i64 25] rfl zm ?_; (with_reducible refine (spec_l1Cur_pick.calls g s0_0 t256 t257 25 t258 t259 t260 w0 _ ?side1 ?side2 A4.out).mono ?_); (case side1 => exact zi); (case side2 => exact zj); rintro e w31 ⟨rfl, hi, hb, hk⟩; refine ⟨_, rfl, ?_⟩; have n0_ := am (Kd.R_mono (Kd.R_keep (IsS50.apart (show IsS50 w0 _ g s0_0 t256 t257 from zi) (zr HO255.out) (by decide)) hk (fun _ h => h.2)) (fun _ h => h.1)); have n1_ := am (KeepBut.trans zh hk (.inl rfl)); have n2_ := am (hb); have n3_ := am (hi); clear HO255; clear HK; clear HB; clear HI0; have HO255 := n0_; have HK := n1_; have HB := n2_; have HI0 := n3_; clear n0_ n1_ n2_ n3_; (try clear hb); (try clear hk); (try clear hi)))
     go_ret
     exact ⟨_, by first | rfl | (simp [errW_none, errW_some] <;> rfl) | (simp [*, errW_none, errW_some] <;> rfl), by (with_reducible repeat (first | apply Kd.R_alloc | apply Kd.R_drewN | apply Kd.R_drew)); exact HO255.out, zi, zj, zh⟩
 ·rw [if_neg c3] at H
  have c3b0 : decide (1 < (t253.length : Int)) = false := decide_eq_false c3
  have c3b1 : decide (1 < t253.length) = false := decide_eq_false (by omega)
  clear c3
  simp only [Option.some.injEq, Prod.mk.injEq] at H
  obtain ⟨rfl, rfl, rfl⟩ := H
  go_enter Tryd.func41, Tryd.ntmps41
  go_wp2_with (first | ((with_reducible refine gateC (f := 37) rfl ?_); refine goesL_ (some 5) rfl rfl Tryd.func37 (by kernel_rfl) rfl #[.pointer (some ⟨g, 0, none⟩)] rfl zm ?_; (with_reducible refine (spec_l1Cur_text.calls k g s0_0 s0_1 s0_2 t253 t256 t257 w0 _ ?side1 ?side2 A2.out).mono ?_); (case side1 => exact zi); (case side2 => exact zj); rintro e w32 ⟨v254, rfl, ho0, hi, hb, hk⟩; refine ⟨_, rfl, ?_⟩; have n0_ := am (Kd.R_lower ho0 (keep_size (w := w) (g := g) (row := none) zh)); have n1_ := am (KeepBut.trans zh hk (.inl rfl)); have n2_ := am (hb); have n3_ := am (hi); clear HK; clear HB; clear HI0; have HO255 := n0_; have HK := n1_; have HB := n2_; have HI0 := n3_; clear n0_ n1_ n2_ n3_; (try clear hb); (try clear hk); (try clear hi); (try clear ho0); obtain ⟨Ao33, co33, eo33⟩ := Kd.R_slice HO255.out; subst eo33))
  go_ret
  exact ⟨_, by first | rfl | (simp [errW_none, errW_some] <;> rfl) | (simp [*, errW_none, errW_some] <;> rfl), by (with_reducible repeat (first | apply Kd.R_alloc | apply Kd.R_drewN | apply Kd.R_drew)); exact HO255.out, zi, zj, zh⟩
end Go.Proofs.YtmcldkobejhaeaaDoor.My
/- Written by this session's program (wip/gen): a plain function with the same answers as the Go function, and the proof that the Go code comes to them. Asked: that the plain function has an answer. -/
namespace Go.Proofs.YtmcldkobejhaeaaDoor.My
open Go.RowKit Go.Proofs.YtmcldkobejhaeaaDoorW.PrintWords Go.Proofs.YtmcldkobejhaeaaDoorW.PrintLast Go.Proofs.YtmcldkobejhaeaaDoorW.PrintMore
attribute [local go_sem] max2_int min2_int max_two min_two max_three min_three max_four min_four
set_option linter.unusedVariables false
set_option linter.unusedSimpArgs false
def spec_DrawPartOf.g (k : Nat) (s0_0 : List Int) (s0_1 : Int) (s0_2 : Int) : Option (List ByteArray × Int × Int × Int × Int) := (spec_l1Cur_anyText.f k s0_0 s0_1 s0_2).bind fun bt417 => ((spec_l1Cur_pick.f s0_0 bt417.2.1 bt417.2.2 (wrap64 ((bt417.1.length : Int) + 1))).bind fun bt422 => ((spec_l1Cur_pick.f s0_0 bt422.2.1 bt422.2.2 20).bind fun bt425 => ((spec_l1Cur_pick.f s0_0 bt425.2.1 bt425.2.2 4).bind fun bt428 => ((spec_l1Cur_pick.f s0_0 bt428.2.1 bt428.2.2 20).bind fun bt431 => (some (bt417.1, wrap64 (bt422.1 - (wrap64 (Int.tdiv bt425.1 19))), wrap64 ((wrap64 ((wrap64 (bt422.1 - (wrap64 (Int.tdiv bt425.1 19)))) + bt428.1)) - (wrap64 (Int.tdiv bt431.1 19))), bt431.2.1, bt431.2.2))))))
def spec_DrawPartOf.f (k : Nat) (l0 : List Int) : Option (List ByteArray × Int × Int) := (spec_DrawPartOf.g k l0 0 0).bind fun r => some (r.1, r.2.1, r.2.2.1)
set_option maxHeartbeats 8000000 in
set_option maxRecDepth 100000 in
theorem spec_DrawPartOf.made (k : Nat) (A0 : Option Addr) (c0 : Nat) (l0 : List Int) (r1 : List ByteArray) (r2 : Int) (r3 : Int) (r4 : Int) (r5 : Int) (w0 : World) (hr0 : Kd.C (Kd.int .u8) w0 A0 l0.length l0) (h : spec_DrawPartOf.g k l0 0 0 = some (r1, r2, r3, r4, r5)) :
  Calls Tryd.prog 25 #[.slice A0 l0.length c0] w0 fun e w' => ∃ (g : Nat) (w : World), w0.heap.size ≤ w.heap.size ∧ ∃ v0_ : Value, e = .returned (.tuple #[v0_, .int .i64 r2, .int .i64 r3]) ∧ Kd.R Kd.string 9 w' w.heap.size (fun _ => True) v0_ r1 ∧ IsS50 w0 w' g l0 r4 r5 ∧ Below w0.heap.size w0 w' ∧ KeepBut w w' g none := by
 have HR0 := am hr0
 clear hr0
 have HB := am (Below.refl w0.heap.size w0)
 have H : ((spec_l1Cur_anyText.f k l0 0 0).bind fun bt417 => ((spec_l1Cur_pick.f l0 bt417.2.1 bt417.2.2 (wrap64 ((bt417.1.length : Int) + 1))).bind fun bt422 => ((spec_l1Cur_pick.f l0 bt422.2.1 bt422.2.2 20).bind fun bt425 => ((spec_l1Cur_pick.f l0 bt425.2.1 bt425.2.2 4).bind fun bt428 => ((spec_l1Cur_pick.f l0 bt428.2.1 bt428.2.2 20).bind fun bt431 => (some (bt417.1, wrap64 (bt422.1 - (wrap64 (Int.tdiv bt425.1 19))), wrap64 ((wrap64 ((wrap64 (bt422.1 - (wrap64 (Int.tdiv bt425.1 19)))) + bt428.1)) - (wrap64 (Int.tdiv bt431.1 19))), bt431.2.1, bt431.2.2))))))) = some (r1, r2, r3, r4, r5) := h
 clear h
 replace H := Option.bind_eq_some_iff.mp H
 obtain ⟨⟨t417, t420, t421⟩, A20, H⟩ := H
 replace H : ((spec_l1Cur_pick.f l0 t420 t421 (wrap64 ((t417.length : Int) + 1))).bind fun bt422 => ((spec_l1Cur_pick.f l0 bt422.2.1 bt422.2.2 20).bind fun bt425 => ((spec_l1Cur_pick.f l0 bt425.2.1 bt425.2.2 4).bind fun bt428 => ((spec_l1Cur_pick.f l0 bt428.2.1 bt428.2.2 20).bind fun bt431 => (some (t417, wrap64 (bt422.1 - (wrap64 (Int.tdiv bt425.1 19))), wrap64 ((wrap64 ((wrap64 (bt422.1 - (wrap64 (Int.tdiv bt425.1 19)))) + bt428.1)) - (wrap64 (Int.tdiv bt431.1 19))), bt431.2.1, bt431.2.2)))))) = some (r1, r2, r3, r4, r5) := H
 have A2 := am A20
 clear A20
 replace H := Option.bind_eq_some_iff.mp H
 obtain ⟨⟨t422, t423, t424⟩, A30, H⟩ := H
 replace H : ((spec_l1Cur_pick.f l0 t423 t424 20).bind fun bt425 => ((spec_l1Cur_pick.f l0 bt425.2.1 bt425.2.2 4).bind fun bt428 => ((spec_l1Cur_pick.f l0 bt428.2.1 bt428.2.2 20).bind fun bt431 => (some (t417, wrap64 (t422 - (wrap64 (Int.tdiv bt425.1 19))), wrap64 ((wrap64 ((wrap64 (t422 - (wrap64 (Int.tdiv bt425.1 19)))) + bt428.1)) - (wrap64 (Int.tdiv bt431.1 19))), bt431.2.1, bt431.2.2))))) = some (r1, r2, r3, r4, r5) := H
 have A3 := am A30
 clear A30
 replace H := Option.bind_eq_some_iff.mp H
 obtain ⟨⟨t425, t426, t427⟩, A40, H⟩ := H
 replace H : ((spec_l1Cur_pick.f l0 t426 t427 4).bind fun bt428 => ((spec_l1Cur_pick.f l0 bt428.2.1 bt428.2.2 20).bind fun bt431 => (some (t417, wrap64 (t422 - (wrap64 (Int.tdiv t425 19))), wrap64 ((wrap64 ((wrap64 (t422 - (wrap64 (Int.tdiv t425 19)))) + bt428.1)) - (wrap64 (Int.tdiv bt431.1 19))), bt431.2.1, bt431.2.2)))) = some (r1, r2, r3, r4, r5) := H
 have A4 := am A40
 clear A40
 replace H := Option.bind_eq_some_iff.mp H
 obtain ⟨⟨t428, t429, t430⟩, A50, H⟩ := H
 replace H : ((spec_l1Cur_pick.f l0 t429 t430 20).bind fun bt431 => (some (t417, wrap64 (t422 - (wrap64 (Int.tdiv t425 19))), wrap64 ((wrap64 ((wrap64 (t422 - (wrap64 (Int.tdiv t425 19)))) + t428)) - (wrap64 (Int.tdiv bt431.1 19))), bt431.2.1, bt431.2.2))) = some (r1, r2, r3, r4, r5) := H
 have A5 := am A50
 clear A50
 replace H := Option.bind_eq_some_iff.mp H
 obtain ⟨⟨t431, t432, t433⟩, A60, H⟩ := H
 replace H : (some (t417, wrap64 (t422 - (wrap64 (Int.tdiv t425 19))), wrap64 ((wrap64 ((wrap64 (t422 - (wrap64 (Int.tdiv t425 19)))) + t428)) - (wrap64 (Int.tdiv t431 19))), t432, t433)) = some (r1, r2, r3, r4, r5) := H
 have A6 := am A60
 clear A60
 simp only [Option.some.injEq, Prod.mk.injEq] at H
 obtain ⟨rfl, rfl, rfl, rfl, rfl⟩ := H
 go_enter Tryd.func25, Tryd.ntmps25
 go_wp2_with (first | ((with_reducible refine gate_dst (N := 10) rfl ?_); refine box_event ?hg (N := 10) ?hd (cs := #[.slice A0 l0.length c0, .int .i64 0, .int .u64 0]) (t := 50) ?hr ?_; (case hd => rfl); (case hg => rfl); (case hr => first | (go_simp; done) | (go_simp; rfl)); intro g hg w hbox hb; have n0_ := am (show IsS50 w0 w g l0 0 0 from ⟨A0, c0, hbox, (by rw [hg]; exact below_size zb), HR0.out⟩); have n1_ := am (below_step zb hb); clear HB HR0; have HI0 := n0_; have HB := n1_; have HK := am (KeepBut.refl w g none); have HL := am HB.out.size; have HW0 := am HB.out.size; clear n0_ n1_ hb hbox hg) | ((with_reducible refine gateC (f := 41) rfl ?_); refine goesL_ (some 12) rfl rfl Tryd.func41 (by kernel_rfl) rfl #[.pointer (some ⟨g, 0, none⟩)] rfl zm ?_; (with_reducible refine (spec_l1Cur_anyText.calls k g l0 0 0 t417 t420 t421 w0 _ ?side1 ?side2 A2.out).mono ?_); (case side1 => exact zi); (case side2 => exact zj); rintro e w7 ⟨v418, rfl, ho0, hi, hb, hk⟩; refine ⟨_, rfl, ?_⟩; have n0_ := am (Kd.R_lower ho0 (keep_size (w := w) (g := g) (row := none) zh)); have n1_ := am (KeepBut.trans zh hk (.inl rfl)); have n2_ := am (hb); have n3_ := am (hi); clear HK; clear HB; clear HI0; have HO419 := n0_; have HK := n1_; have HB := n2_; have HI0 := n3_; clear n0_ n1_ n2_ n3_; (try clear hb); (try clear hk); (try clear hi); (try clear ho0); obtain ⟨Ao8, co8, eo8⟩ := Kd.R_slice HO419.out; subst eo8) | ((with_reducible refine gateC (f := 38) rfl ?_); refine goesL_ (some 17) rfl rfl Tryd.func38 (by kernel_rfl) rfl #[.pointer (some ⟨g, 0, none⟩), .int .i64 (wrap64 ((t417.length : Int) + 1))] rfl zm ?_; (with_reducible refine (spec_l1Cur_pick.calls g l0 t420 t421 (wrap64 ((t417.length : Int) + 1)) t422 t423 t424 w0 _ ?side1 ?side2 A3.out).mono ?_); (case side1 => exact zi); (case side2 => exact zj); rintro e w9 ⟨rfl, hi, hb, hk⟩; refine ⟨_, rfl, ?_⟩; have n0_ := am (Kd.R_mono (Kd.R_keep (IsS50.apart (show IsS50 w0 _ g l0 t420 t421 from zi) (zr HO419.out) (by decide)) hk (fun _ h => h.2)) (fun _ h => h.1)); have n1_ := am (KeepBut.trans zh hk (.inl rfl)); have n2_ := am (hb); have n3_ := am (hi); clear HO419; clear HK; clear HB; clear HI0; have HO419 := n0_; have HK := n1_; have HB := n2_; have HI0 := n3_; clear n0_ n1_ n2_ n3_; (try clear hb); (try clear hk); (try clear hi)) | ((with_reducible refine gateC (f := 38) rfl ?_); refine goesL_ (some 19) rfl rfl Tryd.func38 (by kernel_rfl) rfl #[.pointer (some ⟨g, 0, none⟩), .int .i64 20] rfl zm ?_; (with_reducible refine (spec_l1Cur_pick.calls g l0 t423 t424 20 t425 t426 t427 w0 _ ?side1 ?side2 A4.out).mono ?_); (case side1 => exact zi); (case side2 => exact zj); rintro e w10 ⟨rfl, hi, hb, hk⟩; refine ⟨_, rfl, ?_⟩; have n0_ := am (Kd.R_mono (Kd.R_keep (IsS50.apart (show IsS50 w0 _ g l0 t423 t424 from zi) (zr HO419.out) (by decide)) hk (fun _ h => h.2)) (fun _ h => h.1)); have n1_ := am (KeepBut.trans zh hk (.inl rfl)); have n2_ := am (hb); have n3_ := am (hi); clear HO419; clear HK; clear HB; clear HI0; have HO419 := n0_; have HK := n1_; have HB := n2_; have HI0 := n3_; clear n0_ n1_ n2_ n3_; (try clear hb); (try clear hk); (try clear hi)) | ((with_reducible refine gateC (f := 38) rfl ?_); refine goesL_ (some 26) rfl rfl Tryd.func38 (by kernel_rfl) rfl #[.pointer (some ⟨g, 0, none⟩), .int .i64 4] rfl zm ?_; (with_reducible refine (spec_l1Cur_pick.calls g l0 t426 t427 4 t428 t429 t430 w0 _ ?side1 ?side2 A5.out).mono ?_); (case side1 => exact zi); (case side2 => exact zj); rintro e w11 ⟨rfl, hi, hb, hk⟩; refine ⟨_, rfl, ?_⟩; have n0_ := am (Kd.R_mono (Kd.R_keep (IsS50.apart (show IsS50 w0 _ g l0 t426 t427 from zi) (zr HO419.out) (by decide)) hk (fun _ h => h.2)) (fun _ h => h.1)); have n1_ := am (KeepBut.trans zh hk (.inl rfl)); have n2_ := am (hb); have n3_ := am (hi); clear HO419; clear HK; clear HB; clear HI0; have HO419 := n0_; have HK := n1_; have HB := n2_; have HI0 := n3_; clear n0_ n1_ n2_ n3_; (try clear hb); (try clear hk); (try clear hi)) | ((with_reducible refine gateC (f := 38) rfl ?_); refine goesL_ (some 29) rfl rfl Tryd.func38 (by kernel_rfl) rfl #[.pointer (some ⟨g, 0, none⟩), .int .i64 20] rfl zm ?_; (with_reducible refine (spec_l1Cur_pick.calls g l0 t429 t430 20 t431 t432 t433 w0 _ ?side1 ?side2 A6.out).mono ?_); (case side1 => exact zi); (case side2 => exact zj); rintro e w12 ⟨rfl, hi, hb, hk⟩; refine ⟨_, rfl, ?_⟩; have n0_ := am (Kd.R_mono (Kd.R_keep (IsS50.apart (show IsS50 w0 _ g l0 t429 t430 from zi) (zr HO419.out) (by decide)) hk (fun _ h => h.2)) (fun _ h => h.1)); have n1_ := am (KeepBut.trans zh hk (.inl rfl)); have n2_ := am (hb); have n3_ := am (hi); clear HO419; clear HK; clear HB; clear HI0; have HO419 := n0_; have HK := n1_; have HB := n2_; have HI0 := n3_; clear n0_ n1_ n2_ n3_; (try clear hb); (try clear hk); (try clear hi)))
 go_ret3
 exact ⟨g, w, HW0.out, _, by first | rfl | (simp [errW_none, errW_some] <;> rfl) | (simp [*, errW_none, errW_some] <;> rfl), by (with_reducible repeat (first | apply Kd.R_alloc | apply Kd.R_drewN | apply Kd.R_drew)); exact HO419.out, zi, zj, zh⟩
theorem spec_DrawPartOf.calls (k : Nat) (A0 : Option Addr) (c0 : Nat) (l0 : List Int) (r1 : List ByteArray) (r2 : Int) (r3 : Int) (w0 : World) (hr0 : Kd.C (Kd.int .u8) w0 A0 l0.length l0) (hc0 : l0.length ≤ c0) (h : spec_DrawPartOf.f k l0 = some (r1, r2, r3)) :
  Calls Tryd.prog 25 #[.slice A0 l0.length c0] w0 fun e w' => ∃ v0_ : Value, e = .returned (.tuple #[v0_, .int .i64 r2, .int .i64 r3]) ∧ Kd.R Kd.string 9 w' w0.heap.size (fun _ => True) v0_ r1 ∧ Below w0.heap.size w0 w' := by
  obtain ⟨q, hq, e⟩ := Option.bind_eq_some_iff.1 h
  obtain ⟨q0, q1, q2, q3, q4⟩ := q
  injection e with e
  simp only [Prod.mk.injEq] at e
  obtain ⟨rfl, rfl, rfl⟩ := e
  refine (spec_DrawPartOf.made k A0 c0 l0 _ _ _ _ _ w0 hr0 hq).mono ?_
  rintro e w' ⟨g, w, hw, v0_, h0, h1, _, hb, _⟩
  exact ⟨v0_, h0, Kd.R_lower h1 hw, hb⟩
end Go.Proofs.YtmcldkobejhaeaaDoor.My
/- Written by this session's program (wip/gen): a plain function with the same answers as the Go function, and the proof that the Go code comes to them. Asked: that the plain function has an answer. -/
namespace Go.Proofs.YtmcldkobejhaeaaDoor.My
open Go.RowKit Go.Proofs.YtmcldkobejhaeaaDoorW.PrintWords Go.Proofs.YtmcldkobejhaeaaDoorW.PrintLast Go.Proofs.YtmcldkobejhaeaaDoorW.PrintMore
attribute [local go_sem] max2_int min2_int max_two min_two max_three min_three max_four min_four
set_option linter.unusedVariables false
set_option linter.unusedSimpArgs false
def spec_DrawPlainOf.g (s0_0 : List Int) (s0_1 : Int) (s0_2 : Int) : Option (ByteArray × Int × Int) := (spec_l1Cur_line.f s0_0 s0_1 s0_2).bind fun bt440 => ((spec_l1Cur_of.f s0_0 bt440.2.1 bt440.2.2 (([(⟨#[10]⟩ : ByteArray), (⟨#[]⟩ : ByteArray), (⟨#[10, 10]⟩ : ByteArray)] : List ByteArray))).bind fun bt446 => (if bt440.1.size + bt446.1.size ≤ 9223372036854775807 then (some (bt440.1 ++ bt446.1, bt446.2.1, bt446.2.2)) else (none)))
def spec_DrawPlainOf.f (l0 : List Int) : Option (ByteArray) := (spec_DrawPlainOf.g l0 0 0).bind fun r => some (r.1)
set_option maxHeartbeats 8000000 in
set_option maxRecDepth 100000 in
theorem spec_DrawPlainOf.made (A0 : Option Addr) (c0 : Nat) (l0 : List Int) (r1 : ByteArray) (r2 : Int) (r3 : Int) (w0 : World) (hr0 : Kd.C (Kd.int .u8) w0 A0 l0.length l0) (h : spec_DrawPlainOf.g l0 0 0 = some (r1, r2, r3)) :
  Calls Tryd.prog 27 #[.slice A0 l0.length c0] w0 fun e w' => ∃ (g : Nat) (w : World), w0.heap.size ≤ w.heap.size ∧ e = .returned (.string r1) ∧ IsS50 w0 w' g l0 r2 r3 ∧ Below w0.heap.size w0 w' ∧ KeepBut w w' g none := by
 have HR0 := am hr0
 clear hr0
 have HB := am (Below.refl w0.heap.size w0)
 have H : ((spec_l1Cur_line.f l0 0 0).bind fun bt440 => ((spec_l1Cur_of.f l0 bt440.2.1 bt440.2.2 (([(⟨#[10]⟩ : ByteArray), (⟨#[]⟩ : ByteArray), (⟨#[10, 10]⟩ : ByteArray)] : List ByteArray))).bind fun bt446 => (if bt440.1.size + bt446.1.size ≤ 9223372036854775807 then (some (bt440.1 ++ bt446.1, bt446.2.1, bt446.2.2)) else (none)))) = some (r1, r2, r3) := h
 clear h
 replace H := Option.bind_eq_some_iff.mp H
 obtain ⟨⟨t440, t441, t442⟩, A20, H⟩ := H
 replace H : ((spec_l1Cur_of.f l0 t441 t442 (([(⟨#[10]⟩ : ByteArray), (⟨#[]⟩ : ByteArray), (⟨#[10, 10]⟩ : ByteArray)] : List ByteArray))).bind fun bt446 => (if t440.size + bt446.1.size ≤ 9223372036854775807 then (some (t440 ++ bt446.1, bt446.2.1, bt446.2.2)) else (none))) = some (r1, r2, r3) := H
 have A2 := am A20
 clear A20
 obtain ⟨y443, hy443⟩ : ∃ y_ : List ByteArray, y_ = (([(⟨#[10]⟩ : ByteArray), (⟨#[]⟩ : ByteArray), (⟨#[10, 10]⟩ : ByteArray)] : List ByteArray)) := ⟨_, rfl⟩
 replace H : ((spec_l1Cur_of.f l0 t441 t442 y443).bind fun bt446 => (if t440.size + bt446.1.size ≤ 9223372036854775807 then (some (t440 ++ bt446.1, bt446.2.1, bt446.2.2)) else (none))) = some (r1, r2, r3) := by first | (rw [hy443]; with_reducible exact H) | (have H2_ := (Option.bind_some _ _).symm.trans H; rw [hy443]; with_reducible exact H2_) | (have H2_ := (Option.bind_some _ _).symm.trans H; with_reducible exact H2_) | with_reducible exact H | (rw [hy443]; exact H) | exact H
 have Ny443 := am hy443
 clear hy443
 replace H := Option.bind_eq_some_iff.mp H
 obtain ⟨⟨t446, t447, t448⟩, A30, H⟩ := H
 replace H : (if t440.size + t446.size ≤ 9223372036854775807 then (some (t440 ++ t446, t447, t448)) else (none)) = some (r1, r2, r3) := H
 have A3 := am A30
 clear A30
 by_cases c4 : t440.size + t446.size ≤ 9223372036854775807
 ·rw [if_pos c4] at H
  have c4b0 := eq_true c4
  have c4b1 : decide (t440.size + t446.size ≤ 9223372036854775807) = true := decide_eq_true c4
  try have c4b2 : (9223372036854775807 < t440.size + t446.size) = False := eq_false (Nat.not_lt.2 c4)
  simp only [Option.some.injEq, Prod.mk.injEq] at H
  obtain ⟨rfl, rfl, rfl⟩ := H
  go_enter Tryd.func27, Tryd.ntmps27
  go_wp2_with (first | ((with_reducible refine gate_dst (N := 6) rfl ?_); refine box_event ?hg (N := 6) ?hd (cs := #[.slice A0 l0.length c0, .int .i64 0, .int .u64 0]) (t := 50) ?hr ?_; (case hd => rfl); (case hg => rfl); (case hr => first | (go_simp; done) | (go_simp; rfl)); intro g hg w hbox hb; have n0_ := am (show IsS50 w0 w g l0 0 0 from ⟨A0, c0, hbox, (by rw [hg]; exact below_size zb), HR0.out⟩); have n1_ := am (below_step zb hb); clear HB HR0; have HI0 := n0_; have HB := n1_; have HK := am (KeepBut.refl w g none); have HL := am HB.out.size; have HW0 := am HB.out.size; clear n0_ n1_ hb hbox hg) | ((with_reducible refine gateC (f := 54) rfl ?_); refine goesL_ (some 8) rfl rfl Tryd.func54 (by kernel_rfl) rfl #[.pointer (some ⟨g, 0, none⟩)] rfl zm ?_; (with_reducible refine (spec_l1Cur_line.calls g l0 0 0 t440 t441 t442 w0 _ ?side1 ?side2 A2.out).mono ?_); (case side1 => exact zi); (case side2 => exact zj); rintro e w5 ⟨rfl, hi, hb, hk⟩; refine ⟨_, rfl, ?_⟩; have n0_ := am (KeepBut.trans zh hk (.inl rfl)); have n1_ := am (hb); have n2_ := am (hi); clear HK; clear HB; clear HI0; have HK := n0_; have HB := n1_; have HI0 := n2_; clear n0_ n1_ n2_; (try clear hb); (try clear hk); (try clear hi)) | ((with_reducible refine gate_dst (N := 10) rfl ?_); refine Kd.R_lit Kd.string _ 9 ?hg (N := 10) ?hd (xs := ([(⟨#[10]⟩ : ByteArray), (⟨#[]⟩ : ByteArray), (⟨#[10, 10]⟩ : ByteArray)] : List ByteArray)) (inner := [.string (⟨#[10]⟩ : ByteArray), .string (⟨#[]⟩ : ByteArray), .string (⟨#[10, 10]⟩ : ByteArray)]) (ok := fun _ => True) (okp := fun _ => True) ?hr ?hp (fun _ hk => hk) trivial (Below.refl _ _) (Nat.le_refl _) (by simp) ?_; (case hd => rfl); (case hg => rfl); (case hr => first | (go_simp; done) | (go_simp; rfl)); (case hp => exact (Reps.one (show Kd.M Kd.string _ _ _ (⟨#[10]⟩ : ByteArray) [.string (⟨#[10]⟩ : ByteArray)] from rfl) (Reps.one (show Kd.M Kd.string _ _ _ (⟨#[]⟩ : ByteArray) [.string (⟨#[]⟩ : ByteArray)] from rfl) (Reps.one (show Kd.M Kd.string _ _ _ (⟨#[10, 10]⟩ : ByteArray) [.string (⟨#[10, 10]⟩ : ByteArray)] from rfl) (Reps.none _ _))))); intro v444 w6 ho7 hb hg_ hnew_; clear hg_ hnew_; (first | rw [← Ny443.out] at ho7 | (simp only [Int.reduceToNat] at ho7; rw [← Ny443.out] at ho7)); have n0_ := am (Kd.R_lower ho7 (keep_size (w := w) (g := g) (row := none) zh)); have n1_ := am (IsS50.below zi hb); have n2_ := am (KeepBut.trans zh (KeepBut.of_below hb g none) (.inl rfl)); have n3_ := am (below_step zj hb); clear HI0; clear HK; clear HB; have HO445 := n0_; have HI0 := n1_; have HK := n2_; have HB := n3_; clear n0_ n1_ n2_ n3_; clear hb ho7; obtain ⟨Ao8, co8, eo8⟩ := Kd.R_slice HO445.out; subst eo8) | ((with_reducible refine gateC (f := 55) rfl ?_); refine goesL_ (some 11) rfl rfl Tryd.func55 (by kernel_rfl) rfl #[.pointer (some ⟨g, 0, none⟩), .slice Ao8 y443.length co8] rfl zm ?_; (with_reducible refine (spec_l1Cur_of.calls g l0 t441 t442 _ _ y443 t446 t447 t448 w0 _ ?side1 ?side2 ?side3 ?side4 ?side5 A3.out).mono ?_); (case side1 => exact zi); (case side2 => exact zj); (case side3 => repeat (first | exact (Kd.R_reads' HO445.out).2.2 | (with_reducible refine Kd.C_alloc ?_ _) | (with_reducible refine Kd.C_drewN ?_ _) | (with_reducible refine Kd.C_drew ?_))); (case side4 => exact (Kd.R_reads' HO445.out).2.1); (case side5 => exact far_slice (IsS50.own_ne HI0.out HO445.out (by decide))); rintro e w9 ⟨rfl, hi, hb, hk⟩; refine ⟨_, rfl, ?_⟩; have n0_ := am (Kd.R_mono (Kd.R_keep (IsS50.apart (show IsS50 w0 _ g l0 t441 t442 from zi) (zr HO445.out) (by decide)) hk (fun _ h => h.2)) (fun _ h => h.1)); have n1_ := am (KeepBut.trans zh hk (.inl rfl)); have n2_ := am (hb); have n3_ := am (hi); clear HO445; clear HK; clear HB; clear HI0; have HO445 := n0_; have HK := n1_; have HB := n2_; have HI0 := n3_; clear n0_ n1_ n2_ n3_; (try clear hb); (try clear hk); (try clear hi)))
  go_ret
  exact ⟨g, w, HW0.out, by first | rfl | (simp [errW_none, errW_some] <;> rfl) | (simp [*, errW_none, errW_some] <;> rfl), zi, zj, zh⟩
 ·rw [if_neg c4] at H
  exact absurd H (by simp)
theorem spec_DrawPlainOf.calls (A0 : Option Addr) (c0 : Nat) (l0 : List Int) (r1 : ByteArray) (w0 : World) (hr0 : Kd.C (Kd.int .u8) w0 A0 l0.length l0) (hc0 : l0.length ≤ c0) (h : spec_DrawPlainOf.f l0 = some (r1)) :
  Calls Tryd.prog 27 #[.slice A0 l0.length c0] w0 fun e w' => e = .returned (.string r1) ∧ Below w0.heap.size w0 w' := by
  obtain ⟨q, hq, e⟩ := Option.bind_eq_some_iff.1 h
  obtain ⟨q0, q1, q2⟩ := q
  injection e with e
  subst e
  refine (spec_DrawPlainOf.made A0 c0 l0 _ _ _ w0 hr0 hq).mono ?_
  rintro e w' ⟨g, w, hw, h0, _, hb, _⟩
  exact ⟨h0, hb⟩
end Go.Proofs.YtmcldkobejhaeaaDoor.My
/- Written by this session's program (wip/gen): a plain function with the same answers as the Go function, and the proof that the Go code comes to them. Asked: that the plain function has an answer. -/
namespace Go.Proofs.YtmcldkobejhaeaaDoor.My
open Go.RowKit Go.Proofs.YtmcldkobejhaeaaDoorW.PrintWords Go.Proofs.YtmcldkobejhaeaaDoorW.PrintLast Go.Proofs.YtmcldkobejhaeaaDoorW.PrintMore
attribute [local go_sem] max2_int min2_int max_two min_two max_three min_three max_four min_four
set_option linter.unusedVariables false
set_option linter.unusedSimpArgs false
def spec_l1Ends.f (a0 : ByteArray) : Option (Bool) := if 0 ≤ (wrap64 ((a0.size : Int) - 1)) then (if (wrap64 ((a0.size : Int) - 1)) < (a0.size : Int) then (some ((bt a0 (wrap64 ((a0.size : Int) - 1))) == 10)) else (none)) else (none)
set_option maxHeartbeats 8000000 in
set_option maxRecDepth 100000 in
theorem spec_l1Ends.calls (a0 : ByteArray) (r : Bool) (w : World) (h : spec_l1Ends.f a0 = some r) :
  Calls Tryd.prog 60 #[.string a0] w fun e w' => e = .returned (.bool r) ∧ Drawn0 w w' := by
 have H : (if 0 ≤ (wrap64 ((a0.size : Int) - 1)) then (if (wrap64 ((a0.size : Int) - 1)) < (a0.size : Int) then (some ((bt a0 (wrap64 ((a0.size : Int) - 1))) == 10)) else (none)) else (none)) = some r := h
 clear h
 obtain ⟨ji2, hji2⟩ : ∃ j_ : Int, (wrap64 ((a0.size : Int) - 1)) = j_ := ⟨_, rfl⟩
 replace H : (if 0 ≤ (ji2) then (if (ji2) < (a0.size : Int) then (some ((bt a0 (ji2)) == 10)) else (none)) else (none)) = some r := by first | (rw [hji2] at H; exact H) | (simp only [hji2] at H ⊢; exact H)
 have hji2w : (IntKind.i64.wrap ((a0.size : Int) - 1)) = ji2 := (i64_w _).trans hji2
 by_cases c3 : 0 ≤ (ji2)
 ·rw [if_pos c3] at H
  have c3b0 : decide (0 ≤ (ji2)) = true := decide_eq_true c3
  clear c3
  by_cases c4 : (ji2) < (a0.size : Int)
  ·rw [if_pos c4] at H
   have c4b0 : decide ((ji2) < (a0.size : Int)) = true := decide_eq_true c4
   clear c4
   obtain rfl := Option.some.inj H
   have p5 : 0 ≤ ((ji2) : Int) := oa
   have q5 : (ji2) < (a0.size : Int) := oa
   have hx5 := bt_at a0 (ji2)
   replace p5 := eq_true p5
   replace q5 := eq_true q5
   go_enter Tryd.func60, Tryd.ntmps60
   go_wp2
   go_ret
   exact ⟨by first | rfl | (simp; done) | (simp only [← hji2] <;> (first | rfl | simp)) | (simp [*]; done), by repeat (first | exact Drawn0.refl _ | apply Drawn0.step)⟩
  ·rw [if_neg c4] at H
   exact absurd H (by simp)
 ·rw [if_neg c3] at H
  exact absurd H (by simp)
end Go.Proofs.YtmcldkobejhaeaaDoor.My
/- Written by this session's program (wip/gen): a plain function with the same answers as the Go function, and the proof that the Go code comes to them. Asked: that the plain function has an answer. -/
namespace Go.Proofs.YtmcldkobejhaeaaDoor.My
open Go.RowKit Go.Proofs.YtmcldkobejhaeaaDoorW.PrintWords Go.Proofs.YtmcldkobejhaeaaDoorW.PrintLast Go.Proofs.YtmcldkobejhaeaaDoorW.PrintMore
attribute [local go_sem] max2_int min2_int max_two min_two max_three min_three max_four min_four
set_option linter.unusedVariables false
set_option linter.unusedSimpArgs false
def spec_l1OwnT.f (l0 : List ByteArray) : Option (List ByteArray) := (some (([] : List ByteArray) : List ByteArray)).bind fun y266 => (if y266.length + l0.length < 8796093022208 then (some (y266 ++ l0)) else (none))
set_option maxHeartbeats 8000000 in
set_option maxRecDepth 100000 in
theorem spec_l1OwnT.calls (A0 : Option Addr) (c0 : Nat) (l0 : List ByteArray) (r : List ByteArray) (w : World) (hr0 : Kd.C Kd.string w A0 l0.length l0) (hc0 : l0.length ≤ c0) (h : spec_l1OwnT.f l0 = some r) :
  Calls Tryd.prog 53 #[.slice A0 l0.length c0] w fun e w' => ∃ v0_ : Value, e = .returned (v0_) ∧ Kd.R Kd.string 9 w' w.heap.size (fun _ => True) v0_ r ∧ Below w.heap.size w w' := by
 have HR0 := am hr0
 have HC0 := am hc0
 clear hr0 hc0
 have HB := am (Below.refl w.heap.size w)
 have H : ((some (([] : List ByteArray) : List ByteArray)).bind fun y266 => (if y266.length + l0.length < 8796093022208 then (some (y266 ++ l0)) else (none))) = some r := h
 clear h
 obtain ⟨y266, hy266⟩ : ∃ y_ : List ByteArray, y_ = (([] : List ByteArray)) := ⟨_, rfl⟩
 replace H : (if y266.length + l0.length < 8796093022208 then (some (y266 ++ l0)) else (none)) = some r := by first | (rw [hy266]; with_reducible exact H) | (have H2_ := (Option.bind_some _ _).symm.trans H; rw [hy266]; with_reducible exact H2_) | (have H2_ := (Option.bind_some _ _).symm.trans H; with_reducible exact H2_) | with_reducible exact H | (rw [hy266]; exact H) | exact H
 have Ny266 := am hy266
 clear hy266
 by_cases c2 : y266.length + l0.length < 8796093022208
 ·rw [if_pos c2] at H
  have LMc2 := am c2
  clear c2
  obtain ⟨y269, hy269⟩ : ∃ y_ : List ByteArray, y_ = (y266 ++ l0) := ⟨_, rfl⟩
  replace H : (some y269) = some r := by first | (rw [hy269]; with_reducible exact H) | (have H2_ := (Option.bind_some _ _).symm.trans H; rw [hy269]; with_reducible exact H2_) | (have H2_ := (Option.bind_some _ _).symm.trans H; with_reducible exact H2_) | with_reducible exact H | (rw [hy269]; exact H) | exact H
  have Ny269 := am hy269
  clear hy269
  obtain rfl := Option.some.inj H
  go_enter Tryd.func53, Tryd.ntmps53
  go_wp2_with (first | ((with_reducible refine gate_dst (N := 3) rfl ?_); refine Kd.R_lit Kd.string _ 9 ?hg (N := 3) ?hd (xs := ([] : List ByteArray)) (inner := []) (ok := fun _ => True) (okp := fun _ => True) ?hr ?hp (fun _ hk => hk) trivial (Below.refl _ _) (Nat.le_refl _) (by simp) ?_; (case hd => rfl); (case hg => rfl); (case hr => first | (go_simp; done) | (go_simp; rfl)); (case hp => exact (Reps.none _ _)); intro v267 w3 ho4 hb hg_ hnew_; clear hg_ hnew_; (first | rw [← Ny266.out] at ho4 | (simp only [Int.reduceToNat] at ho4; rw [← Ny266.out] at ho4)); have n0_ := am (Kd.R_lower ho4 (below_size zb)); have n1_ := am (below_step zb hb); clear HB; have HO268 := n0_; have HB := n1_; clear n0_ n1_; clear hb ho4) | ((with_reducible refine gateB (b := .append) (xs := #[.tmp 3, .tmp 4]) rfl ?_); at_builtin; refine Kd.R_append_rows Kd.string (w0 := w) w.heap.size rfl (.tmp 3) (.tmp 4) 22 9 (.string ⟨#[]⟩) 16 rfl Tryd.underlying22 info9 rfl (by decide) (by omega) v267 y266 l0 _ _ _ (fun _ => True) (fun _ => False) rfl rfl ?aO ?aR (fun _ _ h => h) (fun _ h => h.elim) ?aF ?aB ?aS ?aL ?_; (case aR => exact zq (Kd.C_below HR0.out HB.out)); (case aB => exact zb); (case aF => exact (fun _ _ => trivial)); (case aO => exact (zr HO268.out)); (case aS => exact (below_size zb)); (case aL => have := LMc2.out; omega); intro v270 w5 ho hb hg hat; rw [← Ny269.out] at ho; have n0_ := am (hb); have n1_ := am (ho); clear HB; clear HO268; have HB := n0_; have HO271 := n1_; clear n0_ n1_; clear ho hb hg hat))
  go_ret
  exact ⟨_, by first | rfl | (simp [errW_none, errW_some] <;> rfl) | (simp [*, errW_none, errW_some] <;> rfl), by (with_reducible repeat (first | apply Kd.R_alloc | apply Kd.R_drewN | apply Kd.R_drew)); exact HO271.out, by repeat (first | (with_reducible first | exact HB.out | apply below_alloc | apply pw_below_drewN | apply below_drew1) | exact HB.out)⟩
 ·rw [if_neg c2] at H
  exact absurd H (by simp)
end Go.Proofs.YtmcldkobejhaeaaDoor.My
/- Written by this session's program (wip/gen): a plain function with the same answers as the Go function, and the proof that the Go code comes to them. Asked: that the plain function has an answer. -/
namespace Go.Proofs.YtmcldkobejhaeaaDoor.My
open Go.RowKit Go.Proofs.YtmcldkobejhaeaaDoorW.PrintWords Go.Proofs.YtmcldkobejhaeaaDoorW.PrintLast Go.Proofs.YtmcldkobejhaeaaDoorW.PrintMore
attribute [local go_sem] max2_int min2_int max_two min_two max_three min_three max_four min_four
set_option linter.unusedVariables false
set_option linter.unusedSimpArgs false
def spec_l1Plain.f (a0 : ByteArray) : Option (ByteArray) := (spec_l1Ends.f a0).bind fun t272 => (if t272 = true then (if 0 ≤ (wrap64 ((a0.size : Int) - 1)) then (if (wrap64 ((a0.size : Int) - 1)) ≤ (a0.size : Int) then (some (a0.extract 0 ((wrap64 ((a0.size : Int) - 1)) : Int).toNat)) else (none)) else (none)) else (some a0))
set_option maxHeartbeats 8000000 in
set_option maxRecDepth 100000 in
theorem spec_l1Plain.calls (a0 : ByteArray) (r : ByteArray) (w : World) (h : spec_l1Plain.f a0 = some r) :
  Calls Tryd.prog 59 #[.string a0] w fun e w' => e = .returned (.string r) ∧ Drawn0 w w' := by
 have H : ((spec_l1Ends.f a0).bind fun t272 => (if t272 = true then (if 0 ≤ (wrap64 ((a0.size : Int) - 1)) then (if (wrap64 ((a0.size : Int) - 1)) ≤ (a0.size : Int) then (some (a0.extract 0 ((wrap64 ((a0.size : Int) - 1)) : Int).toNat)) else (none)) else (none)) else (some a0))) = some r := h
 clear h
 replace H := Option.bind_eq_some_iff.mp H
 obtain ⟨t272, A20, H⟩ := H
 replace H : (if t272 = true then (if 0 ≤ (wrap64 ((a0.size : Int) - 1)) then (if (wrap64 ((a0.size : Int) - 1)) ≤ (a0.size : Int) then (some (a0.extract 0 ((wrap64 ((a0.size : Int) - 1)) : Int).toNat)) else (none)) else (none)) else (some a0)) = some r := H
 have A2 := am A20
 clear A20
 by_cases c3 : t272 = true
 ·subst c3
  have H1 : (if 0 ≤ (wrap64 ((a0.size : Int) - 1)) then (if (wrap64 ((a0.size : Int) - 1)) ≤ (a0.size : Int) then (some (a0.extract 0 ((wrap64 ((a0.size : Int) - 1)) : Int).toNat)) else (none)) else (none)) = some r := by rw [if_pos rfl] at H; exact H
  clear H
  have H := H1
  clear H1
  obtain ⟨ji4, hji4⟩ : ∃ j_ : Int, (wrap64 ((a0.size : Int) - 1)) = j_ := ⟨_, rfl⟩
  replace H : (if 0 ≤ (ji4) then (if (ji4) ≤ (a0.size : Int) then (some (a0.extract 0 ((ji4) : Int).toNat)) else (none)) else (none)) = some r := by first | (rw [hji4] at H; exact H) | (simp only [hji4] at H ⊢; exact H)
  (try rw [hji4] at A2)
  have hji4w : (IntKind.i64.wrap ((a0.size : Int) - 1)) = ji4 := (i64_w _).trans hji4
  by_cases c5 : 0 ≤ (ji4)
  ·rw [if_pos c5] at H
   have c5b0 := eq_true c5
   have c5b1 : decide (0 ≤ (ji4)) = true := decide_eq_true c5
   clear c5
   by_cases c6 : (ji4) ≤ (a0.size : Int)
   ·rw [if_pos c6] at H
    have c6b0 := eq_true c6
    have c6b1 : decide ((ji4) ≤ (a0.size : Int)) = true := decide_eq_true c6
    clear c6
    obtain rfl := Option.some.inj H
    go_enter Tryd.func59, Tryd.ntmps59
    go_wp2_with (first | ((with_reducible refine gateC (f := 60) rfl ?_); refine goesL_ (some 4) rfl rfl Tryd.func60 (by kernel_rfl) rfl #[.string a0] rfl zm ?_; (with_reducible refine (spec_l1Ends.calls a0 true _ A2.out).mono ?_); rintro e w' ⟨rfl, ⟨nd, rfl⟩⟩; refine ⟨_, rfl, ?_⟩))
    go_ret
    exact ⟨by first | rfl | (simp; done) | (simp only [← hji4] <;> (first | rfl | simp)) | (simp [*]; done), by repeat (first | exact Drawn0.refl _ | apply Drawn0.step)⟩
   ·rw [if_neg c6] at H
    exact absurd H (by simp)
  ·rw [if_neg c5] at H
   exact absurd H (by simp)
 ·replace c3 := Bool.eq_false_iff.mpr c3
  subst c3
  have H1 : (some a0) = some r := by rw [if_neg (show ¬ (false = true) by decide)] at H; exact H
  clear H
  have H := H1
  clear H1
  obtain rfl := Option.some.inj H
  go_enter Tryd.func59, Tryd.ntmps59
  go_wp2_with (first | ((with_reducible refine gateC (f := 60) rfl ?_); refine goesL_ (some 4) rfl rfl Tryd.func60 (by kernel_rfl) rfl #[.string a0] rfl zm ?_; (with_reducible refine (spec_l1Ends.calls a0 false _ A2.out).mono ?_); rintro e w' ⟨rfl, ⟨nd, rfl⟩⟩; refine ⟨_, rfl, ?_⟩))
  go_ret
  exact ⟨by first | rfl | (simp; done) | (simp [*]; done), by repeat (first | exact Drawn0.refl _ | apply Drawn0.step)⟩
end Go.Proofs.YtmcldkobejhaeaaDoor.My
/- Written by this session's program (wip/gen): a plain function with the same answers as the Go function, and the proof that the Go code comes to them. Asked: that the plain function has an answer. -/
namespace Go.Proofs.YtmcldkobejhaeaaDoor.My
open Go.RowKit Go.Proofs.YtmcldkobejhaeaaDoorW.PrintWords Go.Proofs.YtmcldkobejhaeaaDoorW.PrintLast Go.Proofs.YtmcldkobejhaeaaDoorW.PrintMore
attribute [local go_sem] max2_int min2_int max_two min_two max_three min_three max_four min_four
set_option linter.unusedVariables false
set_option linter.unusedSimpArgs false
def spec_l1Whole.f (l0 : List ByteArray) : Option (Bool) := if (l0.length : Int) = 0 then (some true) else (if 0 ≤ (wrap64 ((l0.length : Int) - 1)) then (if (wrap64 ((l0.length : Int) - 1)) < (l0.length : Int) then ((spec_l1Ends.f (rdOf ByteArray.empty l0 (wrap64 ((l0.length : Int) - 1)))).bind fun t265 => (some t265)) else (none)) else (none))
set_option maxHeartbeats 8000000 in
set_option maxRecDepth 100000 in
theorem spec_l1Whole.calls (A0 : Option Addr) (c0 : Nat) (l0 : List ByteArray) (r : Bool) (w : World) (hr0 : Kd.C Kd.string w A0 l0.length l0) (hc0 : l0.length ≤ c0) (h : spec_l1Whole.f l0 = some r) :
  Calls Tryd.prog 51 #[.slice A0 l0.length c0] w fun e w' => e = .returned (.bool r) ∧ Drawn0 w w' := by
 have HR0 := am hr0
 have HC0 := am hc0
 clear hr0 hc0
 have H : (if (l0.length : Int) = 0 then (some true) else (if 0 ≤ (wrap64 ((l0.length : Int) - 1)) then (if (wrap64 ((l0.length : Int) - 1)) < (l0.length : Int) then ((spec_l1Ends.f (rdOf ByteArray.empty l0 (wrap64 ((l0.length : Int) - 1)))).bind fun t265 => (some t265)) else (none)) else (none))) = some r := h
 clear h
 by_cases c2 : (l0.length : Int) = 0
 ·rw [if_pos c2] at H
  have c2b0 : ((l0.length : Int) == 0) = true := beq_iff_eq.mpr c2
  have c2b1 : ((l0.length : Int) != 0) = false := bne_eq_false_iff_eq.mpr c2
  clear c2
  obtain rfl := Option.some.inj H
  go_enter Tryd.func51, Tryd.ntmps51
  go_wp2
  go_ret
  exact ⟨by first | rfl | (simp; done) | (simp [*]; done), by repeat (first | exact Drawn0.refl _ | apply Drawn0.step)⟩
 ·rw [if_neg c2] at H
  have c2b0 : ((l0.length : Int) == 0) = false := beq_eq_false_iff_ne.mpr c2
  have c2b1 : ((l0.length : Int) != 0) = true := bne_iff_ne.mpr c2
  have c2b2 : ¬ (l0 = []) := fun h_ => c2 (by rw [h_]; rfl)
  obtain ⟨ji3, hji3⟩ : ∃ j_ : Int, (wrap64 ((l0.length : Int) - 1)) = j_ := ⟨_, rfl⟩
  replace H : (if 0 ≤ (ji3) then (if (ji3) < (l0.length : Int) then ((spec_l1Ends.f (rdOf ByteArray.empty l0 (ji3))).bind fun t265 => (some t265)) else (none)) else (none)) = some r := by first | (rw [hji3] at H; exact H) | (simp only [hji3] at H ⊢; exact H)
  have hji3w : (IntKind.i64.wrap ((l0.length : Int) - 1)) = ji3 := (i64_w _).trans hji3
  by_cases c4 : 0 ≤ (ji3)
  ·rw [if_pos c4] at H
   have c4b0 : decide (0 ≤ (ji3)) = true := decide_eq_true c4
   clear c4
   by_cases c5 : (ji3) < (l0.length : Int)
   ·rw [if_pos c5] at H
    have c5b0 : decide ((ji3) < (l0.length : Int)) = true := decide_eq_true c5
    clear c5
    replace H := Option.bind_eq_some_iff.mp H
    obtain ⟨t265, A60, H⟩ := H
    replace H : (some t265) = some r := H
    have A6 := am A60
    clear A60
    obtain rfl := Option.some.inj H
    have p264 : 0 ≤ ((ji3) : Int) := oa
    have q264 : (ji3) < (l0.length : Int) := oa
    obtain ⟨ad264, e264, hx264_0⟩ := Kd.at_string HR0.out (ji3) p264 q264
    cases e264
    replace p264 := eq_true p264
    replace q264 := eq_true q264
    go_enter Tryd.func51, Tryd.ntmps51
    go_wp2_with (first | (go_at_call 60; (with_reducible refine (spec_l1Ends.calls (rdOf ByteArray.empty l0 (ji3)) t265 _ A6.out).mono ?_); rintro e w' ⟨rfl, ⟨nd, rfl⟩⟩))
    go_ret
    exact ⟨by first | rfl | (simp; done) | (simp only [← hji3] <;> (first | rfl | simp)) | (simp [*]; done), by repeat (first | exact Drawn0.refl _ | apply Drawn0.step)⟩
   ·rw [if_neg c5] at H
    exact absurd H (by simp)
  ·rw [if_neg c4] at H
   exact absurd H (by simp)
end Go.Proofs.YtmcldkobejhaeaaDoor.My
/- Written by this session's program (wip/gen): a plain function with the same answers as the Go function, and the proof that the Go code comes to them. Asked: that the plain function has an answer. -/
namespace Go.Proofs.YtmcldkobejhaeaaDoor.My
open Go.RowKit Go.Proofs.YtmcldkobejhaeaaDoorW.PrintWords Go.Proofs.YtmcldkobejhaeaaDoorW.PrintLast Go.Proofs.YtmcldkobejhaeaaDoorW.PrintMore
attribute [local go_sem] max2_int min2_int max_two min_two max_three min_three max_four min_four
set_option linter.unusedVariables false
set_option linter.unusedSimpArgs false
mutual
def spec_l1Cur_other.l0 : Nat → List ByteArray → Int → List Int → Int → Int → Option (List ByteArray × Int × Int)
 | 0, _, _, _, _, _ => none
 | k + 1, x5, x6, x1000, x1001, x1002 => if x6 > 0 then ((spec_l1Cur_pick.f x1000 x1001 x1002 (wrap64 ((x5.length : Int) + 1))).bind fun bt279 => ((spec_l1Cur_pick.f x1000 bt279.2.1 bt279.2.2 3).bind fun bt282 => (if bt282.1 = 0 then (if bt279.1 < (x5.length : Int) then (if 0 ≤ bt279.1 then (if bt279.1 ≤ (x5.length : Int) then ((spec_l1OwnT.f (x5.take (bt279.1 : Int).toNat)).bind fun t289 => (if 0 ≤ (wrap64 (bt279.1 + 1)) then (if (wrap64 (bt279.1 + 1)) ≤ (x5.length : Int) then ((some (x5.drop ((wrap64 (bt279.1 + 1)) : Int).toNat : List ByteArray)).bind fun y292 => (if t289.length + y292.length < 8796093022208 then (spec_l1Cur_other.l0 k (t289 ++ y292) (wrap64 (x6 - 1)) x1000 bt282.2.1 bt282.2.2) else (none))) else (none)) else (none))) else (none)) else (none)) else (spec_l1Cur_other.l0 k x5 (wrap64 (x6 - 1)) x1000 bt282.2.1 bt282.2.2)) else (if bt282.1 = 1 then (if bt279.1 < (x5.length : Int) then (if 0 ≤ bt279.1 then ((spec_l1Ends.f (rdOf ByteArray.empty x5 bt279.1)).bind fun t300 => (if t300 = true then ((spec_l1Cur_line.f x1000 bt282.2.1 bt282.2.2).bind fun bt301 => (if bt301.1.size + 1 ≤ 9223372036854775807 then (spec_l1Cur_other.l0 k (x5.set (bt279.1 : Int).toNat (bt301.1 ++ (⟨#[10]⟩ : ByteArray))) (wrap64 (x6 - 1)) x1000 bt301.2.1 bt301.2.2) else (none))) else (spec_l1Cur_other.l0 k x5 (wrap64 (x6 - 1)) x1000 bt282.2.1 bt282.2.2))) else (none)) else (spec_l1Cur_other.l0 k x5 (wrap64 (x6 - 1)) x1000 bt282.2.1 bt282.2.2)) else (if bt279.1 < (x5.length : Int) then (spec_l1Cur_other.j1 k x5 x6 bt279.1 true x1000 bt282.2.1 bt282.2.2) else ((spec_l1Whole.f x5).bind fun t305 => (spec_l1Cur_other.j1 k x5 x6 bt279.1 t305 x1000 bt282.2.1 bt282.2.2))))))) else (if (x5.length : Int) > 0 then ((spec_l1Cur_one.f x1000 x1001 x1002 6).bind fun bt326 => (spec_l1Cur_other.j2 k x5 bt326.1 x1000 bt326.2.1 bt326.2.2)) else (spec_l1Cur_other.j2 k x5 false x1000 x1001 x1002))
def spec_l1Cur_other.j1 : Nat → List ByteArray → Int → Int → Bool → List Int → Int → Int → Option (List ByteArray × Int × Int)
 | 0, _, _, _, _, _, _, _ => none
 | k + 1, x5, x6, x7, x31, x1000, x1001, x1002 => if x31 = true then (if 0 ≤ x7 then (if x7 ≤ (x5.length : Int) then ((spec_l1OwnT.f (x5.take (x7 : Int).toNat)).bind fun t310 => ((spec_l1Cur_line.f x1000 x1001 x1002).bind fun bt313 => (if bt313.1.size + 1 ≤ 9223372036854775807 then (if t310.length < 8796093022208 then ((some (t310 ++ [bt313.1 ++ (⟨#[10]⟩ : ByteArray)] : List ByteArray)).bind fun y316 => ((some (x5.drop (x7 : Int).toNat : List ByteArray)).bind fun y319 => (if y316.length + y319.length < 8796093022208 then (spec_l1Cur_other.l0 k (y316 ++ y319) (wrap64 (x6 - 1)) x1000 bt313.2.1 bt313.2.2) else (none)))) else (none)) else (none)))) else (none)) else (none)) else (spec_l1Cur_other.l0 k x5 (wrap64 (x6 - 1)) x1000 x1001 x1002)
def spec_l1Cur_other.j2 : Nat → List ByteArray → Bool → List Int → Int → Int → Option (List ByteArray × Int × Int)
 | 0, _, _, _, _, _ => none
 | k + 1, x5, x85, x1000, x1001, x1002 => if x85 = true then (if 0 ≤ (wrap64 ((x5.length : Int) - 1)) then (if (wrap64 ((x5.length : Int) - 1)) < (x5.length : Int) then ((spec_l1Plain.f (rdOf ByteArray.empty x5 (wrap64 ((x5.length : Int) - 1)))).bind fun t330 => ((spec_l1Ends.f (rdOf ByteArray.empty x5 (wrap64 ((x5.length : Int) - 1)))).bind fun t332 => (if t332 = true then (if t330.toList = ([] : List UInt8) then (some (x5, x1001, x1002)) else (some ((x5.set ((wrap64 ((x5.length : Int) - 1)) : Int).toNat t330), x1001, x1002))) else (if t330.size + 1 ≤ 9223372036854775807 then (some ((x5.set ((wrap64 ((x5.length : Int) - 1)) : Int).toNat (t330 ++ (⟨#[10]⟩ : ByteArray))), x1001, x1002)) else (none))))) else (none)) else (none)) else (some (x5, x1001, x1002))
end
def spec_l1Cur_other.f (k : Nat) (s0_0 : List Int) (s0_1 : Int) (s0_2 : Int) (l1 : List ByteArray) : Option (List ByteArray × Int × Int) := (spec_l1OwnT.f l1).bind fun t273 => ((spec_l1Cur_pick.f s0_0 s0_1 s0_2 4).bind fun bt276 => (spec_l1Cur_other.l0 k t273 bt276.1 s0_0 bt276.2.1 bt276.2.2))
def spec_l1Cur_other.T8 : Bool × List (List Nat × List Nat) := (true, [([], []), ([], []), ([0, 1], [0, 1]), ([2], [2]), ([], []), ([4, 3], [4]), ([5], [5]), ([6], [6]), ([3, 7, 5], [3, 7]), ([], []), ([], []), ([9, 10], [9, 10]), ([8, 11, 8], [8, 11]), ([12, 12, 0, 1, 2, 3, 4, 5, 6, 7, 8, 9, 10, 11, 12], [0, 9, 12])])
def spec_l1Cur_other.B8 : List Nat := [0, 0, 3, 7, 0, 31, 63, 127, 255, 0, 0, 1536, 4095, 8191]
theorem spec_l1Cur_other.tab8 : rtab .any (opsOf Tryd.f43 8) = spec_l1Cur_other.T8 := by kernel_rfl
theorem spec_l1Cur_other.bits8 : waitsOk spec_l1Cur_other.T8.2 spec_l1Cur_other.B8 = true := by kernel_rfl
def spec_l1Cur_other.T11 : Bool × List (List Nat × List Nat) := (true, [([], []), ([], []), ([0, 1], [0, 1]), ([2], [2]), ([], []), ([], []), ([5], [5]), ([4, 6], [4, 6]), ([3, 7, 3], [3, 7]), ([8, 8, 0, 1, 2, 3, 4, 5, 6, 7, 8], [0, 4, 8])])
def spec_l1Cur_other.B11 : List Nat := [0, 0, 3, 7, 0, 0, 32, 112, 255, 511]
theorem spec_l1Cur_other.tab11 : rtab .any (opsOf Tryd.f43 11) = spec_l1Cur_other.T11 := by kernel_rfl
theorem spec_l1Cur_other.bits11 : waitsOk spec_l1Cur_other.T11.2 spec_l1Cur_other.B11 = true := by kernel_rfl
set_option maxHeartbeats 8000000 in
set_option maxRecDepth 100000 in
theorem spec_l1Cur_other.calls (k : Nat) (g : Nat) (s0_0 : List Int) (s0_1 : Int) (s0_2 : Int) (A1 : Option Addr) (c1 : Nat) (l1 : List ByteArray) (r1 : List ByteArray) (r2 : Int) (r3 : Int) (w0 w : World) (hI : IsS50 w0 w g s0_0 s0_1 s0_2) (hB : Below w0.heap.size w0 w) (hr1 : Kd.C Kd.string w A1 l1.length l1) (hc1 : l1.length ≤ c1) (hf1 : ∀ ad, A1 = some ad → 0 < l1.length → ad.block ≠ g) (h : spec_l1Cur_other.f k s0_0 s0_1 s0_2 l1 = some (r1, r2, r3)) :
  Calls Tryd.prog 43 #[.pointer (some ⟨g, 0, none⟩), .slice A1 l1.length c1] w fun e w' => ∃ v0_ : Value, e = .returned (v0_) ∧ Kd.R Kd.string 9 w' w.heap.size (fun _ => True) v0_ r1 ∧ IsS50 w0 w' g s0_0 r2 r3 ∧ Below w0.heap.size w0 w' ∧ KeepBut w w' g none := by
 have HR1 := am hr1
 have HC1 := am hc1
 clear hr1 hc1
 have HI0 := am hI
 have HK := am (KeepBut.refl w g none)
 have HL := am hB.size
 clear hI
 have HW0 := am hB.size
 have HB := am hB
 clear hB
 have H : ((spec_l1OwnT.f l1).bind fun t273 => ((spec_l1Cur_pick.f s0_0 s0_1 s0_2 4).bind fun bt276 => (spec_l1Cur_other.l0 k t273 bt276.1 s0_0 bt276.2.1 bt276.2.2))) = some (r1, r2, r3) := h
 clear h
 replace H := Option.bind_eq_some_iff.mp H
 obtain ⟨t273, A30, H⟩ := H
 replace H : ((spec_l1Cur_pick.f s0_0 s0_1 s0_2 4).bind fun bt276 => (spec_l1Cur_other.l0 k t273 bt276.1 s0_0 bt276.2.1 bt276.2.2)) = some (r1, r2, r3) := H
 have A3 := am A30
 clear A30
 replace H := Option.bind_eq_some_iff.mp H
 obtain ⟨⟨t276, t277, t278⟩, A40, H⟩ := H
 replace H : (spec_l1Cur_other.l0 k t273 t276 s0_0 t277 t278) = some (r1, r2, r3) := H
 have A4 := am A40
 clear A40
 have H' := am H
 clear H
 go_enter Tryd.func43, Tryd.ntmps43
 go_wp2_with (first | ((with_reducible refine gateC (f := 53) rfl ?_); refine goesL_ (some 10) rfl rfl Tryd.func53 (by kernel_rfl) rfl #[.slice A1 l1.length c1] rfl zm ?_; (with_reducible refine (spec_l1OwnT.calls _ _ l1 t273 _ ?side1 ?side2 A3.out).mono ?_); (case side1 => exact Kd.C_keep (⟨#[]⟩ : ByteArray) HR1.out zh hf1); (case side2 => exact HC1.out); rintro e w5 ⟨v274, rfl, ho0, hb⟩; refine ⟨_, rfl, ?_⟩; have n0_ := am (Kd.R_lower ho0 (keep_size (w := w) (g := g) (row := none) zh)); have n1_ := am (IsS50.below zi hb); have n2_ := am (KeepBut.trans zh (KeepBut.of_below hb g none) (.inl rfl)); have n3_ := am (below_step zj hb); clear HI0; clear HK; clear HB; have HO275 := n0_; have HI0 := n1_; have HK := n2_; have HB := n3_; clear n0_ n1_ n2_ n3_; (try clear hb); (try clear ho0)) | ((with_reducible refine gateC (f := 38) rfl ?_); refine goesL_ (some 12) rfl rfl Tryd.func38 (by kernel_rfl) rfl #[.pointer (some ⟨g, 0, none⟩), .int .i64 4] rfl zm ?_; (with_reducible refine (spec_l1Cur_pick.calls g s0_0 s0_1 s0_2 4 t276 t277 t278 w0 _ ?side1 ?side2 A4.out).mono ?_); (case side1 => exact zi); (case side2 => exact zj); rintro e w6 ⟨rfl, hi, hb, hk⟩; refine ⟨_, rfl, ?_⟩; have n0_ := am (Kd.R_mono (Kd.R_keep (IsS50.apart (show IsS50 w0 _ g s0_0 s0_1 s0_2 from zi) (zr HO275.out) (by decide)) hk (fun _ h => h.2)) (fun _ h => h.1)); have n1_ := am (KeepBut.trans zh hk (.inl rfl)); have n2_ := am (hb); have n3_ := am (hi); clear HO275; clear HK; clear HB; clear HI0; have HO275 := n0_; have HK := n1_; have HB := n2_; have HI0 := n3_; clear n0_ n1_ n2_ n3_; (try clear hb); (try clear hk); (try clear hi)))
 go_loopg [5, 6] k (fun kq v5 v6 w' => ∃ (x5_1 : List ByteArray) (x6_1 : Int) (x1001_1 : Int) (x1002_1 : Int), v6 = .int .i64 x6_1 ∧ Aside0 (spec_l1Cur_other.l0 kq x5_1 x6_1 s0_0 x1001_1 x1002_1 = some (r1, r2, r3)) ∧ Aside0 (kq ≤ k) ∧ Aside0 (Kd.R Kd.string 9 w' w.heap.size (fun _ => True) v5 x5_1) ∧ Aside0 (IsS50 w0 w' g s0_0 x1001_1 x1002_1) ∧ Aside0 (KeepBut w w' g none) ∧ Aside0 (Below w0.heap.size w0 w'))
 case atStart => exact ⟨(t273), (t276), (t277), (t278), zf, H', ⟨Nat.le_refl _⟩, ⟨by (with_reducible repeat (first | apply Kd.R_alloc | apply Kd.R_drewN | apply Kd.R_drew)); exact HO275.out⟩, ⟨by repeat (first | (with_reducible first | exact HI0.out | apply IsS50.alloc | apply IsS50.drewN | apply IsS50.drew | apply IsS50.set_1 | apply IsS50.set_2) | exact HI0.out)⟩, ⟨by repeat (first | (with_reducible first | exact HK.out | apply KeepBut.set_ | apply keep_drewN | apply keep_drew | apply keep_alloc) | exact HK.out)⟩, ⟨by repeat (first | (with_reducible first | exact HB.out | apply below_alloc | apply pw_below_drewN | apply below_drew1 | refine below_set ?_ (IsS50.ge HI0.out)) | exact HB.out)⟩⟩
 case round =>
  clear H'
  try clear c1
  try clear p2
  try clear c3
  try clear c4
  try clear c5
  obtain ⟨x5_1, x6_1, x1001_1, x1002_1, rfl, HA, HK1, HO_5, HI0, HK, HB⟩ := hrel
  cases gk with
  | zero => exact absurd HA.out (by simp [spec_l1Cur_other.l0])
  | succ k1 =>
   have H := HA.out
   clear HA
   simp only [spec_l1Cur_other.l0] at H
   by_cases c7 : x6_1 > 0
   ·rw [if_pos c7] at H
    have c7b0 : decide (0 < x6_1) = true := decide_eq_true c7
    clear c7
    replace H := Option.bind_eq_some_iff.mp H
    obtain ⟨⟨t279, t280, t281⟩, A80, H⟩ := H
    replace H : ((spec_l1Cur_pick.f s0_0 t280 t281 3).bind fun bt282 => (if bt282.1 = 0 then (if t279 < (x5_1.length : Int) then (if 0 ≤ t279 then (if t279 ≤ (x5_1.length : Int) then ((spec_l1OwnT.f (x5_1.take (t279 : Int).toNat)).bind fun t289 => (if 0 ≤ (wrap64 (t279 + 1)) then (if (wrap64 (t279 + 1)) ≤ (x5_1.length : Int) then ((some (x5_1.drop ((wrap64 (t279 + 1)) : Int).toNat : List ByteArray)).bind fun y292 => (if t289.length + y292.length < 8796093022208 then (spec_l1Cur_other.l0 k1 (t289 ++ y292) (wrap64 (x6_1 - 1)) s0_0 bt282.2.1 bt282.2.2) else (none))) else (none)) else (none))) else (none)) else (none)) else (spec_l1Cur_other.l0 k1 x5_1 (wrap64 (x6_1 - 1)) s0_0 bt282.2.1 bt282.2.2)) else (if bt282.1 = 1 then (if t279 < (x5_1.length : Int) then (if 0 ≤ t279 then ((spec_l1Ends.f (rdOf ByteArray.empty x5_1 t279)).bind fun t300 => (if t300 = true then ((spec_l1Cur_line.f s0_0 bt282.2.1 bt282.2.2).bind fun bt301 => (if bt301.1.size + 1 ≤ 9223372036854775807 then (spec_l1Cur_other.l0 k1 (x5_1.set (t279 : Int).toNat (bt301.1 ++ (⟨#[10]⟩ : ByteArray))) (wrap64 (x6_1 - 1)) s0_0 bt301.2.1 bt301.2.2) else (none))) else (spec_l1Cur_other.l0 k1 x5_1 (wrap64 (x6_1 - 1)) s0_0 bt282.2.1 bt282.2.2))) else (none)) else (spec_l1Cur_other.l0 k1 x5_1 (wrap64 (x6_1 - 1)) s0_0 bt282.2.1 bt282.2.2)) else (if t279 < (x5_1.length : Int) then (spec_l1Cur_other.j1 k1 x5_1 x6_1 t279 true s0_0 bt282.2.1 bt282.2.2) else ((spec_l1Whole.f x5_1).bind fun t305 => (spec_l1Cur_other.j1 k1 x5_1 x6_1 t279 t305 s0_0 bt282.2.1 bt282.2.2)))))) = some (r1, r2, r3) := H
    have A8 := am A80
    clear A80
    replace H := Option.bind_eq_some_iff.mp H
    obtain ⟨⟨t282, t283, t284⟩, A90, H⟩ := H
    replace H : (if t282 = 0 then (if t279 < (x5_1.length : Int) then (if 0 ≤ t279 then (if t279 ≤ (x5_1.length : Int) then ((spec_l1OwnT.f (x5_1.take (t279 : Int).toNat)).bind fun t289 => (if 0 ≤ (wrap64 (t279 + 1)) then (if (wrap64 (t279 + 1)) ≤ (x5_1.length : Int) then ((some (x5_1.drop ((wrap64 (t279 + 1)) : Int).toNat : List ByteArray)).bind fun y292 => (if t289.length + y292.length < 8796093022208 then (spec_l1Cur_other.l0 k1 (t289 ++ y292) (wrap64 (x6_1 - 1)) s0_0 t283 t284) else (none))) else (none)) else (none))) else (none)) else (none)) else (spec_l1Cur_other.l0 k1 x5_1 (wrap64 (x6_1 - 1)) s0_0 t283 t284)) else (if t282 = 1 then (if t279 < (x5_1.length : Int) then (if 0 ≤ t279 then ((spec_l1Ends.f (rdOf ByteArray.empty x5_1 t279)).bind fun t300 => (if t300 = true then ((spec_l1Cur_line.f s0_0 t283 t284).bind fun bt301 => (if bt301.1.size + 1 ≤ 9223372036854775807 then (spec_l1Cur_other.l0 k1 (x5_1.set (t279 : Int).toNat (bt301.1 ++ (⟨#[10]⟩ : ByteArray))) (wrap64 (x6_1 - 1)) s0_0 bt301.2.1 bt301.2.2) else (none))) else (spec_l1Cur_other.l0 k1 x5_1 (wrap64 (x6_1 - 1)) s0_0 t283 t284))) else (none)) else (spec_l1Cur_other.l0 k1 x5_1 (wrap64 (x6_1 - 1)) s0_0 t283 t284)) else (if t279 < (x5_1.length : Int) then (spec_l1Cur_other.j1 k1 x5_1 x6_1 t279 true s0_0 t283 t284) else ((spec_l1Whole.f x5_1).bind fun t305 => (spec_l1Cur_other.j1 k1 x5_1 x6_1 t279 t305 s0_0 t283 t284))))) = some (r1, r2, r3) := H
    have A9 := am A90
    clear A90
    by_cases c10 : t282 = 0
    ·rw [if_pos c10] at H
     have c10b0 : (t282 == 0) = true := beq_iff_eq.mpr c10
     have c10b1 : (t282 != 0) = false := bne_eq_false_iff_eq.mpr c10
     clear c10
     by_cases c11 : t279 < (x5_1.length : Int)
     ·rw [if_pos c11] at H
      have c11b0 : decide (t279 < (x5_1.length : Int)) = true := decide_eq_true c11
      clear c11
      by_cases c12 : 0 ≤ t279
      ·rw [if_pos c12] at H
       have c12b0 := eq_true c12
       have c12b1 : decide (0 ≤ t279) = true := decide_eq_true c12
       clear c12
       by_cases c13 : t279 ≤ (x5_1.length : Int)
       ·rw [if_pos c13] at H
        have c13b0 := eq_true c13
        have c13b1 : decide (t279 ≤ (x5_1.length : Int)) = true := decide_eq_true c13
        clear c13
        obtain ⟨y285, hy285⟩ : ∃ y_ : List ByteArray, y_ = (x5_1.take (t279 : Int).toNat) := ⟨_, rfl⟩
        replace H : ((spec_l1OwnT.f y285).bind fun t289 => (if 0 ≤ (wrap64 (t279 + 1)) then (if (wrap64 (t279 + 1)) ≤ (x5_1.length : Int) then ((some (x5_1.drop ((wrap64 (t279 + 1)) : Int).toNat : List ByteArray)).bind fun y292 => (if t289.length + y292.length < 8796093022208 then (spec_l1Cur_other.l0 k1 (t289 ++ y292) (wrap64 (x6_1 - 1)) s0_0 t283 t284) else (none))) else (none)) else (none))) = some (r1, r2, r3) := by first | (rw [hy285]; with_reducible exact H) | (have H2_ := (Option.bind_some _ _).symm.trans H; rw [hy285]; with_reducible exact H2_) | (have H2_ := (Option.bind_some _ _).symm.trans H; with_reducible exact H2_) | with_reducible exact H | (rw [hy285]; exact H) | exact H
        have Ny285 := am hy285
        clear hy285
        replace H := Option.bind_eq_some_iff.mp H
        obtain ⟨t289, A140, H⟩ := H
        replace H : (if 0 ≤ (wrap64 (t279 + 1)) then (if (wrap64 (t279 + 1)) ≤ (x5_1.length : Int) then ((some (x5_1.drop ((wrap64 (t279 + 1)) : Int).toNat : List ByteArray)).bind fun y292 => (if t289.length + y292.length < 8796093022208 then (spec_l1Cur_other.l0 k1 (t289 ++ y292) (wrap64 (x6_1 - 1)) s0_0 t283 t284) else (none))) else (none)) else (none)) = some (r1, r2, r3) := H
        have A14 := am A140
        clear A140
        obtain ⟨ji15, hji15⟩ : ∃ j_ : Int, (wrap64 (t279 + 1)) = j_ := ⟨_, rfl⟩
        replace H : (if 0 ≤ (ji15) then (if (ji15) ≤ (x5_1.length : Int) then ((some (x5_1.drop ((ji15) : Int).toNat : List ByteArray)).bind fun y292 => (if t289.length + y292.length < 8796093022208 then (spec_l1Cur_other.l0 k1 (t289 ++ y292) (wrap64 (x6_1 - 1)) s0_0 t283 t284) else (none))) else (none)) else (none)) = some (r1, r2, r3) := by first | (rw [hji15] at H; exact H) | (simp only [hji15] at H ⊢; exact H)
        (try rw [hji15] at A8)
        (try rw [hji15] at A9)
        (try rw [hji15] at A14)
        have hji15w : (IntKind.i64.wrap (t279 + 1)) = ji15 := (i64_w _).trans hji15
        by_cases c16 : 0 ≤ (ji15)
        ·rw [if_pos c16] at H
         have c16b0 := eq_true c16
         have c16b1 : decide (0 ≤ (ji15)) = true := decide_eq_true c16
         clear c16
         by_cases c17 : (ji15) ≤ (x5_1.length : Int)
         ·rw [if_pos c17] at H
          have c17b0 := eq_true c17
          have c17b1 : decide ((ji15) ≤ (x5_1.length : Int)) = true := decide_eq_true c17
          clear c17
          obtain ⟨y292, hy292⟩ : ∃ y_ : List ByteArray, y_ = (x5_1.drop ((ji15) : Int).toNat) := ⟨_, rfl⟩
          replace H : (if t289.length + y292.length < 8796093022208 then (spec_l1Cur_other.l0 k1 (t289 ++ y292) (wrap64 (x6_1 - 1)) s0_0 t283 t284) else (none)) = some (r1, r2, r3) := by first | (rw [hy292]; with_reducible exact H) | (have H2_ := (Option.bind_some _ _).symm.trans H; rw [hy292]; with_reducible exact H2_) | (have H2_ := (Option.bind_some _ _).symm.trans H; with_reducible exact H2_) | with_reducible exact H | (rw [hy292]; exact H) | exact H
          have Ny292 := am hy292
          clear hy292
          by_cases c18 : t289.length + y292.length < 8796093022208
          ·rw [if_pos c18] at H
           have LMc18 := am c18
           clear c18
           obtain ⟨y296, hy296⟩ : ∃ y_ : List ByteArray, y_ = (t289 ++ y292) := ⟨_, rfl⟩
           replace H : (spec_l1Cur_other.l0 k1 y296 (wrap64 (x6_1 - 1)) s0_0 t283 t284) = some (r1, r2, r3) := by first | (rw [hy296]; with_reducible exact H) | (have H2_ := (Option.bind_some _ _).symm.trans H; rw [hy296]; with_reducible exact H2_) | (have H2_ := (Option.bind_some _ _).symm.trans H; with_reducible exact H2_) | with_reducible exact H | (rw [hy296]; exact H) | exact H
           have Ny296 := am hy296
           clear hy296
           have H' := am H
           clear H
           obtain ⟨Ao19, co19, eo19⟩ := Kd.R_slice HO_5.out
           subst eo19
           try go_wp2_with (first | ((with_reducible refine gateC (f := 38) rfl ?_); refine goesL_ (some 21) rfl rfl Tryd.func38 (by kernel_rfl) rfl #[.pointer (some ⟨g, 0, none⟩), .int .i64 (wrap64 ((x5_1.length : Int) + 1))] rfl zm ?_; (with_reducible refine (spec_l1Cur_pick.calls g s0_0 x1001_1 x1002_1 (wrap64 ((x5_1.length : Int) + 1)) t279 t280 t281 w0 _ ?side1 ?side2 A8.out).mono ?_); (case side1 => exact zi); (case side2 => exact zj); rintro e w20 ⟨rfl, hi, hb, hk⟩; refine ⟨_, rfl, ?_⟩; have n0_ := am (Kd.R_mono (Kd.R_keep (IsS50.apart (show IsS50 w0 _ g s0_0 x1001_1 x1002_1 from zi) (zr HO_5.out) (by decide)) hk (fun _ h => h.2)) (fun _ h => h.1)); have n1_ := am (KeepBut.trans zh hk (.inl rfl)); have n2_ := am (hb); have n3_ := am (hi); clear HO_5; clear HK; clear HB; clear HI0; have HO_5 := n0_; have HK := n1_; have HB := n2_; have HI0 := n3_; clear n0_ n1_ n2_ n3_; (try clear hb); (try clear hk); (try clear hi)) | ((with_reducible refine gateC (f := 38) rfl ?_); refine goesL_ (some 23) rfl rfl Tryd.func38 (by kernel_rfl) rfl #[.pointer (some ⟨g, 0, none⟩), .int .i64 3] rfl zm ?_; (with_reducible refine (spec_l1Cur_pick.calls g s0_0 t280 t281 3 t282 t283 t284 w0 _ ?side1 ?side2 A9.out).mono ?_); (case side1 => exact zi); (case side2 => exact zj); rintro e w21 ⟨rfl, hi, hb, hk⟩; refine ⟨_, rfl, ?_⟩; have n0_ := am (Kd.R_mono (Kd.R_keep (IsS50.apart (show IsS50 w0 _ g s0_0 t280 t281 from zi) (zr HO_5.out) (by decide)) hk (fun _ h => h.2)) (fun _ h => h.1)); have n1_ := am (KeepBut.trans zh hk (.inl rfl)); have n2_ := am (hb); have n3_ := am (hi); clear HO_5; clear HK; clear HB; clear HI0; have HO_5 := n0_; have HK := n1_; have HB := n2_; have HI0 := n3_; clear n0_ n1_ n2_ n3_; (try clear hb); (try clear hk); (try clear hi)))
           have n0_ := am (Kd.R_drew HO_5.out)
           have n1_ := am (IsS50.drew HI0.out)
           have n2_ := am (keep_drew HK.out)
           have n3_ := am (below_drew1 HB.out)
           clear HO_5
           clear HI0
           clear HK
           clear HB
           have HO_5 := n0_
           have HI0 := n1_
           have HK := n2_
           have HB := n3_
           clear n0_ n1_ n2_ n3_
           have q23 : (t279 : Int) ≤ ((x5_1.length : Int) : Int) := oa
           obtain ⟨i023, hi023, _, hsz23, _⟩ := info_parts info9
           have hroom23 : x5_1.length ≤ co19 := (Kd.R_reads' HO_5.out).2.1
           have hC23 : Kd.C Kd.string _ Ao19 x5_1.length x5_1 := (Kd.R_reads' HO_5.out).2.2
           have hcut23 := cut_to (P := Tryd.prog) 22 9 .i64 Tryd.underlying22 hi023 Ao19 x5_1.length co19 t279 oa q23 hroom23
           have hr23 := Kd.C_take (m := (t279 : Int).toNat) hC23 (by omega)
           have hy23 : y285.length = (t279 : Int).toNat := (by rw [Ny285.out, List.length_take]; omega)
           rw [← Ny285.out] at hr23
           rw [← hy23] at hcut23
           have HR288 := am hr23
           have HC288 := am (show y285.length ≤ co19 from by omega)
           clear hr23 hC23 hroom23 hi023 hsz23
           have KY23 := am hy23
           clear hy23
           have KL23 := am (show (t279 : Int).toNat ≤ x5_1.length from by omega)
           replace q23 := eq_true q23
           refine start_ (n := 10) (S := fun w' => True) (ds := []) #[O,O,O,O,O,O,O,O,O,O] (by kernel_rfl) rfl rfl trivial (fun hHeld => ?_); refine with_tabW spec_l1Cur_other.tab11 spec_l1Cur_other.bits11 (fun HT_ HW_ => ?_)
           generalize w21.drew = w22 at HO_5 HI0 HK HB HR288 hHeld ⊢
           refine pure_ (i := 0) (N := some 51) (v := ?_) (a' := ?_) #[Y,O,O,O,O,O,O,O,O,O] rfl rfl zx (fun _ _ _ h => h) (Or.inl ⟨by rfl, ?_⟩) ?_ ?_
           rotate_left; (intro w'; go_simp; with_reducible rfl); rotate_left; (simp only [Act.put,qa,qb,qc,i64_w,i32_w]; rfl)
           refine pure_ (i := 1) (N := some 52) (v := ?_) (a' := ?_) #[Y,Y,O,O,O,O,O,O,O,O] rfl rfl zx (fun _ _ _ h => h) (Or.inl ⟨by rfl, ?_⟩) ?_ ?_
           rotate_left; (intro w'; go_simp; with_reducible rfl); rotate_left; (simp only [Act.put,qa,qb,qc,i64_w,i32_w]; rfl)
           refine pure_ (i := 2) (N := some 53) (v := ?_) (a' := ?_) #[Y,Y,Y,O,O,O,O,O,O,O] rfl rfl zx (fun _ _ _ h => h) (Or.inl ⟨by rfl, ?_⟩) ?_ ?_
           rotate_left; (intro w'; go_simp; with_reducible rfl); rotate_left; (simp only [Act.put,qa,qb,qc,i64_w,i32_w]; rfl)
           refine pure_ (i := 4) (N := some 55) (v := ?_) (a' := ?_) #[Y,Y,Y,O,Y,O,O,O,O,O] rfl rfl zx (fun _ _ _ h => h) (Or.inl ⟨by rfl, ?_⟩) ?_ ?_
           rotate_left; (intro w'; go_simp; with_reducible rfl); rotate_left; (simp only [Act.put,qa,qb,qc,i64_w,i32_w]; rfl)
           refine pure_ (i := 5) (N := some 56) (v := ?_) (a' := ?_) #[Y,Y,Y,O,Y,Y,O,O,O,O] rfl rfl zx (fun _ _ _ h => h) (Or.inl ⟨by rfl, ?_⟩) ?_ ?_
           rotate_left; (intro w'; go_simp; with_reducible rfl); rotate_left; (simp only [Act.put,qa,qb,qc,i64_w,i32_w]; rfl)
           refine pure_ (i := 6) (N := some 57) (v := ?_) (a' := ?_) #[Y,Y,Y,O,Y,Y,Y,O,O,O] rfl rfl zx (fun _ _ _ h => h) (Or.inl ⟨by rfl, ?_⟩) ?_ ?_
           rotate_left; (intro w'; go_simp; with_reducible rfl); rotate_left; (simp only [Act.put,qa,qb,qc,i64_w,i32_w]; rfl)
                     -- cut ahead
           have q25 : ((ji15) : Int) ≤ ((x5_1.length : Int) : Int) := oa
           obtain ⟨i025, hi025, _, hsz25, _⟩ := info_parts info9
           have hroom25 : x5_1.length ≤ co19 := (Kd.R_reads' HO_5.out).2.1
           have hC25 : Kd.C Kd.string _ Ao19 x5_1.length x5_1 := (Kd.R_reads' HO_5.out).2.2
           have q025 : (0 : Int) ≤ ((ji15) : Int) := oa
           have hcut25 := cut_from (P := Tryd.prog) 22 9 .i64 Tryd.underlying22 hi025 1 hsz25 Ao19 x5_1.length co19 (ji15) q025 q25
           obtain ⟨A25, hA25⟩ : ∃ A1, A1 = (if co19 = ((ji15) : Int).toNat then Ao19 else (Ao19 : Option Addr).map (·.add (((ji15) : Int).toNat * 1))) := ⟨_, rfl⟩
           obtain ⟨c25, hc25⟩ : ∃ c1, c1 = co19 - ((ji15) : Int).toNat := ⟨_, rfl⟩
           have hy25 : y292.length = x5_1.length - ((ji15) : Int).toNat := (by rw [Ny292.out, List.length_drop] <;> omega)
           rw [← hy25, ← hA25, ← hc25] at hcut25
           have HC295 := am (show y292.length ≤ c25 from by rw [hy25, hc25]; exact Nat.sub_le_sub_right hroom25 _)
           clear hC25 hroom25 hi025 hsz25 hc25
           have KY25 := am hy25
           have KA25 := am hA25
           clear hy25 hA25
           have KL25 := am (show ((ji15) : Int).toNat ≤ x5_1.length from by omega)
           replace q25 := eq_true q25
           refine pure_ (i := 7) (N := some 58) (v := ?_) (a' := ?_) #[Y,Y,Y,O,Y,Y,Y,Y,O,O] rfl rfl zx (fun _ _ _ h => h) (Or.inl ⟨by rfl, ?_⟩) ?_ ?_
           rotate_left; (intro w'; go_simp; with_reducible rfl); rotate_left; (simp only [Act.put,qa,qb,qc,i64_w,i32_w]; rfl)
           refine one_ (i := 3) (N := some 54) #[Y,Y,Y,Y,Y,Y,Y,Y,O,O] rfl rfl (one_of HT_.out (by kernel_rfl)) (by decide) (fun K hK => ?_)
           refine goes_ Tryd.func53 (by kernel_rfl) rfl #[.slice Ao19 y285.length co19] (by rfl) rfl rfl zm ?_
           with_reducible refine (spec_l1OwnT.calls _ _ y285 t289 _ ?side1 ?side2 A14.out).mono ?_
           (case side1 => repeat (first | exact (by repeat (first | (with_reducible exact HR288.out) | (with_reducible refine Kd.C_alloc ?_ _) | (with_reducible refine Kd.C_drewN ?_ _) | (with_reducible refine Kd.C_drew ?_) | exact HR288.out)) | (with_reducible refine Kd.C_alloc ?_ _) | (with_reducible refine Kd.C_drewN ?_ _) | (with_reducible refine Kd.C_drew ?_)))
           (case side2 => exact HC288.out)
           rintro e w24 ⟨v290, rfl, ho0, hb⟩
           refine ⟨_, rfl, ?_⟩
           have n0_ := am (Kd.R_elder' (zr HO_5.out) (Kd.R_base ho0) hb)
           have n1_ := am (Kd.R_lower (Kd.R_new' ho0 (Kd.R_lt (zr HO_5.out))) (keep_size (w := w) (g := g) (row := none) zh))
           have n2_ := am (IsS50.below zi hb)
           have n3_ := am (Kd.C_below (by repeat (first | (with_reducible exact HR288.out) | (with_reducible refine Kd.C_alloc ?_ _) | (with_reducible refine Kd.C_drewN ?_ _) | (with_reducible refine Kd.C_drew ?_) | exact HR288.out)) hb)
           have n4_ := am (KeepBut.trans zh (KeepBut.of_below hb g none) (.inl rfl))
           have n5_ := am (below_step zj hb)
           clear HO_5
           clear HI0
           clear HR288
           clear HK
           clear HB
           have HO_5 := n0_
           have HO291 := n1_
           have HI0 := n2_
           have HR288 := n3_
           have HK := n4_
           have HB := n5_
           clear n0_ n1_ n2_ n3_ n4_ n5_
           (try clear hb)
           (try clear hb2)
           (try clear hk)
           (try clear hi)
           (try clear ho0)
           have hr25 := Kd.C_drop (m := ((ji15) : Int).toNat) (c := co19) (Kd.R_reads' HO_5.out).2.2 (by have := KL25.out; omega) (Kd.R_reads' HO_5.out).2.1
           rw [show (x5_1).drop ((ji15) : Int).toNat = y292 from Ny292.out.symm] at hr25
           replace hr25 : Kd.C Kd.string _ A25 y292.length y292 := (by rw [KA25.out]; exact hr25)
           have HR295 := am hr25
           clear hr25
           refine hK.out _ _ trivial (fun hHeld => ?_)
           clear hK K
           refine norm_ (a' := ?_) ?_ ?_
           rotate_left
           ·show Act.put _ (some 54) _ = _
            simp only [Act.put,qa,qb,qc,i64_w,i32_w]
            rfl
           refine one_ (i := 8) (N := some 59) #[Y,Y,Y,Y,Y,Y,Y,Y,Y,O] rfl rfl (one_of HT_.out (by kernel_rfl)) (by decide) (fun K hK => ?_)
           refine Kd.R_append_rows_step Kd.string w.heap.size (by rfl) (.tmp 54) (.tmp 58) 22 9 (.string ⟨#[]⟩) 16 rfl Tryd.underlying22 info9 rfl (by decide) (by omega) v290 t289 y292 _ _ _ (fun k_ => some k_ ≠ (.slice Ao19 x5_1.length co19 : Value).ownBlock) (fun _ => False) rfl rfl ?aO ?aR (fun _ _ h => h) (fun _ h => h.elim) ?aF (Below.refl _ _) ?aS ?aL ?_
           (case aR => repeat (first | exact (by repeat (first | (with_reducible exact HR295.out) | (with_reducible refine Kd.C_alloc ?_ _) | (with_reducible refine Kd.C_drewN ?_ _) | (with_reducible refine Kd.C_drew ?_) | exact HR295.out)) | (with_reducible refine Kd.C_alloc ?_ _) | (with_reducible refine Kd.C_drewN ?_ _) | (with_reducible refine Kd.C_drew ?_)))
           (case aF => exact (fun k_ hk => Kd.fresh' (Kd.R_lt (zr HO_5.out)) k_ hk))
           (case aO => exact (by (with_reducible repeat (first | apply Kd.R_alloc | apply Kd.R_drewN | apply Kd.R_drew)); exact Kd.R_mono HO291.out (fun _ hk => hk.2)))
           (case aS => exact (keep_size (w := w) (g := g) (row := none) zh))
           (case aL => have := LMc18.out; omega)
           intro v297 w26 ho hb hg hat
           rw [← Ny296.out] at ho
           have n0_ := am (Kd.R_after (ok := (fun _ => True)) (zr HO_5.out) hg hat)
           have n1_ := am (IsS50.grown zi hg (IsS50.own_ne HI0.out HO291.out (by decide)))
           have n2_ := am (below_weaken zj HL.out hb)
           have n3_ := am (KeepBut.trans zh (KeepBut.of_grown hg g) (Kd.R_base2 HO291.out))
           have n4_ := am ((show Kd.C Kd.string w26 Ao19 y285.length y285 from by rw [Ny285.out]; exact Kd.C_take (m := (t279 : Int).toNat) ((Kd.R_reads' (Kd.R_after (ok := (fun _ => True)) (zr HO_5.out) hg hat)).2.2) KL23.out))
           have n5_ := am ((show Kd.C Kd.string w26 A25 y292.length y292 from by rw [Ny292.out, KA25.out]; exact Kd.C_drop (m := ((ji15) : Int).toNat) (c := co19) ((Kd.R_reads' (Kd.R_after (ok := (fun _ => True)) (zr HO_5.out) hg hat)).2.2) KL25.out ((Kd.R_reads' (Kd.R_after (ok := (fun _ => True)) (zr HO_5.out) hg hat)).2.1)))
           have n6_ := am (ho)
           clear HO_5
           clear HI0
           clear HB
           clear HK
           clear HR288
           clear HR295
           clear HO291
           have HO_5 := n0_
           have HI0 := n1_
           have HB := n2_
           have HK := n3_
           have HR288 := n4_
           have HR295 := n5_
           have HO298 := n6_
           clear n0_ n1_ n2_ n3_ n4_ n5_ n6_
           clear ho hb hg hat
           refine hK.out _ _ trivial (fun hHeld => ?_)
           clear hK K
           refine norm_ (a' := ?_) ?_ ?_
           rotate_left
           ·show Act.put _ (some 59) _ = _
            simp only [Act.put,qa,qb,qc,i64_w,i32_w]
            rfl
           refine pure_ (i := 9) (N := some 5) (v := ?_) (a' := ?_) #[Y,Y,Y,Y,Y,Y,Y,Y,Y,Y] rfl rfl zx (fun _ _ _ h => h) (Or.inl ⟨by rfl, ?_⟩) ?_ ?_
           rotate_left; (intro w'; go_simp; with_reducible rfl); rotate_left; (simp only [Act.put,qa,qb,qc,i64_w,i32_w]; rfl)
           refine done_ (done_of HT_.out (by kernel_rfl)) ?_
           try go_wp2
           go_roundg k1
           case measure => have := HK1.out; omega
           case rel => exact ⟨(y296), (wrap64 (x6_1 - 1)), (t283), (t284), zf, H', ⟨by have := HK1.out; omega⟩, ⟨by (with_reducible repeat (first | apply Kd.R_alloc | apply Kd.R_drewN | apply Kd.R_drew)); exact Kd.R_mono HO298.out (fun _ hk => trivial)⟩, ⟨by repeat (first | (with_reducible first | exact HI0.out | apply IsS50.alloc | apply IsS50.drewN | apply IsS50.drew | apply IsS50.set_1 | apply IsS50.set_2) | exact HI0.out)⟩, ⟨by repeat (first | (with_reducible first | exact HK.out | apply KeepBut.set_ | apply keep_drewN | apply keep_drew | apply keep_alloc) | exact HK.out)⟩, ⟨by repeat (first | (with_reducible first | exact HB.out | apply below_alloc | apply pw_below_drewN | apply below_drew1 | refine below_set ?_ (IsS50.ge HI0.out)) | exact HB.out)⟩⟩
          ·rw [if_neg c18] at H
           exact absurd H (by simp)
         ·rw [if_neg c17] at H
          exact absurd H (by simp)
        ·rw [if_neg c16] at H
         exact absurd H (by simp)
       ·rw [if_neg c13] at H
        exact absurd H (by simp)
      ·rw [if_neg c12] at H
       exact absurd H (by simp)
     ·rw [if_neg c11] at H
      have c11b0 : decide (t279 < (x5_1.length : Int)) = false := decide_eq_false c11
      clear c11
      have H' := am H
      clear H
      obtain ⟨Ao27, co27, eo27⟩ := Kd.R_slice HO_5.out
      subst eo27
      go_wp2_with (first | ((with_reducible refine gateC (f := 38) rfl ?_); refine goesL_ (some 21) rfl rfl Tryd.func38 (by kernel_rfl) rfl #[.pointer (some ⟨g, 0, none⟩), .int .i64 (wrap64 ((x5_1.length : Int) + 1))] rfl zm ?_; (with_reducible refine (spec_l1Cur_pick.calls g s0_0 x1001_1 x1002_1 (wrap64 ((x5_1.length : Int) + 1)) t279 t280 t281 w0 _ ?side1 ?side2 A8.out).mono ?_); (case side1 => exact zi); (case side2 => exact zj); rintro e w28 ⟨rfl, hi, hb, hk⟩; refine ⟨_, rfl, ?_⟩; have n0_ := am (Kd.R_mono (Kd.R_keep (IsS50.apart (show IsS50 w0 _ g s0_0 x1001_1 x1002_1 from zi) (zr HO_5.out) (by decide)) hk (fun _ h => h.2)) (fun _ h => h.1)); have n1_ := am (KeepBut.trans zh hk (.inl rfl)); have n2_ := am (hb); have n3_ := am (hi); clear HO_5; clear HK; clear HB; clear HI0; have HO_5 := n0_; have HK := n1_; have HB := n2_; have HI0 := n3_; clear n0_ n1_ n2_ n3_; (try clear hb); (try clear hk); (try clear hi)) | ((with_reducible refine gateC (f := 38) rfl ?_); refine goesL_ (some 23) rfl rfl Tryd.func38 (by kernel_rfl) rfl #[.pointer (some ⟨g, 0, none⟩), .int .i64 3] rfl zm ?_; (with_reducible refine (spec_l1Cur_pick.calls g s0_0 t280 t281 3 t282 t283 t284 w0 _ ?side1 ?side2 A9.out).mono ?_); (case side1 => exact zi); (case side2 => exact zj); rintro e w29 ⟨rfl, hi, hb, hk⟩; refine ⟨_, rfl, ?_⟩; have n0_ := am (Kd.R_mono (Kd.R_keep (IsS50.apart (show IsS50 w0 _ g s0_0 t280 t281 from zi) (zr HO_5.out) (by decide)) hk (fun _ h => h.2)) (fun _ h => h.1)); have n1_ := am (KeepBut.trans zh hk (.inl rfl)); have n2_ := am (hb); have n3_ := am (hi); clear HO_5; clear HK; clear HB; clear HI0; have HO_5 := n0_; have HK := n1_; have HB := n2_; have HI0 := n3_; clear n0_ n1_ n2_ n3_; (try clear hb); (try clear hk); (try clear hi)))
      go_roundg k1
      case measure => have := HK1.out; omega
      case rel => exact ⟨(x5_1), (wrap64 (x6_1 - 1)), (t283), (t284), zf, H', ⟨by have := HK1.out; omega⟩, ⟨by (with_reducible repeat (first | apply Kd.R_alloc | apply Kd.R_drewN | apply Kd.R_drew)); exact HO_5.out⟩, ⟨by repeat (first | (with_reducible first | exact HI0.out | apply IsS50.alloc | apply IsS50.drewN | apply IsS50.drew | apply IsS50.set_1 | apply IsS50.set_2) | exact HI0.out)⟩, ⟨by repeat (first | (with_reducible first | exact HK.out | apply KeepBut.set_ | apply keep_drewN | apply keep_drew | apply keep_alloc) | exact HK.out)⟩, ⟨by repeat (first | (with_reducible first | exact HB.out | apply below_alloc | apply pw_below_drewN | apply below_drew1 | refine below_set ?_ (IsS50.ge HI0.out)) | exact HB.out)⟩⟩
    ·rw [if_neg c10] at H
     have c10b0 : (t282 == 0) = false := beq_eq_false_iff_ne.mpr c10
     have c10b1 : (t282 != 0) = true := bne_iff_ne.mpr c10
     by_cases c30 : t282 = 1
     ·rw [if_pos c30] at H
      have c30b0 : (t282 == 1) = true := beq_iff_eq.mpr c30
      have c30b1 : (t282 != 1) = false := bne_eq_false_iff_eq.mpr c30
      clear c30
      by_cases c31 : t279 < (x5_1.length : Int)
      ·rw [if_pos c31] at H
       have c31b0 : decide (t279 < (x5_1.length : Int)) = true := decide_eq_true c31
       clear c31
       by_cases c32 : 0 ≤ t279
       ·rw [if_pos c32] at H
        have c32b0 : decide (0 ≤ t279) = true := decide_eq_true c32
        clear c32
        replace H := Option.bind_eq_some_iff.mp H
        obtain ⟨t300, A330, H⟩ := H
        replace H : (if t300 = true then ((spec_l1Cur_line.f s0_0 t283 t284).bind fun bt301 => (if bt301.1.size + 1 ≤ 9223372036854775807 then (spec_l1Cur_other.l0 k1 (x5_1.set (t279 : Int).toNat (bt301.1 ++ (⟨#[10]⟩ : ByteArray))) (wrap64 (x6_1 - 1)) s0_0 bt301.2.1 bt301.2.2) else (none))) else (spec_l1Cur_other.l0 k1 x5_1 (wrap64 (x6_1 - 1)) s0_0 t283 t284)) = some (r1, r2, r3) := H
        have A33 := am A330
        clear A330
        by_cases c34 : t300 = true
        ·subst c34
         have H1 : ((spec_l1Cur_line.f s0_0 t283 t284).bind fun bt301 => (if bt301.1.size + 1 ≤ 9223372036854775807 then (spec_l1Cur_other.l0 k1 (x5_1.set (t279 : Int).toNat (bt301.1 ++ (⟨#[10]⟩ : ByteArray))) (wrap64 (x6_1 - 1)) s0_0 bt301.2.1 bt301.2.2) else (none))) = some (r1, r2, r3) := by rw [if_pos rfl] at H; exact H
         clear H
         have H := H1
         clear H1
         replace H := Option.bind_eq_some_iff.mp H
         obtain ⟨⟨t301, t302, t303⟩, A350, H⟩ := H
         replace H : (if t301.size + 1 ≤ 9223372036854775807 then (spec_l1Cur_other.l0 k1 (x5_1.set (t279 : Int).toNat (t301 ++ (⟨#[10]⟩ : ByteArray))) (wrap64 (x6_1 - 1)) s0_0 t302 t303) else (none)) = some (r1, r2, r3) := H
         have A35 := am A350
         clear A350
         by_cases c36 : t301.size + 1 ≤ 9223372036854775807
         ·rw [if_pos c36] at H
          have c36b0 := eq_true c36
          have c36b1 : decide (t301.size + 1 ≤ 9223372036854775807) = true := decide_eq_true c36
          try have c36b2 : (9223372036854775807 < t301.size + 1) = False := eq_false (Nat.not_lt.2 c36)
          obtain ⟨y304, hy304⟩ : ∃ y_ : List ByteArray, y_ = (x5_1.set (t279 : Int).toNat (t301 ++ (⟨#[10]⟩ : ByteArray))) := ⟨_, rfl⟩
          replace H : (spec_l1Cur_other.l0 k1 y304 (wrap64 (x6_1 - 1)) s0_0 t302 t303) = some (r1, r2, r3) := by first | (rw [hy304]; with_reducible exact H) | (have H2_ := (Option.bind_some _ _).symm.trans H; rw [hy304]; with_reducible exact H2_) | (have H2_ := (Option.bind_some _ _).symm.trans H; with_reducible exact H2_) | with_reducible exact H | (rw [hy304]; exact H) | exact H
          have Ny304 := am hy304
          clear hy304
          have H' := am H
          clear H
          obtain ⟨Ao38, co38, eo38⟩ := Kd.R_slice HO_5.out
          subst eo38
          go_wp2_with (first | ((with_reducible refine gateC (f := 38) rfl ?_); refine goesL_ (some 21) rfl rfl Tryd.func38 (by kernel_rfl) rfl #[.pointer (some ⟨g, 0, none⟩), .int .i64 (wrap64 ((x5_1.length : Int) + 1))] rfl zm ?_; (with_reducible refine (spec_l1Cur_pick.calls g s0_0 x1001_1 x1002_1 (wrap64 ((x5_1.length : Int) + 1)) t279 t280 t281 w0 _ ?side1 ?side2 A8.out).mono ?_); (case side1 => exact zi); (case side2 => exact zj); rintro e w39 ⟨rfl, hi, hb, hk⟩; refine ⟨_, rfl, ?_⟩; have n0_ := am (Kd.R_mono (Kd.R_keep (IsS50.apart (show IsS50 w0 _ g s0_0 x1001_1 x1002_1 from zi) (zr HO_5.out) (by decide)) hk (fun _ h => h.2)) (fun _ h => h.1)); have n1_ := am (KeepBut.trans zh hk (.inl rfl)); have n2_ := am (hb); have n3_ := am (hi); clear HO_5; clear HK; clear HB; clear HI0; have HO_5 := n0_; have HK := n1_; have HB := n2_; have HI0 := n3_; clear n0_ n1_ n2_ n3_; (try clear hb); (try clear hk); (try clear hi)) | ((with_reducible refine gateC (f := 38) rfl ?_); refine goesL_ (some 23) rfl rfl Tryd.func38 (by kernel_rfl) rfl #[.pointer (some ⟨g, 0, none⟩), .int .i64 3] rfl zm ?_; (with_reducible refine (spec_l1Cur_pick.calls g s0_0 t280 t281 3 t282 t283 t284 w0 _ ?side1 ?side2 A9.out).mono ?_); (case side1 => exact zi); (case side2 => exact zj); rintro e w40 ⟨rfl, hi, hb, hk⟩; refine ⟨_, rfl, ?_⟩; have n0_ := am (Kd.R_mono (Kd.R_keep (IsS50.apart (show IsS50 w0 _ g s0_0 t280 t281 from zi) (zr HO_5.out) (by decide)) hk (fun _ h => h.2)) (fun _ h => h.1)); have n1_ := am (KeepBut.trans zh hk (.inl rfl)); have n2_ := am (hb); have n3_ := am (hi); clear HO_5; clear HK; clear HB; clear HI0; have HO_5 := n0_; have HK := n1_; have HB := n2_; have HI0 := n3_; clear n0_ n1_ n2_ n3_; (try clear hb); (try clear hk); (try clear hi); have p299 : 0 ≤ (t279 : Int) := oa; have q299 : t279 < (x5_1.length : Int) := oa; obtain ⟨ad299, e299, hx299_0⟩ := Kd.at_string (Kd.R_reads' HO_5.out).2.2 t279 p299 q299; cases e299; replace p299 := eq_true p299; replace q299 := eq_true q299) | (go_at_call 60; (with_reducible refine (spec_l1Ends.calls (rdOf ByteArray.empty x5_1 t279) true _ A33.out).mono ?_); rintro e w' ⟨rfl, ⟨nd, rfl⟩⟩; (try (rw [drewN_self w40]; generalize hq_ : World.drewN w40 _ = w40; have n0_ : Aside0 (Kd.R Kd.string 9 w40 w.heap.size (fun _ => True) (.slice (some ad299) x5_1.length co38) x5_1) := ⟨by rw [← hq_]; exact (zr HO_5.out)⟩; have n1_ : Aside0 (IsS50 w0 w40 g s0_0 t283 t284) := ⟨by rw [← hq_]; exact zi⟩; have n2_ : Aside0 (KeepBut w w40 g none) := ⟨by rw [← hq_]; exact zh⟩; have n3_ : Aside0 (Below w0.heap.size w0 w40) := ⟨by rw [← hq_]; exact zj⟩; clear HO_5 HI0 HK HB hq_; have HO_5 := n0_; have HI0 := n1_; have HK := n2_; have HB := n3_; clear n0_ n1_ n2_ n3_))) | ((with_reducible refine gateC (f := 54) rfl ?_); refine goesL_ (some 76) rfl rfl Tryd.func54 (by kernel_rfl) rfl #[.pointer (some ⟨g, 0, none⟩)] rfl zm ?_; (with_reducible refine (spec_l1Cur_line.calls g s0_0 t283 t284 t301 t302 t303 w0 _ ?side1 ?side2 A35.out).mono ?_); (case side1 => exact zi); (case side2 => exact zj); rintro e w41 ⟨rfl, hi, hb, hk⟩; refine ⟨_, rfl, ?_⟩; have n0_ := am (Kd.R_mono (Kd.R_keep (IsS50.apart (show IsS50 w0 _ g s0_0 t283 t284 from zi) (zr HO_5.out) (by decide)) hk (fun _ h => h.2)) (fun _ h => h.1)); have n1_ := am (KeepBut.trans zh hk (.inl rfl)); have n2_ := am (hb); have n3_ := am (hi); clear HO_5; clear HK; clear HB; clear HI0; have HO_5 := n0_; have HK := n1_; have HB := n2_; have HI0 := n3_; clear n0_ n1_ n2_ n3_; (try clear hb); (try clear hk); (try clear hi); have p37 : 0 ≤ (t279 : Int) := oa; have q37 : (t279 : Int) < ((x5_1.length : Int) : Int) := oa; obtain ⟨go37, co37, eo37, gb37, gl37, cl37, HG37⟩ := Kd.R_form HO_5.out (by omega); (first | cases eo37 | (injection eo37 with ea_ en_ ec_; (first | subst ea_ | (injection ea_ with ea_; subst ea_)); subst ec_; clear en_)); have GB37 := am gb37; have GG37 := am HG37; clear gb37 gl37 HG37; (first | simp only [add_plain] at hx299_0 | skip); obtain ⟨hx37_0, hf37_0⟩ := Kd.R_celln (⟨#[]⟩ : ByteArray) HO_5.out (t279 : Int) p37 q37; replace p37 := eq_true p37; replace q37 := eq_true q37; obtain ⟨hy42_, hz42_⟩ := Kd.R_celln (⟨#[]⟩ : ByteArray) HO_5.out (t279 : Int) oa oa; have HP42 := Kd.R_putg HO_5.out (t279 : Int) (t301 ++ (⟨#[10]⟩ : ByteArray))) | ((with_reducible refine gate_store (t := 9) (p := 78) rfl ?_); refine store_event (t := 9) (p := 78) (v := ?vo_w43) (w1 := (w41.setCell ⟨go37, (t279 : Int).toNat, none⟩ (.string (t301 ++ (⟨#[10]⟩ : ByteArray))))) ?hg ?ho ?hn ?hr ?_; (case ho => rfl); (case hg => rfl); (case hn => rfl); (case hr => first | (go_simp; done) | (go_simp; rfl)); intro w43 hw; have hg : w41.grownBy w43 (some go37) := (by rw [hw]; exact HP42.2); have hp_ : Kd.R Kd.string 9 w43 w.heap.size (fun _ => True) (.slice (some ⟨go37, 0, none⟩) x5_1.length co38) y304 := (by rw [hw, Ny304.out]; exact HP42.1); clear HP42; have n0_ := am (hp_); have n1_ := am (IsS50.grown zi hg (IsS50.own_ne HI0.out HO_5.out (by decide))); have n2_ := am ((by rw [hw]; exact below_set (HB.out) (Nat.le_trans HL.out GB37.out) : Below w0.heap.size w0 w43)); have n3_ := am (KeepBut.trans zh (KeepBut.of_grown hg g) (Kd.R_base2 HO_5.out)); clear HO_5; clear HI0; clear HB; clear HK; have HO_5 := n0_; have HI0 := n1_; have HB := n2_; have HK := n3_; clear n0_ n1_ n2_ n3_; clear hg hw hp_))
          go_roundg k1
          case measure => have := HK1.out; omega
          case rel => exact ⟨(y304), (wrap64 (x6_1 - 1)), (t302), (t303), zf, H', ⟨by have := HK1.out; omega⟩, ⟨by (with_reducible repeat (first | apply Kd.R_alloc | apply Kd.R_drewN | apply Kd.R_drew)); exact HO_5.out⟩, ⟨by repeat (first | (with_reducible first | exact HI0.out | apply IsS50.alloc | apply IsS50.drewN | apply IsS50.drew | apply IsS50.set_1 | apply IsS50.set_2) | exact HI0.out)⟩, ⟨by repeat (first | (with_reducible first | exact HK.out | apply KeepBut.set_ | apply keep_drewN | apply keep_drew | apply keep_alloc) | exact HK.out)⟩, ⟨by repeat (first | (with_reducible first | exact HB.out | apply below_alloc | apply pw_below_drewN | apply below_drew1 | refine below_set ?_ (IsS50.ge HI0.out)) | exact HB.out)⟩⟩
         ·rw [if_neg c36] at H
          exact absurd H (by simp)
        ·replace c34 := Bool.eq_false_iff.mpr c34
         subst c34
         have H1 : (spec_l1Cur_other.l0 k1 x5_1 (wrap64 (x6_1 - 1)) s0_0 t283 t284) = some (r1, r2, r3) := by rw [if_neg (show ¬ (false = true) by decide)] at H; exact H
         clear H
         have H := H1
         clear H1
         have H' := am H
         clear H
         obtain ⟨Ao44, co44, eo44⟩ := Kd.R_slice HO_5.out
         subst eo44
         go_wp2_with (first | ((with_reducible refine gateC (f := 38) rfl ?_); refine goesL_ (some 21) rfl rfl Tryd.func38 (by kernel_rfl) rfl #[.pointer (some ⟨g, 0, none⟩), .int .i64 (wrap64 ((x5_1.length : Int) + 1))] rfl zm ?_; (with_reducible refine (spec_l1Cur_pick.calls g s0_0 x1001_1 x1002_1 (wrap64 ((x5_1.length : Int) + 1)) t279 t280 t281 w0 _ ?side1 ?side2 A8.out).mono ?_); (case side1 => exact zi); (case side2 => exact zj); rintro e w45 ⟨rfl, hi, hb, hk⟩; refine ⟨_, rfl, ?_⟩; have n0_ := am (Kd.R_mono (Kd.R_keep (IsS50.apart (show IsS50 w0 _ g s0_0 x1001_1 x1002_1 from zi) (zr HO_5.out) (by decide)) hk (fun _ h => h.2)) (fun _ h => h.1)); have n1_ := am (KeepBut.trans zh hk (.inl rfl)); have n2_ := am (hb); have n3_ := am (hi); clear HO_5; clear HK; clear HB; clear HI0; have HO_5 := n0_; have HK := n1_; have HB := n2_; have HI0 := n3_; clear n0_ n1_ n2_ n3_; (try clear hb); (try clear hk); (try clear hi)) | ((with_reducible refine gateC (f := 38) rfl ?_); refine goesL_ (some 23) rfl rfl Tryd.func38 (by kernel_rfl) rfl #[.pointer (some ⟨g, 0, none⟩), .int .i64 3] rfl zm ?_; (with_reducible refine (spec_l1Cur_pick.calls g s0_0 t280 t281 3 t282 t283 t284 w0 _ ?side1 ?side2 A9.out).mono ?_); (case side1 => exact zi); (case side2 => exact zj); rintro e w46 ⟨rfl, hi, hb, hk⟩; refine ⟨_, rfl, ?_⟩; have n0_ := am (Kd.R_mono (Kd.R_keep (IsS50.apart (show IsS50 w0 _ g s0_0 t280 t281 from zi) (zr HO_5.out) (by decide)) hk (fun _ h => h.2)) (fun _ h => h.1)); have n1_ := am (KeepBut.trans zh hk (.inl rfl)); have n2_ := am (hb); have n3_ := am (hi); clear HO_5; clear HK; clear HB; clear HI0; have HO_5 := n0_; have HK := n1_; have HB := n2_; have HI0 := n3_; clear n0_ n1_ n2_ n3_; (try clear hb); (try clear hk); (try clear hi); have p299 : 0 ≤ (t279 : Int) := oa; have q299 : t279 < (x5_1.length : Int) := oa; obtain ⟨ad299, e299, hx299_0⟩ := Kd.at_string (Kd.R_reads' HO_5.out).2.2 t279 p299 q299; cases e299; replace p299 := eq_true p299; replace q299 := eq_true q299) | (go_at_call 60; (with_reducible refine (spec_l1Ends.calls (rdOf ByteArray.empty x5_1 t279) false _ A33.out).mono ?_); rintro e w' ⟨rfl, ⟨nd, rfl⟩⟩))
         go_roundg k1
         case measure => have := HK1.out; omega
         case rel => exact ⟨(x5_1), (wrap64 (x6_1 - 1)), (t283), (t284), zf, H', ⟨by have := HK1.out; omega⟩, ⟨by (with_reducible repeat (first | apply Kd.R_alloc | apply Kd.R_drewN | apply Kd.R_drew)); exact HO_5.out⟩, ⟨by repeat (first | (with_reducible first | exact HI0.out | apply IsS50.alloc | apply IsS50.drewN | apply IsS50.drew | apply IsS50.set_1 | apply IsS50.set_2) | exact HI0.out)⟩, ⟨by repeat (first | (with_reducible first | exact HK.out | apply KeepBut.set_ | apply keep_drewN | apply keep_drew | apply keep_alloc) | exact HK.out)⟩, ⟨by repeat (first | (with_reducible first | exact HB.out | apply below_alloc | apply pw_below_drewN | apply below_drew1 | refine below_set ?_ (IsS50.ge HI0.out)) | exact HB.out)⟩⟩
       ·rw [if_neg c32] at H
        exact absurd H (by simp)
      ·rw [if_neg c31] at H
       have c31b0 : decide (t279 < (x5_1.length : Int)) = false := decide_eq_false c31
       clear c31
       have H' := am H
       clear H
       obtain ⟨Ao47, co47, eo47⟩ := Kd.R_slice HO_5.out
       subst eo47
       go_wp2_with (first | ((with_reducible refine gateC (f := 38) rfl ?_); refine goesL_ (some 21) rfl rfl Tryd.func38 (by kernel_rfl) rfl #[.pointer (some ⟨g, 0, none⟩), .int .i64 (wrap64 ((x5_1.length : Int) + 1))] rfl zm ?_; (with_reducible refine (spec_l1Cur_pick.calls g s0_0 x1001_1 x1002_1 (wrap64 ((x5_1.length : Int) + 1)) t279 t280 t281 w0 _ ?side1 ?side2 A8.out).mono ?_); (case side1 => exact zi); (case side2 => exact zj); rintro e w48 ⟨rfl, hi, hb, hk⟩; refine ⟨_, rfl, ?_⟩; have n0_ := am (Kd.R_mono (Kd.R_keep (IsS50.apart (show IsS50 w0 _ g s0_0 x1001_1 x1002_1 from zi) (zr HO_5.out) (by decide)) hk (fun _ h => h.2)) (fun _ h => h.1)); have n1_ := am (KeepBut.trans zh hk (.inl rfl)); have n2_ := am (hb); have n3_ := am (hi); clear HO_5; clear HK; clear HB; clear HI0; have HO_5 := n0_; have HK := n1_; have HB := n2_; have HI0 := n3_; clear n0_ n1_ n2_ n3_; (try clear hb); (try clear hk); (try clear hi)) | ((with_reducible refine gateC (f := 38) rfl ?_); refine goesL_ (some 23) rfl rfl Tryd.func38 (by kernel_rfl) rfl #[.pointer (some ⟨g, 0, none⟩), .int .i64 3] rfl zm ?_; (with_reducible refine (spec_l1Cur_pick.calls g s0_0 t280 t281 3 t282 t283 t284 w0 _ ?side1 ?side2 A9.out).mono ?_); (case side1 => exact zi); (case side2 => exact zj); rintro e w49 ⟨rfl, hi, hb, hk⟩; refine ⟨_, rfl, ?_⟩; have n0_ := am (Kd.R_mono (Kd.R_keep (IsS50.apart (show IsS50 w0 _ g s0_0 t280 t281 from zi) (zr HO_5.out) (by decide)) hk (fun _ h => h.2)) (fun _ h => h.1)); have n1_ := am (KeepBut.trans zh hk (.inl rfl)); have n2_ := am (hb); have n3_ := am (hi); clear HO_5; clear HK; clear HB; clear HI0; have HO_5 := n0_; have HK := n1_; have HB := n2_; have HI0 := n3_; clear n0_ n1_ n2_ n3_; (try clear hb); (try clear hk); (try clear hi)))
       go_roundg k1
       case measure => have := HK1.out; omega
       case rel => exact ⟨(x5_1), (wrap64 (x6_1 - 1)), (t283), (t284), zf, H', ⟨by have := HK1.out; omega⟩, ⟨by (with_reducible repeat (first | apply Kd.R_alloc | apply Kd.R_drewN | apply Kd.R_drew)); exact HO_5.out⟩, ⟨by repeat (first | (with_reducible first | exact HI0.out | apply IsS50.alloc | apply IsS50.drewN | apply IsS50.drew | apply IsS50.set_1 | apply IsS50.set_2) | exact HI0.out)⟩, ⟨by repeat (first | (with_reducible first | exact HK.out | apply KeepBut.set_ | apply keep_drewN | apply keep_drew | apply keep_alloc) | exact HK.out)⟩, ⟨by repeat (first | (with_reducible first | exact HB.out | apply below_alloc | apply pw_below_drewN | apply below_drew1 | refine below_set ?_ (IsS50.ge HI0.out)) | exact HB.out)⟩⟩
     ·rw [if_neg c30] at H
      have c30b0 : (t282 == 1) = false := beq_eq_false_iff_ne.mpr c30
      have c30b1 : (t282 != 1) = true := bne_iff_ne.mpr c30
      have HC50 := am H
      clear H
      obtain ⟨Ao51, co51, eo51⟩ := Kd.R_slice HO_5.out
      subst eo51
      go_upto_region 7 with (first | ((with_reducible refine gateC (f := 38) rfl ?_); refine goesL_ (some 21) rfl rfl Tryd.func38 (by kernel_rfl) rfl #[.pointer (some ⟨g, 0, none⟩), .int .i64 (wrap64 ((x5_1.length : Int) + 1))] rfl zm ?_; (with_reducible refine (spec_l1Cur_pick.calls g s0_0 x1001_1 x1002_1 (wrap64 ((x5_1.length : Int) + 1)) t279 t280 t281 w0 _ ?side1 ?side2 A8.out).mono ?_); (case side1 => exact zi); (case side2 => exact zj); rintro e w52 ⟨rfl, hi, hb, hk⟩; refine ⟨_, rfl, ?_⟩; have n0_ := am (Kd.R_mono (Kd.R_keep (IsS50.apart (show IsS50 w0 _ g s0_0 x1001_1 x1002_1 from zi) (zr HO_5.out) (by decide)) hk (fun _ h => h.2)) (fun _ h => h.1)); have n1_ := am (KeepBut.trans zh hk (.inl rfl)); have n2_ := am (hb); have n3_ := am (hi); clear HO_5; clear HK; clear HB; clear HI0; have HO_5 := n0_; have HK := n1_; have HB := n2_; have HI0 := n3_; clear n0_ n1_ n2_ n3_; (try clear hb); (try clear hk); (try clear hi)) | ((with_reducible refine gateC (f := 38) rfl ?_); refine goesL_ (some 23) rfl rfl Tryd.func38 (by kernel_rfl) rfl #[.pointer (some ⟨g, 0, none⟩), .int .i64 3] rfl zm ?_; (with_reducible refine (spec_l1Cur_pick.calls g s0_0 t280 t281 3 t282 t283 t284 w0 _ ?side1 ?side2 A9.out).mono ?_); (case side1 => exact zi); (case side2 => exact zj); rintro e w53 ⟨rfl, hi, hb, hk⟩; refine ⟨_, rfl, ?_⟩; have n0_ := am (Kd.R_mono (Kd.R_keep (IsS50.apart (show IsS50 w0 _ g s0_0 t280 t281 from zi) (zr HO_5.out) (by decide)) hk (fun _ h => h.2)) (fun _ h => h.1)); have n1_ := am (KeepBut.trans zh hk (.inl rfl)); have n2_ := am (hb); have n3_ := am (hi); clear HO_5; clear HK; clear HB; clear HI0; have HO_5 := n0_; have HK := n1_; have HB := n2_; have HI0 := n3_; clear n0_ n1_ n2_ n3_; (try clear hb); (try clear hk); (try clear hi)))
      (try simp only [Act.put, List.setIfInBounds_toArray, List.set_cons_zero, List.set_cons_succ])
      go_cut [31] (fun v31 wc => ∃ (kq : Nat) (x31_49 : Bool), v31 = .bool x31_49 ∧ Aside0 (spec_l1Cur_other.j1 kq x5_1 x6_1 t279 x31_49 s0_0 t283 t284 = some (r1, r2, r3)) ∧ Aside0 (kq ≤ k1) ∧ Aside0 (Kd.R Kd.string 9 wc w.heap.size (fun _ => True) (.slice Ao51 x5_1.length co51) x5_1) ∧ Aside0 (IsS50 w0 wc g s0_0 t283 t284) ∧ Aside0 (KeepBut w wc g none) ∧ Aside0 (Below w0.heap.size w0 wc))
      case first =>
       have H := HC50.out
       clear HC50
       by_cases c54 : t279 < (x5_1.length : Int)
       ·rw [if_pos c54] at H
        have c54b0 : decide (t279 < (x5_1.length : Int)) = true := decide_eq_true c54
        clear c54
        (first | rw [c54b0] | (simp only [i64_w, i32_w]; rw [c54b0]) | skip)
        have H' := am H
        clear H
        go_wp2
        go_meet
        case rel => exact ⟨_, (true), zf, H', ⟨by have := HK1.out; first | omega | exact Nat.le_refl _⟩, ⟨by (with_reducible repeat (first | apply Kd.R_alloc | apply Kd.R_drewN | apply Kd.R_drew)); exact HO_5.out⟩, ⟨by repeat (first | (with_reducible first | exact HI0.out | apply IsS50.alloc | apply IsS50.drewN | apply IsS50.drew | apply IsS50.set_1 | apply IsS50.set_2) | exact HI0.out)⟩, ⟨by repeat (first | (with_reducible first | exact HK.out | apply KeepBut.set_ | apply keep_drewN | apply keep_drew | apply keep_alloc) | exact HK.out)⟩, ⟨by repeat (first | (with_reducible first | exact HB.out | apply below_alloc | apply pw_below_drewN | apply below_drew1 | refine below_set ?_ (IsS50.ge HI0.out)) | exact HB.out)⟩⟩
       ·rw [if_neg c54] at H
        have c54b0 : decide (t279 < (x5_1.length : Int)) = false := decide_eq_false c54
        clear c54
        (first | rw [c54b0] | (simp only [i64_w, i32_w]; rw [c54b0]) | skip)
        replace H := Option.bind_eq_some_iff.mp H
        obtain ⟨t305, A550, H⟩ := H
        replace H : (spec_l1Cur_other.j1 k1 x5_1 x6_1 t279 t305 s0_0 t283 t284) = some (r1, r2, r3) := H
        have A55 := am A550
        clear A550
        have H' := am H
        clear H
        go_wp2_with (first | (go_at_call 51; (with_reducible refine (spec_l1Whole.calls _ _ x5_1 t305 _ ?side1 ?side2 A55.out).mono ?_); (case side1 => repeat (first | exact (Kd.R_reads' HO_5.out).2.2 | (with_reducible refine Kd.C_alloc ?_ _) | (with_reducible refine Kd.C_drewN ?_ _) | (with_reducible refine Kd.C_drew ?_))); (case side2 => exact (Kd.R_reads' HO_5.out).2.1); rintro e w' ⟨rfl, ⟨nd, rfl⟩⟩))
        go_meet
        case rel => exact ⟨_, (t305), zf, H', ⟨by have := HK1.out; first | omega | exact Nat.le_refl _⟩, ⟨by (with_reducible repeat (first | apply Kd.R_alloc | apply Kd.R_drewN | apply Kd.R_drew)); exact HO_5.out⟩, ⟨by repeat (first | (with_reducible first | exact HI0.out | apply IsS50.alloc | apply IsS50.drewN | apply IsS50.drew | apply IsS50.set_1 | apply IsS50.set_2) | exact HI0.out)⟩, ⟨by repeat (first | (with_reducible first | exact HK.out | apply KeepBut.set_ | apply keep_drewN | apply keep_drew | apply keep_alloc) | exact HK.out)⟩, ⟨by repeat (first | (with_reducible first | exact HB.out | apply below_alloc | apply pw_below_drewN | apply below_drew1 | refine below_set ?_ (IsS50.ge HI0.out)) | exact HB.out)⟩⟩
      case rest =>
       clear HC50
       try clear c1
       try clear c2
       try clear p2
       try clear q2
       try clear hx2
       try clear c3
       try clear p3
       try clear q3
       try clear hx3
       try clear hf3
       try clear c4
       try clear c5
       try clear p6
       try clear c7
       try clear c7b0
       try clear c10
       try clear c10b0
       try clear c10b1
       try clear c11
       try clear c11b0
       try clear c12
       try clear c12b0
       try clear c12b1
       try clear c13
       try clear c13b0
       try clear c13b1
       try clear c16
       try clear c16b0
       try clear c16b1
       try clear c17
       try clear c17b0
       try clear c17b1
       try clear c18
       try clear q23
       try clear c25
       try clear q25
       try clear p29
       try clear q29
       try clear hx29
       try clear c30
       try clear c30b0
       try clear c30b1
       try clear c31
       try clear c31b0
       try clear c32
       try clear c32b0
       try clear c34
       try clear c36
       try clear c36b0
       try clear c36b1
       try clear c36b2
       try clear p37
       try clear q37
       try clear hx37
       try clear hf37
       try clear c38
       try clear c43
       try clear c53
       try clear c54
       try clear c54b0
       try clear hx299_0
       try clear hx37_0
       try clear p2
       try clear p299
       try clear p37
       try clear q025
       try clear q23
       try clear q25
       try clear q299
       try clear q37
       obtain ⟨kq, x31_49, rfl, HA, HJ49, HO_5, HI0, HK, HB⟩ := hcut
       cases kq with
       | zero => exact absurd HA.out (by simp [spec_l1Cur_other.j1])
       | succ kj49 =>
        have H := HA.out
        clear HA
        simp only [spec_l1Cur_other.j1] at H
        by_cases c56 : x31_49 = true
        ·subst c56
         have H1 : (if 0 ≤ t279 then (if t279 ≤ (x5_1.length : Int) then ((spec_l1OwnT.f (x5_1.take (t279 : Int).toNat)).bind fun t310 => ((spec_l1Cur_line.f s0_0 t283 t284).bind fun bt313 => (if bt313.1.size + 1 ≤ 9223372036854775807 then (if t310.length < 8796093022208 then ((some (t310 ++ [bt313.1 ++ (⟨#[10]⟩ : ByteArray)] : List ByteArray)).bind fun y316 => ((some (x5_1.drop (t279 : Int).toNat : List ByteArray)).bind fun y319 => (if y316.length + y319.length < 8796093022208 then (spec_l1Cur_other.l0 kj49 (y316 ++ y319) (wrap64 (x6_1 - 1)) s0_0 bt313.2.1 bt313.2.2) else (none)))) else (none)) else (none)))) else (none)) else (none)) = some (r1, r2, r3) := by rw [if_pos rfl] at H; exact H
         clear H
         have H := H1
         clear H1
         by_cases c57 : 0 ≤ t279
         ·rw [if_pos c57] at H
          have c57b0 := eq_true c57
          have c57b1 : decide (0 ≤ t279) = true := decide_eq_true c57
          clear c57
          by_cases c58 : t279 ≤ (x5_1.length : Int)
          ·rw [if_pos c58] at H
           have c58b0 := eq_true c58
           have c58b1 : decide (t279 ≤ (x5_1.length : Int)) = true := decide_eq_true c58
           clear c58
           obtain ⟨y306, hy306⟩ : ∃ y_ : List ByteArray, y_ = (x5_1.take (t279 : Int).toNat) := ⟨_, rfl⟩
           replace H : ((spec_l1OwnT.f y306).bind fun t310 => ((spec_l1Cur_line.f s0_0 t283 t284).bind fun bt313 => (if bt313.1.size + 1 ≤ 9223372036854775807 then (if t310.length < 8796093022208 then ((some (t310 ++ [bt313.1 ++ (⟨#[10]⟩ : ByteArray)] : List ByteArray)).bind fun y316 => ((some (x5_1.drop (t279 : Int).toNat : List ByteArray)).bind fun y319 => (if y316.length + y319.length < 8796093022208 then (spec_l1Cur_other.l0 kj49 (y316 ++ y319) (wrap64 (x6_1 - 1)) s0_0 bt313.2.1 bt313.2.2) else (none)))) else (none)) else (none)))) = some (r1, r2, r3) := by first | (rw [hy306]; with_reducible exact H) | (have H2_ := (Option.bind_some _ _).symm.trans H; rw [hy306]; with_reducible exact H2_) | (have H2_ := (Option.bind_some _ _).symm.trans H; with_reducible exact H2_) | with_reducible exact H | (rw [hy306]; exact H) | exact H
           have Ny306 := am hy306
           clear hy306
           replace H := Option.bind_eq_some_iff.mp H
           obtain ⟨t310, A590, H⟩ := H
           replace H : ((spec_l1Cur_line.f s0_0 t283 t284).bind fun bt313 => (if bt313.1.size + 1 ≤ 9223372036854775807 then (if t310.length < 8796093022208 then ((some (t310 ++ [bt313.1 ++ (⟨#[10]⟩ : ByteArray)] : List ByteArray)).bind fun y316 => ((some (x5_1.drop (t279 : Int).toNat : List ByteArray)).bind fun y319 => (if y316.length + y319.length < 8796093022208 then (spec_l1Cur_other.l0 kj49 (y316 ++ y319) (wrap64 (x6_1 - 1)) s0_0 bt313.2.1 bt313.2.2) else (none)))) else (none)) else (none))) = some (r1, r2, r3) := H
           have A59 := am A590
           clear A590
           replace H := Option.bind_eq_some_iff.mp H
           obtain ⟨⟨t313, t314, t315⟩, A600, H⟩ := H
           replace H : (if t313.size + 1 ≤ 9223372036854775807 then (if t310.length < 8796093022208 then ((some (t310 ++ [t313 ++ (⟨#[10]⟩ : ByteArray)] : List ByteArray)).bind fun y316 => ((some (x5_1.drop (t279 : Int).toNat : List ByteArray)).bind fun y319 => (if y316.length + y319.length < 8796093022208 then (spec_l1Cur_other.l0 kj49 (y316 ++ y319) (wrap64 (x6_1 - 1)) s0_0 t314 t315) else (none)))) else (none)) else (none)) = some (r1, r2, r3) := H
           have A60 := am A600
           clear A600
           by_cases c61 : t313.size + 1 ≤ 9223372036854775807
           ·rw [if_pos c61] at H
            have c61b0 := eq_true c61
            have c61b1 : decide (t313.size + 1 ≤ 9223372036854775807) = true := decide_eq_true c61
            try have c61b2 : (9223372036854775807 < t313.size + 1) = False := eq_false (Nat.not_lt.2 c61)
            by_cases c62 : t310.length < 8796093022208
            ·rw [if_pos c62] at H
             have LMc62 := am c62
             clear c62
             obtain ⟨y316, hy316⟩ : ∃ y_ : List ByteArray, y_ = (t310 ++ [t313 ++ (⟨#[10]⟩ : ByteArray)]) := ⟨_, rfl⟩
             replace H : ((some (x5_1.drop (t279 : Int).toNat : List ByteArray)).bind fun y319 => (if y316.length + y319.length < 8796093022208 then (spec_l1Cur_other.l0 kj49 (y316 ++ y319) (wrap64 (x6_1 - 1)) s0_0 t314 t315) else (none))) = some (r1, r2, r3) := by first | (rw [hy316]; with_reducible exact H) | (have H2_ := (Option.bind_some _ _).symm.trans H; rw [hy316]; with_reducible exact H2_) | (have H2_ := (Option.bind_some _ _).symm.trans H; with_reducible exact H2_) | with_reducible exact H | (rw [hy316]; exact H) | exact H
             have Ny316 := am hy316
             clear hy316
             have c63b0 := eq_true (oa : 0 ≤ t279)
             have c64b0 := eq_true (oa : t279 ≤ (x5_1.length : Int))
             obtain ⟨y319, hy319⟩ : ∃ y_ : List ByteArray, y_ = (x5_1.drop (t279 : Int).toNat) := ⟨_, rfl⟩
             replace H : (if y316.length + y319.length < 8796093022208 then (spec_l1Cur_other.l0 kj49 (y316 ++ y319) (wrap64 (x6_1 - 1)) s0_0 t314 t315) else (none)) = some (r1, r2, r3) := by first | (rw [hy319]; with_reducible exact H) | (have H2_ := (Option.bind_some _ _).symm.trans H; rw [hy319]; with_reducible exact H2_) | (have H2_ := (Option.bind_some _ _).symm.trans H; with_reducible exact H2_) | with_reducible exact H | (rw [hy319]; exact H) | exact H
             have Ny319 := am hy319
             clear hy319
             by_cases c65 : y316.length + y319.length < 8796093022208
             ·rw [if_pos c65] at H
              have LMc65 := am c65
              clear c65
              obtain ⟨y323, hy323⟩ : ∃ y_ : List ByteArray, y_ = (y316 ++ y319) := ⟨_, rfl⟩
              replace H : (spec_l1Cur_other.l0 kj49 y323 (wrap64 (x6_1 - 1)) s0_0 t314 t315) = some (r1, r2, r3) := by first | (rw [hy323]; with_reducible exact H) | (have H2_ := (Option.bind_some _ _).symm.trans H; rw [hy323]; with_reducible exact H2_) | (have H2_ := (Option.bind_some _ _).symm.trans H; with_reducible exact H2_) | with_reducible exact H | (rw [hy323]; exact H) | exact H
              have Ny323 := am hy323
              clear hy323
              have H' := am H
              clear H
              try go_wp2
              have n0_ := am (Kd.R_drew HO_5.out)
              have n1_ := am (IsS50.drew HI0.out)
              have n2_ := am (keep_drew HK.out)
              have n3_ := am (below_drew1 HB.out)
              clear HO_5
              clear HI0
              clear HK
              clear HB
              have HO_5 := n0_
              have HI0 := n1_
              have HK := n2_
              have HB := n3_
              clear n0_ n1_ n2_ n3_
              have q67 : (t279 : Int) ≤ ((x5_1.length : Int) : Int) := oa
              obtain ⟨i067, hi067, _, hsz67, _⟩ := info_parts info9
              have hroom67 : x5_1.length ≤ co51 := (Kd.R_reads' HO_5.out).2.1
              have hC67 : Kd.C Kd.string _ Ao51 x5_1.length x5_1 := (Kd.R_reads' HO_5.out).2.2
              have hcut67 := cut_to (P := Tryd.prog) 22 9 .i64 Tryd.underlying22 hi067 Ao51 x5_1.length co51 t279 oa q67 hroom67
              have hr67 := Kd.C_take (m := (t279 : Int).toNat) hC67 (by omega)
              have hy67 : y306.length = (t279 : Int).toNat := (by rw [Ny306.out, List.length_take]; omega)
              rw [← Ny306.out] at hr67
              rw [← hy67] at hcut67
              have HR309 := am hr67
              have HC309 := am (show y306.length ≤ co51 from by omega)
              clear hr67 hC67 hroom67 hi067 hsz67
              have KY67 := am hy67
              clear hy67
              have KL67 := am (show (t279 : Int).toNat ≤ x5_1.length from by omega)
              replace q67 := eq_true q67
              refine start_ (n := 14) (S := fun w' => True) (ds := []) #[O,O,O,O,O,O,O,O,O,O,O,O,O,O] (by kernel_rfl) rfl rfl trivial (fun hHeld => ?_); refine with_tabW spec_l1Cur_other.tab8 spec_l1Cur_other.bits8 (fun HT_ HW_ => ?_)
              generalize wc.drew = w66 at HO_5 HI0 HK HB HR309 hHeld ⊢
              refine pure_ (i := 0) (N := some 32) (v := ?_) (a' := ?_) #[Y,O,O,O,O,O,O,O,O,O,O,O,O,O] rfl rfl zx (fun _ _ _ h => h) (Or.inl ⟨by rfl, ?_⟩) ?_ ?_
              rotate_left; (intro w'; go_simp; with_reducible rfl); rotate_left; (simp only [Act.put,qa,qb,qc,i64_w,i32_w]; rfl)
              refine pure_ (i := 1) (N := some 33) (v := ?_) (a' := ?_) #[Y,Y,O,O,O,O,O,O,O,O,O,O,O,O] rfl rfl zx (fun _ _ _ h => h) (Or.inl ⟨by rfl, ?_⟩) ?_ ?_
              rotate_left; (intro w'; go_simp; with_reducible rfl); rotate_left; (simp only [Act.put,qa,qb,qc,i64_w,i32_w]; rfl)
              refine pure_ (i := 2) (N := some 34) (v := ?_) (a' := ?_) #[Y,Y,Y,O,O,O,O,O,O,O,O,O,O,O] rfl rfl zx (fun _ _ _ h => h) (Or.inl ⟨by rfl, ?_⟩) ?_ ?_
              rotate_left; (intro w'; go_simp; with_reducible rfl); rotate_left; (simp only [Act.put,qa,qb,qc,i64_w,i32_w]; rfl)
              refine pure_ (i := 4) (N := some 36) (v := ?_) (a' := ?_) #[Y,Y,Y,O,Y,O,O,O,O,O,O,O,O,O] rfl rfl zx (fun _ _ _ h => h) (Or.inl ⟨by rfl, ?_⟩) ?_ ?_
              rotate_left; (intro w'; go_simp; with_reducible rfl); rotate_left; (simp only [Act.put,qa,qb,qc,i64_w,i32_w]; rfl)
              refine pure_ (i := 9) (N := some 41) (v := ?_) (a' := ?_) #[Y,Y,Y,O,Y,O,O,O,O,Y,O,O,O,O] rfl rfl zx (fun _ _ _ h => h) (Or.inl ⟨by rfl, ?_⟩) ?_ ?_
              rotate_left; (intro w'; go_simp; with_reducible rfl); rotate_left; (simp only [Act.put,qa,qb,qc,i64_w,i32_w]; rfl)
              refine pure_ (i := 10) (N := some 42) (v := ?_) (a' := ?_) #[Y,Y,Y,O,Y,O,O,O,O,Y,Y,O,O,O] rfl rfl zx (fun _ _ _ h => h) (Or.inl ⟨by rfl, ?_⟩) ?_ ?_
              rotate_left; (intro w'; go_simp; with_reducible rfl); rotate_left; (simp only [Act.put,qa,qb,qc,i64_w,i32_w]; rfl)
                     -- cut ahead
              have q71 : (t279 : Int) ≤ ((x5_1.length : Int) : Int) := oa
              obtain ⟨i071, hi071, _, hsz71, _⟩ := info_parts info9
              have hroom71 : x5_1.length ≤ co51 := (Kd.R_reads' HO_5.out).2.1
              have hC71 : Kd.C Kd.string _ Ao51 x5_1.length x5_1 := (Kd.R_reads' HO_5.out).2.2
              have q071 : (0 : Int) ≤ (t279 : Int) := oa
              have hcut71 := cut_from (P := Tryd.prog) 22 9 .i64 Tryd.underlying22 hi071 1 hsz71 Ao51 x5_1.length co51 t279 q071 q71
              obtain ⟨A71, hA71⟩ : ∃ A1, A1 = (if co51 = (t279 : Int).toNat then Ao51 else (Ao51 : Option Addr).map (·.add ((t279 : Int).toNat * 1))) := ⟨_, rfl⟩
              obtain ⟨c71, hc71⟩ : ∃ c1, c1 = co51 - (t279 : Int).toNat := ⟨_, rfl⟩
              have hy71 : y319.length = x5_1.length - (t279 : Int).toNat := (by rw [Ny319.out, List.length_drop] <;> omega)
              rw [← hy71, ← hA71, ← hc71] at hcut71
              have HC322 := am (show y319.length ≤ c71 from by rw [hy71, hc71]; exact Nat.sub_le_sub_right hroom71 _)
              clear hC71 hroom71 hi071 hsz71 hc71
              have KY71 := am hy71
              have KA71 := am hA71
              clear hy71 hA71
              have KL71 := am (show (t279 : Int).toNat ≤ x5_1.length from by omega)
              replace q71 := eq_true q71
              refine pure_ (i := 11) (N := some 43) (v := ?_) (a' := ?_) #[Y,Y,Y,O,Y,O,O,O,O,Y,Y,Y,O,O] rfl rfl zx (fun _ _ _ h => h) (Or.inl ⟨by rfl, ?_⟩) ?_ ?_
              rotate_left; (intro w'; go_simp; with_reducible rfl); rotate_left; (simp only [Act.put,qa,qb,qc,i64_w,i32_w]; rfl)
              refine one_ (i := 3) (N := some 35) #[Y,Y,Y,Y,Y,O,O,O,O,Y,Y,Y,O,O] rfl rfl (one_of HT_.out (by kernel_rfl)) (by decide) (fun K hK => ?_)
              refine goes_ Tryd.func53 (by kernel_rfl) rfl #[.slice Ao51 y306.length co51] (by rfl) rfl rfl zm ?_
              with_reducible refine (spec_l1OwnT.calls _ _ y306 t310 _ ?side1 ?side2 A59.out).mono ?_
              (case side1 => repeat (first | exact (by repeat (first | (with_reducible exact HR309.out) | (with_reducible refine Kd.C_alloc ?_ _) | (with_reducible refine Kd.C_drewN ?_ _) | (with_reducible refine Kd.C_drew ?_) | exact HR309.out)) | (with_reducible refine Kd.C_alloc ?_ _) | (with_reducible refine Kd.C_drewN ?_ _) | (with_reducible refine Kd.C_drew ?_)))
              (case side2 => exact HC309.out)
              rintro e w68 ⟨v311, rfl, ho0, hb⟩
              refine ⟨_, rfl, ?_⟩
              have n0_ := am (Kd.R_elder' (zr HO_5.out) (Kd.R_base ho0) hb)
              have n1_ := am (Kd.R_lower (Kd.R_new' ho0 (Kd.R_lt (zr HO_5.out))) (keep_size (w := w) (g := g) (row := none) zh))
              have n2_ := am (IsS50.below zi hb)
              have n3_ := am (Kd.C_below (by repeat (first | (with_reducible exact HR309.out) | (with_reducible refine Kd.C_alloc ?_ _) | (with_reducible refine Kd.C_drewN ?_ _) | (with_reducible refine Kd.C_drew ?_) | exact HR309.out)) hb)
              have n4_ := am (KeepBut.trans zh (KeepBut.of_below hb g none) (.inl rfl))
              have n5_ := am (below_step zj hb)
              clear HO_5
              clear HI0
              clear HR309
              clear HK
              clear HB
              have HO_5 := n0_
              have HO312 := n1_
              have HI0 := n2_
              have HR309 := n3_
              have HK := n4_
              have HB := n5_
              clear n0_ n1_ n2_ n3_ n4_ n5_
              (try clear hb)
              (try clear hb2)
              (try clear hk)
              (try clear hi)
              (try clear ho0)
              refine hK.out _ _ trivial (fun hHeld => ?_)
              clear hK K
              refine norm_ (a' := ?_) ?_ ?_
              rotate_left
              ·show Act.put _ (some 35) _ = _
               simp only [Act.put,qa,qb,qc,i64_w,i32_w]
               rfl
              refine one_ (i := 5) (N := some 37) #[Y,Y,Y,Y,Y,Y,O,O,O,Y,Y,Y,O,O] rfl rfl (one_of HT_.out (by kernel_rfl)) (by decide) (fun K hK => ?_)
              refine goes_ Tryd.func54 (by kernel_rfl) rfl #[.pointer (some ⟨g, 0, none⟩)] (by rfl) rfl rfl zm ?_
              with_reducible refine (spec_l1Cur_line.calls g s0_0 t283 t284 t313 t314 t315 w0 _ ?side1 ?side2 A60.out).mono ?_
              (case side1 => exact zi)
              (case side2 => exact zj)
              rintro e w69 ⟨rfl, hi, hb, hk⟩
              refine ⟨_, rfl, ?_⟩
              have n0_ := am (Kd.R_mono (Kd.R_keep (IsS50.apart (show IsS50 w0 _ g s0_0 t283 t284 from zi) (zr HO_5.out) (by decide)) hk (fun _ h => h.2)) (fun _ h => h.1))
              have n1_ := am (Kd.R_mono (Kd.R_keep (IsS50.apart (show IsS50 w0 _ g s0_0 t283 t284 from zi) (zr HO312.out) (by decide)) hk (fun _ h => h.2)) (fun _ h => h.1))
              have n2_ := am (KeepBut.trans zh hk (.inl rfl))
              have n3_ := am (hb)
              have n4_ := am (hi)
              clear HO_5
              clear HO312
              clear HK
              clear HB
              clear HI0
              have HO_5 := n0_
              have HO312 := n1_
              have HK := n2_
              have HB := n3_
              have HI0 := n4_
              clear n0_ n1_ n2_ n3_ n4_
              (try clear hb)
              (try clear hb2)
              (try clear hk)
              (try clear hi)
              refine hK.out _ _ trivial (fun hHeld => ?_)
              clear hK K
              refine norm_ (a' := ?_) ?_ ?_
              rotate_left
              ·show Act.put _ (some 37) _ = _
               simp only [Act.put,qa,qb,qc,i64_w,i32_w]
               rfl
              refine pure_ (i := 6) (N := some 38) (v := ?_) (a' := ?_) #[Y,Y,Y,Y,Y,Y,Y,O,O,Y,Y,Y,O,O] rfl rfl zx (fun _ _ _ h => h) (Or.inl ⟨by rfl, ?_⟩) ?_ ?_
              rotate_left; (intro w'; go_simp; with_reducible rfl); rotate_left; (simp only [Act.put,qa,qb,qc,i64_w,i32_w]; rfl)
              refine one_ (i := 7) (N := some 39) #[Y,Y,Y,Y,Y,Y,Y,Y,O,Y,Y,Y,O,O] rfl rfl (one_of HT_.out (by kernel_rfl)) (by decide) (fun K hK => ?_)
              refine value_ (w1 := ?_) (v := ?_) (by rfl) rfl ?_ ?_
              rotate_left 2
              ·go_simp
               constructor
               ·rfl
               ·rfl
              refine hK.out _ _ trivial (fun hHeld => ?_)
              clear hK K
              refine norm_ (a' := ?_) ?_ ?_
              rotate_left
              ·show Act.put _ (some 39) _ = _
               simp only [Act.put,qa,qb,qc,i64_w,i32_w]
               rfl
              refine one_ (i := 8) (N := some 40) #[Y,Y,Y,Y,Y,Y,Y,Y,Y,Y,Y,Y,O,O] rfl rfl (one_of HT_.out (by kernel_rfl)) (by decide) (fun K hK => ?_)
              refine Kd.R_append_step Kd.string w.heap.size (by rfl) (.tmp 35) (.tmp 39) 22 9 (.string ⟨#[]⟩) 16 rfl Tryd.underlying22 info9 rfl (by decide) (by omega) v311 t310 (t313 ++ (⟨#[10]⟩ : ByteArray)) [.string (t313 ++ (⟨#[10]⟩ : ByteArray))] (fun k_ => some k_ ≠ (.slice Ao51 x5_1.length co51 : Value).ownBlock) (fun _ => False) rfl rfl ?aP (fun _ hk => hk.elim) ?aF ?aO (Below.refl _ _) ?aS ?aL ?_
              (case aP => exact rfl)
              (case aF => exact (fun k_ hk => Kd.fresh' (Kd.R_lt (zr HO_5.out)) k_ hk))
              (case aO => exact (by (with_reducible repeat (first | apply Kd.R_alloc | apply Kd.R_drewN | apply Kd.R_drew)); exact Kd.R_mono HO312.out (fun _ hk => hk.2)))
              (case aS => exact (keep_size (w := w) (g := g) (row := none) zh))
              (case aL => have := LMc62.out; omega)
              intro v317 w70 ho hb hg hat
              rw [← Ny316.out] at ho
              have n0_ := am (Kd.R_after (ok := (fun _ => True)) (zr HO_5.out) hg hat)
              have n1_ := am (IsS50.grown zi hg (IsS50.own_ne HI0.out HO312.out (by decide)))
              have n2_ := am (below_weaken zj HL.out hb)
              have n3_ := am (KeepBut.trans zh (KeepBut.of_grown hg g) (Kd.R_base2 HO312.out))
              have n4_ := am (ho)
              clear HO_5
              clear HI0
              clear HB
              clear HK
              clear HO312
              have HO_5 := n0_
              have HI0 := n1_
              have HB := n2_
              have HK := n3_
              have HO318 := n4_
              clear n0_ n1_ n2_ n3_ n4_
              clear ho hb hg hat
              have hr71 := Kd.C_drop (m := (t279 : Int).toNat) (c := co51) (Kd.R_reads' HO_5.out).2.2 (by have := KL71.out; omega) (Kd.R_reads' HO_5.out).2.1
              rw [show (x5_1).drop (t279 : Int).toNat = y319 from Ny319.out.symm] at hr71
              replace hr71 : Kd.C Kd.string _ A71 y319.length y319 := (by rw [KA71.out]; exact hr71)
              have HR322 := am hr71
              clear hr71
              refine hK.out _ _ trivial (fun hHeld => ?_)
              clear hK K
              refine norm_ (a' := ?_) ?_ ?_
              rotate_left
              ·show Act.put _ (some 40) _ = _
               simp only [Act.put,qa,qb,qc,i64_w,i32_w]
               rfl
              refine one_ (i := 12) (N := some 44) #[Y,Y,Y,Y,Y,Y,Y,Y,Y,Y,Y,Y,Y,O] rfl rfl (one_of HT_.out (by kernel_rfl)) (by decide) (fun K hK => ?_)
              refine Kd.R_append_rows_step Kd.string w.heap.size (by rfl) (.tmp 40) (.tmp 43) 22 9 (.string ⟨#[]⟩) 16 rfl Tryd.underlying22 info9 rfl (by decide) (by omega) v317 y316 y319 _ _ _ (fun k_ => some k_ ≠ (.slice Ao51 x5_1.length co51 : Value).ownBlock) (fun _ => False) rfl rfl ?aO ?aR (fun _ _ h => h) (fun _ h => h.elim) ?aF (Below.refl _ _) ?aS ?aL ?_
              (case aR => repeat (first | exact (by repeat (first | (with_reducible exact HR322.out) | (with_reducible refine Kd.C_alloc ?_ _) | (with_reducible refine Kd.C_drewN ?_ _) | (with_reducible refine Kd.C_drew ?_) | exact HR322.out)) | (with_reducible refine Kd.C_alloc ?_ _) | (with_reducible refine Kd.C_drewN ?_ _) | (with_reducible refine Kd.C_drew ?_)))
              (case aF => exact (fun k_ hk => Kd.fresh' (Kd.R_lt (zr HO_5.out)) k_ hk))
              (case aO => exact (zr HO318.out))
              (case aS => exact (keep_size (w := w) (g := g) (row := none) zh))
              (case aL => have := LMc65.out; omega)
              intro v324 w72 ho hb hg hat
              rw [← Ny323.out] at ho
              have n0_ := am (Kd.R_after (ok := (fun _ => True)) (zr HO_5.out) hg hat)
              have n1_ := am (IsS50.grown zi hg (IsS50.own_ne HI0.out HO318.out (by decide)))
              have n2_ := am (below_weaken zj HL.out hb)
              have n3_ := am (KeepBut.trans zh (KeepBut.of_grown hg g) (Kd.R_base2 HO318.out))
              have n4_ := am ((show Kd.C Kd.string w72 A71 y319.length y319 from by rw [Ny319.out, KA71.out]; exact Kd.C_drop (m := (t279 : Int).toNat) (c := co51) ((Kd.R_reads' (Kd.R_after (ok := (fun _ => True)) (zr HO_5.out) hg hat)).2.2) KL71.out ((Kd.R_reads' (Kd.R_after (ok := (fun _ => True)) (zr HO_5.out) hg hat)).2.1)))
              have n5_ := am (ho)
              clear HO_5
              clear HI0
              clear HB
              clear HK
              clear HR322
              clear HO318
              have HO_5 := n0_
              have HI0 := n1_
              have HB := n2_
              have HK := n3_
              have HR322 := n4_
              have HO325 := n5_
              clear n0_ n1_ n2_ n3_ n4_ n5_
              clear ho hb hg hat
              refine hK.out _ _ trivial (fun hHeld => ?_)
              clear hK K
              refine norm_ (a' := ?_) ?_ ?_
              rotate_left
              ·show Act.put _ (some 44) _ = _
               simp only [Act.put,qa,qb,qc,i64_w,i32_w]
               rfl
              refine pure_ (i := 13) (N := some 5) (v := ?_) (a' := ?_) #[Y,Y,Y,Y,Y,Y,Y,Y,Y,Y,Y,Y,Y,Y] rfl rfl zx (fun _ _ _ h => h) (Or.inl ⟨by rfl, ?_⟩) ?_ ?_
              rotate_left; (intro w'; go_simp; with_reducible rfl); rotate_left; (simp only [Act.put,qa,qb,qc,i64_w,i32_w]; rfl)
              refine done_ (done_of HT_.out (by kernel_rfl)) ?_
              try go_wp2
              go_roundg kj49
              case measure => have := HK1.out; have := HJ49.out; omega
              case rel => exact ⟨(y323), (wrap64 (x6_1 - 1)), (t314), (t315), zf, H', ⟨by have := HK1.out; have := HJ49.out; omega⟩, ⟨by (with_reducible repeat (first | apply Kd.R_alloc | apply Kd.R_drewN | apply Kd.R_drew)); exact Kd.R_mono HO325.out (fun _ hk => trivial)⟩, ⟨by repeat (first | (with_reducible first | exact HI0.out | apply IsS50.alloc | apply IsS50.drewN | apply IsS50.drew | apply IsS50.set_1 | apply IsS50.set_2) | exact HI0.out)⟩, ⟨by repeat (first | (with_reducible first | exact HK.out | apply KeepBut.set_ | apply keep_drewN | apply keep_drew | apply keep_alloc) | exact HK.out)⟩, ⟨by repeat (first | (with_reducible first | exact HB.out | apply below_alloc | apply pw_below_drewN | apply below_drew1 | refine below_set ?_ (IsS50.ge HI0.out)) | exact HB.out)⟩⟩
             ·rw [if_neg c65] at H
              exact absurd H (by simp)
            ·rw [if_neg c62] at H
             exact absurd H (by simp)
           ·rw [if_neg c61] at H
            exact absurd H (by simp)
          ·rw [if_neg c58] at H
           exact absurd H (by simp)
         ·rw [if_neg c57] at H
          exact absurd H (by simp)
        ·replace c56 := Bool.eq_false_iff.mpr c56
         subst c56
         have H1 : (spec_l1Cur_other.l0 kj49 x5_1 (wrap64 (x6_1 - 1)) s0_0 t283 t284) = some (r1, r2, r3) := by rw [if_neg (show ¬ (false = true) by decide)] at H; exact H
         clear H
         have H := H1
         clear H1
         have H' := am H
         clear H
         go_wp2
         go_roundg kj49
         case measure => have := HK1.out; have := HJ49.out; omega
         case rel => exact ⟨(x5_1), (wrap64 (x6_1 - 1)), (t283), (t284), zf, H', ⟨by have := HK1.out; have := HJ49.out; omega⟩, ⟨by (with_reducible repeat (first | apply Kd.R_alloc | apply Kd.R_drewN | apply Kd.R_drew)); exact HO_5.out⟩, ⟨by repeat (first | (with_reducible first | exact HI0.out | apply IsS50.alloc | apply IsS50.drewN | apply IsS50.drew | apply IsS50.set_1 | apply IsS50.set_2) | exact HI0.out)⟩, ⟨by repeat (first | (with_reducible first | exact HK.out | apply KeepBut.set_ | apply keep_drewN | apply keep_drew | apply keep_alloc) | exact HK.out)⟩, ⟨by repeat (first | (with_reducible first | exact HB.out | apply below_alloc | apply pw_below_drewN | apply below_drew1 | refine below_set ?_ (IsS50.ge HI0.out)) | exact HB.out)⟩⟩
   ·rw [if_neg c7] at H
    have c7b0 : decide (0 < x6_1) = false := decide_eq_false c7
    clear c7
    have HC73 := am H
    clear H
    go_upto_region 15 with (fail)
    go_cut [85] (fun v85 wc => ∃ (kq : Nat) (x85_72 : Bool) (x1001_72 : Int) (x1002_72 : Int), v85 = .bool x85_72 ∧ Aside0 (spec_l1Cur_other.j2 kq x5_1 x85_72 s0_0 x1001_72 x1002_72 = some (r1, r2, r3)) ∧ Aside0 (kq ≤ k1) ∧ Aside0 (Kd.R Kd.string 9 wc w.heap.size (fun _ => True) u5 x5_1) ∧ Aside0 (IsS50 w0 wc g s0_0 x1001_72 x1002_72) ∧ Aside0 (KeepBut w wc g none) ∧ Aside0 (Below w0.heap.size w0 wc))
    case first =>
     have H := HC73.out
     clear HC73
     by_cases c74 : (x5_1.length : Int) > 0
     ·rw [if_pos c74] at H
      have c74b0 : decide (0 < (x5_1.length : Int)) = true := decide_eq_true c74
      have c74b1 : decide (0 < x5_1.length) = true := decide_eq_true (by omega)
      clear c74
      (first | rw [c74b0] | (simp only [i64_w, i32_w]; rw [c74b0]) | skip)
      replace H := Option.bind_eq_some_iff.mp H
      obtain ⟨⟨t326, t327, t328⟩, A750, H⟩ := H
      replace H : (spec_l1Cur_other.j2 k1 x5_1 t326 s0_0 t327 t328) = some (r1, r2, r3) := H
      have A75 := am A750
      clear A750
      have H' := am H
      clear H
      obtain ⟨Ao76, co76, eo76⟩ := Kd.R_slice HO_5.out
      subst eo76
      go_wp2_with (first | (go_at_call 42; (with_reducible refine (spec_l1Cur_one.calls g s0_0 x1001_1 x1002_1 6 t326 t327 t328 w0 _ ?side1 ?side2 A75.out).mono ?_); (case side1 => exact zi); (case side2 => exact zj); rintro e w77 ⟨rfl, hi, hb, hk⟩; have n0_ := am (Kd.R_mono (Kd.R_keep (IsS50.apart (show IsS50 w0 _ g s0_0 x1001_1 x1002_1 from zi) (zr HO_5.out) (by decide)) hk (fun _ h => h.2)) (fun _ h => h.1)); have n1_ := am (KeepBut.trans zh hk (.inl rfl)); have n2_ := am (hb); have n3_ := am (hi); clear HO_5; clear HK; clear HB; clear HI0; have HO_5 := n0_; have HK := n1_; have HB := n2_; have HI0 := n3_; clear n0_ n1_ n2_ n3_; (try clear hb); (try clear hk); (try clear hi)))
      go_meet
      case rel => exact ⟨_, (t326), (t327), (t328), zf, H', ⟨by have := HK1.out; first | omega | exact Nat.le_refl _⟩, ⟨by (with_reducible repeat (first | apply Kd.R_alloc | apply Kd.R_drewN | apply Kd.R_drew)); exact HO_5.out⟩, ⟨by repeat (first | (with_reducible first | exact HI0.out | apply IsS50.alloc | apply IsS50.drewN | apply IsS50.drew | apply IsS50.set_1 | apply IsS50.set_2) | exact HI0.out)⟩, ⟨by repeat (first | (with_reducible first | exact HK.out | apply KeepBut.set_ | apply keep_drewN | apply keep_drew | apply keep_alloc) | exact HK.out)⟩, ⟨by repeat (first | (with_reducible first | exact HB.out | apply below_alloc | apply pw_below_drewN | apply below_drew1 | refine below_set ?_ (IsS50.ge HI0.out)) | exact HB.out)⟩⟩
     ·rw [if_neg c74] at H
      have c74b0 : decide (0 < (x5_1.length : Int)) = false := decide_eq_false c74
      have c74b1 : decide (0 < x5_1.length) = false := decide_eq_false (by omega)
      clear c74
      (first | rw [c74b0] | (simp only [i64_w, i32_w]; rw [c74b0]) | skip)
      have H' := am H
      clear H
      obtain ⟨Ao78, co78, eo78⟩ := Kd.R_slice HO_5.out
      subst eo78
      go_wp2
      go_meet
      case rel => exact ⟨_, (false), (x1001_1), (x1002_1), zf, H', ⟨by have := HK1.out; first | omega | exact Nat.le_refl _⟩, ⟨by (with_reducible repeat (first | apply Kd.R_alloc | apply Kd.R_drewN | apply Kd.R_drew)); exact HO_5.out⟩, ⟨by repeat (first | (with_reducible first | exact HI0.out | apply IsS50.alloc | apply IsS50.drewN | apply IsS50.drew | apply IsS50.set_1 | apply IsS50.set_2) | exact HI0.out)⟩, ⟨by repeat (first | (with_reducible first | exact HK.out | apply KeepBut.set_ | apply keep_drewN | apply keep_drew | apply keep_alloc) | exact HK.out)⟩, ⟨by repeat (first | (with_reducible first | exact HB.out | apply below_alloc | apply pw_below_drewN | apply below_drew1 | refine below_set ?_ (IsS50.ge HI0.out)) | exact HB.out)⟩⟩
    case rest =>
     clear HC73
     try clear c1
     try clear c2
     try clear p2
     try clear q2
     try clear hx2
     try clear c3
     try clear p3
     try clear q3
     try clear hx3
     try clear hf3
     try clear c4
     try clear c5
     try clear c6
     try clear p6
     try clear q6
     try clear c7
     try clear c7b0
     try clear q7
     try clear c10
     try clear c10b0
     try clear c10b1
     try clear c11
     try clear c11b0
     try clear c12
     try clear c12b0
     try clear c12b1
     try clear c13
     try clear c13b0
     try clear c13b1
     try clear c16
     try clear c16b0
     try clear c16b1
     try clear c17
     try clear c17b0
     try clear c17b1
     try clear c18
     try clear q23
     try clear c25
     try clear q25
     try clear p29
     try clear q29
     try clear hx29
     try clear c30
     try clear c30b0
     try clear c30b1
     try clear c31
     try clear c31b0
     try clear c32
     try clear c32b0
     try clear c34
     try clear c36
     try clear c36b0
     try clear c36b1
     try clear c36b2
     try clear p37
     try clear q37
     try clear hx37
     try clear hf37
     try clear c38
     try clear c43
     try clear c53
     try clear c54
     try clear c54b0
     try clear c56
     try clear c57
     try clear c57b0
     try clear c57b1
     try clear c58
     try clear c58b0
     try clear c58b1
     try clear c61
     try clear c61b0
     try clear c61b1
     try clear c61b2
     try clear c62
     try clear c63
     try clear c63b0
     try clear c64
     try clear c64b0
     try clear p64
     try clear c65
     try clear q67
     try clear c71
     try clear q71
     try clear c74
     try clear c74b0
     try clear c74b1
     try clear hx299_0
     try clear hx37_0
     try clear p2
     try clear p29
     try clear p299
     try clear p3
     try clear p37
     try clear p6
     try clear q025
     try clear q071
     try clear q2
     try clear q23
     try clear q25
     try clear q29
     try clear q299
     try clear q3
     try clear q37
     try clear q67
     try clear q71
     obtain ⟨kq, x85_72, x1001_72, x1002_72, rfl, HA, HJ72, HO_5, HI0, HK, HB⟩ := hcut
     cases kq with
     | zero => exact absurd HA.out (by simp [spec_l1Cur_other.j2])
     | succ kj72 =>
      have H := HA.out
      clear HA
      simp only [spec_l1Cur_other.j2] at H
      by_cases c79 : x85_72 = true
      ·subst c79
       have H1 : (if 0 ≤ (wrap64 ((x5_1.length : Int) - 1)) then (if (wrap64 ((x5_1.length : Int) - 1)) < (x5_1.length : Int) then ((spec_l1Plain.f (rdOf ByteArray.empty x5_1 (wrap64 ((x5_1.length : Int) - 1)))).bind fun t330 => ((spec_l1Ends.f (rdOf ByteArray.empty x5_1 (wrap64 ((x5_1.length : Int) - 1)))).bind fun t332 => (if t332 = true then (if t330.toList = ([] : List UInt8) then (some (x5_1, x1001_72, x1002_72)) else (some ((x5_1.set ((wrap64 ((x5_1.length : Int) - 1)) : Int).toNat t330), x1001_72, x1002_72))) else (if t330.size + 1 ≤ 9223372036854775807 then (some ((x5_1.set ((wrap64 ((x5_1.length : Int) - 1)) : Int).toNat (t330 ++ (⟨#[10]⟩ : ByteArray))), x1001_72, x1002_72)) else (none))))) else (none)) else (none)) = some (r1, r2, r3) := by rw [if_pos rfl] at H; exact H
       clear H
       have H := H1
       clear H1
       obtain ⟨ji80, hji80⟩ : ∃ j_ : Int, (wrap64 ((x5_1.length : Int) - 1)) = j_ := ⟨_, rfl⟩
       replace H : (if 0 ≤ (ji80) then (if (ji80) < (x5_1.length : Int) then ((spec_l1Plain.f (rdOf ByteArray.empty x5_1 (ji80))).bind fun t330 => ((spec_l1Ends.f (rdOf ByteArray.empty x5_1 (ji80))).bind fun t332 => (if t332 = true then (if t330.toList = ([] : List UInt8) then (some (x5_1, x1001_72, x1002_72)) else (some ((x5_1.set ((ji80) : Int).toNat t330), x1001_72, x1002_72))) else (if t330.size + 1 ≤ 9223372036854775807 then (some ((x5_1.set ((ji80) : Int).toNat (t330 ++ (⟨#[10]⟩ : ByteArray))), x1001_72, x1002_72)) else (none))))) else (none)) else (none)) = some (r1, r2, r3) := by first | (rw [hji80] at H; exact H) | (simp only [hji80] at H ⊢; exact H)
       have hji80w : (IntKind.i64.wrap ((x5_1.length : Int) - 1)) = ji80 := (i64_w _).trans hji80
       by_cases c81 : 0 ≤ (ji80)
       ·rw [if_pos c81] at H
        have c81b0 : decide (0 ≤ (ji80)) = true := decide_eq_true c81
        clear c81
        by_cases c82 : (ji80) < (x5_1.length : Int)
        ·rw [if_pos c82] at H
         have c82b0 : decide ((ji80) < (x5_1.length : Int)) = true := decide_eq_true c82
         clear c82
         replace H := Option.bind_eq_some_iff.mp H
         obtain ⟨t330, A830, H⟩ := H
         replace H : ((spec_l1Ends.f (rdOf ByteArray.empty x5_1 (ji80))).bind fun t332 => (if t332 = true then (if t330.toList = ([] : List UInt8) then (some (x5_1, x1001_72, x1002_72)) else (some ((x5_1.set ((ji80) : Int).toNat t330), x1001_72, x1002_72))) else (if t330.size + 1 ≤ 9223372036854775807 then (some ((x5_1.set ((ji80) : Int).toNat (t330 ++ (⟨#[10]⟩ : ByteArray))), x1001_72, x1002_72)) else (none)))) = some (r1, r2, r3) := H
         have A83 := am A830
         clear A830
         replace H := Option.bind_eq_some_iff.mp H
         obtain ⟨t332, A840, H⟩ := H
         replace H : (if t332 = true then (if t330.toList = ([] : List UInt8) then (some (x5_1, x1001_72, x1002_72)) else (some ((x5_1.set ((ji80) : Int).toNat t330), x1001_72, x1002_72))) else (if t330.size + 1 ≤ 9223372036854775807 then (some ((x5_1.set ((ji80) : Int).toNat (t330 ++ (⟨#[10]⟩ : ByteArray))), x1001_72, x1002_72)) else (none))) = some (r1, r2, r3) := H
         have A84 := am A840
         clear A840
         by_cases c85 : t332 = true
         ·subst c85
          have H1 : (if t330.toList = ([] : List UInt8) then (some (x5_1, x1001_72, x1002_72)) else (some ((x5_1.set ((ji80) : Int).toNat t330), x1001_72, x1002_72))) = some (r1, r2, r3) := by rw [if_pos rfl] at H; exact H
          clear H
          have H := H1
          clear H1
          by_cases c86 : t330.toList = ([] : List UInt8)
          ·rw [if_pos c86] at H
           have c86b0 : (t330.toList == ([] : List UInt8)) = true := beq_iff_eq.mpr c86
           have c86b1 : (t330.toList != ([] : List UInt8)) = false := bne_eq_false_iff_eq.mpr c86
           clear c86
           simp only [Option.some.injEq, Prod.mk.injEq] at H
           obtain ⟨rfl, rfl, rfl⟩ := H
           obtain ⟨Ao87, co87, eo87⟩ := Kd.R_slice HO_5.out
           subst eo87
           have p329 : 0 ≤ ((ji80) : Int) := oa
           have q329 : (ji80) < (x5_1.length : Int) := oa
           obtain ⟨ad329, e329, hx329_0⟩ := Kd.at_string (Kd.R_reads' HO_5.out).2.2 (ji80) p329 q329
           cases e329
           replace p329 := eq_true p329
           replace q329 := eq_true q329
           go_wp2_with (first | ((with_reducible refine gateC (f := 59) rfl ?_); refine goesL_ (some 92) rfl rfl Tryd.func59 (by kernel_rfl) rfl #[.string (rdOf ByteArray.empty x5_1 (ji80))] rfl (by (try simp only [List.map_toArray, List.map_cons, List.map_nil]); first | done | (simp only [hji80]; rfl) | rfl | (simp only [List.length_drop, List.length_take]; rfl)) ?_; (with_reducible refine (spec_l1Plain.calls (rdOf ByteArray.empty x5_1 (ji80)) t330 _ A83.out).mono ?_); rintro e w' ⟨rfl, ⟨nd, rfl⟩⟩; refine ⟨_, rfl, ?_⟩; have p331 : 0 ≤ ((ji80) : Int) := oa; have q331 : (ji80) < (x5_1.length : Int) := oa; obtain ⟨ad331, e331, hx331_0⟩ := Kd.at_string (Kd.R_reads' HO_5.out).2.2 (ji80) p331 q331; obtain rfl : ad329 = ad331 := (by injection e331); replace p331 := eq_true p331; replace q331 := eq_true q331) | ((with_reducible refine gateC (f := 60) rfl ?_); refine goesL_ (some 100) rfl rfl Tryd.func60 (by kernel_rfl) rfl #[.string (rdOf ByteArray.empty x5_1 (ji80))] rfl (by (try simp only [List.map_toArray, List.map_cons, List.map_nil]); first | done | (simp only [hji80]; rfl) | rfl | (simp only [List.length_drop, List.length_take]; rfl)) ?_; (with_reducible refine (spec_l1Ends.calls (rdOf ByteArray.empty x5_1 (ji80)) true _ A84.out).mono ?_); rintro e w' ⟨rfl, ⟨nd, rfl⟩⟩; refine ⟨_, rfl, ?_⟩))
           go_ret
           exact ⟨_, by first | rfl | (simp [errW_none, errW_some] <;> rfl) | (simp only [← hji80]; first | rfl | (simp [errW_none, errW_some] <;> rfl)) | (simp [*, errW_none, errW_some] <;> rfl), by (with_reducible repeat (first | apply Kd.R_alloc | apply Kd.R_drewN | apply Kd.R_drew)); exact HO_5.out, zi, zj, zh⟩
          ·rw [if_neg c86] at H
           have c86b0 : (t330.toList == ([] : List UInt8)) = false := beq_eq_false_iff_ne.mpr c86
           have c86b1 : (t330.toList != ([] : List UInt8)) = true := bne_iff_ne.mpr c86
           obtain ⟨y333, hy333⟩ : ∃ y_ : List ByteArray, y_ = (x5_1.set ((ji80) : Int).toNat t330) := ⟨_, rfl⟩
           replace H : (some (y333, x1001_72, x1002_72)) = some (r1, r2, r3) := by first | (rw [hy333]; with_reducible exact H) | (have H2_ := (Option.bind_some _ _).symm.trans H; rw [hy333]; with_reducible exact H2_) | (have H2_ := (Option.bind_some _ _).symm.trans H; with_reducible exact H2_) | with_reducible exact H | (rw [hy333]; exact H) | exact H
           have Ny333 := am hy333
           clear hy333
           simp only [Option.some.injEq, Prod.mk.injEq] at H
           obtain ⟨rfl, rfl, rfl⟩ := H
           obtain ⟨Ao89, co89, eo89⟩ := Kd.R_slice HO_5.out
           subst eo89
           have p329 : 0 ≤ ((ji80) : Int) := oa
           have q329 : (ji80) < (x5_1.length : Int) := oa
           obtain ⟨ad329, e329, hx329_0⟩ := Kd.at_string (Kd.R_reads' HO_5.out).2.2 (ji80) p329 q329
           cases e329
           replace p329 := eq_true p329
           replace q329 := eq_true q329
           go_wp2_with (first | ((with_reducible refine gateC (f := 59) rfl ?_); refine goesL_ (some 92) rfl rfl Tryd.func59 (by kernel_rfl) rfl #[.string (rdOf ByteArray.empty x5_1 (ji80))] rfl (by (try simp only [List.map_toArray, List.map_cons, List.map_nil]); first | done | (simp only [hji80]; rfl) | rfl | (simp only [List.length_drop, List.length_take]; rfl)) ?_; (with_reducible refine (spec_l1Plain.calls (rdOf ByteArray.empty x5_1 (ji80)) t330 _ A83.out).mono ?_); rintro e w' ⟨rfl, ⟨nd, rfl⟩⟩; refine ⟨_, rfl, ?_⟩; (try (rw [drewN_self wc]; generalize hq_ : World.drewN wc _ = wc; have n0_ : Aside0 (Kd.R Kd.string 9 wc w.heap.size (fun _ => True) (.slice (some ad329) x5_1.length co89) x5_1) := ⟨by rw [← hq_]; exact (zr HO_5.out)⟩; have n1_ : Aside0 (IsS50 w0 wc g s0_0 x1001_72 x1002_72) := ⟨by rw [← hq_]; exact zi⟩; have n2_ : Aside0 (KeepBut w wc g none) := ⟨by rw [← hq_]; exact zh⟩; have n3_ : Aside0 (Below w0.heap.size w0 wc) := ⟨by rw [← hq_]; exact zj⟩; clear HO_5 HI0 HK HB hq_; have HO_5 := n0_; have HI0 := n1_; have HK := n2_; have HB := n3_; clear n0_ n1_ n2_ n3_)); have p331 : 0 ≤ ((ji80) : Int) := oa; have q331 : (ji80) < (x5_1.length : Int) := oa; obtain ⟨ad331, e331, hx331_0⟩ := Kd.at_string (Kd.R_reads' HO_5.out).2.2 (ji80) p331 q331; obtain rfl : ad329 = ad331 := (by injection e331); replace p331 := eq_true p331; replace q331 := eq_true q331) | ((with_reducible refine gateC (f := 60) rfl ?_); refine goesL_ (some 100) rfl rfl Tryd.func60 (by kernel_rfl) rfl #[.string (rdOf ByteArray.empty x5_1 (ji80))] rfl (by (try simp only [List.map_toArray, List.map_cons, List.map_nil]); first | done | (simp only [hji80]; rfl) | rfl | (simp only [List.length_drop, List.length_take]; rfl)) ?_; (with_reducible refine (spec_l1Ends.calls (rdOf ByteArray.empty x5_1 (ji80)) true _ A84.out).mono ?_); rintro e w' ⟨rfl, ⟨nd, rfl⟩⟩; refine ⟨_, rfl, ?_⟩; (try (rw [drewN_self wc]; generalize hq_ : World.drewN wc _ = wc; have n0_ : Aside0 (Kd.R Kd.string 9 wc w.heap.size (fun _ => True) (.slice (some ad329) x5_1.length co89) x5_1) := ⟨by rw [← hq_]; exact (zr HO_5.out)⟩; have n1_ : Aside0 (IsS50 w0 wc g s0_0 x1001_72 x1002_72) := ⟨by rw [← hq_]; exact zi⟩; have n2_ : Aside0 (KeepBut w wc g none) := ⟨by rw [← hq_]; exact zh⟩; have n3_ : Aside0 (Below w0.heap.size w0 wc) := ⟨by rw [← hq_]; exact zj⟩; clear HO_5 HI0 HK HB hq_; have HO_5 := n0_; have HI0 := n1_; have HK := n2_; have HB := n3_; clear n0_ n1_ n2_ n3_)); have p88 : 0 ≤ ((ji80) : Int) := oa; have q88 : ((ji80) : Int) < ((x5_1.length : Int) : Int) := oa; obtain ⟨go88, co88, eo88, gb88, gl88, cl88, HG88⟩ := Kd.R_form HO_5.out (by omega); (first | cases eo88 | (injection eo88 with ea_ en_ ec_; (first | subst ea_ | (injection ea_ with ea_; subst ea_)); subst ec_; clear en_)); have GB88 := am gb88; have GG88 := am HG88; clear gb88 gl88 HG88; (first | simp only [add_plain] at hx329_0 | skip); (first | simp only [add_plain] at hx331_0 | skip); obtain ⟨hx88_0, hf88_0⟩ := Kd.R_celln (⟨#[]⟩ : ByteArray) HO_5.out ((ji80) : Int) p88 q88; replace p88 := eq_true p88; replace q88 := eq_true q88; obtain ⟨hy90_, hz90_⟩ := Kd.R_celln (⟨#[]⟩ : ByteArray) HO_5.out ((ji80) : Int) oa oa; have HP90 := Kd.R_putg HO_5.out ((ji80) : Int) t330) | ((with_reducible refine gate_store (t := 9) (p := 117) rfl ?_); refine store_event (t := 9) (p := 117) (v := ?vo_w91) (w1 := (wc.setCell ⟨go88, ((ji80) : Int).toNat, none⟩ (.string t330))) ?hg ?ho ?hn ?hr ?_; (case ho => rfl); (case hg => rfl); (case hn => rfl); (case hr => first | (go_simp; done) | (go_simp; rfl)); intro w91 hw; have hg : wc.grownBy w91 (some go88) := (by rw [hw]; exact HP90.2); have hp_ : Kd.R Kd.string 9 w91 w.heap.size (fun _ => True) (.slice (some ⟨go88, 0, none⟩) x5_1.length co89) y333 := (by rw [hw, Ny333.out]; exact HP90.1); clear HP90; have n0_ := am (hp_); have n1_ := am (IsS50.grown zi hg (IsS50.own_ne HI0.out HO_5.out (by decide))); have n2_ := am ((by rw [hw]; exact below_set (HB.out) (Nat.le_trans HL.out GB88.out) : Below w0.heap.size w0 w91)); have n3_ := am (KeepBut.trans zh (KeepBut.of_grown hg g) (Kd.R_base2 HO_5.out)); clear HO_5; clear HI0; clear HB; clear HK; have HO_5 := n0_; have HI0 := n1_; have HB := n2_; have HK := n3_; clear n0_ n1_ n2_ n3_; clear hg hw hp_))
           go_ret
           exact ⟨_, by first | rfl | (simp [errW_none, errW_some] <;> rfl) | (simp only [← hji80]; first | rfl | (simp [errW_none, errW_some] <;> rfl)) | (simp [*, errW_none, errW_some] <;> rfl), by (with_reducible repeat (first | apply Kd.R_alloc | apply Kd.R_drewN | apply Kd.R_drew)); exact HO_5.out, zi, zj, zh⟩
         ·replace c85 := Bool.eq_false_iff.mpr c85
          subst c85
          have H1 : (if t330.size + 1 ≤ 9223372036854775807 then (some ((x5_1.set ((ji80) : Int).toNat (t330 ++ (⟨#[10]⟩ : ByteArray))), x1001_72, x1002_72)) else (none)) = some (r1, r2, r3) := by rw [if_neg (show ¬ (false = true) by decide)] at H; exact H
          clear H
          have H := H1
          clear H1
          by_cases c92 : t330.size + 1 ≤ 9223372036854775807
          ·rw [if_pos c92] at H
           have c92b0 := eq_true c92
           have c92b1 : decide (t330.size + 1 ≤ 9223372036854775807) = true := decide_eq_true c92
           try have c92b2 : (9223372036854775807 < t330.size + 1) = False := eq_false (Nat.not_lt.2 c92)
           obtain ⟨y334, hy334⟩ : ∃ y_ : List ByteArray, y_ = (x5_1.set ((ji80) : Int).toNat (t330 ++ (⟨#[10]⟩ : ByteArray))) := ⟨_, rfl⟩
           replace H : (some (y334, x1001_72, x1002_72)) = some (r1, r2, r3) := by first | (rw [hy334]; with_reducible exact H) | (have H2_ := (Option.bind_some _ _).symm.trans H; rw [hy334]; with_reducible exact H2_) | (have H2_ := (Option.bind_some _ _).symm.trans H; with_reducible exact H2_) | with_reducible exact H | (rw [hy334]; exact H) | exact H
           have Ny334 := am hy334
           clear hy334
           simp only [Option.some.injEq, Prod.mk.injEq] at H
           obtain ⟨rfl, rfl, rfl⟩ := H
           obtain ⟨Ao94, co94, eo94⟩ := Kd.R_slice HO_5.out
           subst eo94
           have p329 : 0 ≤ ((ji80) : Int) := oa
           have q329 : (ji80) < (x5_1.length : Int) := oa
           obtain ⟨ad329, e329, hx329_0⟩ := Kd.at_string (Kd.R_reads' HO_5.out).2.2 (ji80) p329 q329
           cases e329
           replace p329 := eq_true p329
           replace q329 := eq_true q329
           go_wp2_with (first | ((with_reducible refine gateC (f := 59) rfl ?_); refine goesL_ (some 92) rfl rfl Tryd.func59 (by kernel_rfl) rfl #[.string (rdOf ByteArray.empty x5_1 (ji80))] rfl (by (try simp only [List.map_toArray, List.map_cons, List.map_nil]); first | done | (simp only [hji80]; rfl) | rfl | (simp only [List.length_drop, List.length_take]; rfl)) ?_; (with_reducible refine (spec_l1Plain.calls (rdOf ByteArray.empty x5_1 (ji80)) t330 _ A83.out).mono ?_); rintro e w' ⟨rfl, ⟨nd, rfl⟩⟩; refine ⟨_, rfl, ?_⟩; (try (rw [drewN_self wc]; generalize hq_ : World.drewN wc _ = wc; have n0_ : Aside0 (Kd.R Kd.string 9 wc w.heap.size (fun _ => True) (.slice (some ad329) x5_1.length co94) x5_1) := ⟨by rw [← hq_]; exact (zr HO_5.out)⟩; have n1_ : Aside0 (IsS50 w0 wc g s0_0 x1001_72 x1002_72) := ⟨by rw [← hq_]; exact zi⟩; have n2_ : Aside0 (KeepBut w wc g none) := ⟨by rw [← hq_]; exact zh⟩; have n3_ : Aside0 (Below w0.heap.size w0 wc) := ⟨by rw [← hq_]; exact zj⟩; clear HO_5 HI0 HK HB hq_; have HO_5 := n0_; have HI0 := n1_; have HK := n2_; have HB := n3_; clear n0_ n1_ n2_ n3_)); have p331 : 0 ≤ ((ji80) : Int) := oa; have q331 : (ji80) < (x5_1.length : Int) := oa; obtain ⟨ad331, e331, hx331_0⟩ := Kd.at_string (Kd.R_reads' HO_5.out).2.2 (ji80) p331 q331; obtain rfl : ad329 = ad331 := (by injection e331); replace p331 := eq_true p331; replace q331 := eq_true q331) | ((with_reducible refine gateC (f := 60) rfl ?_); refine goesL_ (some 100) rfl rfl Tryd.func60 (by kernel_rfl) rfl #[.string (rdOf ByteArray.empty x5_1 (ji80))] rfl (by (try simp only [List.map_toArray, List.map_cons, List.map_nil]); first | done | (simp only [hji80]; rfl) | rfl | (simp only [List.length_drop, List.length_take]; rfl)) ?_; (with_reducible refine (spec_l1Ends.calls (rdOf ByteArray.empty x5_1 (ji80)) false _ A84.out).mono ?_); rintro e w' ⟨rfl, ⟨nd, rfl⟩⟩; refine ⟨_, rfl, ?_⟩; (try (rw [drewN_self wc]; generalize hq_ : World.drewN wc _ = wc; have n0_ : Aside0 (Kd.R Kd.string 9 wc w.heap.size (fun _ => True) (.slice (some ad329) x5_1.length co94) x5_1) := ⟨by rw [← hq_]; exact (zr HO_5.out)⟩; have n1_ : Aside0 (IsS50 w0 wc g s0_0 x1001_72 x1002_72) := ⟨by rw [← hq_]; exact zi⟩; have n2_ : Aside0 (KeepBut w wc g none) := ⟨by rw [← hq_]; exact zh⟩; have n3_ : Aside0 (Below w0.heap.size w0 wc) := ⟨by rw [← hq_]; exact zj⟩; clear HO_5 HI0 HK HB hq_; have HO_5 := n0_; have HI0 := n1_; have HK := n2_; have HB := n3_; clear n0_ n1_ n2_ n3_)); have p93 : 0 ≤ ((ji80) : Int) := oa; have q93 : ((ji80) : Int) < ((x5_1.length : Int) : Int) := oa; obtain ⟨go93, co93, eo93, gb93, gl93, cl93, HG93⟩ := Kd.R_form HO_5.out (by omega); (first | cases eo93 | (injection eo93 with ea_ en_ ec_; (first | subst ea_ | (injection ea_ with ea_; subst ea_)); subst ec_; clear en_)); have GB93 := am gb93; have GG93 := am HG93; clear gb93 gl93 HG93; (first | simp only [add_plain] at hx329_0 | skip); (first | simp only [add_plain] at hx331_0 | skip); obtain ⟨hx93_0, hf93_0⟩ := Kd.R_celln (⟨#[]⟩ : ByteArray) HO_5.out ((ji80) : Int) p93 q93; replace p93 := eq_true p93; replace q93 := eq_true q93; obtain ⟨hy95_, hz95_⟩ := Kd.R_celln (⟨#[]⟩ : ByteArray) HO_5.out ((ji80) : Int) oa oa; have HP95 := Kd.R_putg HO_5.out ((ji80) : Int) (t330 ++ (⟨#[10]⟩ : ByteArray))) | ((with_reducible refine gate_store (t := 9) (p := 108) rfl ?_); refine store_event (t := 9) (p := 108) (v := ?vo_w96) (w1 := (wc.setCell ⟨go93, ((ji80) : Int).toNat, none⟩ (.string (t330 ++ (⟨#[10]⟩ : ByteArray))))) ?hg ?ho ?hn ?hr ?_; (case ho => rfl); (case hg => rfl); (case hn => rfl); (case hr => first | (go_simp; done) | (go_simp; rfl)); intro w96 hw; have hg : wc.grownBy w96 (some go93) := (by rw [hw]; exact HP95.2); have hp_ : Kd.R Kd.string 9 w96 w.heap.size (fun _ => True) (.slice (some ⟨go93, 0, none⟩) x5_1.length co94) y334 := (by rw [hw, Ny334.out]; exact HP95.1); clear HP95; have n0_ := am (hp_); have n1_ := am (IsS50.grown zi hg (IsS50.own_ne HI0.out HO_5.out (by decide))); have n2_ := am ((by rw [hw]; exact below_set (HB.out) (Nat.le_trans HL.out GB93.out) : Below w0.heap.size w0 w96)); have n3_ := am (KeepBut.trans zh (KeepBut.of_grown hg g) (Kd.R_base2 HO_5.out)); clear HO_5; clear HI0; clear HB; clear HK; have HO_5 := n0_; have HI0 := n1_; have HB := n2_; have HK := n3_; clear n0_ n1_ n2_ n3_; clear hg hw hp_))
           go_ret
           exact ⟨_, by first | rfl | (simp [errW_none, errW_some] <;> rfl) | (simp only [← hji80]; first | rfl | (simp [errW_none, errW_some] <;> rfl)) | (simp [*, errW_none, errW_some] <;> rfl), by (with_reducible repeat (first | apply Kd.R_alloc | apply Kd.R_drewN | apply Kd.R_drew)); exact HO_5.out, zi, zj, zh⟩
          ·rw [if_neg c92] at H
           exact absurd H (by simp)
        ·rw [if_neg c82] at H
         exact absurd H (by simp)
       ·rw [if_neg c81] at H
        exact absurd H (by simp)
      ·replace c79 := Bool.eq_false_iff.mpr c79
       subst c79
       have H1 : (some (x5_1, x1001_72, x1002_72)) = some (r1, r2, r3) := by rw [if_neg (show ¬ (false = true) by decide)] at H; exact H
       clear H
       have H := H1
       clear H1
       simp only [Option.some.injEq, Prod.mk.injEq] at H
       obtain ⟨rfl, rfl, rfl⟩ := H
       go_wp2
       go_ret
       exact ⟨_, by first | rfl | (simp [errW_none, errW_some] <;> rfl) | (simp [*, errW_none, errW_some] <;> rfl), by (with_reducible repeat (first | apply Kd.R_alloc | apply Kd.R_drewN | apply Kd.R_drew)); exact HO_5.out, zi, zj, zh⟩
end Go.Proofs.YtmcldkobejhaeaaDoor.My
/- Written by this session's program (wip/gen): a plain function with the same answers as the Go function, and the proof that the Go code comes to them. Asked: that the plain function has an answer. -/
namespace Go.Proofs.YtmcldkobejhaeaaDoor.My
open Go.RowKit Go.Proofs.YtmcldkobejhaeaaDoorW.PrintWords Go.Proofs.YtmcldkobejhaeaaDoorW.PrintLast Go.Proofs.YtmcldkobejhaeaaDoorW.PrintMore
attribute [local go_sem] max2_int min2_int max_two min_two max_three min_three max_four min_four
set_option linter.unusedVariables false
set_option linter.unusedSimpArgs false
def spec_l1In.f (a0 : Int) (a1 : Int) (a2 : Int) : Option (Bool) := if a0 ≥ a1 then (some (decide (a0 ≤ a2))) else (some false)
set_option maxHeartbeats 8000000 in
set_option maxRecDepth 100000 in
theorem spec_l1In.calls (a0 : Int) (a1 : Int) (a2 : Int) (r : Bool) (w : World) (h : spec_l1In.f a0 a1 a2 = some r) :
  Calls Tryd.prog 52 #[.int .i64 a0, .int .i64 a1, .int .i64 a2] w fun e w' => e = .returned (.bool r) ∧ Drawn0 w w' := by
 have H : (if a0 ≥ a1 then (some (decide (a0 ≤ a2))) else (some false)) = some r := h
 clear h
 by_cases c4 : a0 ≥ a1
 ·rw [if_pos c4] at H
  have c4b0 : decide (a1 ≤ a0) = true := decide_eq_true c4
  clear c4
  obtain rfl := Option.some.inj H
  go_enter Tryd.func52, Tryd.ntmps52
  go_wp2
  go_ret
  exact ⟨by first | rfl | (simp; done) | (simp [*]; done), by repeat (first | exact Drawn0.refl _ | apply Drawn0.step)⟩
 ·rw [if_neg c4] at H
  have c4b0 : decide (a1 ≤ a0) = false := decide_eq_false c4
  clear c4
  obtain rfl := Option.some.inj H
  go_enter Tryd.func52, Tryd.ntmps52
  go_wp2
  go_ret
  exact ⟨by first | rfl | (simp; done) | (simp [*]; done), by repeat (first | exact Drawn0.refl _ | apply Drawn0.step)⟩
end Go.Proofs.YtmcldkobejhaeaaDoor.My
/- Written by this session's program (wip/gen): a plain function with the same answers as the Go function, and the proof that the Go code comes to them. Asked: that the plain function has an answer. -/
namespace Go.Proofs.YtmcldkobejhaeaaDoor.My
open Go.RowKit Go.Proofs.YtmcldkobejhaeaaDoorW.PrintWords Go.Proofs.YtmcldkobejhaeaaDoorW.PrintLast Go.Proofs.YtmcldkobejhaeaaDoorW.PrintMore
attribute [local go_sem] max2_int min2_int max_two min_two max_three min_three max_four min_four
set_option linter.unusedVariables false
set_option linter.unusedSimpArgs false
def spec_l1Line.l0 : Nat → ByteArray → Int → Option (Bool)
 | 0, _, _ => none
 | k + 1, x0, x3 => if x3 < (wrap64 ((x0.size : Int) - 1)) then (if 0 ≤ x3 then (if x3 < (x0.size : Int) then (if (bt x0 x3) = 10 then (some false) else (spec_l1Line.l0 k x0 (wrap64 (x3 + 1)))) else (none)) else (none)) else ((spec_l1In.f (x0.size : Int) 1 30).bind fun t107 => (some t107))
def spec_l1Line.f (k : Nat) (a0 : ByteArray) : Option (Bool) := spec_l1Line.l0 k a0 0
set_option maxHeartbeats 8000000 in
set_option maxRecDepth 100000 in
theorem spec_l1Line.calls (k : Nat) (a0 : ByteArray) (r : Bool) (w : World) (h : spec_l1Line.f k a0 = some r) :
  Calls Tryd.prog 58 #[.string a0] w fun e w' => e = .returned (.bool r) ∧ Drawn0 w w' := by
 have H : (spec_l1Line.l0 k a0 0) = some r := h
 clear h
 have H' := am H
 clear H
 go_enter Tryd.func58, Tryd.ntmps58
 go_wp2
 go_loopg [3] k (fun kq v3 w' => ∃ (x3_1 : Int), v3 = .int .i64 x3_1 ∧ Aside0 (spec_l1Line.l0 kq a0 x3_1 = some r) ∧ Aside0 (kq ≤ k) ∧ Drawn0 w w')
 case atStart => exact ⟨(0), zf, H', ⟨Nat.le_refl _⟩, by repeat (first | exact Drawn0.refl _ | apply Drawn0.step)⟩
 case round =>
  clear H'
  obtain ⟨x3_1, rfl, HA, HK1, ⟨m1, rfl⟩⟩ := hrel
  cases gk with
  | zero => exact absurd HA.out (by simp [spec_l1Line.l0])
  | succ k1 =>
   have H := HA.out
   clear HA
   simp only [spec_l1Line.l0] at H
   by_cases c2 : x3_1 < (wrap64 ((a0.size : Int) - 1))
   ·rw [if_pos c2] at H
    have c2b0 : decide (x3_1 < (wrap64 ((a0.size : Int) - 1))) = true := decide_eq_true c2
    clear c2
    by_cases c3 : 0 ≤ x3_1
    ·rw [if_pos c3] at H
     have c3b0 : decide (0 ≤ x3_1) = true := decide_eq_true c3
     clear c3
     by_cases c4 : x3_1 < (a0.size : Int)
     ·rw [if_pos c4] at H
      have c4b0 : decide (x3_1 < (a0.size : Int)) = true := decide_eq_true c4
      clear c4
      by_cases c6 : (bt a0 x3_1) = 10
      ·rw [if_pos c6] at H
       have c6b0 : ((bt a0 x3_1) == 10) = true := beq_iff_eq.mpr c6
       have c6b1 : ((bt a0 x3_1) != 10) = false := bne_eq_false_iff_eq.mpr c6
       clear c6
       obtain rfl := Option.some.inj H
       have p5 : 0 ≤ (x3_1 : Int) := oa
       have q5 : x3_1 < (a0.size : Int) := oa
       have hx5 := bt_at a0 x3_1
       replace p5 := eq_true p5
       replace q5 := eq_true q5
       go_wp2
       go_ret
       exact ⟨by first | rfl | (simp; done) | (simp [*]; done), by repeat (first | exact Drawn0.refl _ | apply Drawn0.step)⟩
      ·rw [if_neg c6] at H
       have c6b0 : ((bt a0 x3_1) == 10) = false := beq_eq_false_iff_ne.mpr c6
       have c6b1 : ((bt a0 x3_1) != 10) = true := bne_iff_ne.mpr c6
       have H' := am H
       clear H
       have p5 : 0 ≤ (x3_1 : Int) := oa
       have q5 : x3_1 < (a0.size : Int) := oa
       have hx5 := bt_at a0 x3_1
       replace p5 := eq_true p5
       replace q5 := eq_true q5
       go_wp2
       go_roundg k1
       case measure => have := HK1.out; omega
       case rel => exact ⟨(wrap64 (x3_1 + 1)), zf, H', ⟨by have := HK1.out; omega⟩, by repeat (first | exact Drawn0.refl _ | apply Drawn0.step)⟩
     ·rw [if_neg c4] at H
      exact absurd H (by simp)
    ·rw [if_neg c3] at H
     exact absurd H (by simp)
   ·rw [if_neg c2] at H
    have c2b0 : decide (x3_1 < (wrap64 ((a0.size : Int) - 1))) = false := decide_eq_false c2
    clear c2
    replace H := Option.bind_eq_some_iff.mp H
    obtain ⟨t107, A70, H⟩ := H
    replace H : (some t107) = some r := H
    have A7 := am A70
    clear A70
    obtain rfl := Option.some.inj H
    go_wp2_with (first | ((with_reducible refine gateC (f := 52) rfl ?_); refine goesL_ (some 17) rfl rfl Tryd.func52 (by kernel_rfl) rfl #[.int .i64 (a0.size : Int), .int .i64 1, .int .i64 30] rfl zm ?_; (with_reducible refine (spec_l1In.calls (a0.size : Int) 1 30 t107 _ A7.out).mono ?_); rintro e w' ⟨rfl, ⟨nd, rfl⟩⟩; refine ⟨_, rfl, ?_⟩))
    go_ret
    exact ⟨by first | rfl | (simp; done) | (simp [*]; done), by repeat (first | exact Drawn0.refl _ | apply Drawn0.step)⟩
end Go.Proofs.YtmcldkobejhaeaaDoor.My
/- Written by this session's program (wip/gen): a plain function with the same answers as the Go function, and the proof that the Go code comes to them. Asked: that the plain function has an answer. -/
namespace Go.Proofs.YtmcldkobejhaeaaDoor.My
open Go.RowKit Go.Proofs.YtmcldkobejhaeaaDoorW.PrintWords Go.Proofs.YtmcldkobejhaeaaDoorW.PrintLast Go.Proofs.YtmcldkobejhaeaaDoorW.PrintMore
attribute [local go_sem] max2_int min2_int max_two min_two max_three min_three max_four min_four
set_option linter.unusedVariables false
set_option linter.unusedSimpArgs false
def spec_l1Good.l0 : Nat → List ByteArray → List ByteArray → Int → Int → Option (Bool)
 | 0, _, _, _, _ => none
 | k + 1, x0, x5, x6, x7 => if x7 < x6 then (if 0 ≤ x7 then (if x7 < (x5.length : Int) then ((spec_l1Line.f k (rdOf ByteArray.empty x5 x7)).bind fun t109 => (if t109 = true then (if x7 < (wrap64 ((x0.length : Int) - 1)) then ((spec_l1Ends.f (rdOf ByteArray.empty x5 x7)).bind fun t110 => (if t110 = true then (spec_l1Good.l0 k x0 x5 x6 (wrap64 (x7 + 1))) else (some false))) else (spec_l1Good.l0 k x0 x5 x6 (wrap64 (x7 + 1)))) else (some false))) else (none)) else (none)) else (some (decide ((x0.length : Int) ≤ 40)))
def spec_l1Good.f (k : Nat) (l0 : List ByteArray) : Option (Bool) := spec_l1Good.l0 k l0 l0 (l0.length : Int) 0
set_option maxHeartbeats 8000000 in
set_option maxRecDepth 100000 in
theorem spec_l1Good.calls (k : Nat) (A0 : Option Addr) (c0 : Nat) (l0 : List ByteArray) (r : Bool) (w : World) (hr0 : Kd.C Kd.string w A0 l0.length l0) (hc0 : l0.length ≤ c0) (h : spec_l1Good.f k l0 = some r) :
  Calls Tryd.prog 32 #[.slice A0 l0.length c0] w fun e w' => e = .returned (.bool r) ∧ Drawn0 w w' := by
 have HR0 := am hr0
 have HC0 := am hc0
 clear hr0 hc0
 have H : (spec_l1Good.l0 k l0 l0 (l0.length : Int) 0) = some r := h
 clear h
 have H' := am H
 clear H
 go_enter Tryd.func32, Tryd.ntmps32
 go_wp2
 go_loopg [7] k (fun kq v7 w' => ∃ (x7_1 : Int), v7 = .int .i64 x7_1 ∧ Aside0 (spec_l1Good.l0 kq l0 l0 (l0.length : Int) x7_1 = some r) ∧ Aside0 (kq ≤ k) ∧ Drawn0 w w')
 case atStart => exact ⟨(0), zf, H', ⟨Nat.le_refl _⟩, by repeat (first | exact Drawn0.refl _ | apply Drawn0.step)⟩
 case round =>
  clear H'
  obtain ⟨x7_1, rfl, HA, HK1, ⟨m1, rfl⟩⟩ := hrel
  cases gk with
  | zero => exact absurd HA.out (by simp [spec_l1Good.l0])
  | succ k1 =>
   have H := HA.out
   clear HA
   simp only [spec_l1Good.l0] at H
   by_cases c2 : x7_1 < (l0.length : Int)
   ·rw [if_pos c2] at H
    have c2b0 : decide (x7_1 < (l0.length : Int)) = true := decide_eq_true c2
    clear c2
    by_cases c3 : 0 ≤ x7_1
    ·rw [if_pos c3] at H
     have c3b0 : decide (0 ≤ x7_1) = true := decide_eq_true c3
     clear c3
     by_cases c4 : x7_1 < (l0.length : Int)
     ·rw [if_pos c4] at H
      have c4b0 : decide (x7_1 < (l0.length : Int)) = true := decide_eq_true c4
      clear c4
      replace H := Option.bind_eq_some_iff.mp H
      obtain ⟨t109, A50, H⟩ := H
      replace H : (if t109 = true then (if x7_1 < (wrap64 ((l0.length : Int) - 1)) then ((spec_l1Ends.f (rdOf ByteArray.empty l0 x7_1)).bind fun t110 => (if t110 = true then (spec_l1Good.l0 k1 l0 l0 (l0.length : Int) (wrap64 (x7_1 + 1))) else (some false))) else (spec_l1Good.l0 k1 l0 l0 (l0.length : Int) (wrap64 (x7_1 + 1)))) else (some false)) = some r := H
      have A5 := am A50
      clear A50
      by_cases c6 : t109 = true
      ·subst c6
       have H1 : (if x7_1 < (wrap64 ((l0.length : Int) - 1)) then ((spec_l1Ends.f (rdOf ByteArray.empty l0 x7_1)).bind fun t110 => (if t110 = true then (spec_l1Good.l0 k1 l0 l0 (l0.length : Int) (wrap64 (x7_1 + 1))) else (some false))) else (spec_l1Good.l0 k1 l0 l0 (l0.length : Int) (wrap64 (x7_1 + 1)))) = some r := by rw [if_pos rfl] at H; exact H
       clear H
       have H := H1
       clear H1
       by_cases c7 : x7_1 < (wrap64 ((l0.length : Int) - 1))
       ·rw [if_pos c7] at H
        have c7b0 : decide (x7_1 < (wrap64 ((l0.length : Int) - 1))) = true := decide_eq_true c7
        clear c7
        replace H := Option.bind_eq_some_iff.mp H
        obtain ⟨t110, A80, H⟩ := H
        replace H : (if t110 = true then (spec_l1Good.l0 k1 l0 l0 (l0.length : Int) (wrap64 (x7_1 + 1))) else (some false)) = some r := H
        have A8 := am A80
        clear A80
        by_cases c9 : t110 = true
        ·subst c9
         have H1 : (spec_l1Good.l0 k1 l0 l0 (l0.length : Int) (wrap64 (x7_1 + 1))) = some r := by rw [if_pos rfl] at H; exact H
         clear H
         have H := H1
         clear H1
         have H' := am H
         clear H
         have p108 : 0 ≤ (x7_1 : Int) := oa
         have q108 : x7_1 < (l0.length : Int) := oa
         obtain ⟨ad108, e108, hx108_0⟩ := Kd.at_string HR0.out x7_1 p108 q108
         cases e108
         replace p108 := eq_true p108
         replace q108 := eq_true q108
         go_wp2_with (first | ((with_reducible refine gateC (f := 58) rfl ?_); refine goesL_ (some 13) rfl rfl Tryd.func58 (by kernel_rfl) rfl #[.string (rdOf ByteArray.empty l0 x7_1)] rfl zm ?_; (with_reducible refine (spec_l1Line.calls k1 (rdOf ByteArray.empty l0 x7_1) true _ A5.out).mono ?_); rintro e w' ⟨rfl, ⟨nd, rfl⟩⟩; refine ⟨_, rfl, ?_⟩) | (go_at_call 60; (with_reducible refine (spec_l1Ends.calls (rdOf ByteArray.empty l0 x7_1) true _ A8.out).mono ?_); rintro e w' ⟨rfl, ⟨nd, rfl⟩⟩))
         go_roundg k1
         case measure => have := HK1.out; omega
         case rel => exact ⟨(wrap64 (x7_1 + 1)), zf, H', ⟨by have := HK1.out; omega⟩, by repeat (first | exact Drawn0.refl _ | apply Drawn0.step)⟩
        ·replace c9 := Bool.eq_false_iff.mpr c9
         subst c9
         have H1 : (some false) = some r := by rw [if_neg (show ¬ (false = true) by decide)] at H; exact H
         clear H
         have H := H1
         clear H1
         obtain rfl := Option.some.inj H
         have p108 : 0 ≤ (x7_1 : Int) := oa
         have q108 : x7_1 < (l0.length : Int) := oa
         obtain ⟨ad108, e108, hx108_0⟩ := Kd.at_string HR0.out x7_1 p108 q108
         cases e108
         replace p108 := eq_true p108
         replace q108 := eq_true q108
         go_wp2_with (first | ((with_reducible refine gateC (f := 58) rfl ?_); refine goesL_ (some 13) rfl rfl Tryd.func58 (by kernel_rfl) rfl #[.string (rdOf ByteArray.empty l0 x7_1)] rfl zm ?_; (with_reducible refine (spec_l1Line.calls k1 (rdOf ByteArray.empty l0 x7_1) true _ A5.out).mono ?_); rintro e w' ⟨rfl, ⟨nd, rfl⟩⟩; refine ⟨_, rfl, ?_⟩) | (go_at_call 60; (with_reducible refine (spec_l1Ends.calls (rdOf ByteArray.empty l0 x7_1) false _ A8.out).mono ?_); rintro e w' ⟨rfl, ⟨nd, rfl⟩⟩))
         go_ret
         exact ⟨by first | rfl | (simp; done) | (simp [*]; done), by repeat (first | exact Drawn0.refl _ | apply Drawn0.step)⟩
       ·rw [if_neg c7] at H
        have c7b0 : decide (x7_1 < (wrap64 ((l0.length : Int) - 1))) = false := decide_eq_false c7
        clear c7
        have H' := am H
        clear H
        have p108 : 0 ≤ (x7_1 : Int) := oa
        have q108 : x7_1 < (l0.length : Int) := oa
        obtain ⟨ad108, e108, hx108_0⟩ := Kd.at_string HR0.out x7_1 p108 q108
        cases e108
        replace p108 := eq_true p108
        replace q108 := eq_true q108
        go_wp2_with (first | ((with_reducible refine gateC (f := 58) rfl ?_); refine goesL_ (some 13) rfl rfl Tryd.func58 (by kernel_rfl) rfl #[.string (rdOf ByteArray.empty l0 x7_1)] rfl zm ?_; (with_reducible refine (spec_l1Line.calls k1 (rdOf ByteArray.empty l0 x7_1) true _ A5.out).mono ?_); rintro e w' ⟨rfl, ⟨nd, rfl⟩⟩; refine ⟨_, rfl, ?_⟩))
        go_roundg k1
        case measure => have := HK1.out; omega
        case rel => exact ⟨(wrap64 (x7_1 + 1)), zf, H', ⟨by have := HK1.out; omega⟩, by repeat (first | exact Drawn0.refl _ | apply Drawn0.step)⟩
      ·replace c6 := Bool.eq_false_iff.mpr c6
       subst c6
       have H1 : (some false) = some r := by rw [if_neg (show ¬ (false = true) by decide)] at H; exact H
       clear H
       have H := H1
       clear H1
       obtain rfl := Option.some.inj H
       have p108 : 0 ≤ (x7_1 : Int) := oa
       have q108 : x7_1 < (l0.length : Int) := oa
       obtain ⟨ad108, e108, hx108_0⟩ := Kd.at_string HR0.out x7_1 p108 q108
       cases e108
       replace p108 := eq_true p108
       replace q108 := eq_true q108
       go_wp2_with (first | ((with_reducible refine gateC (f := 58) rfl ?_); refine goesL_ (some 13) rfl rfl Tryd.func58 (by kernel_rfl) rfl #[.string (rdOf ByteArray.empty l0 x7_1)] rfl zm ?_; (with_reducible refine (spec_l1Line.calls k1 (rdOf ByteArray.empty l0 x7_1) false _ A5.out).mono ?_); rintro e w' ⟨rfl, ⟨nd, rfl⟩⟩; refine ⟨_, rfl, ?_⟩))
       go_ret
       exact ⟨by first | rfl | (simp; done) | (simp [*]; done), by repeat (first | exact Drawn0.refl _ | apply Drawn0.step)⟩
     ·rw [if_neg c4] at H
      exact absurd H (by simp)
    ·rw [if_neg c3] at H
     exact absurd H (by simp)
   ·rw [if_neg c2] at H
    have c2b0 : decide (x7_1 < (l0.length : Int)) = false := decide_eq_false c2
    clear c2
    obtain rfl := Option.some.inj H
    go_wp2
    go_ret
    exact ⟨by first | rfl | (simp; done) | (simp [*]; done), by repeat (first | exact Drawn0.refl _ | apply Drawn0.step)⟩
end Go.Proofs.YtmcldkobejhaeaaDoor.My
/- Written by this session's program (wip/gen): a plain function with the same answers as the Go function, and the proof that the Go code comes to them. Asked: that the plain function has an answer. -/
namespace Go.Proofs.YtmcldkobejhaeaaDoor.My
open Go.RowKit Go.Proofs.YtmcldkobejhaeaaDoorW.PrintWords Go.Proofs.YtmcldkobejhaeaaDoorW.PrintLast Go.Proofs.YtmcldkobejhaeaaDoorW.PrintMore
attribute [local go_sem] max2_int min2_int max_two min_two max_three min_three max_four min_four
set_option linter.unusedVariables false
set_option linter.unusedSimpArgs false
def spec_DrawSameAhead.j0 : Nat → List ByteArray → Bool → List Int → Int → Int → Option (List ByteArray × List ByteArray × Int × Int)
 | 0, _, _, _, _, _ => none
 | k + 1, x5, x16, x1000, x1001, x1002 => if x16 = true then ((spec_l1Cur_other.f k x1000 x1001 x1002 x5).bind fun bt359 => (some (x5, bt359.1, bt359.2.1, bt359.2.2))) else ((spec_l1Cur_text.f k x1000 x1001 x1002).bind fun bt364 => (some (x5, bt364.1, bt364.2.1, bt364.2.2)))
def spec_DrawSameAhead.g (k : Nat) (s0_0 : List Int) (s0_1 : Int) (s0_2 : Int) : Option (List ByteArray × List ByteArray × Int × Int) := (spec_l1Cur_anyText.f k s0_0 s0_1 s0_2).bind fun bt350 => ((spec_l1Cur_one.f s0_0 bt350.2.1 bt350.2.2 2).bind fun bt355 => (if bt355.1 = true then ((spec_l1Good.f k bt350.1).bind fun t358 => (spec_DrawSameAhead.j0 k bt350.1 t358 s0_0 bt355.2.1 bt355.2.2)) else (spec_DrawSameAhead.j0 k bt350.1 false s0_0 bt355.2.1 bt355.2.2)))
def spec_DrawSameAhead.f (k : Nat) (l0 : List Int) : Option (List ByteArray × List ByteArray) := (spec_DrawSameAhead.g k l0 0 0).bind fun r => some (r.1, r.2.1)
set_option maxHeartbeats 8000000 in
set_option maxRecDepth 100000 in
theorem spec_DrawSameAhead.made (k : Nat) (A0 : Option Addr) (c0 : Nat) (l0 : List Int) (r1 : List ByteArray) (r2 : List ByteArray) (r3 : Int) (r4 : Int) (w0 : World) (hr0 : Kd.C (Kd.int .u8) w0 A0 l0.length l0) (h : spec_DrawSameAhead.g k l0 0 0 = some (r1, r2, r3, r4)) :
  Calls Tryd.prog 16 #[.slice A0 l0.length c0] w0 fun e w' => ∃ (g : Nat) (w : World), w0.heap.size ≤ w.heap.size ∧ ∃ v0_ v1_ : Value, e = .returned (.tuple #[v0_, v1_]) ∧ Kd.R Kd.string 9 w' w.heap.size (fun k_ => some k_ ≠ (v1_ : Value).ownBlock) v0_ r1 ∧ Kd.R Kd.string 9 w' w.heap.size (fun k_ => some k_ ≠ (v0_ : Value).ownBlock) v1_ r2 ∧ IsS50 w0 w' g l0 r3 r4 ∧ Below w0.heap.size w0 w' ∧ KeepBut w w' g none := by
 have HR0 := am hr0
 clear hr0
 have HB := am (Below.refl w0.heap.size w0)
 have H : ((spec_l1Cur_anyText.f k l0 0 0).bind fun bt350 => ((spec_l1Cur_one.f l0 bt350.2.1 bt350.2.2 2).bind fun bt355 => (if bt355.1 = true then ((spec_l1Good.f k bt350.1).bind fun t358 => (spec_DrawSameAhead.j0 k bt350.1 t358 l0 bt355.2.1 bt355.2.2)) else (spec_DrawSameAhead.j0 k bt350.1 false l0 bt355.2.1 bt355.2.2)))) = some (r1, r2, r3, r4) := h
 clear h
 replace H := Option.bind_eq_some_iff.mp H
 obtain ⟨⟨t350, t353, t354⟩, A20, H⟩ := H
 replace H : ((spec_l1Cur_one.f l0 t353 t354 2).bind fun bt355 => (if bt355.1 = true then ((spec_l1Good.f k t350).bind fun t358 => (spec_DrawSameAhead.j0 k t350 t358 l0 bt355.2.1 bt355.2.2)) else (spec_DrawSameAhead.j0 k t350 false l0 bt355.2.1 bt355.2.2))) = some (r1, r2, r3, r4) := H
 have A2 := am A20
 clear A20
 have HC3 := am H
 clear H
 go_enter Tryd.func16, Tryd.ntmps16
 go_upto_region 3 with (first | ((with_reducible refine gate_dst (N := 8) rfl ?_); refine box_event ?hg (N := 8) ?hd (cs := #[.slice A0 l0.length c0, .int .i64 0, .int .u64 0]) (t := 50) ?hr ?_; (case hd => rfl); (case hg => rfl); (case hr => first | (go_simp; done) | (go_simp; rfl)); intro g hg w hbox hb; have n0_ := am (show IsS50 w0 w g l0 0 0 from ⟨A0, c0, hbox, (by rw [hg]; exact below_size zb), HR0.out⟩); have n1_ := am (below_step zb hb); clear HB HR0; have HI0 := n0_; have HB := n1_; have HK := am (KeepBut.refl w g none); have HL := am HB.out.size; have HW0 := am HB.out.size; clear n0_ n1_ hb hbox hg) | ((with_reducible refine gateC (f := 41) rfl ?_); refine goesL_ (some 10) rfl rfl Tryd.func41 (by kernel_rfl) rfl #[.pointer (some ⟨g, 0, none⟩)] rfl zm ?_; (with_reducible refine (spec_l1Cur_anyText.calls k g l0 0 0 t350 t353 t354 w0 _ ?side1 ?side2 A2.out).mono ?_); (case side1 => exact zi); (case side2 => exact zj); rintro e w4 ⟨v351, rfl, ho0, hi, hb, hk⟩; refine ⟨_, rfl, ?_⟩; have n0_ := am (Kd.R_lower ho0 (keep_size (w := w) (g := g) (row := none) zh)); have n1_ := am (KeepBut.trans zh hk (.inl rfl)); have n2_ := am (hb); have n3_ := am (hi); clear HK; clear HB; clear HI0; have HO352 := n0_; have HK := n1_; have HB := n2_; have HI0 := n3_; clear n0_ n1_ n2_ n3_; (try clear hb); (try clear hk); (try clear hi); (try clear ho0)))
 (try simp only [Act.put, List.setIfInBounds_toArray, List.set_cons_zero, List.set_cons_succ])
 go_cut [16] (fun v16 wc => ∃ (kq : Nat) (x16_2 : Bool) (x1001_2 : Int) (x1002_2 : Int), v16 = .bool x16_2 ∧ Aside0 (spec_DrawSameAhead.j0 kq t350 x16_2 l0 x1001_2 x1002_2 = some (r1, r2, r3, r4)) ∧ Aside0 (kq ≤ k) ∧ Aside0 (Kd.R Kd.string 9 wc w.heap.size (fun _ => True) v351 t350) ∧ Aside0 (IsS50 w0 wc g l0 x1001_2 x1002_2) ∧ Aside0 (KeepBut w wc g none) ∧ Aside0 (Below w0.heap.size w0 wc))
 case first =>
  have H := HC3.out
  clear HC3
  replace H := Option.bind_eq_some_iff.mp H
  obtain ⟨⟨t355, t356, t357⟩, A50, H⟩ := H
  replace H : (if t355 = true then ((spec_l1Good.f k t350).bind fun t358 => (spec_DrawSameAhead.j0 k t350 t358 l0 t356 t357)) else (spec_DrawSameAhead.j0 k t350 false l0 t356 t357)) = some (r1, r2, r3, r4) := H
  have A5 := am A50
  clear A50
  by_cases c6 : t355 = true
  ·subst c6
   have H1 : ((spec_l1Good.f k t350).bind fun t358 => (spec_DrawSameAhead.j0 k t350 t358 l0 t356 t357)) = some (r1, r2, r3, r4) := by rw [if_pos rfl] at H; exact H
   clear H
   have H := H1
   clear H1
   replace H := Option.bind_eq_some_iff.mp H
   obtain ⟨t358, A70, H⟩ := H
   replace H : (spec_DrawSameAhead.j0 k t350 t358 l0 t356 t357) = some (r1, r2, r3, r4) := H
   have A7 := am A70
   clear A70
   have H' := am H
   clear H
   go_wp2_with (first | ((with_reducible refine gateC (f := 42) rfl ?_); refine goesL_ (some 12) rfl rfl Tryd.func42 (by kernel_rfl) rfl #[.pointer (some ⟨g, 0, none⟩), .int .i64 2] rfl zm ?_; (with_reducible refine (spec_l1Cur_one.calls g l0 t353 t354 2 true t356 t357 w0 _ ?side1 ?side2 A5.out).mono ?_); (case side1 => exact zi); (case side2 => exact zj); rintro e w8 ⟨rfl, hi, hb, hk⟩; refine ⟨_, rfl, ?_⟩; have n0_ := am (Kd.R_mono (Kd.R_keep (IsS50.apart (show IsS50 w0 _ g l0 t353 t354 from zi) (zr HO352.out) (by decide)) hk (fun _ h => h.2)) (fun _ h => h.1)); have n1_ := am (KeepBut.trans zh hk (.inl rfl)); have n2_ := am (hb); have n3_ := am (hi); clear HO352; clear HK; clear HB; clear HI0; have HO352 := n0_; have HK := n1_; have HB := n2_; have HI0 := n3_; clear n0_ n1_ n2_ n3_; (try clear hb); (try clear hk); (try clear hi); obtain ⟨Ao9, co9, eo9⟩ := Kd.R_slice HO352.out; subst eo9) | (go_at_call 32; (with_reducible refine (spec_l1Good.calls k _ _ t350 t358 _ ?side1 ?side2 A7.out).mono ?_); (case side1 => repeat (first | exact (Kd.R_reads' HO352.out).2.2 | (with_reducible refine Kd.C_alloc ?_ _) | (with_reducible refine Kd.C_drewN ?_ _) | (with_reducible refine Kd.C_drew ?_))); (case side2 => exact (Kd.R_reads' HO352.out).2.1); rintro e w' ⟨rfl, ⟨nd, rfl⟩⟩))
   go_meet
   case rel => exact ⟨_, (t358), (t356), (t357), zf, H', ⟨by first | omega | exact Nat.le_refl _⟩, ⟨by (with_reducible repeat (first | apply Kd.R_alloc | apply Kd.R_drewN | apply Kd.R_drew)); exact HO352.out⟩, ⟨by repeat (first | (with_reducible first | exact HI0.out | apply IsS50.alloc | apply IsS50.drewN | apply IsS50.drew | apply IsS50.set_1 | apply IsS50.set_2) | exact HI0.out)⟩, ⟨by repeat (first | (with_reducible first | exact HK.out | apply KeepBut.set_ | apply keep_drewN | apply keep_drew | apply keep_alloc) | exact HK.out)⟩, ⟨by repeat (first | (with_reducible first | exact HB.out | apply below_alloc | apply pw_below_drewN | apply below_drew1 | refine below_set ?_ (IsS50.ge HI0.out)) | exact HB.out)⟩⟩
  ·replace c6 := Bool.eq_false_iff.mpr c6
   subst c6
   have H1 : (spec_DrawSameAhead.j0 k t350 false l0 t356 t357) = some (r1, r2, r3, r4) := by rw [if_neg (show ¬ (false = true) by decide)] at H; exact H
   clear H
   have H := H1
   clear H1
   have H' := am H
   clear H
   go_wp2_with (first | ((with_reducible refine gateC (f := 42) rfl ?_); refine goesL_ (some 12) rfl rfl Tryd.func42 (by kernel_rfl) rfl #[.pointer (some ⟨g, 0, none⟩), .int .i64 2] rfl zm ?_; (with_reducible refine (spec_l1Cur_one.calls g l0 t353 t354 2 false t356 t357 w0 _ ?side1 ?side2 A5.out).mono ?_); (case side1 => exact zi); (case side2 => exact zj); rintro e w10 ⟨rfl, hi, hb, hk⟩; refine ⟨_, rfl, ?_⟩; have n0_ := am (Kd.R_mono (Kd.R_keep (IsS50.apart (show IsS50 w0 _ g l0 t353 t354 from zi) (zr HO352.out) (by decide)) hk (fun _ h => h.2)) (fun _ h => h.1)); have n1_ := am (KeepBut.trans zh hk (.inl rfl)); have n2_ := am (hb); have n3_ := am (hi); clear HO352; clear HK; clear HB; clear HI0; have HO352 := n0_; have HK := n1_; have HB := n2_; have HI0 := n3_; clear n0_ n1_ n2_ n3_; (try clear hb); (try clear hk); (try clear hi)))
   go_meet
   case rel => exact ⟨_, (false), (t356), (t357), zf, H', ⟨by first | omega | exact Nat.le_refl _⟩, ⟨by (with_reducible repeat (first | apply Kd.R_alloc | apply Kd.R_drewN | apply Kd.R_drew)); exact HO352.out⟩, ⟨by repeat (first | (with_reducible first | exact HI0.out | apply IsS50.alloc | apply IsS50.drewN | apply IsS50.drew | apply IsS50.set_1 | apply IsS50.set_2) | exact HI0.out)⟩, ⟨by repeat (first | (with_reducible first | exact HK.out | apply KeepBut.set_ | apply keep_drewN | apply keep_drew | apply keep_alloc) | exact HK.out)⟩, ⟨by repeat (first | (with_reducible first | exact HB.out | apply below_alloc | apply pw_below_drewN | apply below_drew1 | refine below_set ?_ (IsS50.ge HI0.out)) | exact HB.out)⟩⟩
 case rest =>
  clear HC3
  try clear c1
  try clear p2
  try clear c4
  try clear c6
  obtain ⟨kq, x16_2, x1001_2, x1002_2, rfl, HA, HJ2, HO_5, HI0, HK, HB⟩ := hcut
  cases kq with
  | zero => exact absurd HA.out (by simp [spec_DrawSameAhead.j0])
  | succ kj2 =>
   have H := HA.out
   clear HA
   simp only [spec_DrawSameAhead.j0] at H
   by_cases c11 : x16_2 = true
   ·subst c11
    have H1 : ((spec_l1Cur_other.f kj2 l0 x1001_2 x1002_2 t350).bind fun bt359 => (some (t350, bt359.1, bt359.2.1, bt359.2.2))) = some (r1, r2, r3, r4) := by rw [if_pos rfl] at H; exact H
    clear H
    have H := H1
    clear H1
    replace H := Option.bind_eq_some_iff.mp H
    obtain ⟨⟨t359, t362, t363⟩, A120, H⟩ := H
    replace H : (some (t350, t359, t362, t363)) = some (r1, r2, r3, r4) := H
    have A12 := am A120
    clear A120
    simp only [Option.some.injEq, Prod.mk.injEq] at H
    obtain ⟨rfl, rfl, rfl, rfl⟩ := H
    obtain ⟨Ao13, co13, eo13⟩ := Kd.R_slice HO_5.out
    subst eo13
    go_wp2_with (first | ((with_reducible refine gateC (f := 43) rfl ?_); refine goesL_ (some 20) rfl rfl Tryd.func43 (by kernel_rfl) rfl #[.pointer (some ⟨g, 0, none⟩), .slice Ao13 t350.length co13] rfl zm ?_; (with_reducible refine (spec_l1Cur_other.calls kj2 g l0 x1001_2 x1002_2 _ _ t350 t359 t362 t363 w0 _ ?side1 ?side2 ?side3 ?side4 ?side5 A12.out).mono ?_); (case side1 => exact zi); (case side2 => exact zj); (case side3 => repeat (first | exact (Kd.R_reads' HO_5.out).2.2 | (with_reducible refine Kd.C_alloc ?_ _) | (with_reducible refine Kd.C_drewN ?_ _) | (with_reducible refine Kd.C_drew ?_))); (case side4 => exact (Kd.R_reads' HO_5.out).2.1); (case side5 => exact far_slice (IsS50.own_ne HI0.out HO_5.out (by decide))); rintro e w14 ⟨v360, rfl, ho0, hi, hb, hk⟩; refine ⟨_, rfl, ?_⟩; have n0_ := am (Kd.R_mono (Kd.R_told (Kd.R_oldK (IsS50.apart (show IsS50 w0 _ g l0 x1001_2 x1002_2 from zi) (zr HO_5.out) (by decide)) hk) (Kd.R_base ho0)) (fun _ h_ => h_.1)); have n1_ := am (Kd.R_lower (Kd.R_new' ho0 (Kd.R_lt (zr HO_5.out))) (keep_size (w := w) (g := g) (row := none) zh)); have n2_ := am (KeepBut.trans zh hk (.inl rfl)); have n3_ := am (hb); have n4_ := am (hi); clear HO_5; clear HK; clear HB; clear HI0; have HO_5 := n0_; have HO361 := n1_; have HK := n2_; have HB := n3_; have HI0 := n4_; clear n0_ n1_ n2_ n3_ n4_; (try clear hb); (try clear hk); (try clear hi); (try clear ho0)))
    go_ret2
    exact ⟨g, w, HW0.out, _, _, by first | rfl | (simp [errW_none, errW_some] <;> rfl) | (simp [*, errW_none, errW_some] <;> rfl), by (with_reducible repeat (first | apply Kd.R_alloc | apply Kd.R_drewN | apply Kd.R_drew)); exact Kd.R_mono HO_5.out (fun _ hk => hk.2), by (with_reducible repeat (first | apply Kd.R_alloc | apply Kd.R_drewN | apply Kd.R_drew)); exact Kd.R_mono HO361.out (fun _ hk => hk.2), zi, zj, zh⟩
   ·replace c11 := Bool.eq_false_iff.mpr c11
    subst c11
    have H1 : ((spec_l1Cur_text.f kj2 l0 x1001_2 x1002_2).bind fun bt364 => (some (t350, bt364.1, bt364.2.1, bt364.2.2))) = some (r1, r2, r3, r4) := by rw [if_neg (show ¬ (false = true) by decide)] at H; exact H
    clear H
    have H := H1
    clear H1
    replace H := Option.bind_eq_some_iff.mp H
    obtain ⟨⟨t364, t367, t368⟩, A150, H⟩ := H
    replace H : (some (t350, t364, t367, t368)) = some (r1, r2, r3, r4) := H
    have A15 := am A150
    clear A150
    simp only [Option.some.injEq, Prod.mk.injEq] at H
    obtain ⟨rfl, rfl, rfl, rfl⟩ := H
    go_wp2_with (first | ((with_reducible refine gateC (f := 37) rfl ?_); refine goesL_ (some 23) rfl rfl Tryd.func37 (by kernel_rfl) rfl #[.pointer (some ⟨g, 0, none⟩)] rfl zm ?_; (with_reducible refine (spec_l1Cur_text.calls kj2 g l0 x1001_2 x1002_2 t364 t367 t368 w0 _ ?side1 ?side2 A15.out).mono ?_); (case side1 => exact zi); (case side2 => exact zj); rintro e w16 ⟨v365, rfl, ho0, hi, hb, hk⟩; refine ⟨_, rfl, ?_⟩; have n0_ := am (Kd.R_mono (Kd.R_told (Kd.R_oldK (IsS50.apart (show IsS50 w0 _ g l0 x1001_2 x1002_2 from zi) (zr HO_5.out) (by decide)) hk) (Kd.R_base ho0)) (fun _ h_ => h_.1)); have n1_ := am (Kd.R_lower (Kd.R_new' ho0 (Kd.R_lt (zr HO_5.out))) (keep_size (w := w) (g := g) (row := none) zh)); have n2_ := am (KeepBut.trans zh hk (.inl rfl)); have n3_ := am (hb); have n4_ := am (hi); clear HO_5; clear HK; clear HB; clear HI0; have HO_5 := n0_; have HO366 := n1_; have HK := n2_; have HB := n3_; have HI0 := n4_; clear n0_ n1_ n2_ n3_ n4_; (try clear hb); (try clear hk); (try clear hi); (try clear ho0)))
    go_ret2
    exact ⟨g, w, HW0.out, _, _, by first | rfl | (simp [errW_none, errW_some] <;> rfl) | (simp [*, errW_none, errW_some] <;> rfl), by (with_reducible repeat (first | apply Kd.R_alloc | apply Kd.R_drewN | apply Kd.R_drew)); exact Kd.R_mono HO_5.out (fun _ hk => hk.2), by (with_reducible repeat (first | apply Kd.R_alloc | apply Kd.R_drewN | apply Kd.R_drew)); exact Kd.R_mono HO366.out (fun _ hk => hk.2), zi, zj, zh⟩
theorem spec_DrawSameAhead.calls (k : Nat) (A0 : Option Addr) (c0 : Nat) (l0 : List Int) (r1 : List ByteArray) (r2 : List ByteArray) (w0 : World) (hr0 : Kd.C (Kd.int .u8) w0 A0 l0.length l0) (hc0 : l0.length ≤ c0) (h : spec_DrawSameAhead.f k l0 = some (r1, r2)) :
  Calls Tryd.prog 16 #[.slice A0 l0.length c0] w0 fun e w' => ∃ v0_ v1_ : Value, e = .returned (.tuple #[v0_, v1_]) ∧ Kd.R Kd.string 9 w' w0.heap.size (fun k_ => some k_ ≠ (v1_ : Value).ownBlock) v0_ r1 ∧ Kd.R Kd.string 9 w' w0.heap.size (fun k_ => some k_ ≠ (v0_ : Value).ownBlock) v1_ r2 ∧ Below w0.heap.size w0 w' := by
  obtain ⟨q, hq, e⟩ := Option.bind_eq_some_iff.1 h
  obtain ⟨q0, q1, q2, q3⟩ := q
  injection e with e
  simp only [Prod.mk.injEq] at e
  obtain ⟨rfl, rfl⟩ := e
  refine (spec_DrawSameAhead.made k A0 c0 l0 _ _ _ _ w0 hr0 hq).mono ?_
  rintro e w' ⟨g, w, hw, v0_, v1_, h0, h1, h2, _, hb, _⟩
  exact ⟨v0_, v1_, h0, Kd.R_lower h1 hw, Kd.R_lower h2 hw, hb⟩
end Go.Proofs.YtmcldkobejhaeaaDoor.My
/- Written by this session's program (wip/gen): a plain function with the same answers as the Go function, and the proof that the Go code comes to them. Asked: that the plain function has an answer. -/
namespace Go.Proofs.YtmcldkobejhaeaaDoor.My
open Go.RowKit Go.Proofs.YtmcldkobejhaeaaDoorW.PrintWords Go.Proofs.YtmcldkobejhaeaaDoorW.PrintLast Go.Proofs.YtmcldkobejhaeaaDoorW.PrintMore
attribute [local go_sem] max2_int min2_int max_two min_two max_three min_three max_four min_four
set_option linter.unusedVariables false
set_option linter.unusedSimpArgs false
def spec_DrawGoodLines.g (k : Nat) (s0_0 : List Int) (s0_1 : Int) (s0_2 : Int) : Option (List ByteArray × Int × Int) := (spec_l1Cur_anyText.f k s0_0 s0_1 s0_2).bind fun bt408 => (some (bt408.1, bt408.2.1, bt408.2.2))
def spec_DrawGoodLines.f (k : Nat) (l0 : List Int) : Option (List ByteArray) := (spec_DrawGoodLines.g k l0 0 0).bind fun r => some (r.1)
set_option maxHeartbeats 8000000 in
set_option maxRecDepth 100000 in
theorem spec_DrawGoodLines.made (k : Nat) (A0 : Option Addr) (c0 : Nat) (l0 : List Int) (r1 : List ByteArray) (r2 : Int) (r3 : Int) (w0 : World) (hr0 : Kd.C (Kd.int .u8) w0 A0 l0.length l0) (h : spec_DrawGoodLines.g k l0 0 0 = some (r1, r2, r3)) :
  Calls Tryd.prog 50 #[.slice A0 l0.length c0] w0 fun e w' => ∃ (g : Nat) (w : World), w0.heap.size ≤ w.heap.size ∧ ∃ v0_ : Value, e = .returned (v0_) ∧ Kd.R Kd.string 9 w' w.heap.size (fun _ => True) v0_ r1 ∧ IsS50 w0 w' g l0 r2 r3 ∧ Below w0.heap.size w0 w' ∧ KeepBut w w' g none := by
 have HR0 := am hr0
 clear hr0
 have HB := am (Below.refl w0.heap.size w0)
 have H : ((spec_l1Cur_anyText.f k l0 0 0).bind fun bt408 => (some (bt408.1, bt408.2.1, bt408.2.2))) = some (r1, r2, r3) := h
 clear h
 replace H := Option.bind_eq_some_iff.mp H
 obtain ⟨⟨t408, t411, t412⟩, A20, H⟩ := H
 replace H : (some (t408, t411, t412)) = some (r1, r2, r3) := H
 have A2 := am A20
 clear A20
 simp only [Option.some.injEq, Prod.mk.injEq] at H
 obtain ⟨rfl, rfl, rfl⟩ := H
 go_enter Tryd.func50, Tryd.ntmps50
 go_wp2_with (first | ((with_reducible refine gate_dst (N := 6) rfl ?_); refine box_event ?hg (N := 6) ?hd (cs := #[.slice A0 l0.length c0, .int .i64 0, .int .u64 0]) (t := 50) ?hr ?_; (case hd => rfl); (case hg => rfl); (case hr => first | (go_simp; done) | (go_simp; rfl)); intro g hg w hbox hb; have n0_ := am (show IsS50 w0 w g l0 0 0 from ⟨A0, c0, hbox, (by rw [hg]; exact below_size zb), HR0.out⟩); have n1_ := am (below_step zb hb); clear HB HR0; have HI0 := n0_; have HB := n1_; have HK := am (KeepBut.refl w g none); have HL := am HB.out.size; have HW0 := am HB.out.size; clear n0_ n1_ hb hbox hg) | ((with_reducible refine gateC (f := 41) rfl ?_); refine goesL_ (some 8) rfl rfl Tryd.func41 (by kernel_rfl) rfl #[.pointer (some ⟨g, 0, none⟩)] rfl zm ?_; (with_reducible refine (spec_l1Cur_anyText.calls k g l0 0 0 t408 t411 t412 w0 _ ?side1 ?side2 A2.out).mono ?_); (case side1 => exact zi); (case side2 => exact zj); rintro e w3 ⟨v409, rfl, ho0, hi, hb, hk⟩; refine ⟨_, rfl, ?_⟩; have n0_ := am (Kd.R_lower ho0 (keep_size (w := w) (g := g) (row := none) zh)); have n1_ := am (KeepBut.trans zh hk (.inl rfl)); have n2_ := am (hb); have n3_ := am (hi); clear HK; clear HB; clear HI0; have HO410 := n0_; have HK := n1_; have HB := n2_; have HI0 := n3_; clear n0_ n1_ n2_ n3_; (try clear hb); (try clear hk); (try clear hi); (try clear ho0)))
 go_ret
 exact ⟨g, w, HW0.out, _, by first | rfl | (simp [errW_none, errW_some] <;> rfl) | (simp [*, errW_none, errW_some] <;> rfl), by (with_reducible repeat (first | apply Kd.R_alloc | apply Kd.R_drewN | apply Kd.R_drew)); exact HO410.out, zi, zj, zh⟩
theorem spec_DrawGoodLines.calls (k : Nat) (A0 : Option Addr) (c0 : Nat) (l0 : List Int) (r1 : List ByteArray) (w0 : World) (hr0 : Kd.C (Kd.int .u8) w0 A0 l0.length l0) (hc0 : l0.length ≤ c0) (h : spec_DrawGoodLines.f k l0 = some (r1)) :
  Calls Tryd.prog 50 #[.slice A0 l0.length c0] w0 fun e w' => ∃ v0_ : Value, e = .returned (v0_) ∧ Kd.R Kd.string 9 w' w0.heap.size (fun _ => True) v0_ r1 ∧ Below w0.heap.size w0 w' := by
  obtain ⟨q, hq, e⟩ := Option.bind_eq_some_iff.1 h
  obtain ⟨q0, q1, q2⟩ := q
  injection e with e
  subst e
  refine (spec_DrawGoodLines.made k A0 c0 l0 _ _ _ w0 hr0 hq).mono ?_
  rintro e w' ⟨g, w, hw, v0_, h0, h1, _, hb, _⟩
  exact ⟨v0_, h0, Kd.R_lower h1 hw, hb⟩
end Go.Proofs.YtmcldkobejhaeaaDoor.My
/- Written by this session's program (wip/gen): a plain function with the same answers as the Go function, and the proof that the Go code comes to them. Asked: that the plain function has an answer. -/
namespace Go.Proofs.YtmcldkobejhaeaaDoor.My
open Go.RowKit Go.Proofs.YtmcldkobejhaeaaDoorW.PrintWords Go.Proofs.YtmcldkobejhaeaaDoorW.PrintLast Go.Proofs.YtmcldkobejhaeaaDoorW.PrintMore
attribute [local go_sem] max2_int min2_int max_two min_two max_three min_three max_four min_four
set_option linter.unusedVariables false
set_option linter.unusedSimpArgs false
def spec_DrawTextOf.f (k : Nat) (l0 : List Int) : Option (List ByteArray) := (spec_DrawGoodLines.f k l0).bind fun t374 => (some t374)
set_option maxHeartbeats 8000000 in
set_option maxRecDepth 100000 in
theorem spec_DrawTextOf.calls (k : Nat) (A0 : Option Addr) (c0 : Nat) (l0 : List Int) (r : List ByteArray) (w : World) (hr0 : Kd.C (Kd.int .u8) w A0 l0.length l0) (hc0 : l0.length ≤ c0) (h : spec_DrawTextOf.f k l0 = some r) :
  Calls Tryd.prog 22 #[.slice A0 l0.length c0] w fun e w' => ∃ v0_ : Value, e = .returned (v0_) ∧ Kd.R Kd.string 9 w' w.heap.size (fun _ => True) v0_ r ∧ Below w.heap.size w w' := by
 have HR0 := am hr0
 have HC0 := am hc0
 clear hr0 hc0
 have HB := am (Below.refl w.heap.size w)
 have H : ((spec_DrawGoodLines.f k l0).bind fun t374 => (some t374)) = some r := h
 clear h
 replace H := Option.bind_eq_some_iff.mp H
 obtain ⟨t374, A20, H⟩ := H
 replace H : (some t374) = some r := H
 have A2 := am A20
 clear A20
 obtain rfl := Option.some.inj H
 go_enter Tryd.func22, Tryd.ntmps22
 go_wp2_with (first | ((with_reducible refine gateC (f := 50) rfl ?_); refine goesL_ (some 4) rfl rfl Tryd.func50 (by kernel_rfl) rfl #[.slice A0 l0.length c0] rfl zm ?_; (with_reducible refine (spec_DrawGoodLines.calls k _ _ l0 t374 _ ?side1 ?side2 A2.out).mono ?_); (case side1 => exact zq HR0.out); (case side2 => exact HC0.out); rintro e w3 ⟨v375, rfl, ho0, hb⟩; refine ⟨_, rfl, ?_⟩; have n0_ := am (Kd.R_lower ho0 (below_size zb)); have n1_ := am (below_step zb hb); clear HB; have HO376 := n0_; have HB := n1_; clear n0_ n1_; (try clear hb); (try clear ho0)))
 go_ret
 exact ⟨_, by first | rfl | (simp [errW_none, errW_some] <;> rfl) | (simp [*, errW_none, errW_some] <;> rfl), by (with_reducible repeat (first | apply Kd.R_alloc | apply Kd.R_drewN | apply Kd.R_drew)); exact HO376.out, by repeat (first | (with_reducible first | exact HB.out | apply below_alloc | apply pw_below_drewN | apply below_drew1) | exact HB.out)⟩
end Go.Proofs.YtmcldkobejhaeaaDoor.My
/- Written by this session's program (wip/gen): a plain function with the same answers as the Go function, and the proof that the Go code comes to them. Asked: that the plain function has an answer. -/
namespace Go.Proofs.YtmcldkobejhaeaaDoor.My
open Go.RowKit Go.Proofs.YtmcldkobejhaeaaDoorW.PrintWords Go.Proofs.YtmcldkobejhaeaaDoorW.PrintLast Go.Proofs.YtmcldkobejhaeaaDoorW.PrintMore
attribute [local go_sem] max2_int min2_int max_two min_two max_three min_three max_four min_four
set_option linter.unusedVariables false
set_option linter.unusedSimpArgs false
def spec_GoodLines.f (k : Nat) (l0 : List ByteArray) : Option (Bool) := (spec_l1Good.f k l0).bind fun t394 => (some t394)
set_option maxHeartbeats 8000000 in
set_option maxRecDepth 100000 in
theorem spec_GoodLines.calls (k : Nat) (A0 : Option Addr) (c0 : Nat) (l0 : List ByteArray) (r : Bool) (w : World) (hr0 : Kd.C Kd.string w A0 l0.length l0) (hc0 : l0.length ≤ c0) (h : spec_GoodLines.f k l0 = some r) :
  Calls Tryd.prog 30 #[.slice A0 l0.length c0] w fun e w' => e = .returned (.bool r) ∧ Drawn0 w w' := by
 have HR0 := am hr0
 have HC0 := am hc0
 clear hr0 hc0
 have H : ((spec_l1Good.f k l0).bind fun t394 => (some t394)) = some r := h
 clear h
 replace H := Option.bind_eq_some_iff.mp H
 obtain ⟨t394, A20, H⟩ := H
 replace H : (some t394) = some r := H
 have A2 := am A20
 clear A20
 obtain rfl := Option.some.inj H
 go_enter Tryd.func30, Tryd.ntmps30
 go_wp2_with (first | ((with_reducible refine gateC (f := 32) rfl ?_); refine goesL_ (some 4) rfl rfl Tryd.func32 (by kernel_rfl) rfl #[.slice A0 l0.length c0] rfl zm ?_; (with_reducible refine (spec_l1Good.calls k _ _ l0 t394 _ ?side1 ?side2 A2.out).mono ?_); (case side1 => exact zq HR0.out); (case side2 => exact HC0.out); rintro e w' ⟨rfl, ⟨nd, rfl⟩⟩; refine ⟨_, rfl, ?_⟩))
 go_ret
 exact ⟨by first | rfl | (simp; done) | (simp [*]; done), by repeat (first | exact Drawn0.refl _ | apply Drawn0.step)⟩
end Go.Proofs.YtmcldkobejhaeaaDoor.My
/- Written by this session's program (wip/gen): a plain function with the same answers as the Go function, and the proof that the Go code comes to them. Asked: that the plain function has an answer. -/
namespace Go.Proofs.YtmcldkobejhaeaaDoor.My
open Go.RowKit Go.Proofs.YtmcldkobejhaeaaDoorW.PrintWords Go.Proofs.YtmcldkobejhaeaaDoorW.PrintLast Go.Proofs.YtmcldkobejhaeaaDoorW.PrintMore
attribute [local go_sem] max2_int min2_int max_two min_two max_three min_three max_four min_four
set_option linter.unusedVariables false
set_option linter.unusedSimpArgs false
def spec_IsWhole.f (k : Nat) (l0 : List ByteArray) : Option (Bool × Bool) := (spec_l1Good.f k l0).bind fun t379 => (if t379 = true then ((spec_l1Whole.f l0).bind fun t380 => (some (t380, true))) else (some (false, false)))
set_option maxHeartbeats 8000000 in
set_option maxRecDepth 100000 in
theorem spec_IsWhole.calls (k : Nat) (A0 : Option Addr) (c0 : Nat) (l0 : List ByteArray) (r1 : Bool) (r2 : Bool) (w : World) (hr0 : Kd.C Kd.string w A0 l0.length l0) (hc0 : l0.length ≤ c0) (h : spec_IsWhole.f k l0 = some (r1, r2)) :
  Calls Tryd.prog 24 #[.slice A0 l0.length c0] w fun e w' => e = .returned (.tuple #[.bool r1, .bool r2]) ∧ Drawn0 w w' := by
 have HR0 := am hr0
 have HC0 := am hc0
 clear hr0 hc0
 have H : ((spec_l1Good.f k l0).bind fun t379 => (if t379 = true then ((spec_l1Whole.f l0).bind fun t380 => (some (t380, true))) else (some (false, false)))) = some (r1, r2) := h
 clear h
 replace H := Option.bind_eq_some_iff.mp H
 obtain ⟨t379, A20, H⟩ := H
 replace H : (if t379 = true then ((spec_l1Whole.f l0).bind fun t380 => (some (t380, true))) else (some (false, false))) = some (r1, r2) := H
 have A2 := am A20
 clear A20
 by_cases c3 : t379 = true
 ·subst c3
  have H1 : ((spec_l1Whole.f l0).bind fun t380 => (some (t380, true))) = some (r1, r2) := by rw [if_pos rfl] at H; exact H
  clear H
  have H := H1
  clear H1
  replace H := Option.bind_eq_some_iff.mp H
  obtain ⟨t380, A40, H⟩ := H
  replace H : (some (t380, true)) = some (r1, r2) := H
  have A4 := am A40
  clear A40
  simp only [Option.some.injEq, Prod.mk.injEq] at H
  obtain ⟨rfl, rfl⟩ := H
  go_enter Tryd.func24, Tryd.ntmps24
  go_wp2_with (first | ((with_reducible refine gateC (f := 32) rfl ?_); refine goesL_ (some 5) rfl rfl Tryd.func32 (by kernel_rfl) rfl #[.slice A0 l0.length c0] rfl zm ?_; (with_reducible refine (spec_l1Good.calls k _ _ l0 true _ ?side1 ?side2 A2.out).mono ?_); (case side1 => exact zq HR0.out); (case side2 => exact HC0.out); rintro e w' ⟨rfl, ⟨nd, rfl⟩⟩; refine ⟨_, rfl, ?_⟩) | ((with_reducible refine gateC (f := 51) rfl ?_); refine goesL_ (some 8) rfl rfl Tryd.func51 (by kernel_rfl) rfl #[.slice A0 l0.length c0] rfl zm ?_; (with_reducible refine (spec_l1Whole.calls _ _ l0 t380 _ ?side1 ?side2 A4.out).mono ?_); (case side1 => exact zq HR0.out); (case side2 => exact HC0.out); rintro e w' ⟨rfl, ⟨nd, rfl⟩⟩; refine ⟨_, rfl, ?_⟩))
  go_ret2
  exact ⟨by first | rfl | (simp; done) | (simp [*]; done), by repeat (first | exact Drawn0.refl _ | apply Drawn0.step)⟩
 ·replace c3 := Bool.eq_false_iff.mpr c3
  subst c3
  have H1 : (some (false, false)) = some (r1, r2) := by rw [if_neg (show ¬ (false = true) by decide)] at H; exact H
  clear H
  have H := H1
  clear H1
  simp only [Option.some.injEq, Prod.mk.injEq] at H
  obtain ⟨rfl, rfl⟩ := H
  go_enter Tryd.func24, Tryd.ntmps24
  go_wp2_with (first | ((with_reducible refine gateC (f := 32) rfl ?_); refine goesL_ (some 5) rfl rfl Tryd.func32 (by kernel_rfl) rfl #[.slice A0 l0.length c0] rfl zm ?_; (with_reducible refine (spec_l1Good.calls k _ _ l0 false _ ?side1 ?side2 A2.out).mono ?_); (case side1 => exact zq HR0.out); (case side2 => exact HC0.out); rintro e w' ⟨rfl, ⟨nd, rfl⟩⟩; refine ⟨_, rfl, ?_⟩))
  go_ret2
  exact ⟨by first | rfl | (simp; done) | (simp [*]; done), by repeat (first | exact Drawn0.refl _ | apply Drawn0.step)⟩
end Go.Proofs.YtmcldkobejhaeaaDoor.My
/- Written by this session's program (wip/gen): a plain function with the same answers as the Go function, and the proof that the Go code comes to them. Asked: that the plain function has an answer. -/
namespace Go.Proofs.YtmcldkobejhaeaaDoor.My
open Go.RowKit Go.Proofs.YtmcldkobejhaeaaDoorW.PrintWords Go.Proofs.YtmcldkobejhaeaaDoorW.PrintLast Go.Proofs.YtmcldkobejhaeaaDoorW.PrintMore
attribute [local go_sem] max2_int min2_int max_two min_two max_three min_three max_four min_four
set_option linter.unusedVariables false
set_option linter.unusedSimpArgs false
def spec_l1Cut.l0 : Nat → ByteArray → List ByteArray → Int → Int → Option (List ByteArray)
 | 0, _, _, _, _ => none
 | k + 1, x0, x3, x4, x5 => if x5 < (x0.size : Int) then (if 0 ≤ x5 then (if (bt x0 x5) = 10 then (if 0 ≤ x4 then (if x4 ≤ (wrap64 (x5 + 1)) then (if (wrap64 (x5 + 1)) ≤ (x0.size : Int) then (if x3.length < 8796093022208 then (spec_l1Cut.l0 k x0 (x3 ++ [x0.extract (x4 : Int).toNat ((wrap64 (x5 + 1)) : Int).toNat]) (wrap64 (x5 + 1)) (wrap64 (x5 + 1))) else (none)) else (none)) else (none)) else (none)) else (spec_l1Cut.l0 k x0 x3 x4 (wrap64 (x5 + 1)))) else (none)) else (if x4 < (x0.size : Int) then (if 0 ≤ x4 then (if x4 ≤ (x0.size : Int) then (if x3.length < 8796093022208 then (some (x3 ++ [x0.extract (x4 : Int).toNat x0.size])) else (none)) else (none)) else (none)) else (some x3))
def spec_l1Cut.f (k : Nat) (a0 : ByteArray) : Option (List ByteArray) := spec_l1Cut.l0 k a0 ([] : List ByteArray) 0 0
set_option maxHeartbeats 8000000 in
set_option maxRecDepth 100000 in
theorem spec_l1Cut.calls (k : Nat) (a0 : ByteArray) (r : List ByteArray) (w : World) (h : spec_l1Cut.f k a0 = some r) :
  Calls Tryd.prog 31 #[.string a0] w fun e w' => ∃ v0_ : Value, e = .returned (v0_) ∧ Kd.R Kd.string 9 w' w.heap.size (fun _ => True) v0_ r ∧ Below w.heap.size w w' := by
 have HB := am (Below.refl w.heap.size w)
 have H : (spec_l1Cut.l0 k a0 ([] : List ByteArray) 0 0) = some r := h
 clear h
 have H' := am H
 clear H
 go_enter Tryd.func31, Tryd.ntmps31
 go_wp2
 go_loopg [3, 4, 5] k (fun kq v3 v4 v5 w' => ∃ (x3_1 : List ByteArray) (x4_1 : Int) (x5_1 : Int), v4 = .int .i64 x4_1 ∧ v5 = .int .i64 x5_1 ∧ Aside0 (spec_l1Cut.l0 kq a0 x3_1 x4_1 x5_1 = some r) ∧ Aside0 (kq ≤ k) ∧ Aside0 (Kd.R Kd.string 9 w' w.heap.size (fun _ => True) v3 x3_1) ∧ Aside0 (Below w.heap.size w w'))
 case atStart => exact ⟨(([] : List ByteArray)), (0), (0), zf, zf, H', ⟨Nat.le_refl _⟩, ⟨by first | exact Kd.R_nil _ _ _ _ _ | exact Kd.Q_nil _ _ _ _ _ | exact Kd.S_nil _ _ _ _ _⟩, ⟨by repeat (first | (with_reducible first | exact HB.out | apply below_alloc | apply pw_below_drewN | apply below_drew1) | exact HB.out)⟩⟩
 case round =>
  clear H'
  obtain ⟨x3_1, x4_1, x5_1, rfl, rfl, HA, HK1, HO_3, HB⟩ := hrel
  cases gk with
  | zero => exact absurd HA.out (by simp [spec_l1Cut.l0])
  | succ k1 =>
   have H := HA.out
   clear HA
   simp only [spec_l1Cut.l0] at H
   by_cases c2 : x5_1 < (a0.size : Int)
   ·rw [if_pos c2] at H
    have c2b0 : decide (x5_1 < (a0.size : Int)) = true := decide_eq_true c2
    clear c2
    by_cases c3 : 0 ≤ x5_1
    ·rw [if_pos c3] at H
     have c3b0 : decide (0 ≤ x5_1) = true := decide_eq_true c3
     clear c3
     by_cases c5 : (bt a0 x5_1) = 10
     ·rw [if_pos c5] at H
      have c5b0 : ((bt a0 x5_1) == 10) = true := beq_iff_eq.mpr c5
      have c5b1 : ((bt a0 x5_1) != 10) = false := bne_eq_false_iff_eq.mpr c5
      clear c5
      by_cases c6 : 0 ≤ x4_1
      ·rw [if_pos c6] at H
       have c6b0 := eq_true c6
       have c6b1 : decide (0 ≤ x4_1) = true := decide_eq_true c6
       clear c6
       by_cases c7 : x4_1 ≤ (wrap64 (x5_1 + 1))
       ·rw [if_pos c7] at H
        have c7b0 := eq_true c7
        have c7b1 : decide (x4_1 ≤ (wrap64 (x5_1 + 1))) = true := decide_eq_true c7
        by_cases c8 : (wrap64 (x5_1 + 1)) ≤ (a0.size : Int)
        ·rw [if_pos c8] at H
         have c8b0 := eq_true c8
         have c8b1 : decide ((wrap64 (x5_1 + 1)) ≤ (a0.size : Int)) = true := decide_eq_true c8
         by_cases c9 : x3_1.length < 8796093022208
         ·rw [if_pos c9] at H
          have LMc9 := am c9
          clear c9
          obtain ⟨y101, hy101⟩ : ∃ y_ : List ByteArray, y_ = (x3_1 ++ [a0.extract (x4_1 : Int).toNat ((wrap64 (x5_1 + 1)) : Int).toNat]) := ⟨_, rfl⟩
          replace H : (spec_l1Cut.l0 k1 a0 y101 (wrap64 (x5_1 + 1)) (wrap64 (x5_1 + 1))) = some r := by first | (rw [hy101]; with_reducible exact H) | (have H2_ := (Option.bind_some _ _).symm.trans H; rw [hy101]; with_reducible exact H2_) | (have H2_ := (Option.bind_some _ _).symm.trans H; with_reducible exact H2_) | with_reducible exact H | (rw [hy101]; exact H) | exact H
          have Ny101 := am hy101
          clear hy101
          have H' := am H
          clear H
          have p4 : 0 ≤ (x5_1 : Int) := oa
          have q4 : x5_1 < (a0.size : Int) := oa
          have hx4 := bt_at a0 x5_1
          replace p4 := eq_true p4
          replace q4 := eq_true q4
          go_wp2_with (first | ((with_reducible refine gateB (b := .append) (xs := #[.tmp 16, .tmp 22]) rfl ?_); at_builtin; refine Kd.R_append Kd.string (w0 := w) w.heap.size rfl (.tmp 16) (.tmp 22) 22 9 (.string ⟨#[]⟩) 16 rfl Tryd.underlying22 info9 rfl (by decide) (by omega) u3 x3_1 (a0.extract (x4_1 : Int).toNat ((wrap64 (x5_1 + 1)) : Int).toNat) [.string (a0.extract (x4_1 : Int).toNat ((wrap64 (x5_1 + 1)) : Int).toNat)] (fun _ => True) (fun _ => False) rfl rfl ?aP (fun _ hk => hk.elim) ?aF ?aO ?aB ?aS ?aL ?_; (case aP => exact rfl); (case aB => exact zb); (case aF => exact (fun _ _ => trivial)); (case aO => exact (zr HO_3.out)); (case aS => exact (below_size zb)); (case aL => have := LMc9.out; omega); intro v102 w10 ho hb hg hat; rw [← Ny101.out] at ho; have n0_ := am (hb); have n1_ := am (ho); clear HB; clear HO_3; have HB := n0_; have HO103 := n1_; clear n0_ n1_; clear ho hb hg hat))
          go_roundg k1
          case measure => have := HK1.out; omega
          case rel => exact ⟨(y101), (wrap64 (x5_1 + 1)), (wrap64 (x5_1 + 1)), zf, zf, H', ⟨by have := HK1.out; omega⟩, ⟨by (with_reducible repeat (first | apply Kd.R_alloc | apply Kd.R_drewN | apply Kd.R_drew)); exact HO103.out⟩, ⟨by repeat (first | (with_reducible first | exact HB.out | apply below_alloc | apply pw_below_drewN | apply below_drew1) | exact HB.out)⟩⟩
         ·rw [if_neg c9] at H
          exact absurd H (by simp)
        ·rw [if_neg c8] at H
         exact absurd H (by simp)
       ·rw [if_neg c7] at H
        exact absurd H (by simp)
      ·rw [if_neg c6] at H
       exact absurd H (by simp)
     ·rw [if_neg c5] at H
      have c5b0 : ((bt a0 x5_1) == 10) = false := beq_eq_false_iff_ne.mpr c5
      have c5b1 : ((bt a0 x5_1) != 10) = true := bne_iff_ne.mpr c5
      have H' := am H
      clear H
      have p4 : 0 ≤ (x5_1 : Int) := oa
      have q4 : x5_1 < (a0.size : Int) := oa
      have hx4 := bt_at a0 x5_1
      replace p4 := eq_true p4
      replace q4 := eq_true q4
      go_wp2
      go_roundg k1
      case measure => have := HK1.out; omega
      case rel => exact ⟨(x3_1), (x4_1), (wrap64 (x5_1 + 1)), zf, zf, H', ⟨by have := HK1.out; omega⟩, ⟨by (with_reducible repeat (first | apply Kd.R_alloc | apply Kd.R_drewN | apply Kd.R_drew)); exact HO_3.out⟩, ⟨by repeat (first | (with_reducible first | exact HB.out | apply below_alloc | apply pw_below_drewN | apply below_drew1) | exact HB.out)⟩⟩
    ·rw [if_neg c3] at H
     exact absurd H (by simp)
   ·rw [if_neg c2] at H
    have c2b0 : decide (x5_1 < (a0.size : Int)) = false := decide_eq_false c2
    clear c2
    by_cases c11 : x4_1 < (a0.size : Int)
    ·rw [if_pos c11] at H
     have c11b0 : decide (x4_1 < (a0.size : Int)) = true := decide_eq_true c11
     clear c11
     by_cases c12 : 0 ≤ x4_1
     ·rw [if_pos c12] at H
      have c12b0 := eq_true c12
      have c12b1 : decide (0 ≤ x4_1) = true := decide_eq_true c12
      clear c12
      by_cases c13 : x4_1 ≤ (a0.size : Int)
      ·rw [if_pos c13] at H
       have c13b0 := eq_true c13
       have c13b1 : decide (x4_1 ≤ (a0.size : Int)) = true := decide_eq_true c13
       clear c13
       by_cases c14 : x3_1.length < 8796093022208
       ·rw [if_pos c14] at H
        have LMc14 := am c14
        clear c14
        obtain ⟨y104, hy104⟩ : ∃ y_ : List ByteArray, y_ = (x3_1 ++ [a0.extract (x4_1 : Int).toNat a0.size]) := ⟨_, rfl⟩
        replace H : (some y104) = some r := by first | (rw [hy104]; with_reducible exact H) | (have H2_ := (Option.bind_some _ _).symm.trans H; rw [hy104]; with_reducible exact H2_) | (have H2_ := (Option.bind_some _ _).symm.trans H; with_reducible exact H2_) | with_reducible exact H | (rw [hy104]; exact H) | exact H
        have Ny104 := am hy104
        clear hy104
        obtain rfl := Option.some.inj H
        go_wp2_with (first | ((with_reducible refine gateB (b := .append) (xs := #[.tmp 30, .tmp 34]) rfl ?_); at_builtin; refine Kd.R_append Kd.string (w0 := w) w.heap.size rfl (.tmp 30) (.tmp 34) 22 9 (.string ⟨#[]⟩) 16 rfl Tryd.underlying22 info9 rfl (by decide) (by omega) u3 x3_1 (a0.extract (x4_1 : Int).toNat a0.size) [.string (a0.extract (x4_1 : Int).toNat a0.size)] (fun _ => True) (fun _ => False) rfl rfl ?aP (fun _ hk => hk.elim) ?aF ?aO ?aB ?aS ?aL ?_; (case aP => exact rfl); (case aB => exact zb); (case aF => exact (fun _ _ => trivial)); (case aO => exact (zr HO_3.out)); (case aS => exact (below_size zb)); (case aL => have := LMc14.out; omega); intro v105 w15 ho hb hg hat; rw [← Ny104.out] at ho; have n0_ := am (hb); have n1_ := am (ho); clear HB; clear HO_3; have HB := n0_; have HO106 := n1_; clear n0_ n1_; clear ho hb hg hat))
        go_ret
        exact ⟨_, by first | rfl | (simp [errW_none, errW_some] <;> rfl) | (simp [*, errW_none, errW_some] <;> rfl), by (with_reducible repeat (first | apply Kd.R_alloc | apply Kd.R_drewN | apply Kd.R_drew)); exact HO106.out, by repeat (first | (with_reducible first | exact HB.out | apply below_alloc | apply pw_below_drewN | apply below_drew1) | exact HB.out)⟩
       ·rw [if_neg c14] at H
        exact absurd H (by simp)
      ·rw [if_neg c13] at H
       exact absurd H (by simp)
     ·rw [if_neg c12] at H
      exact absurd H (by simp)
    ·rw [if_neg c11] at H
     have c11b0 : decide (x4_1 < (a0.size : Int)) = false := decide_eq_false c11
     clear c11
     obtain rfl := Option.some.inj H
     go_wp2
     go_ret
     exact ⟨_, by first | rfl | (simp [errW_none, errW_some] <;> rfl) | (simp [*, errW_none, errW_some] <;> rfl), by (with_reducible repeat (first | apply Kd.R_alloc | apply Kd.R_drewN | apply Kd.R_drew)); exact HO_3.out, by repeat (first | (with_reducible first | exact HB.out | apply below_alloc | apply pw_below_drewN | apply below_drew1) | exact HB.out)⟩
end Go.Proofs.YtmcldkobejhaeaaDoor.My
/- Written by this session's program (wip/gen): a plain function with the same answers as the Go function, and the proof that the Go code comes to them. Asked: that the plain function has an answer. -/
namespace Go.Proofs.YtmcldkobejhaeaaDoor.My
open Go.RowKit Go.Proofs.YtmcldkobejhaeaaDoorW.PrintWords Go.Proofs.YtmcldkobejhaeaaDoorW.PrintLast Go.Proofs.YtmcldkobejhaeaaDoorW.PrintMore
attribute [local go_sem] max2_int min2_int max_two min_two max_three min_three max_four min_four
set_option linter.unusedVariables false
set_option linter.unusedSimpArgs false
def spec_LinesOf.f (k : Nat) (a0 : ByteArray) : Option (List ByteArray × Bool) := (spec_l1Cut.f k a0).bind fun t111 => ((spec_l1Good.f k t111).bind fun t114 => (if t114 = true then (some (t111, true)) else (some (([] : List ByteArray), false))))
set_option maxHeartbeats 8000000 in
set_option maxRecDepth 100000 in
theorem spec_LinesOf.calls (k : Nat) (a0 : ByteArray) (r1 : List ByteArray) (r2 : Bool) (w : World) (h : spec_LinesOf.f k a0 = some (r1, r2)) :
  Calls Tryd.prog 5 #[.string a0] w fun e w' => ∃ v0_ : Value, e = .returned (.tuple #[v0_, .bool r2]) ∧ Kd.R Kd.string 9 w' w.heap.size (fun _ => True) v0_ r1 ∧ Below w.heap.size w w' := by
 have HB := am (Below.refl w.heap.size w)
 have H : ((spec_l1Cut.f k a0).bind fun t111 => ((spec_l1Good.f k t111).bind fun t114 => (if t114 = true then (some (t111, true)) else (some (([] : List ByteArray), false))))) = some (r1, r2) := h
 clear h
 replace H := Option.bind_eq_some_iff.mp H
 obtain ⟨t111, A20, H⟩ := H
 replace H : ((spec_l1Good.f k t111).bind fun t114 => (if t114 = true then (some (t111, true)) else (some (([] : List ByteArray), false)))) = some (r1, r2) := H
 have A2 := am A20
 clear A20
 replace H := Option.bind_eq_some_iff.mp H
 obtain ⟨t114, A30, H⟩ := H
 replace H : (if t114 = true then (some (t111, true)) else (some (([] : List ByteArray), false))) = some (r1, r2) := H
 have A3 := am A30
 clear A30
 by_cases c4 : t114 = true
 ·subst c4
  have H1 : (some (t111, true)) = some (r1, r2) := by rw [if_pos rfl] at H; exact H
  clear H
  have H := H1
  clear H1
  simp only [Option.some.injEq, Prod.mk.injEq] at H
  obtain ⟨rfl, rfl⟩ := H
  go_enter Tryd.func5, Tryd.ntmps5
  go_wp2_with (first | ((with_reducible refine gateC (f := 31) rfl ?_); refine goesL_ (some 6) rfl rfl Tryd.func31 (by kernel_rfl) rfl #[.string a0] rfl zm ?_; (with_reducible refine (spec_l1Cut.calls k a0 t111 _ A2.out).mono ?_); rintro e w5 ⟨v112, rfl, ho0, hb⟩; refine ⟨_, rfl, ?_⟩; have n0_ := am (Kd.R_lower ho0 (below_size zb)); have n1_ := am (below_step zb hb); clear HB; have HO113 := n0_; have HB := n1_; clear n0_ n1_; (try clear hb); (try clear ho0); obtain ⟨Ao6, co6, eo6⟩ := Kd.R_slice HO113.out; subst eo6) | ((with_reducible refine gateC (f := 32) rfl ?_); refine goesL_ (some 8) rfl rfl Tryd.func32 (by kernel_rfl) rfl #[.slice Ao6 t111.length co6] rfl zm ?_; (with_reducible refine (spec_l1Good.calls k _ _ t111 true _ ?side1 ?side2 A3.out).mono ?_); (case side1 => repeat (first | exact (Kd.R_reads' HO113.out).2.2 | (with_reducible refine Kd.C_alloc ?_ _) | (with_reducible refine Kd.C_drewN ?_ _) | (with_reducible refine Kd.C_drew ?_))); (case side2 => exact (Kd.R_reads' HO113.out).2.1); rintro e w' ⟨rfl, ⟨nd, rfl⟩⟩; refine ⟨_, rfl, ?_⟩))
  go_ret2
  exact ⟨_, by first | rfl | (simp [errW_none, errW_some] <;> rfl) | (simp [*, errW_none, errW_some] <;> rfl), by (with_reducible repeat (first | apply Kd.R_alloc | apply Kd.R_drewN | apply Kd.R_drew)); exact HO113.out, by repeat (first | (with_reducible first | exact HB.out | apply below_alloc | apply pw_below_drewN | apply below_drew1) | exact HB.out)⟩
 ·replace c4 := Bool.eq_false_iff.mpr c4
  subst c4
  have H1 : (some (([] : List ByteArray), false)) = some (r1, r2) := by rw [if_neg (show ¬ (false = true) by decide)] at H; exact H
  clear H
  have H := H1
  clear H1
  simp only [Option.some.injEq, Prod.mk.injEq] at H
  obtain ⟨rfl, rfl⟩ := H
  go_enter Tryd.func5, Tryd.ntmps5
  go_wp2_with (first | ((with_reducible refine gateC (f := 31) rfl ?_); refine goesL_ (some 6) rfl rfl Tryd.func31 (by kernel_rfl) rfl #[.string a0] rfl zm ?_; (with_reducible refine (spec_l1Cut.calls k a0 t111 _ A2.out).mono ?_); rintro e w7 ⟨v112, rfl, ho0, hb⟩; refine ⟨_, rfl, ?_⟩; have n0_ := am (Kd.R_lower ho0 (below_size zb)); have n1_ := am (below_step zb hb); clear HB; have HO113 := n0_; have HB := n1_; clear n0_ n1_; (try clear hb); (try clear ho0); obtain ⟨Ao8, co8, eo8⟩ := Kd.R_slice HO113.out; subst eo8) | ((with_reducible refine gateC (f := 32) rfl ?_); refine goesL_ (some 8) rfl rfl Tryd.func32 (by kernel_rfl) rfl #[.slice Ao8 t111.length co8] rfl zm ?_; (with_reducible refine (spec_l1Good.calls k _ _ t111 false _ ?side1 ?side2 A3.out).mono ?_); (case side1 => repeat (first | exact (Kd.R_reads' HO113.out).2.2 | (with_reducible refine Kd.C_alloc ?_ _) | (with_reducible refine Kd.C_drewN ?_ _) | (with_reducible refine Kd.C_drew ?_))); (case side2 => exact (Kd.R_reads' HO113.out).2.1); rintro e w' ⟨rfl, ⟨nd, rfl⟩⟩; refine ⟨_, rfl, ?_⟩))
  go_ret2
  exact ⟨_, by first | rfl | (simp [errW_none, errW_some] <;> rfl) | (simp [*, errW_none, errW_some] <;> rfl), by first | exact Kd.R_nil _ _ _ _ _ | exact Kd.Q_nil _ _ _ _ _ | exact Kd.S_nil _ _ _ _ _, by repeat (first | (with_reducible first | exact HB.out | apply below_alloc | apply pw_below_drewN | apply below_drew1) | exact HB.out)⟩
end Go.Proofs.YtmcldkobejhaeaaDoor.My