/- Part 4 of 6 of a proof of this sentence: The Go function loop.example/g00825/laws.FnCommon returns true for every input, and each argument reads afterwards as it read before. No condition. -/
import Derived.Test.YtmcldkobejhaeaaCFnCommon3
/- Written by this session's program (wip/gen): a plain function with the same answers as the Go function, and the proof that the Go code comes to them. Asked: that the plain function has an answer. -/
namespace Go.Proofs.Ytmcldkobejhaeaa.My
open Go.RowKit Go.Proofs.YtmcldkobejhaeaaW.PrintWords Go.Proofs.YtmcldkobejhaeaaW.PrintLast Go.Proofs.YtmcldkobejhaeaaW.PrintMore
attribute [local go_sem] max2_int min2_int max_two min_two max_three min_three max_four min_four
set_option linter.unusedVariables false
set_option linter.unusedSimpArgs false
def spec_l1Cur_anyText.f (k : Nat) (s0_0 : List Int) (s0_1 : Int) (s0_2 : Int) : Option (List ByteArray × Int × Int) := (spec_l1Cur_text.f k s0_0 s0_1 s0_2).bind fun bt142 => (if (bt142.1.length : Int) > 1 then ((spec_l1Cur_pick.f s0_0 bt142.2.1 bt142.2.2 25).bind fun bt147 => (if bt147.1 = 0 then (if 0 < (bt142.1.length : Int) then (some ((bt142.1.set (0 : Int).toNat (⟨#[120]⟩ : ByteArray)), bt147.2.1, bt147.2.2)) else (none)) else (if bt147.1 = 1 then (if 0 < (bt142.1.length : Int) then (some ((bt142.1.set (0 : Int).toNat (⟨#[]⟩ : ByteArray)), bt147.2.1, bt147.2.2)) else (none)) else (if bt147.1 = 2 then (if 0 < (bt142.1.length : Int) then (some ((bt142.1.set (0 : Int).toNat (⟨#[97, 10, 98, 10]⟩ : ByteArray)), bt147.2.1, bt147.2.2)) else (none)) else (some (bt142.1, bt147.2.1, bt147.2.2)))))) else (some (bt142.1, bt142.2.1, bt142.2.2)))
set_option maxHeartbeats 8000000 in
set_option maxRecDepth 100000 in
theorem spec_l1Cur_anyText.calls (k : Nat) (g : Nat) (s0_0 : List Int) (s0_1 : Int) (s0_2 : Int) (r1 : List ByteArray) (r2 : Int) (r3 : Int) (w0 w : World) (hI : IsS87 w0 w g s0_0 s0_1 s0_2) (hB : Below w0.heap.size w0 w) (h : spec_l1Cur_anyText.f k s0_0 s0_1 s0_2 = some (r1, r2, r3)) :
  Calls Try.prog 61 #[.pointer (some ⟨g, 0, none⟩)] w fun e w' => ∃ v0_ : Value, e = .returned (v0_) ∧ Kd.R Kd.string 9 w' w.heap.size (fun _ => True) v0_ r1 ∧ IsS87 w0 w' g s0_0 r2 r3 ∧ Below w0.heap.size w0 w' ∧ KeepBut w w' g none := by
 have HI0 := am hI
 have HK := am (KeepBut.refl w g none)
 have HL := am hB.size
 clear hI
 have HW0 := am hB.size
 have HB := am hB
 clear hB
 have H : ((spec_l1Cur_text.f k s0_0 s0_1 s0_2).bind fun bt142 => (if (bt142.1.length : Int) > 1 then ((spec_l1Cur_pick.f s0_0 bt142.2.1 bt142.2.2 25).bind fun bt147 => (if bt147.1 = 0 then (if 0 < (bt142.1.length : Int) then (some ((bt142.1.set (0 : Int).toNat (⟨#[120]⟩ : ByteArray)), bt147.2.1, bt147.2.2)) else (none)) else (if bt147.1 = 1 then (if 0 < (bt142.1.length : Int) then (some ((bt142.1.set (0 : Int).toNat (⟨#[]⟩ : ByteArray)), bt147.2.1, bt147.2.2)) else (none)) else (if bt147.1 = 2 then (if 0 < (bt142.1.length : Int) then (some ((bt142.1.set (0 : Int).toNat (⟨#[97, 10, 98, 10]⟩ : ByteArray)), bt147.2.1, bt147.2.2)) else (none)) else (some (bt142.1, bt147.2.1, bt147.2.2)))))) else (some (bt142.1, bt142.2.1, bt142.2.2)))) = some (r1, r2, r3) := h
 clear h
 replace H := Option.bind_eq_some_iff.mp H
 obtain ⟨⟨t142, t145, t146⟩, A20, H⟩ := H
 replace H : (if (t142.length : Int) > 1 then ((spec_l1Cur_pick.f s0_0 t145 t146 25).bind fun bt147 => (if bt147.1 = 0 then (if 0 < (t142.length : Int) then (some ((t142.set (0 : Int).toNat (⟨#[120]⟩ : ByteArray)), bt147.2.1, bt147.2.2)) else (none)) else (if bt147.1 = 1 then (if 0 < (t142.length : Int) then (some ((t142.set (0 : Int).toNat (⟨#[]⟩ : ByteArray)), bt147.2.1, bt147.2.2)) else (none)) else (if bt147.1 = 2 then (if 0 < (t142.length : Int) then (some ((t142.set (0 : Int).toNat (⟨#[97, 10, 98, 10]⟩ : ByteArray)), bt147.2.1, bt147.2.2)) else (none)) else (some (t142, bt147.2.1, bt147.2.2)))))) else (some (t142, t145, t146))) = some (r1, r2, r3) := H
 have A2 := am A20
 clear A20
 by_cases c3 : (t142.length : Int) > 1
 ·rw [if_pos c3] at H
  have c3b0 : decide (1 < (t142.length : Int)) = true := decide_eq_true c3
  have c3b1 : decide (1 < t142.length) = true := decide_eq_true (by omega)
  clear c3
  replace H := Option.bind_eq_some_iff.mp H
  obtain ⟨⟨t147, t148, t149⟩, A40, H⟩ := H
  replace H : (if t147 = 0 then (if 0 < (t142.length : Int) then (some ((t142.set (0 : Int).toNat (⟨#[120]⟩ : ByteArray)), t148, t149)) else (none)) else (if t147 = 1 then (if 0 < (t142.length : Int) then (some ((t142.set (0 : Int).toNat (⟨#[]⟩ : ByteArray)), t148, t149)) else (none)) else (if t147 = 2 then (if 0 < (t142.length : Int) then (some ((t142.set (0 : Int).toNat (⟨#[97, 10, 98, 10]⟩ : ByteArray)), t148, t149)) else (none)) else (some (t142, t148, t149))))) = some (r1, r2, r3) := H
  have A4 := am A40
  clear A40
  by_cases c5 : t147 = 0
  ·rw [if_pos c5] at H
   have c5b0 : (t147 == 0) = true := beq_iff_eq.mpr c5
   have c5b1 : (t147 != 0) = false := bne_eq_false_iff_eq.mpr c5
   clear c5
   by_cases c6 : 0 < (t142.length : Int)
   ·rw [if_pos c6] at H
    have c6b0 : decide (0 < (t142.length : Int)) = true := decide_eq_true c6
    have c6b1 : decide (0 < t142.length) = true := decide_eq_true (by omega)
    clear c6
    obtain ⟨y150, hy150⟩ : ∃ y_ : List ByteArray, y_ = (t142.set (0 : Int).toNat (⟨#[120]⟩ : ByteArray)) := ⟨_, rfl⟩
    replace H : (some (y150, t148, t149)) = some (r1, r2, r3) := by first | (rw [hy150]; with_reducible exact H) | (have H2_ := (Option.bind_some _ _).symm.trans H; rw [hy150]; with_reducible exact H2_) | (have H2_ := (Option.bind_some _ _).symm.trans H; with_reducible exact H2_) | with_reducible exact H | (rw [hy150]; exact H) | exact H
    have Ny150 := am hy150
    clear hy150
    simp only [Option.some.injEq, Prod.mk.injEq] at H
    obtain ⟨rfl, rfl, rfl⟩ := H
    go_enter Try.func61, Try.ntmps61
    go_wp2_with (first | ((with_reducible refine gateC (f := 123) rfl ?_); refine goesL_ (some 5) rfl rfl Try.func123 (by kernel_rfl) rfl #[.pointer (some ⟨g, 0, none⟩)] rfl zm ?_; (with_reducible refine (spec_l1Cur_text.calls k g s0_0 s0_1 s0_2 t142 t145 t146 w0 _ ?side1 ?side2 A2.out).mono ?_); (case side1 => exact zi); (case side2 => exact zj); rintro e w8 ⟨v143, rfl, ho0, hi, hb, hk⟩; refine ⟨_, rfl, ?_⟩; have n0_ := am (Kd.R_lower ho0 (keep_size (w := w) (g := g) (row := none) zh)); have n1_ := am (KeepBut.trans zh hk (.inl rfl)); have n2_ := am (hb); have n3_ := am (hi); clear HK; clear HB; clear HI0; have HO144 := n0_; have HK := n1_; have HB := n2_; have HI0 := n3_; clear n0_ n1_ n2_ n3_; (try clear hb); (try clear hk); (try clear hi); (try clear ho0); obtain ⟨Ao9, co9, eo9⟩ := Kd.R_slice HO144.out; subst eo9) | ((with_reducible refine gateC (f := 62) rfl ?_); refine goesL_ (some 10) rfl rfl Try.func62 (by kernel_rfl) rfl #[.pointer (some ⟨g, 0, none⟩), .int .i64 25] rfl zm ?_; (with_reducible refine (spec_l1Cur_pick.calls g s0_0 t145 t146 25 t147 t148 t149 w0 _ ?side1 ?side2 A4.out).mono ?_); (case side1 => exact zi); (case side2 => exact zj); rintro e w10 ⟨rfl, hi, hb, hk⟩; refine ⟨_, rfl, ?_⟩; have n0_ := am (Kd.R_mono (Kd.R_keep (IsS87.apart (show IsS87 w0 _ g s0_0 t145 t146 from zi) (zr HO144.out) (by decide)) hk (fun _ h => h.2)) (fun _ h => h.1)); have n1_ := am (KeepBut.trans zh hk (.inl rfl)); have n2_ := am (hb); have n3_ := am (hi); clear HO144; clear HK; clear HB; clear HI0; have HO144 := n0_; have HK := n1_; have HB := n2_; have HI0 := n3_; clear n0_ n1_ n2_ n3_; (try clear hb); (try clear hk); (try clear hi); have p7 : 0 ≤ (0 : Int) := (by omega); have q7 : (0 : Int) < ((t142.length : Int) : Int) := oa; have qi7 : (0 < t142.length) = True := eq_true (by omega); obtain ⟨go7, co7, eo7, gb7, gl7, cl7, HG7⟩ := Kd.R_form HO144.out (by omega); (first | cases eo7 | (injection eo7 with ea_ en_ ec_; (first | subst ea_ | (injection ea_ with ea_; subst ea_)); subst ec_; clear en_)); have GB7 := am gb7; have GG7 := am HG7; clear gb7 gl7 HG7; obtain ⟨hx7_0, hf7_0⟩ := Kd.R_celln (⟨#[]⟩ : ByteArray) HO144.out (0 : Int) p7 q7; (try rw [show ((0 : Int)).toNat = 0 from rfl] at hx7_0); (try simp only [Nat.reduceMul, Nat.zero_mul, Nat.zero_add, Nat.reduceAdd] at hx7_0); (try rw [show ((0 : Int)).toNat = 0 from rfl] at hf7_0); (try simp only [Nat.reduceMul, Nat.zero_mul, Nat.zero_add, Nat.reduceAdd] at hf7_0); replace p7 := eq_true p7; replace q7 := eq_true q7; obtain ⟨hy11_, hz11_⟩ := Kd.R_celln (⟨#[]⟩ : ByteArray) HO144.out (0 : Int) (by omega) oa; (try simp only [Int.reduceToNat, Int.toNat_zero, Int.toNat_ofNat, Nat.reduceMul, Nat.zero_mul, Nat.zero_add] at hy11_ hz11_); (try rw [show ((0 : Int)).toNat = 0 from rfl] at hy11_); (try rw [show ((0 : Int)).toNat = 0 from rfl] at hz11_); have HP11 := Kd.R_putg HO144.out (0 : Int) (⟨#[120]⟩ : ByteArray)) | ((with_reducible refine gate_store (t := 9) (p := 14) rfl ?_); refine store_event (t := 9) (p := 14) (v := ?vo_w12) (w1 := (w10.setCell ⟨go7, (0 : Int).toNat, none⟩ (.string (⟨#[120]⟩ : ByteArray)))) ?hg ?ho ?hn ?hr ?_; (case ho => rfl); (case hg => rfl); (case hn => rfl); (case hr => first | (go_simp; done) | (go_simp; rfl)); intro w12 hw; have hg : w10.grownBy w12 (some go7) := (by rw [hw]; exact HP11.2); have hp_ : Kd.R Kd.string 9 w12 w.heap.size (fun _ => True) (.slice (some ⟨go7, 0, none⟩) t142.length co9) y150 := (by rw [hw, Ny150.out]; exact HP11.1); clear HP11; have n0_ := am (IsS87.grown zi hg (IsS87.own_ne HI0.out HO144.out (by decide))); have n1_ := am (hp_); have n2_ := am ((by rw [hw]; exact below_set (HB.out) (Nat.le_trans HL.out GB7.out) : Below w0.heap.size w0 w12)); have n3_ := am (KeepBut.trans zh (KeepBut.of_grown hg g) (Kd.R_base2 HO144.out)); clear HI0; clear HO144; clear HB; clear HK; have HI0 := n0_; have HO144 := n1_; have HB := n2_; have HK := n3_; clear n0_ n1_ n2_ n3_; clear hg hw hp_))
    go_ret
    exact ⟨_, by first | rfl | (simp [errW_none, errW_some] <;> rfl) | (simp [*, errW_none, errW_some] <;> rfl), by (with_reducible repeat (first | apply Kd.R_alloc | apply Kd.R_drewN | apply Kd.R_drew)); exact HO144.out, zi, zj, zh⟩
   ·rw [if_neg c6] at H
    exact absurd H (by simp)
  ·rw [if_neg c5] at H
   have c5b0 : (t147 == 0) = false := beq_eq_false_iff_ne.mpr c5
   have c5b1 : (t147 != 0) = true := bne_iff_ne.mpr c5
   by_cases c13 : t147 = 1
   ·rw [if_pos c13] at H
    have c13b0 : (t147 == 1) = true := beq_iff_eq.mpr c13
    have c13b1 : (t147 != 1) = false := bne_eq_false_iff_eq.mpr c13
    clear c13
    by_cases c14 : 0 < (t142.length : Int)
    ·rw [if_pos c14] at H
     have c14b0 : decide (0 < (t142.length : Int)) = true := decide_eq_true c14
     have c14b1 : decide (0 < t142.length) = true := decide_eq_true (by omega)
     clear c14
     obtain ⟨y151, hy151⟩ : ∃ y_ : List ByteArray, y_ = (t142.set (0 : Int).toNat (⟨#[]⟩ : ByteArray)) := ⟨_, rfl⟩
     replace H : (some (y151, t148, t149)) = some (r1, r2, r3) := by first | (rw [hy151]; with_reducible exact H) | (have H2_ := (Option.bind_some _ _).symm.trans H; rw [hy151]; with_reducible exact H2_) | (have H2_ := (Option.bind_some _ _).symm.trans H; with_reducible exact H2_) | with_reducible exact H | (rw [hy151]; exact H) | exact H
     have Ny151 := am hy151
     clear hy151
     simp only [Option.some.injEq, Prod.mk.injEq] at H
     obtain ⟨rfl, rfl, rfl⟩ := H
     go_enter Try.func61, Try.ntmps61
     go_wp2_with (first | ((with_reducible refine gateC (f := 123) rfl ?_); refine goesL_ (some 5) rfl rfl Try.func123 (by kernel_rfl) rfl #[.pointer (some ⟨g, 0, none⟩)] rfl zm ?_; (with_reducible refine (spec_l1Cur_text.calls k g s0_0 s0_1 s0_2 t142 t145 t146 w0 _ ?side1 ?side2 A2.out).mono ?_); (case side1 => exact zi); (case side2 => exact zj); rintro e w16 ⟨v143, rfl, ho0, hi, hb, hk⟩; refine ⟨_, rfl, ?_⟩; have n0_ := am (Kd.R_lower ho0 (keep_size (w := w) (g := g) (row := none) zh)); have n1_ := am (KeepBut.trans zh hk (.inl rfl)); have n2_ := am (hb); have n3_ := am (hi); clear HK; clear HB; clear HI0; have HO144 := n0_; have HK := n1_; have HB := n2_; have HI0 := n3_; clear n0_ n1_ n2_ n3_; (try clear hb); (try clear hk); (try clear hi); (try clear ho0); obtain ⟨Ao17, co17, eo17⟩ := Kd.R_slice HO144.out; subst eo17) | ((with_reducible refine gateC (f := 62) rfl ?_); refine goesL_ (some 10) rfl rfl Try.func62 (by kernel_rfl) rfl #[.pointer (some ⟨g, 0, none⟩), .int .i64 25] rfl zm ?_; (with_reducible refine (spec_l1Cur_pick.calls g s0_0 t145 t146 25 t147 t148 t149 w0 _ ?side1 ?side2 A4.out).mono ?_); (case side1 => exact zi); (case side2 => exact zj); rintro e w18 ⟨rfl, hi, hb, hk⟩; refine ⟨_, rfl, ?_⟩; have n0_ := am (Kd.R_mono (Kd.R_keep (IsS87.apart (show IsS87 w0 _ g s0_0 t145 t146 from zi) (zr HO144.out) (by decide)) hk (fun _ h => h.2)) (fun _ h => h.1)); have n1_ := am (KeepBut.trans zh hk (.inl rfl)); have n2_ := am (hb); have n3_ := am (hi); clear HO144; clear HK; clear HB; clear HI0; have HO144 := n0_; have HK := n1_; have HB := n2_; have HI0 := n3_; clear n0_ n1_ n2_ n3_; (try clear hb); (try clear hk); (try clear hi); have p15 : 0 ≤ (0 : Int) := (by omega); have q15 : (0 : Int) < ((t142.length : Int) : Int) := oa; have qi15 : (0 < t142.length) = True := eq_true (by omega); obtain ⟨go15, co15, eo15, gb15, gl15, cl15, HG15⟩ := Kd.R_form HO144.out (by omega); (first | cases eo15 | (injection eo15 with ea_ en_ ec_; (first | subst ea_ | (injection ea_ with ea_; subst ea_)); subst ec_; clear en_)); have GB15 := am gb15; have GG15 := am HG15; clear gb15 gl15 HG15; obtain ⟨hx15_0, hf15_0⟩ := Kd.R_celln (⟨#[]⟩ : ByteArray) HO144.out (0 : Int) p15 q15; (try rw [show ((0 : Int)).toNat = 0 from rfl] at hx15_0); (try simp only [Nat.reduceMul, Nat.zero_mul, Nat.zero_add, Nat.reduceAdd] at hx15_0); (try rw [show ((0 : Int)).toNat = 0 from rfl] at hf15_0); (try simp only [Nat.reduceMul, Nat.zero_mul, Nat.zero_add, Nat.reduceAdd] at hf15_0); replace p15 := eq_true p15; replace q15 := eq_true q15; obtain ⟨hy19_, hz19_⟩ := Kd.R_celln (⟨#[]⟩ : ByteArray) HO144.out (0 : Int) (by omega) oa; (try simp only [Int.reduceToNat, Int.toNat_zero, Int.toNat_ofNat, Nat.reduceMul, Nat.zero_mul, Nat.zero_add] at hy19_ hz19_); (try rw [show ((0 : Int)).toNat = 0 from rfl] at hy19_); (try rw [show ((0 : Int)).toNat = 0 from rfl] at hz19_); have HP19 := Kd.R_putg HO144.out (0 : Int) (⟨#[]⟩ : ByteArray)) | ((with_reducible refine gate_store (t := 9) (p := 18) rfl ?_); refine store_event (t := 9) (p := 18) (v := ?vo_w20) (w1 := (w18.setCell ⟨go15, (0 : Int).toNat, none⟩ (.string (⟨#[]⟩ : ByteArray)))) ?hg ?ho ?hn ?hr ?_; (case ho => rfl); (case hg => rfl); (case hn => rfl); (case hr => first | (go_simp; done) | (go_simp; rfl)); intro w20 hw; have hg : w18.grownBy w20 (some go15) := (by rw [hw]; exact HP19.2); have hp_ : Kd.R Kd.string 9 w20 w.heap.size (fun _ => True) (.slice (some ⟨go15, 0, none⟩) t142.length co17) y151 := (by rw [hw, Ny151.out]; exact HP19.1); clear HP19; have n0_ := am (IsS87.grown zi hg (IsS87.own_ne HI0.out HO144.out (by decide))); have n1_ := am (hp_); have n2_ := am ((by rw [hw]; exact below_set (HB.out) (Nat.le_trans HL.out GB15.out) : Below w0.heap.size w0 w20)); have n3_ := am (KeepBut.trans zh (KeepBut.of_grown hg g) (Kd.R_base2 HO144.out)); clear HI0; clear HO144; clear HB; clear HK; have HI0 := n0_; have HO144 := n1_; have HB := n2_; have HK := n3_; clear n0_ n1_ n2_ n3_; clear hg hw hp_))
     go_ret
     exact ⟨_, by first | rfl | (simp [errW_none, errW_some] <;> rfl) | (simp [*, errW_none, errW_some] <;> rfl), by (with_reducible repeat (first | apply Kd.R_alloc | apply Kd.R_drewN | apply Kd.R_drew)); exact HO144.out, zi, zj, zh⟩
    ·rw [if_neg c14] at H
     exact absurd H (by simp)
   ·rw [if_neg c13] at H
    have c13b0 : (t147 == 1) = false := beq_eq_false_iff_ne.mpr c13
    have c13b1 : (t147 != 1) = true := bne_iff_ne.mpr c13
    by_cases c21 : t147 = 2
    ·rw [if_pos c21] at H
     have c21b0 : (t147 == 2) = true := beq_iff_eq.mpr c21
     have c21b1 : (t147 != 2) = false := bne_eq_false_iff_eq.mpr c21
     clear c21
     by_cases c22 : 0 < (t142.length : Int)
     ·rw [if_pos c22] at H
      have c22b0 : decide (0 < (t142.length : Int)) = true := decide_eq_true c22
      have c22b1 : decide (0 < t142.length) = true := decide_eq_true (by omega)
      clear c22
      obtain ⟨y152, hy152⟩ : ∃ y_ : List ByteArray, y_ = (t142.set (0 : Int).toNat (⟨#[97, 10, 98, 10]⟩ : ByteArray)) := ⟨_, rfl⟩
      replace H : (some (y152, t148, t149)) = some (r1, r2, r3) := by first | (rw [hy152]; with_reducible exact H) | (have H2_ := (Option.bind_some _ _).symm.trans H; rw [hy152]; with_reducible exact H2_) | (have H2_ := (Option.bind_some _ _).symm.trans H; with_reducible exact H2_) | with_reducible exact H | (rw [hy152]; exact H) | exact H
      have Ny152 := am hy152
      clear hy152
      simp only [Option.some.injEq, Prod.mk.injEq] at H
      obtain ⟨rfl, rfl, rfl⟩ := H
      go_enter Try.func61, Try.ntmps61
      go_wp2_with (first | ((with_reducible refine gateC (f := 123) rfl ?_); refine goesL_ (some 5) rfl rfl Try.func123 (by kernel_rfl) rfl #[.pointer (some ⟨g, 0, none⟩)] rfl zm ?_; (with_reducible refine (spec_l1Cur_text.calls k g s0_0 s0_1 s0_2 t142 t145 t146 w0 _ ?side1 ?side2 A2.out).mono ?_); (case side1 => exact zi); (case side2 => exact zj); rintro e w24 ⟨v143, rfl, ho0, hi, hb, hk⟩; refine ⟨_, rfl, ?_⟩; have n0_ := am (Kd.R_lower ho0 (keep_size (w := w) (g := g) (row := none) zh)); have n1_ := am (KeepBut.trans zh hk (.inl rfl)); have n2_ := am (hb); have n3_ := am (hi); clear HK; clear HB; clear HI0; have HO144 := n0_; have HK := n1_; have HB := n2_; have HI0 := n3_; clear n0_ n1_ n2_ n3_; (try clear hb); (try clear hk); (try clear hi); (try clear ho0); obtain ⟨Ao25, co25, eo25⟩ := Kd.R_slice HO144.out; subst eo25) | ((with_reducible refine gateC (f := 62) rfl ?_); refine goesL_ (some 10) rfl rfl Try.func62 (by kernel_rfl) rfl #[.pointer (some ⟨g, 0, none⟩), .int .i64 25] rfl zm ?_; (with_reducible refine (spec_l1Cur_pick.calls g s0_0 t145 t146 25 t147 t148 t149 w0 _ ?side1 ?side2 A4.out).mono ?_); (case side1 => exact zi); (case side2 => exact zj); rintro e w26 ⟨rfl, hi, hb, hk⟩; refine ⟨_, rfl, ?_⟩; have n0_ := am (Kd.R_mono (Kd.R_keep (IsS87.apart (show IsS87 w0 _ g s0_0 t145 t146 from zi) (zr HO144.out) (by decide)) hk (fun _ h => h.2)) (fun _ h => h.1)); have n1_ := am (KeepBut.trans zh hk (.inl rfl)); have n2_ := am (hb); have n3_ := am (hi); clear HO144; clear HK; clear HB; clear HI0; have HO144 := n0_; have HK := n1_; have HB := n2_; have HI0 := n3_; clear n0_ n1_ n2_ n3_; (try clear hb); (try clear hk); (try clear hi); have p23 : 0 ≤ (0 : Int) := (by omega); have q23 : (0 : Int) < ((t142.length : Int) : Int) := oa; have qi23 : (0 < t142.length) = True := eq_true (by omega); obtain ⟨go23, co23, eo23, gb23, gl23, cl23, HG23⟩ := Kd.R_form HO144.out (by omega); (first | cases eo23 | (injection eo23 with ea_ en_ ec_; (first | subst ea_ | (injection ea_ with ea_; subst ea_)); subst ec_; clear en_)); have GB23 := am gb23; have GG23 := am HG23; clear gb23 gl23 HG23; obtain ⟨hx23_0, hf23_0⟩ := Kd.R_celln (⟨#[]⟩ : ByteArray) HO144.out (0 : Int) p23 q23; (try rw [show ((0 : Int)).toNat = 0 from rfl] at hx23_0); (try simp only [Nat.reduceMul, Nat.zero_mul, Nat.zero_add, Nat.reduceAdd] at hx23_0); (try rw [show ((0 : Int)).toNat = 0 from rfl] at hf23_0); (try simp only [Nat.reduceMul, Nat.zero_mul, Nat.zero_add, Nat.reduceAdd] at hf23_0); replace p23 := eq_true p23; replace q23 := eq_true q23; obtain ⟨hy27_, hz27_⟩ := Kd.R_celln (⟨#[]⟩ : ByteArray) HO144.out (0 : Int) (by omega) oa; (try simp only [Int.reduceToNat, Int.toNat_zero, Int.toNat_ofNat, Nat.reduceMul, Nat.zero_mul, Nat.zero_add] at hy27_ hz27_); (try rw [show ((0 : Int)).toNat = 0 from rfl] at hy27_); (try rw [show ((0 : Int)).toNat = 0 from rfl] at hz27_); have HP27 := Kd.R_putg HO144.out (0 : Int) (⟨#[97, 10, 98, 10]⟩ : ByteArray)) | ((with_reducible refine gate_store (t := 9) (p := 22) rfl ?_); refine store_event (t := 9) (p := 22) (v := ?vo_w28) (w1 := (w26.setCell ⟨go23, (0 : Int).toNat, none⟩ (.string (⟨#[97, 10, 98, 10]⟩ : ByteArray)))) ?hg ?ho ?hn ?hr ?_; (case ho => rfl); (case hg => rfl); (case hn => rfl); (case hr => first | (go_simp; done) | (go_simp; rfl)); intro w28 hw; have hg : w26.grownBy w28 (some go23) := (by rw [hw]; exact HP27.2); have hp_ : Kd.R Kd.string 9 w28 w.heap.size (fun _ => True) (.slice (some ⟨go23, 0, none⟩) t142.length co25) y152 := (by rw [hw, Ny152.out]; exact HP27.1); clear HP27; have n0_ := am (IsS87.grown zi hg (IsS87.own_ne HI0.out HO144.out (by decide))); have n1_ := am (hp_); have n2_ := am ((by rw [hw]; exact below_set (HB.out) (Nat.le_trans HL.out GB23.out) : Below w0.heap.size w0 w28)); have n3_ := am (KeepBut.trans zh (KeepBut.of_grown hg g) (Kd.R_base2 HO144.out)); clear HI0; clear HO144; clear HB; clear HK; have HI0 := n0_; have HO144 := n1_; have HB := n2_; have HK := n3_; clear n0_ n1_ n2_ n3_; clear hg hw hp_))
      go_ret
      exact ⟨_, by first | rfl | (simp [errW_none, errW_some] <;> rfl) | (simp [*, errW_none, errW_some] <;> rfl), by (with_reducible repeat (first | apply Kd.R_alloc | apply Kd.R_drewN | apply Kd.R_drew)); exact HO144.out, zi, zj, zh⟩
     ·rw [if_neg c22] at H
      exact absurd H (by simp)
    ·rw [if_neg c21] at H
     have c21b0 : (t147 == 2) = false := beq_eq_false_iff_ne.mpr c21
     have c21b1 : (t147 != 2) = true := bne_iff_ne.mpr c21
     simp only [Option.some.injEq, Prod.mk.injEq] at H
     obtain ⟨rfl, rfl, rfl⟩ := H
     go_enter Try.func61, Try.ntmps61
     go_wp2_with (first | ((with_reducible refine gateC (f := 123) rfl ?_); refine goesL_ (some 5) rfl rfl Try.func123 (by kernel_rfl) rfl #[.pointer (some ⟨g, 0, none⟩)] rfl zm ?_; (with_reducible refine (spec_l1Cur_text.calls k g s0_0 s0_1 s0_2 t142 t145 t146 w0 _ ?side1 ?side2 A2.out).mono ?_); (case side1 => exact zi); (case side2 => exact zj); rintro e w29 ⟨v143, rfl, ho0, hi, hb, hk⟩; refine ⟨_, rfl, ?_⟩; have n0_ := am (Kd.R_lower ho0 (keep_size (w := w) (g := g) (row := none) zh)); have n1_ := am (KeepBut.trans zh hk (.inl rfl)); have n2_ := am (hb); have n3_ := am (hi); clear HK; clear HB; clear HI0; have HO144 := n0_; have HK := n1_; have HB := n2_; have HI0 := n3_; clear n0_ n1_ n2_ n3_; (try clear hb); (try clear hk); (try clear hi); (try clear ho0); obtain ⟨Ao30, co30, eo30⟩ := Kd.R_slice HO144.out; subst eo30) | ((with_reducible refine gateC (f := 62) rfl ?_); refine goesL_ (some 10) rfl rfl Try.func62 (by kernel_rfl) rfl #[.pointer (some ⟨g, 0, none⟩), .int .i64 25] rfl zm ?_; (with_reducible refine (spec_l1Cur_pick.calls g s0_0 t145 t146 25 t147 t148 t149 w0 _ ?side1 ?side2 A4.out).mono ?_); (case side1 => exact zi); (case side2 => exact zj); rintro e w31 ⟨rfl, hi, hb, hk⟩; refine ⟨_, rfl, ?_⟩; have n0_ := am (Kd.R_mono (Kd.R_keep (IsS87.apart (show IsS87 w0 _ g s0_0 t145 t146 from zi) (zr HO144.out) (by decide)) hk (fun _ h => h.2)) (fun _ h => h.1)); have n1_ := am (KeepBut.trans zh hk (.inl rfl)); have n2_ := am (hb); have n3_ := am (hi); clear HO144; clear HK; clear HB; clear HI0; have HO144 := n0_; have HK := n1_; have HB := n2_; have HI0 := n3_; clear n0_ n1_ n2_ n3_; (try clear hb); (try clear hk); (try clear hi)))
     go_ret
     exact ⟨_, by first | rfl | (simp [errW_none, errW_some] <;> rfl) | (simp [*, errW_none, errW_some] <;> rfl), by (with_reducible repeat (first | apply Kd.R_alloc | apply Kd.R_drewN | apply Kd.R_drew)); exact HO144.out, zi, zj, zh⟩
 ·rw [if_neg c3] at H
  have c3b0 : decide (1 < (t142.length : Int)) = false := decide_eq_false c3
  have c3b1 : decide (1 < t142.length) = false := decide_eq_false (by omega)
  clear c3
  simp only [Option.some.injEq, Prod.mk.injEq] at H
  obtain ⟨rfl, rfl, rfl⟩ := H
  go_enter Try.func61, Try.ntmps61
  go_wp2_with (first | ((with_reducible refine gateC (f := 123) rfl ?_); refine goesL_ (some 5) rfl rfl Try.func123 (by kernel_rfl) rfl #[.pointer (some ⟨g, 0, none⟩)] rfl zm ?_; (with_reducible refine (spec_l1Cur_text.calls k g s0_0 s0_1 s0_2 t142 t145 t146 w0 _ ?side1 ?side2 A2.out).mono ?_); (case side1 => exact zi); (case side2 => exact zj); rintro e w32 ⟨v143, rfl, ho0, hi, hb, hk⟩; refine ⟨_, rfl, ?_⟩; have n0_ := am (Kd.R_lower ho0 (keep_size (w := w) (g := g) (row := none) zh)); have n1_ := am (KeepBut.trans zh hk (.inl rfl)); have n2_ := am (hb); have n3_ := am (hi); clear HK; clear HB; clear HI0; have HO144 := n0_; have HK := n1_; have HB := n2_; have HI0 := n3_; clear n0_ n1_ n2_ n3_; (try clear hb); (try clear hk); (try clear hi); (try clear ho0); obtain ⟨Ao33, co33, eo33⟩ := Kd.R_slice HO144.out; subst eo33))
  go_ret
  exact ⟨_, by first | rfl | (simp [errW_none, errW_some] <;> rfl) | (simp [*, errW_none, errW_some] <;> rfl), by (with_reducible repeat (first | apply Kd.R_alloc | apply Kd.R_drewN | apply Kd.R_drew)); exact HO144.out, zi, zj, zh⟩
end Go.Proofs.Ytmcldkobejhaeaa.My
/- Written by this session's program (wip/gen): a plain function with the same answers as the Go function, and the proof that the Go code comes to them. Asked: that the plain function has an answer. -/
namespace Go.Proofs.Ytmcldkobejhaeaa.My
open Go.RowKit Go.Proofs.YtmcldkobejhaeaaW.PrintWords Go.Proofs.YtmcldkobejhaeaaW.PrintLast Go.Proofs.YtmcldkobejhaeaaW.PrintMore
attribute [local go_sem] max2_int min2_int max_two min_two max_three min_three max_four min_four
set_option linter.unusedVariables false
set_option linter.unusedSimpArgs false
def spec_l1OwnT.f (l0 : List ByteArray) : Option (List ByteArray) := (some (([] : List ByteArray) : List ByteArray)).bind fun y187 => (if y187.length + l0.length < 8796093022208 then (some (y187 ++ l0)) else (none))
set_option maxHeartbeats 8000000 in
set_option maxRecDepth 100000 in
theorem spec_l1OwnT.calls (A0 : Option Addr) (c0 : Nat) (l0 : List ByteArray) (r : List ByteArray) (w : World) (hr0 : Kd.C Kd.string w A0 l0.length l0) (hc0 : l0.length ≤ c0) (h : spec_l1OwnT.f l0 = some r) :
  Calls Try.prog 68 #[.slice A0 l0.length c0] w fun e w' => ∃ v0_ : Value, e = .returned (v0_) ∧ Kd.R Kd.string 9 w' w.heap.size (fun _ => True) v0_ r ∧ Below w.heap.size w w' := by
 have HR0 := am hr0
 have HC0 := am hc0
 clear hr0 hc0
 have HB := am (Below.refl w.heap.size w)
 have H : ((some (([] : List ByteArray) : List ByteArray)).bind fun y187 => (if y187.length + l0.length < 8796093022208 then (some (y187 ++ l0)) else (none))) = some r := h
 clear h
 obtain ⟨y187, hy187⟩ : ∃ y_ : List ByteArray, y_ = (([] : List ByteArray)) := ⟨_, rfl⟩
 replace H : (if y187.length + l0.length < 8796093022208 then (some (y187 ++ l0)) else (none)) = some r := by first | (rw [hy187]; with_reducible exact H) | (have H2_ := (Option.bind_some _ _).symm.trans H; rw [hy187]; with_reducible exact H2_) | (have H2_ := (Option.bind_some _ _).symm.trans H; with_reducible exact H2_) | with_reducible exact H | (rw [hy187]; exact H) | exact H
 have Ny187 := am hy187
 clear hy187
 by_cases c2 : y187.length + l0.length < 8796093022208
 ·rw [if_pos c2] at H
  have LMc2 := am c2
  clear c2
  obtain ⟨y190, hy190⟩ : ∃ y_ : List ByteArray, y_ = (y187 ++ l0) := ⟨_, rfl⟩
  replace H : (some y190) = some r := by first | (rw [hy190]; with_reducible exact H) | (have H2_ := (Option.bind_some _ _).symm.trans H; rw [hy190]; with_reducible exact H2_) | (have H2_ := (Option.bind_some _ _).symm.trans H; with_reducible exact H2_) | with_reducible exact H | (rw [hy190]; exact H) | exact H
  have Ny190 := am hy190
  clear hy190
  obtain rfl := Option.some.inj H
  go_enter Try.func68, Try.ntmps68
  go_wp2_with (first | ((with_reducible refine gate_dst (N := 3) rfl ?_); refine Kd.R_lit Kd.string _ 9 ?hg (N := 3) ?hd (xs := ([] : List ByteArray)) (inner := []) (ok := fun _ => True) (okp := fun _ => True) ?hr ?hp (fun _ hk => hk) trivial (Below.refl _ _) (Nat.le_refl _) (by simp) ?_; (case hd => rfl); (case hg => rfl); (case hr => first | (go_simp; done) | (go_simp; rfl)); (case hp => exact (Reps.none _ _)); intro v188 w3 ho4 hb hg_ hnew_; clear hg_ hnew_; (first | rw [← Ny187.out] at ho4 | (simp only [Int.reduceToNat] at ho4; rw [← Ny187.out] at ho4)); have n0_ := am (Kd.R_lower ho4 (below_size zb)); have n1_ := am (below_step zb hb); clear HB; have HO189 := n0_; have HB := n1_; clear n0_ n1_; clear hb ho4) | ((with_reducible refine gateB (b := .append) (xs := #[.tmp 3, .tmp 4]) rfl ?_); at_builtin; refine Kd.R_append_rows Kd.string (w0 := w) w.heap.size rfl (.tmp 3) (.tmp 4) 24 9 (.string ⟨#[]⟩) 16 rfl Try.underlying24 info9 rfl (by decide) (by omega) v188 y187 l0 _ _ _ (fun _ => True) (fun _ => False) rfl rfl ?aO ?aR (fun _ _ h => h) (fun _ h => h.elim) ?aF ?aB ?aS ?aL ?_; (case aR => exact zq (Kd.C_below HR0.out HB.out)); (case aB => exact zb); (case aF => exact (fun _ _ => trivial)); (case aO => exact (zr HO189.out)); (case aS => exact (below_size zb)); (case aL => have := LMc2.out; omega); intro v191 w5 ho hb hg hat; rw [← Ny190.out] at ho; have n0_ := am (hb); have n1_ := am (ho); clear HB; clear HO189; have HB := n0_; have HO192 := n1_; clear n0_ n1_; clear ho hb hg hat))
  go_ret
  exact ⟨_, by first | rfl | (simp [errW_none, errW_some] <;> rfl) | (simp [*, errW_none, errW_some] <;> rfl), by (with_reducible repeat (first | apply Kd.R_alloc | apply Kd.R_drewN | apply Kd.R_drew)); exact HO192.out, by repeat (first | (with_reducible first | exact HB.out | apply below_alloc | apply pw_below_drewN | apply below_drew1) | exact HB.out)⟩
 ·rw [if_neg c2] at H
  exact absurd H (by simp)
end Go.Proofs.Ytmcldkobejhaeaa.My
/- Written by this session's program (wip/gen): a plain function with the same answers as the Go function, and the proof that the Go code comes to them. Asked: that the plain function has an answer. -/
namespace Go.Proofs.Ytmcldkobejhaeaa.My
open Go.RowKit Go.Proofs.YtmcldkobejhaeaaW.PrintWords Go.Proofs.YtmcldkobejhaeaaW.PrintLast Go.Proofs.YtmcldkobejhaeaaW.PrintMore
attribute [local go_sem] max2_int min2_int max_two min_two max_three min_three max_four min_four
set_option linter.unusedVariables false
set_option linter.unusedSimpArgs false
def spec_l1Plain.f (a0 : ByteArray) : Option (ByteArray) := (spec_l1Ends.f a0).bind fun t206 => (if t206 = true then (if 0 ≤ (wrap64 ((a0.size : Int) - 1)) then (if (wrap64 ((a0.size : Int) - 1)) ≤ (a0.size : Int) then (some (a0.extract 0 ((wrap64 ((a0.size : Int) - 1)) : Int).toNat)) else (none)) else (none)) else (some a0))
set_option maxHeartbeats 8000000 in
set_option maxRecDepth 100000 in
theorem spec_l1Plain.calls (a0 : ByteArray) (r : ByteArray) (w : World) (h : spec_l1Plain.f a0 = some r) :
  Calls Try.prog 74 #[.string a0] w fun e w' => e = .returned (.string r) ∧ Drawn0 w w' := by
 have H : ((spec_l1Ends.f a0).bind fun t206 => (if t206 = true then (if 0 ≤ (wrap64 ((a0.size : Int) - 1)) then (if (wrap64 ((a0.size : Int) - 1)) ≤ (a0.size : Int) then (some (a0.extract 0 ((wrap64 ((a0.size : Int) - 1)) : Int).toNat)) else (none)) else (none)) else (some a0))) = some r := h
 clear h
 replace H := Option.bind_eq_some_iff.mp H
 obtain ⟨t206, A20, H⟩ := H
 replace H : (if t206 = true then (if 0 ≤ (wrap64 ((a0.size : Int) - 1)) then (if (wrap64 ((a0.size : Int) - 1)) ≤ (a0.size : Int) then (some (a0.extract 0 ((wrap64 ((a0.size : Int) - 1)) : Int).toNat)) else (none)) else (none)) else (some a0)) = some r := H
 have A2 := am A20
 clear A20
 by_cases c3 : t206 = true
 ·subst c3
  have H1 : (if 0 ≤ (wrap64 ((a0.size : Int) - 1)) then (if (wrap64 ((a0.size : Int) - 1)) ≤ (a0.size : Int) then (some (a0.extract 0 ((wrap64 ((a0.size : Int) - 1)) : Int).toNat)) else (none)) else (none)) = some r := by rw [if_pos rfl] at H; exact H
  clear H
  have H := H1
  clear H1
  obtain ⟨ji4, hji4⟩ : ∃ j_ : Int, (wrap64 ((a0.size : Int) - 1)) = j_ := ⟨_, rfl⟩
  replace H : (if 0 ≤ (ji4) then (if (ji4) ≤ (a0.size : Int) then (some (a0.extract 0 ((ji4) : Int).toNat)) else (none)) else (none)) = some r := by first | (rw [hji4] at H; exact H) | (simp only [hji4] at H ⊢; exact H)
  (try rw [hji4] at A2)
  have hji4w : (IntKind.i64.wrap ((a0.size : Int) - 1)) = ji4 := (i64_w _).trans hji4
  by_cases c5 : 0 ≤ (ji4)
  ·rw [if_pos c5] at H
   have c5b0 := eq_true c5
   have c5b1 : decide (0 ≤ (ji4)) = true := decide_eq_true c5
   clear c5
   by_cases c6 : (ji4) ≤ (a0.size : Int)
   ·rw [if_pos c6] at H
    have c6b0 := eq_true c6
    have c6b1 : decide ((ji4) ≤ (a0.size : Int)) = true := decide_eq_true c6
    clear c6
    obtain rfl := Option.some.inj H
    go_enter Try.func74, Try.ntmps74
    go_wp2_with (first | ((with_reducible refine gateC (f := 127) rfl ?_); refine goesL_ (some 4) rfl rfl Try.func127 (by kernel_rfl) rfl #[.string a0] rfl zm ?_; (with_reducible refine (spec_l1Ends.calls a0 true _ A2.out).mono ?_); rintro e w' ⟨rfl, ⟨nd, rfl⟩⟩; refine ⟨_, rfl, ?_⟩))
    go_ret
    exact ⟨by first | rfl | (simp; done) | (simp only [← hji4] <;> (first | rfl | simp)) | (simp [*]; done), by repeat (first | exact Drawn0.refl _ | apply Drawn0.step)⟩
   ·rw [if_neg c6] at H
    exact absurd H (by simp)
  ·rw [if_neg c5] at H
   exact absurd H (by simp)
 ·replace c3 := Bool.eq_false_iff.mpr c3
  subst c3
  have H1 : (some a0) = some r := by rw [if_neg (show ¬ (false = true) by decide)] at H; exact H
  clear H
  have H := H1
  clear H1
  obtain rfl := Option.some.inj H
  go_enter Try.func74, Try.ntmps74
  go_wp2_with (first | ((with_reducible refine gateC (f := 127) rfl ?_); refine goesL_ (some 4) rfl rfl Try.func127 (by kernel_rfl) rfl #[.string a0] rfl zm ?_; (with_reducible refine (spec_l1Ends.calls a0 false _ A2.out).mono ?_); rintro e w' ⟨rfl, ⟨nd, rfl⟩⟩; refine ⟨_, rfl, ?_⟩))
  go_ret
  exact ⟨by first | rfl | (simp; done) | (simp [*]; done), by repeat (first | exact Drawn0.refl _ | apply Drawn0.step)⟩
end Go.Proofs.Ytmcldkobejhaeaa.My
/- Written by this session's program (wip/gen): a plain function with the same answers as the Go function, and the proof that the Go code comes to them. Asked: that the plain function has an answer. -/
namespace Go.Proofs.Ytmcldkobejhaeaa.My
open Go.RowKit Go.Proofs.YtmcldkobejhaeaaW.PrintWords Go.Proofs.YtmcldkobejhaeaaW.PrintLast Go.Proofs.YtmcldkobejhaeaaW.PrintMore
attribute [local go_sem] max2_int min2_int max_two min_two max_three min_three max_four min_four
set_option linter.unusedVariables false
set_option linter.unusedSimpArgs false
def spec_l1Whole.f (l0 : List ByteArray) : Option (Bool) := if (l0.length : Int) = 0 then (some true) else (if 0 ≤ (wrap64 ((l0.length : Int) - 1)) then (if (wrap64 ((l0.length : Int) - 1)) < (l0.length : Int) then ((spec_l1Ends.f (rdOf ByteArray.empty l0 (wrap64 ((l0.length : Int) - 1)))).bind fun t259 => (some t259)) else (none)) else (none))
set_option maxHeartbeats 8000000 in
set_option maxRecDepth 100000 in
theorem spec_l1Whole.calls (A0 : Option Addr) (c0 : Nat) (l0 : List ByteArray) (r : Bool) (w : World) (hr0 : Kd.C Kd.string w A0 l0.length l0) (hc0 : l0.length ≤ c0) (h : spec_l1Whole.f l0 = some r) :
  Calls Try.prog 152 #[.slice A0 l0.length c0] w fun e w' => e = .returned (.bool r) ∧ Drawn0 w w' := by
 have HR0 := am hr0
 have HC0 := am hc0
 clear hr0 hc0
 have H : (if (l0.length : Int) = 0 then (some true) else (if 0 ≤ (wrap64 ((l0.length : Int) - 1)) then (if (wrap64 ((l0.length : Int) - 1)) < (l0.length : Int) then ((spec_l1Ends.f (rdOf ByteArray.empty l0 (wrap64 ((l0.length : Int) - 1)))).bind fun t259 => (some t259)) else (none)) else (none))) = some r := h
 clear h
 by_cases c2 : (l0.length : Int) = 0
 ·rw [if_pos c2] at H
  have c2b0 : ((l0.length : Int) == 0) = true := beq_iff_eq.mpr c2
  have c2b1 : ((l0.length : Int) != 0) = false := bne_eq_false_iff_eq.mpr c2
  clear c2
  obtain rfl := Option.some.inj H
  go_enter Try.func152, Try.ntmps152
  go_wp2
  go_ret
  exact ⟨by first | rfl | (simp; done) | (simp [*]; done), by repeat (first | exact Drawn0.refl _ | apply Drawn0.step)⟩
 ·rw [if_neg c2] at H
  have c2b0 : ((l0.length : Int) == 0) = false := beq_eq_false_iff_ne.mpr c2
  have c2b1 : ((l0.length : Int) != 0) = true := bne_iff_ne.mpr c2
  have c2b2 : ¬ (l0 = []) := fun h_ => c2 (by rw [h_]; rfl)
  obtain ⟨ji3, hji3⟩ : ∃ j_ : Int, (wrap64 ((l0.length : Int) - 1)) = j_ := ⟨_, rfl⟩
  replace H : (if 0 ≤ (ji3) then (if (ji3) < (l0.length : Int) then ((spec_l1Ends.f (rdOf ByteArray.empty l0 (ji3))).bind fun t259 => (some t259)) else (none)) else (none)) = some r := by first | (rw [hji3] at H; exact H) | (simp only [hji3] at H ⊢; exact H)
  have hji3w : (IntKind.i64.wrap ((l0.length : Int) - 1)) = ji3 := (i64_w _).trans hji3
  by_cases c4 : 0 ≤ (ji3)
  ·rw [if_pos c4] at H
   have c4b0 : decide (0 ≤ (ji3)) = true := decide_eq_true c4
   clear c4
   by_cases c5 : (ji3) < (l0.length : Int)
   ·rw [if_pos c5] at H
    have c5b0 : decide ((ji3) < (l0.length : Int)) = true := decide_eq_true c5
    clear c5
    replace H := Option.bind_eq_some_iff.mp H
    obtain ⟨t259, A60, H⟩ := H
    replace H : (some t259) = some r := H
    have A6 := am A60
    clear A60
    obtain rfl := Option.some.inj H
    have p258 : 0 ≤ ((ji3) : Int) := oa
    have q258 : (ji3) < (l0.length : Int) := oa
    obtain ⟨ad258, e258, hx258_0⟩ := Kd.at_string HR0.out (ji3) p258 q258
    cases e258
    replace p258 := eq_true p258
    replace q258 := eq_true q258
    go_enter Try.func152, Try.ntmps152
    go_wp2_with (first | (go_at_call 127; (with_reducible refine (spec_l1Ends.calls (rdOf ByteArray.empty l0 (ji3)) t259 _ A6.out).mono ?_); rintro e w' ⟨rfl, ⟨nd, rfl⟩⟩))
    go_ret
    exact ⟨by first | rfl | (simp; done) | (simp only [← hji3] <;> (first | rfl | simp)) | (simp [*]; done), by repeat (first | exact Drawn0.refl _ | apply Drawn0.step)⟩
   ·rw [if_neg c5] at H
    exact absurd H (by simp)
  ·rw [if_neg c4] at H
   exact absurd H (by simp)
end Go.Proofs.Ytmcldkobejhaeaa.My
/- Written by this session's program (wip/gen): a plain function with the same answers as the Go function, and the proof that the Go code comes to them. Asked: that the plain function has an answer. -/
namespace Go.Proofs.Ytmcldkobejhaeaa.My
open Go.RowKit Go.Proofs.YtmcldkobejhaeaaW.PrintWords Go.Proofs.YtmcldkobejhaeaaW.PrintLast Go.Proofs.YtmcldkobejhaeaaW.PrintMore
attribute [local go_sem] max2_int min2_int max_two min_two max_three min_three max_four min_four
set_option linter.unusedVariables false
set_option linter.unusedSimpArgs false
mutual
def spec_l1Cur_other.l0 : Nat → List ByteArray → Int → List Int → Int → Int → Option (List ByteArray × Int × Int)
 | 0, _, _, _, _, _ => none
 | k + 1, x5, x6, x1000, x1001, x1002 => if x6 > 0 then ((spec_l1Cur_pick.f x1000 x1001 x1002 (wrap64 ((x5.length : Int) + 1))).bind fun bt266 => ((spec_l1Cur_pick.f x1000 bt266.2.1 bt266.2.2 3).bind fun bt269 => (if bt269.1 = 0 then (if bt266.1 < (x5.length : Int) then (if 0 ≤ bt266.1 then (if bt266.1 ≤ (x5.length : Int) then ((spec_l1OwnT.f (x5.take (bt266.1 : Int).toNat)).bind fun t276 => (if 0 ≤ (wrap64 (bt266.1 + 1)) then (if (wrap64 (bt266.1 + 1)) ≤ (x5.length : Int) then ((some (x5.drop ((wrap64 (bt266.1 + 1)) : Int).toNat : List ByteArray)).bind fun y279 => (if t276.length + y279.length < 8796093022208 then (spec_l1Cur_other.l0 k (t276 ++ y279) (wrap64 (x6 - 1)) x1000 bt269.2.1 bt269.2.2) else (none))) else (none)) else (none))) else (none)) else (none)) else (spec_l1Cur_other.l0 k x5 (wrap64 (x6 - 1)) x1000 bt269.2.1 bt269.2.2)) else (if bt269.1 = 1 then (if bt266.1 < (x5.length : Int) then (if 0 ≤ bt266.1 then ((spec_l1Ends.f (rdOf ByteArray.empty x5 bt266.1)).bind fun t287 => (if t287 = true then ((spec_l1Cur_line.f x1000 bt269.2.1 bt269.2.2).bind fun bt288 => (if bt288.1.size + 1 ≤ 9223372036854775807 then (spec_l1Cur_other.l0 k (x5.set (bt266.1 : Int).toNat (bt288.1 ++ (⟨#[10]⟩ : ByteArray))) (wrap64 (x6 - 1)) x1000 bt288.2.1 bt288.2.2) else (none))) else (spec_l1Cur_other.l0 k x5 (wrap64 (x6 - 1)) x1000 bt269.2.1 bt269.2.2))) else (none)) else (spec_l1Cur_other.l0 k x5 (wrap64 (x6 - 1)) x1000 bt269.2.1 bt269.2.2)) else (if bt266.1 < (x5.length : Int) then (spec_l1Cur_other.j1 k x5 x6 bt266.1 true x1000 bt269.2.1 bt269.2.2) else ((spec_l1Whole.f x5).bind fun t292 => (spec_l1Cur_other.j1 k x5 x6 bt266.1 t292 x1000 bt269.2.1 bt269.2.2))))))) else (if (x5.length : Int) > 0 then ((spec_l1Cur_one.f x1000 x1001 x1002 6).bind fun bt313 => (spec_l1Cur_other.j2 k x5 bt313.1 x1000 bt313.2.1 bt313.2.2)) else (spec_l1Cur_other.j2 k x5 false x1000 x1001 x1002))
def spec_l1Cur_other.j1 : Nat → List ByteArray → Int → Int → Bool → List Int → Int → Int → Option (List ByteArray × Int × Int)
 | 0, _, _, _, _, _, _, _ => none
 | k + 1, x5, x6, x7, x31, x1000, x1001, x1002 => if x31 = true then (if 0 ≤ x7 then (if x7 ≤ (x5.length : Int) then ((spec_l1OwnT.f (x5.take (x7 : Int).toNat)).bind fun t297 => ((spec_l1Cur_line.f x1000 x1001 x1002).bind fun bt300 => (if bt300.1.size + 1 ≤ 9223372036854775807 then (if t297.length < 8796093022208 then ((some (t297 ++ [bt300.1 ++ (⟨#[10]⟩ : ByteArray)] : List ByteArray)).bind fun y303 => ((some (x5.drop (x7 : Int).toNat : List ByteArray)).bind fun y306 => (if y303.length + y306.length < 8796093022208 then (spec_l1Cur_other.l0 k (y303 ++ y306) (wrap64 (x6 - 1)) x1000 bt300.2.1 bt300.2.2) else (none)))) else (none)) else (none)))) else (none)) else (none)) else (spec_l1Cur_other.l0 k x5 (wrap64 (x6 - 1)) x1000 x1001 x1002)
def spec_l1Cur_other.j2 : Nat → List ByteArray → Bool → List Int → Int → Int → Option (List ByteArray × Int × Int)
 | 0, _, _, _, _, _ => none
 | k + 1, x5, x85, x1000, x1001, x1002 => if x85 = true then (if 0 ≤ (wrap64 ((x5.length : Int) - 1)) then (if (wrap64 ((x5.length : Int) - 1)) < (x5.length : Int) then ((spec_l1Plain.f (rdOf ByteArray.empty x5 (wrap64 ((x5.length : Int) - 1)))).bind fun t317 => ((spec_l1Ends.f (rdOf ByteArray.empty x5 (wrap64 ((x5.length : Int) - 1)))).bind fun t319 => (if t319 = true then (if t317.toList = ([] : List UInt8) then (some (x5, x1001, x1002)) else (some ((x5.set ((wrap64 ((x5.length : Int) - 1)) : Int).toNat t317), x1001, x1002))) else (if t317.size + 1 ≤ 9223372036854775807 then (some ((x5.set ((wrap64 ((x5.length : Int) - 1)) : Int).toNat (t317 ++ (⟨#[10]⟩ : ByteArray))), x1001, x1002)) else (none))))) else (none)) else (none)) else (some (x5, x1001, x1002))
end
def spec_l1Cur_other.f (k : Nat) (s0_0 : List Int) (s0_1 : Int) (s0_2 : Int) (l1 : List ByteArray) : Option (List ByteArray × Int × Int) := (spec_l1OwnT.f l1).bind fun t260 => ((spec_l1Cur_pick.f s0_0 s0_1 s0_2 4).bind fun bt263 => (spec_l1Cur_other.l0 k t260 bt263.1 s0_0 bt263.2.1 bt263.2.2))
def spec_l1Cur_other.T8 : Bool × List (List Nat × List Nat) := (true, [([], []), ([], []), ([0, 1], [0, 1]), ([2], [2]), ([], []), ([4, 3], [4]), ([5], [5]), ([6], [6]), ([3, 7, 5], [3, 7]), ([], []), ([], []), ([9, 10], [9, 10]), ([8, 11, 8], [8, 11]), ([12, 12, 0, 1, 2, 3, 4, 5, 6, 7, 8, 9, 10, 11, 12], [0, 9, 12])])
def spec_l1Cur_other.B8 : List Nat := [0, 0, 3, 7, 0, 31, 63, 127, 255, 0, 0, 1536, 4095, 8191]
theorem spec_l1Cur_other.tab8 : rtab .any (opsOf Try.f130 8) = spec_l1Cur_other.T8 := by kernel_rfl
theorem spec_l1Cur_other.bits8 : waitsOk spec_l1Cur_other.T8.2 spec_l1Cur_other.B8 = true := by kernel_rfl
def spec_l1Cur_other.T11 : Bool × List (List Nat × List Nat) := (true, [([], []), ([], []), ([0, 1], [0, 1]), ([2], [2]), ([], []), ([], []), ([5], [5]), ([4, 6], [4, 6]), ([3, 7, 3], [3, 7]), ([8, 8, 0, 1, 2, 3, 4, 5, 6, 7, 8], [0, 4, 8])])
def spec_l1Cur_other.B11 : List Nat := [0, 0, 3, 7, 0, 0, 32, 112, 255, 511]
theorem spec_l1Cur_other.tab11 : rtab .any (opsOf Try.f130 11) = spec_l1Cur_other.T11 := by kernel_rfl
theorem spec_l1Cur_other.bits11 : waitsOk spec_l1Cur_other.T11.2 spec_l1Cur_other.B11 = true := by kernel_rfl
set_option maxHeartbeats 8000000 in
set_option maxRecDepth 100000 in
theorem spec_l1Cur_other.calls (k : Nat) (g : Nat) (s0_0 : List Int) (s0_1 : Int) (s0_2 : Int) (A1 : Option Addr) (c1 : Nat) (l1 : List ByteArray) (r1 : List ByteArray) (r2 : Int) (r3 : Int) (w0 w : World) (hI : IsS87 w0 w g s0_0 s0_1 s0_2) (hB : Below w0.heap.size w0 w) (hr1 : Kd.C Kd.string w A1 l1.length l1) (hc1 : l1.length ≤ c1) (hf1 : ∀ ad, A1 = some ad → 0 < l1.length → ad.block ≠ g) (h : spec_l1Cur_other.f k s0_0 s0_1 s0_2 l1 = some (r1, r2, r3)) :
  Calls Try.prog 130 #[.pointer (some ⟨g, 0, none⟩), .slice A1 l1.length c1] w fun e w' => ∃ v0_ : Value, e = .returned (v0_) ∧ Kd.R Kd.string 9 w' w.heap.size (fun _ => True) v0_ r1 ∧ IsS87 w0 w' g s0_0 r2 r3 ∧ Below w0.heap.size w0 w' ∧ KeepBut w w' g none := by
 have HR1 := am hr1
 have HC1 := am hc1
 clear hr1 hc1
 have HI0 := am hI
 have HK := am (KeepBut.refl w g none)
 have HL := am hB.size
 clear hI
 have HW0 := am hB.size
 have HB := am hB
 clear hB
 have H : ((spec_l1OwnT.f l1).bind fun t260 => ((spec_l1Cur_pick.f s0_0 s0_1 s0_2 4).bind fun bt263 => (spec_l1Cur_other.l0 k t260 bt263.1 s0_0 bt263.2.1 bt263.2.2))) = some (r1, r2, r3) := h
 clear h
 replace H := Option.bind_eq_some_iff.mp H
 obtain ⟨t260, A30, H⟩ := H
 replace H : ((spec_l1Cur_pick.f s0_0 s0_1 s0_2 4).bind fun bt263 => (spec_l1Cur_other.l0 k t260 bt263.1 s0_0 bt263.2.1 bt263.2.2)) = some (r1, r2, r3) := H
 have A3 := am A30
 clear A30
 replace H := Option.bind_eq_some_iff.mp H
 obtain ⟨⟨t263, t264, t265⟩, A40, H⟩ := H
 replace H : (spec_l1Cur_other.l0 k t260 t263 s0_0 t264 t265) = some (r1, r2, r3) := H
 have A4 := am A40
 clear A40
 have H' := am H
 clear H
 go_enter Try.func130, Try.ntmps130
 go_wp2_with (first | ((with_reducible refine gateC (f := 68) rfl ?_); refine goesL_ (some 10) rfl rfl Try.func68 (by kernel_rfl) rfl #[.slice A1 l1.length c1] rfl zm ?_; (with_reducible refine (spec_l1OwnT.calls _ _ l1 t260 _ ?side1 ?side2 A3.out).mono ?_); (case side1 => exact Kd.C_keep (⟨#[]⟩ : ByteArray) HR1.out zh hf1); (case side2 => exact HC1.out); rintro e w5 ⟨v261, rfl, ho0, hb⟩; refine ⟨_, rfl, ?_⟩; have n0_ := am (Kd.R_lower ho0 (keep_size (w := w) (g := g) (row := none) zh)); have n1_ := am (IsS87.below zi hb); have n2_ := am (KeepBut.trans zh (KeepBut.of_below hb g none) (.inl rfl)); have n3_ := am (below_step zj hb); clear HI0; clear HK; clear HB; have HO262 := n0_; have HI0 := n1_; have HK := n2_; have HB := n3_; clear n0_ n1_ n2_ n3_; (try clear hb); (try clear ho0)) | ((with_reducible refine gateC (f := 62) rfl ?_); refine goesL_ (some 12) rfl rfl Try.func62 (by kernel_rfl) rfl #[.pointer (some ⟨g, 0, none⟩), .int .i64 4] rfl zm ?_; (with_reducible refine (spec_l1Cur_pick.calls g s0_0 s0_1 s0_2 4 t263 t264 t265 w0 _ ?side1 ?side2 A4.out).mono ?_); (case side1 => exact zi); (case side2 => exact zj); rintro e w6 ⟨rfl, hi, hb, hk⟩; refine ⟨_, rfl, ?_⟩; have n0_ := am (Kd.R_mono (Kd.R_keep (IsS87.apart (show IsS87 w0 _ g s0_0 s0_1 s0_2 from zi) (zr HO262.out) (by decide)) hk (fun _ h => h.2)) (fun _ h => h.1)); have n1_ := am (KeepBut.trans zh hk (.inl rfl)); have n2_ := am (hb); have n3_ := am (hi); clear HO262; clear HK; clear HB; clear HI0; have HO262 := n0_; have HK := n1_; have HB := n2_; have HI0 := n3_; clear n0_ n1_ n2_ n3_; (try clear hb); (try clear hk); (try clear hi)))
 go_loopg [5, 6] k (fun kq v5 v6 w' => ∃ (x5_1 : List ByteArray) (x6_1 : Int) (x1001_1 : Int) (x1002_1 : Int), v6 = .int .i64 x6_1 ∧ Aside0 (spec_l1Cur_other.l0 kq x5_1 x6_1 s0_0 x1001_1 x1002_1 = some (r1, r2, r3)) ∧ Aside0 (kq ≤ k) ∧ Aside0 (Kd.R Kd.string 9 w' w.heap.size (fun _ => True) v5 x5_1) ∧ Aside0 (IsS87 w0 w' g s0_0 x1001_1 x1002_1) ∧ Aside0 (KeepBut w w' g none) ∧ Aside0 (Below w0.heap.size w0 w'))
 case atStart => exact ⟨(t260), (t263), (t264), (t265), zf, H', ⟨Nat.le_refl _⟩, ⟨by (with_reducible repeat (first | apply Kd.R_alloc | apply Kd.R_drewN | apply Kd.R_drew)); exact HO262.out⟩, ⟨by repeat (first | (with_reducible first | exact HI0.out | apply IsS87.alloc | apply IsS87.drewN | apply IsS87.drew | apply IsS87.set_1 | apply IsS87.set_2) | exact HI0.out)⟩, ⟨by repeat (first | (with_reducible first | exact HK.out | apply KeepBut.set_ | apply keep_drewN | apply keep_drew | apply keep_alloc) | exact HK.out)⟩, ⟨by repeat (first | (with_reducible first | exact HB.out | apply below_alloc | apply pw_below_drewN | apply below_drew1 | refine below_set ?_ (IsS87.ge HI0.out)) | exact HB.out)⟩⟩
 case round =>
  clear H'
  try clear c1
  try clear p2
  try clear c6
  obtain ⟨x5_1, x6_1, x1001_1, x1002_1, rfl, HA, HK1, HO_5, HI0, HK, HB⟩ := hrel
  cases gk with
  | zero => exact absurd HA.out (by simp [spec_l1Cur_other.l0])
  | succ k1 =>
   have H := HA.out
   clear HA
   simp only [spec_l1Cur_other.l0] at H
   by_cases c7 : x6_1 > 0
   ·rw [if_pos c7] at H
    have c7b0 : decide (0 < x6_1) = true := decide_eq_true c7
    clear c7
    replace H := Option.bind_eq_some_iff.mp H
    obtain ⟨⟨t266, t267, t268⟩, A80, H⟩ := H
    replace H : ((spec_l1Cur_pick.f s0_0 t267 t268 3).bind fun bt269 => (if bt269.1 = 0 then (if t266 < (x5_1.length : Int) then (if 0 ≤ t266 then (if t266 ≤ (x5_1.length : Int) then ((spec_l1OwnT.f (x5_1.take (t266 : Int).toNat)).bind fun t276 => (if 0 ≤ (wrap64 (t266 + 1)) then (if (wrap64 (t266 + 1)) ≤ (x5_1.length : Int) then ((some (x5_1.drop ((wrap64 (t266 + 1)) : Int).toNat : List ByteArray)).bind fun y279 => (if t276.length + y279.length < 8796093022208 then (spec_l1Cur_other.l0 k1 (t276 ++ y279) (wrap64 (x6_1 - 1)) s0_0 bt269.2.1 bt269.2.2) else (none))) else (none)) else (none))) else (none)) else (none)) else (spec_l1Cur_other.l0 k1 x5_1 (wrap64 (x6_1 - 1)) s0_0 bt269.2.1 bt269.2.2)) else (if bt269.1 = 1 then (if t266 < (x5_1.length : Int) then (if 0 ≤ t266 then ((spec_l1Ends.f (rdOf ByteArray.empty x5_1 t266)).bind fun t287 => (if t287 = true then ((spec_l1Cur_line.f s0_0 bt269.2.1 bt269.2.2).bind fun bt288 => (if bt288.1.size + 1 ≤ 9223372036854775807 then (spec_l1Cur_other.l0 k1 (x5_1.set (t266 : Int).toNat (bt288.1 ++ (⟨#[10]⟩ : ByteArray))) (wrap64 (x6_1 - 1)) s0_0 bt288.2.1 bt288.2.2) else (none))) else (spec_l1Cur_other.l0 k1 x5_1 (wrap64 (x6_1 - 1)) s0_0 bt269.2.1 bt269.2.2))) else (none)) else (spec_l1Cur_other.l0 k1 x5_1 (wrap64 (x6_1 - 1)) s0_0 bt269.2.1 bt269.2.2)) else (if t266 < (x5_1.length : Int) then (spec_l1Cur_other.j1 k1 x5_1 x6_1 t266 true s0_0 bt269.2.1 bt269.2.2) else ((spec_l1Whole.f x5_1).bind fun t292 => (spec_l1Cur_other.j1 k1 x5_1 x6_1 t266 t292 s0_0 bt269.2.1 bt269.2.2)))))) = some (r1, r2, r3) := H
    have A8 := am A80
    clear A80
    replace H := Option.bind_eq_some_iff.mp H
    obtain ⟨⟨t269, t270, t271⟩, A90, H⟩ := H
    replace H : (if t269 = 0 then (if t266 < (x5_1.length : Int) then (if 0 ≤ t266 then (if t266 ≤ (x5_1.length : Int) then ((spec_l1OwnT.f (x5_1.take (t266 : Int).toNat)).bind fun t276 => (if 0 ≤ (wrap64 (t266 + 1)) then (if (wrap64 (t266 + 1)) ≤ (x5_1.length : Int) then ((some (x5_1.drop ((wrap64 (t266 + 1)) : Int).toNat : List ByteArray)).bind fun y279 => (if t276.length + y279.length < 8796093022208 then (spec_l1Cur_other.l0 k1 (t276 ++ y279) (wrap64 (x6_1 - 1)) s0_0 t270 t271) else (none))) else (none)) else (none))) else (none)) else (none)) else (spec_l1Cur_other.l0 k1 x5_1 (wrap64 (x6_1 - 1)) s0_0 t270 t271)) else (if t269 = 1 then (if t266 < (x5_1.length : Int) then (if 0 ≤ t266 then ((spec_l1Ends.f (rdOf ByteArray.empty x5_1 t266)).bind fun t287 => (if t287 = true then ((spec_l1Cur_line.f s0_0 t270 t271).bind fun bt288 => (if bt288.1.size + 1 ≤ 9223372036854775807 then (spec_l1Cur_other.l0 k1 (x5_1.set (t266 : Int).toNat (bt288.1 ++ (⟨#[10]⟩ : ByteArray))) (wrap64 (x6_1 - 1)) s0_0 bt288.2.1 bt288.2.2) else (none))) else (spec_l1Cur_other.l0 k1 x5_1 (wrap64 (x6_1 - 1)) s0_0 t270 t271))) else (none)) else (spec_l1Cur_other.l0 k1 x5_1 (wrap64 (x6_1 - 1)) s0_0 t270 t271)) else (if t266 < (x5_1.length : Int) then (spec_l1Cur_other.j1 k1 x5_1 x6_1 t266 true s0_0 t270 t271) else ((spec_l1Whole.f x5_1).bind fun t292 => (spec_l1Cur_other.j1 k1 x5_1 x6_1 t266 t292 s0_0 t270 t271))))) = some (r1, r2, r3) := H
    have A9 := am A90
    clear A90
    by_cases c10 : t269 = 0
    ·rw [if_pos c10] at H
     have c10b0 : (t269 == 0) = true := beq_iff_eq.mpr c10
     have c10b1 : (t269 != 0) = false := bne_eq_false_iff_eq.mpr c10
     clear c10
     by_cases c11 : t266 < (x5_1.length : Int)
     ·rw [if_pos c11] at H
      have c11b0 : decide (t266 < (x5_1.length : Int)) = true := decide_eq_true c11
      clear c11
      by_cases c12 : 0 ≤ t266
      ·rw [if_pos c12] at H
       have c12b0 := eq_true c12
       have c12b1 : decide (0 ≤ t266) = true := decide_eq_true c12
       clear c12
       by_cases c13 : t266 ≤ (x5_1.length : Int)
       ·rw [if_pos c13] at H
        have c13b0 := eq_true c13
        have c13b1 : decide (t266 ≤ (x5_1.length : Int)) = true := decide_eq_true c13
        clear c13
        obtain ⟨y272, hy272⟩ : ∃ y_ : List ByteArray, y_ = (x5_1.take (t266 : Int).toNat) := ⟨_, rfl⟩
        replace H : ((spec_l1OwnT.f y272).bind fun t276 => (if 0 ≤ (wrap64 (t266 + 1)) then (if (wrap64 (t266 + 1)) ≤ (x5_1.length : Int) then ((some (x5_1.drop ((wrap64 (t266 + 1)) : Int).toNat : List ByteArray)).bind fun y279 => (if t276.length + y279.length < 8796093022208 then (spec_l1Cur_other.l0 k1 (t276 ++ y279) (wrap64 (x6_1 - 1)) s0_0 t270 t271) else (none))) else (none)) else (none))) = some (r1, r2, r3) := by first | (rw [hy272]; with_reducible exact H) | (have H2_ := (Option.bind_some _ _).symm.trans H; rw [hy272]; with_reducible exact H2_) | (have H2_ := (Option.bind_some _ _).symm.trans H; with_reducible exact H2_) | with_reducible exact H | (rw [hy272]; exact H) | exact H
        have Ny272 := am hy272
        clear hy272
        replace H := Option.bind_eq_some_iff.mp H
        obtain ⟨t276, A140, H⟩ := H
        replace H : (if 0 ≤ (wrap64 (t266 + 1)) then (if (wrap64 (t266 + 1)) ≤ (x5_1.length : Int) then ((some (x5_1.drop ((wrap64 (t266 + 1)) : Int).toNat : List ByteArray)).bind fun y279 => (if t276.length + y279.length < 8796093022208 then (spec_l1Cur_other.l0 k1 (t276 ++ y279) (wrap64 (x6_1 - 1)) s0_0 t270 t271) else (none))) else (none)) else (none)) = some (r1, r2, r3) := H
        have A14 := am A140
        clear A140
        obtain ⟨ji15, hji15⟩ : ∃ j_ : Int, (wrap64 (t266 + 1)) = j_ := ⟨_, rfl⟩
        replace H : (if 0 ≤ (ji15) then (if (ji15) ≤ (x5_1.length : Int) then ((some (x5_1.drop ((ji15) : Int).toNat : List ByteArray)).bind fun y279 => (if t276.length + y279.length < 8796093022208 then (spec_l1Cur_other.l0 k1 (t276 ++ y279) (wrap64 (x6_1 - 1)) s0_0 t270 t271) else (none))) else (none)) else (none)) = some (r1, r2, r3) := by first | (rw [hji15] at H; exact H) | (simp only [hji15] at H ⊢; exact H)
        (try rw [hji15] at A8)
        (try rw [hji15] at A9)
        (try rw [hji15] at A14)
        have hji15w : (IntKind.i64.wrap (t266 + 1)) = ji15 := (i64_w _).trans hji15
        by_cases c16 : 0 ≤ (ji15)
        ·rw [if_pos c16] at H
         have c16b0 := eq_true c16
         have c16b1 : decide (0 ≤ (ji15)) = true := decide_eq_true c16
         clear c16
         by_cases c17 : (ji15) ≤ (x5_1.length : Int)
         ·rw [if_pos c17] at H
          have c17b0 := eq_true c17
          have c17b1 : decide ((ji15) ≤ (x5_1.length : Int)) = true := decide_eq_true c17
          clear c17
          obtain ⟨y279, hy279⟩ : ∃ y_ : List ByteArray, y_ = (x5_1.drop ((ji15) : Int).toNat) := ⟨_, rfl⟩
          replace H : (if t276.length + y279.length < 8796093022208 then (spec_l1Cur_other.l0 k1 (t276 ++ y279) (wrap64 (x6_1 - 1)) s0_0 t270 t271) else (none)) = some (r1, r2, r3) := by first | (rw [hy279]; with_reducible exact H) | (have H2_ := (Option.bind_some _ _).symm.trans H; rw [hy279]; with_reducible exact H2_) | (have H2_ := (Option.bind_some _ _).symm.trans H; with_reducible exact H2_) | with_reducible exact H | (rw [hy279]; exact H) | exact H
          have Ny279 := am hy279
          clear hy279
          by_cases c18 : t276.length + y279.length < 8796093022208
          ·rw [if_pos c18] at H
           have LMc18 := am c18
           clear c18
           obtain ⟨y283, hy283⟩ : ∃ y_ : List ByteArray, y_ = (t276 ++ y279) := ⟨_, rfl⟩
           replace H : (spec_l1Cur_other.l0 k1 y283 (wrap64 (x6_1 - 1)) s0_0 t270 t271) = some (r1, r2, r3) := by first | (rw [hy283]; with_reducible exact H) | (have H2_ := (Option.bind_some _ _).symm.trans H; rw [hy283]; with_reducible exact H2_) | (have H2_ := (Option.bind_some _ _).symm.trans H; with_reducible exact H2_) | with_reducible exact H | (rw [hy283]; exact H) | exact H
           have Ny283 := am hy283
           clear hy283
           have H' := am H
           clear H
           obtain ⟨Ao19, co19, eo19⟩ := Kd.R_slice HO_5.out
           subst eo19
           try go_wp2_with (first | ((with_reducible refine gateC (f := 62) rfl ?_); refine goesL_ (some 21) rfl rfl Try.func62 (by kernel_rfl) rfl #[.pointer (some ⟨g, 0, none⟩), .int .i64 (wrap64 ((x5_1.length : Int) + 1))] rfl zm ?_; (with_reducible refine (spec_l1Cur_pick.calls g s0_0 x1001_1 x1002_1 (wrap64 ((x5_1.length : Int) + 1)) t266 t267 t268 w0 _ ?side1 ?side2 A8.out).mono ?_); (case side1 => exact zi); (case side2 => exact zj); rintro e w20 ⟨rfl, hi, hb, hk⟩; refine ⟨_, rfl, ?_⟩; have n0_ := am (Kd.R_mono (Kd.R_keep (IsS87.apart (show IsS87 w0 _ g s0_0 x1001_1 x1002_1 from zi) (zr HO_5.out) (by decide)) hk (fun _ h => h.2)) (fun _ h => h.1)); have n1_ := am (KeepBut.trans zh hk (.inl rfl)); have n2_ := am (hb); have n3_ := am (hi); clear HO_5; clear HK; clear HB; clear HI0; have HO_5 := n0_; have HK := n1_; have HB := n2_; have HI0 := n3_; clear n0_ n1_ n2_ n3_; (try clear hb); (try clear hk); (try clear hi)) | ((with_reducible refine gateC (f := 62) rfl ?_); refine goesL_ (some 23) rfl rfl Try.func62 (by kernel_rfl) rfl #[.pointer (some ⟨g, 0, none⟩), .int .i64 3] rfl zm ?_; (with_reducible refine (spec_l1Cur_pick.calls g s0_0 t267 t268 3 t269 t270 t271 w0 _ ?side1 ?side2 A9.out).mono ?_); (case side1 => exact zi); (case side2 => exact zj); rintro e w21 ⟨rfl, hi, hb, hk⟩; refine ⟨_, rfl, ?_⟩; have n0_ := am (Kd.R_mono (Kd.R_keep (IsS87.apart (show IsS87 w0 _ g s0_0 t267 t268 from zi) (zr HO_5.out) (by decide)) hk (fun _ h => h.2)) (fun _ h => h.1)); have n1_ := am (KeepBut.trans zh hk (.inl rfl)); have n2_ := am (hb); have n3_ := am (hi); clear HO_5; clear HK; clear HB; clear HI0; have HO_5 := n0_; have HK := n1_; have HB := n2_; have HI0 := n3_; clear n0_ n1_ n2_ n3_; (try clear hb); (try clear hk); (try clear hi)))
           have n0_ := am (Kd.R_drew HO_5.out)
           have n1_ := am (IsS87.drew HI0.out)
           have n2_ := am (keep_drew HK.out)
           have n3_ := am (below_drew1 HB.out)
           clear HO_5
           clear HI0
           clear HK
           clear HB
           have HO_5 := n0_
           have HI0 := n1_
           have HK := n2_
           have HB := n3_
           clear n0_ n1_ n2_ n3_
           have q23 : (t266 : Int) ≤ ((x5_1.length : Int) : Int) := oa
           obtain ⟨i023, hi023, _, hsz23, _⟩ := info_parts info9
           have hroom23 : x5_1.length ≤ co19 := (Kd.R_reads' HO_5.out).2.1
           have hC23 : Kd.C Kd.string _ Ao19 x5_1.length x5_1 := (Kd.R_reads' HO_5.out).2.2
           have hcut23 := cut_to (P := Try.prog) 24 9 .i64 Try.underlying24 hi023 Ao19 x5_1.length co19 t266 oa q23 hroom23
           have hr23 := Kd.C_take (m := (t266 : Int).toNat) hC23 (by omega)
           have hy23 : y272.length = (t266 : Int).toNat := (by rw [Ny272.out, List.length_take]; omega)
           rw [← Ny272.out] at hr23
           rw [← hy23] at hcut23
           have HR275 := am hr23
           have HC275 := am (show y272.length ≤ co19 from by omega)
           clear hr23 hC23 hroom23 hi023 hsz23
           have KY23 := am hy23
           clear hy23
           have KL23 := am (show (t266 : Int).toNat ≤ x5_1.length from by omega)
           replace q23 := eq_true q23
           refine start_ (n := 10) (S := fun w' => True) (ds := []) #[O,O,O,O,O,O,O,O,O,O] (by kernel_rfl) rfl rfl trivial (fun hHeld => ?_); refine with_tabW spec_l1Cur_other.tab11 spec_l1Cur_other.bits11 (fun HT_ HW_ => ?_)
           generalize w21.drew = w22 at HO_5 HI0 HK HB HR275 hHeld ⊢
           refine pure_ (i := 0) (N := some 51) (v := ?_) (a' := ?_) #[Y,O,O,O,O,O,O,O,O,O] rfl rfl zx (fun _ _ _ h => h) (Or.inl ⟨by rfl, ?_⟩) ?_ ?_
           rotate_left; (intro w'; go_simp; with_reducible rfl); rotate_left; (simp only [Act.put,qa,qb,qc,i64_w,i32_w]; rfl)
           refine pure_ (i := 1) (N := some 52) (v := ?_) (a' := ?_) #[Y,Y,O,O,O,O,O,O,O,O] rfl rfl zx (fun _ _ _ h => h) (Or.inl ⟨by rfl, ?_⟩) ?_ ?_
           rotate_left; (intro w'; go_simp; with_reducible rfl); rotate_left; (simp only [Act.put,qa,qb,qc,i64_w,i32_w]; rfl)
           refine pure_ (i := 2) (N := some 53) (v := ?_) (a' := ?_) #[Y,Y,Y,O,O,O,O,O,O,O] rfl rfl zx (fun _ _ _ h => h) (Or.inl ⟨by rfl, ?_⟩) ?_ ?_
           rotate_left; (intro w'; go_simp; with_reducible rfl); rotate_left; (simp only [Act.put,qa,qb,qc,i64_w,i32_w]; rfl)
           refine pure_ (i := 4) (N := some 55) (v := ?_) (a' := ?_) #[Y,Y,Y,O,Y,O,O,O,O,O] rfl rfl zx (fun _ _ _ h => h) (Or.inl ⟨by rfl, ?_⟩) ?_ ?_
           rotate_left; (intro w'; go_simp; with_reducible rfl); rotate_left; (simp only [Act.put,qa,qb,qc,i64_w,i32_w]; rfl)
           refine pure_ (i := 5) (N := some 56) (v := ?_) (a' := ?_) #[Y,Y,Y,O,Y,Y,O,O,O,O] rfl rfl zx (fun _ _ _ h => h) (Or.inl ⟨by rfl, ?_⟩) ?_ ?_
           rotate_left; (intro w'; go_simp; with_reducible rfl); rotate_left; (simp only [Act.put,qa,qb,qc,i64_w,i32_w]; rfl)
           refine pure_ (i := 6) (N := some 57) (v := ?_) (a' := ?_) #[Y,Y,Y,O,Y,Y,Y,O,O,O] rfl rfl zx (fun _ _ _ h => h) (Or.inl ⟨by rfl, ?_⟩) ?_ ?_
           rotate_left; (intro w'; go_simp; with_reducible rfl); rotate_left; (simp only [Act.put,qa,qb,qc,i64_w,i32_w]; rfl)
                     -- cut ahead
           have q25 : ((ji15) : Int) ≤ ((x5_1.length : Int) : Int) := oa
           obtain ⟨i025, hi025, _, hsz25, _⟩ := info_parts info9
           have hroom25 : x5_1.length ≤ co19 := (Kd.R_reads' HO_5.out).2.1
           have hC25 : Kd.C Kd.string _ Ao19 x5_1.length x5_1 := (Kd.R_reads' HO_5.out).2.2
           have q025 : (0 : Int) ≤ ((ji15) : Int) := oa
           have hcut25 := cut_from (P := Try.prog) 24 9 .i64 Try.underlying24 hi025 1 hsz25 Ao19 x5_1.length co19 (ji15) q025 q25
           obtain ⟨A25, hA25⟩ : ∃ A1, A1 = (if co19 = ((ji15) : Int).toNat then Ao19 else (Ao19 : Option Addr).map (·.add (((ji15) : Int).toNat * 1))) := ⟨_, rfl⟩
           obtain ⟨c25, hc25⟩ : ∃ c1, c1 = co19 - ((ji15) : Int).toNat := ⟨_, rfl⟩
           have hy25 : y279.length = x5_1.length - ((ji15) : Int).toNat := (by rw [Ny279.out, List.length_drop] <;> omega)
           rw [← hy25, ← hA25, ← hc25] at hcut25
           have HC282 := am (show y279.length ≤ c25 from by rw [hy25, hc25]; exact Nat.sub_le_sub_right hroom25 _)
           clear hC25 hroom25 hi025 hsz25 hc25
           have KY25 := am hy25
           have KA25 := am hA25
           clear hy25 hA25
           have KL25 := am (show ((ji15) : Int).toNat ≤ x5_1.length from by omega)
           replace q25 := eq_true q25
           refine pure_ (i := 7) (N := some 58) (v := ?_) (a' := ?_) #[Y,Y,Y,O,Y,Y,Y,Y,O,O] rfl rfl zx (fun _ _ _ h => h) (Or.inl ⟨by rfl, ?_⟩) ?_ ?_
           rotate_left; (intro w'; go_simp; with_reducible rfl); rotate_left; (simp only [Act.put,qa,qb,qc,i64_w,i32_w]; rfl)
           refine one_ (i := 3) (N := some 54) #[Y,Y,Y,Y,Y,Y,Y,Y,O,O] rfl rfl (one_of HT_.out (by kernel_rfl)) (by decide) (fun K hK => ?_)
           refine goes_ Try.func68 (by kernel_rfl) rfl #[.slice Ao19 y272.length co19] (by rfl) rfl rfl zm ?_
           with_reducible refine (spec_l1OwnT.calls _ _ y272 t276 _ ?side1 ?side2 A14.out).mono ?_
           (case side1 => repeat (first | exact (by repeat (first | (with_reducible exact HR275.out) | (with_reducible refine Kd.C_alloc ?_ _) | (with_reducible refine Kd.C_drewN ?_ _) | (with_reducible refine Kd.C_drew ?_) | exact HR275.out)) | (with_reducible refine Kd.C_alloc ?_ _) | (with_reducible refine Kd.C_drewN ?_ _) | (with_reducible refine Kd.C_drew ?_)))
           (case side2 => exact HC275.out)
           rintro e w24 ⟨v277, rfl, ho0, hb⟩
           refine ⟨_, rfl, ?_⟩
           have n0_ := am (Kd.R_elder' (zr HO_5.out) (Kd.R_base ho0) hb)
           have n1_ := am (Kd.R_lower (Kd.R_new' ho0 (Kd.R_lt (zr HO_5.out))) (keep_size (w := w) (g := g) (row := none) zh))
           have n2_ := am (IsS87.below zi hb)
           have n3_ := am (Kd.C_below (by repeat (first | (with_reducible exact HR275.out) | (with_reducible refine Kd.C_alloc ?_ _) | (with_reducible refine Kd.C_drewN ?_ _) | (with_reducible refine Kd.C_drew ?_) | exact HR275.out)) hb)
           have n4_ := am (KeepBut.trans zh (KeepBut.of_below hb g none) (.inl rfl))
           have n5_ := am (below_step zj hb)
           clear HO_5
           clear HI0
           clear HR275
           clear HK
           clear HB
           have HO_5 := n0_
           have HO278 := n1_
           have HI0 := n2_
           have HR275 := n3_
           have HK := n4_
           have HB := n5_
           clear n0_ n1_ n2_ n3_ n4_ n5_
           (try clear hb)
           (try clear hb2)
           (try clear hk)
           (try clear hi)
           (try clear ho0)
           have hr25 := Kd.C_drop (m := ((ji15) : Int).toNat) (c := co19) (Kd.R_reads' HO_5.out).2.2 (by have := KL25.out; omega) (Kd.R_reads' HO_5.out).2.1
           rw [show (x5_1).drop ((ji15) : Int).toNat = y279 from Ny279.out.symm] at hr25
           replace hr25 : Kd.C Kd.string _ A25 y279.length y279 := (by rw [KA25.out]; exact hr25)
           have HR282 := am hr25
           clear hr25
           refine hK.out _ _ trivial (fun hHeld => ?_)
           clear hK K
           refine norm_ (a' := ?_) ?_ ?_
           rotate_left
           ·show Act.put _ (some 54) _ = _
            simp only [Act.put,qa,qb,qc,i64_w,i32_w]
            rfl
           refine one_ (i := 8) (N := some 59) #[Y,Y,Y,Y,Y,Y,Y,Y,Y,O] rfl rfl (one_of HT_.out (by kernel_rfl)) (by decide) (fun K hK => ?_)
           refine Kd.R_append_rows_step Kd.string w.heap.size (by rfl) (.tmp 54) (.tmp 58) 24 9 (.string ⟨#[]⟩) 16 rfl Try.underlying24 info9 rfl (by decide) (by omega) v277 t276 y279 _ _ _ (fun k_ => some k_ ≠ (.slice Ao19 x5_1.length co19 : Value).ownBlock) (fun _ => False) rfl rfl ?aO ?aR (fun _ _ h => h) (fun _ h => h.elim) ?aF (Below.refl _ _) ?aS ?aL ?_
           (case aR => repeat (first | exact (by repeat (first | (with_reducible exact HR282.out) | (with_reducible refine Kd.C_alloc ?_ _) | (with_reducible refine Kd.C_drewN ?_ _) | (with_reducible refine Kd.C_drew ?_) | exact HR282.out)) | (with_reducible refine Kd.C_alloc ?_ _) | (with_reducible refine Kd.C_drewN ?_ _) | (with_reducible refine Kd.C_drew ?_)))
           (case aF => exact (fun k_ hk => Kd.fresh' (Kd.R_lt (zr HO_5.out)) k_ hk))
           (case aO => exact (by (with_reducible repeat (first | apply Kd.R_alloc | apply Kd.R_drewN | apply Kd.R_drew)); exact Kd.R_mono HO278.out (fun _ hk => hk.2)))
           (case aS => exact (keep_size (w := w) (g := g) (row := none) zh))
           (case aL => have := LMc18.out; omega)
           intro v284 w26 ho hb hg hat
           rw [← Ny283.out] at ho
           have n0_ := am (Kd.R_after (ok := (fun _ => True)) (zr HO_5.out) hg hat)
           have n1_ := am (IsS87.grown zi hg (IsS87.own_ne HI0.out HO278.out (by decide)))
           have n2_ := am (below_weaken zj HL.out hb)
           have n3_ := am (KeepBut.trans zh (KeepBut.of_grown hg g) (Kd.R_base2 HO278.out))
           have n4_ := am ((show Kd.C Kd.string w26 Ao19 y272.length y272 from by rw [Ny272.out]; exact Kd.C_take (m := (t266 : Int).toNat) ((Kd.R_reads' (Kd.R_after (ok := (fun _ => True)) (zr HO_5.out) hg hat)).2.2) KL23.out))
           have n5_ := am ((show Kd.C Kd.string w26 A25 y279.length y279 from by rw [Ny279.out, KA25.out]; exact Kd.C_drop (m := ((ji15) : Int).toNat) (c := co19) ((Kd.R_reads' (Kd.R_after (ok := (fun _ => True)) (zr HO_5.out) hg hat)).2.2) KL25.out ((Kd.R_reads' (Kd.R_after (ok := (fun _ => True)) (zr HO_5.out) hg hat)).2.1)))
           have n6_ := am (ho)
           clear HO_5
           clear HI0
           clear HB
           clear HK
           clear HR275
           clear HR282
           clear HO278
           have HO_5 := n0_
           have HI0 := n1_
           have HB := n2_
           have HK := n3_
           have HR275 := n4_
           have HR282 := n5_
           have HO285 := n6_
           clear n0_ n1_ n2_ n3_ n4_ n5_ n6_
           clear ho hb hg hat
           refine hK.out _ _ trivial (fun hHeld => ?_)
           clear hK K
           refine norm_ (a' := ?_) ?_ ?_
           rotate_left
           ·show Act.put _ (some 59) _ = _
            simp only [Act.put,qa,qb,qc,i64_w,i32_w]
            rfl
           refine pure_ (i := 9) (N := some 5) (v := ?_) (a' := ?_) #[Y,Y,Y,Y,Y,Y,Y,Y,Y,Y] rfl rfl zx (fun _ _ _ h => h) (Or.inl ⟨by rfl, ?_⟩) ?_ ?_
           rotate_left; (intro w'; go_simp; with_reducible rfl); rotate_left; (simp only [Act.put,qa,qb,qc,i64_w,i32_w]; rfl)
           refine done_ (done_of HT_.out (by kernel_rfl)) ?_
           try go_wp2
           go_roundg k1
           case measure => have := HK1.out; omega
           case rel => exact ⟨(y283), (wrap64 (x6_1 - 1)), (t270), (t271), zf, H', ⟨by have := HK1.out; omega⟩, ⟨by (with_reducible repeat (first | apply Kd.R_alloc | apply Kd.R_drewN | apply Kd.R_drew)); exact Kd.R_mono HO285.out (fun _ hk => trivial)⟩, ⟨by repeat (first | (with_reducible first | exact HI0.out | apply IsS87.alloc | apply IsS87.drewN | apply IsS87.drew | apply IsS87.set_1 | apply IsS87.set_2) | exact HI0.out)⟩, ⟨by repeat (first | (with_reducible first | exact HK.out | apply KeepBut.set_ | apply keep_drewN | apply keep_drew | apply keep_alloc) | exact HK.out)⟩, ⟨by repeat (first | (with_reducible first | exact HB.out | apply below_alloc | apply pw_below_drewN | apply below_drew1 | refine below_set ?_ (IsS87.ge HI0.out)) | exact HB.out)⟩⟩
          ·rw [if_neg c18] at H
           exact absurd H (by simp)
         ·rw [if_neg c17] at H
          exact absurd H (by simp)
        ·rw [if_neg c16] at H
         exact absurd H (by simp)
       ·rw [if_neg c13] at H
        exact absurd H (by simp)
      ·rw [if_neg c12] at H
       exact absurd H (by simp)
     ·rw [if_neg c11] at H
      have c11b0 : decide (t266 < (x5_1.length : Int)) = false := decide_eq_false c11
      clear c11
      have H' := am H
      clear H
      obtain ⟨Ao27, co27, eo27⟩ := Kd.R_slice HO_5.out
      subst eo27
      go_wp2_with (first | ((with_reducible refine gateC (f := 62) rfl ?_); refine goesL_ (some 21) rfl rfl Try.func62 (by kernel_rfl) rfl #[.pointer (some ⟨g, 0, none⟩), .int .i64 (wrap64 ((x5_1.length : Int) + 1))] rfl zm ?_; (with_reducible refine (spec_l1Cur_pick.calls g s0_0 x1001_1 x1002_1 (wrap64 ((x5_1.length : Int) + 1)) t266 t267 t268 w0 _ ?side1 ?side2 A8.out).mono ?_); (case side1 => exact zi); (case side2 => exact zj); rintro e w28 ⟨rfl, hi, hb, hk⟩; refine ⟨_, rfl, ?_⟩; have n0_ := am (Kd.R_mono (Kd.R_keep (IsS87.apart (show IsS87 w0 _ g s0_0 x1001_1 x1002_1 from zi) (zr HO_5.out) (by decide)) hk (fun _ h => h.2)) (fun _ h => h.1)); have n1_ := am (KeepBut.trans zh hk (.inl rfl)); have n2_ := am (hb); have n3_ := am (hi); clear HO_5; clear HK; clear HB; clear HI0; have HO_5 := n0_; have HK := n1_; have HB := n2_; have HI0 := n3_; clear n0_ n1_ n2_ n3_; (try clear hb); (try clear hk); (try clear hi)) | ((with_reducible refine gateC (f := 62) rfl ?_); refine goesL_ (some 23) rfl rfl Try.func62 (by kernel_rfl) rfl #[.pointer (some ⟨g, 0, none⟩), .int .i64 3] rfl zm ?_; (with_reducible refine (spec_l1Cur_pick.calls g s0_0 t267 t268 3 t269 t270 t271 w0 _ ?side1 ?side2 A9.out).mono ?_); (case side1 => exact zi); (case side2 => exact zj); rintro e w29 ⟨rfl, hi, hb, hk⟩; refine ⟨_, rfl, ?_⟩; have n0_ := am (Kd.R_mono (Kd.R_keep (IsS87.apart (show IsS87 w0 _ g s0_0 t267 t268 from zi) (zr HO_5.out) (by decide)) hk (fun _ h => h.2)) (fun _ h => h.1)); have n1_ := am (KeepBut.trans zh hk (.inl rfl)); have n2_ := am (hb); have n3_ := am (hi); clear HO_5; clear HK; clear HB; clear HI0; have HO_5 := n0_; have HK := n1_; have HB := n2_; have HI0 := n3_; clear n0_ n1_ n2_ n3_; (try clear hb); (try clear hk); (try clear hi)))
      go_roundg k1
      case measure => have := HK1.out; omega
      case rel => exact ⟨(x5_1), (wrap64 (x6_1 - 1)), (t270), (t271), zf, H', ⟨by have := HK1.out; omega⟩, ⟨by (with_reducible repeat (first | apply Kd.R_alloc | apply Kd.R_drewN | apply Kd.R_drew)); exact HO_5.out⟩, ⟨by repeat (first | (with_reducible first | exact HI0.out | apply IsS87.alloc | apply IsS87.drewN | apply IsS87.drew | apply IsS87.set_1 | apply IsS87.set_2) | exact HI0.out)⟩, ⟨by repeat (first | (with_reducible first | exact HK.out | apply KeepBut.set_ | apply keep_drewN | apply keep_drew | apply keep_alloc) | exact HK.out)⟩, ⟨by repeat (first | (with_reducible first | exact HB.out | apply below_alloc | apply pw_below_drewN | apply below_drew1 | refine below_set ?_ (IsS87.ge HI0.out)) | exact HB.out)⟩⟩
    ·rw [if_neg c10] at H
     have c10b0 : (t269 == 0) = false := beq_eq_false_iff_ne.mpr c10
     have c10b1 : (t269 != 0) = true := bne_iff_ne.mpr c10
     by_cases c30 : t269 = 1
     ·rw [if_pos c30] at H
      have c30b0 : (t269 == 1) = true := beq_iff_eq.mpr c30
      have c30b1 : (t269 != 1) = false := bne_eq_false_iff_eq.mpr c30
      clear c30
      by_cases c31 : t266 < (x5_1.length : Int)
      ·rw [if_pos c31] at H
       have c31b0 : decide (t266 < (x5_1.length : Int)) = true := decide_eq_true c31
       clear c31
       by_cases c32 : 0 ≤ t266
       ·rw [if_pos c32] at H
        have c32b0 : decide (0 ≤ t266) = true := decide_eq_true c32
        clear c32
        replace H := Option.bind_eq_some_iff.mp H
        obtain ⟨t287, A330, H⟩ := H
        replace H : (if t287 = true then ((spec_l1Cur_line.f s0_0 t270 t271).bind fun bt288 => (if bt288.1.size + 1 ≤ 9223372036854775807 then (spec_l1Cur_other.l0 k1 (x5_1.set (t266 : Int).toNat (bt288.1 ++ (⟨#[10]⟩ : ByteArray))) (wrap64 (x6_1 - 1)) s0_0 bt288.2.1 bt288.2.2) else (none))) else (spec_l1Cur_other.l0 k1 x5_1 (wrap64 (x6_1 - 1)) s0_0 t270 t271)) = some (r1, r2, r3) := H
        have A33 := am A330
        clear A330
        by_cases c34 : t287 = true
        ·subst c34
         have H1 : ((spec_l1Cur_line.f s0_0 t270 t271).bind fun bt288 => (if bt288.1.size + 1 ≤ 9223372036854775807 then (spec_l1Cur_other.l0 k1 (x5_1.set (t266 : Int).toNat (bt288.1 ++ (⟨#[10]⟩ : ByteArray))) (wrap64 (x6_1 - 1)) s0_0 bt288.2.1 bt288.2.2) else (none))) = some (r1, r2, r3) := by rw [if_pos rfl] at H; exact H
         clear H
         have H := H1
         clear H1
         replace H := Option.bind_eq_some_iff.mp H
         obtain ⟨⟨t288, t289, t290⟩, A350, H⟩ := H
         replace H : (if t288.size + 1 ≤ 9223372036854775807 then (spec_l1Cur_other.l0 k1 (x5_1.set (t266 : Int).toNat (t288 ++ (⟨#[10]⟩ : ByteArray))) (wrap64 (x6_1 - 1)) s0_0 t289 t290) else (none)) = some (r1, r2, r3) := H
         have A35 := am A350
         clear A350
         by_cases c36 : t288.size + 1 ≤ 9223372036854775807
         ·rw [if_pos c36] at H
          have c36b0 := eq_true c36
          have c36b1 : decide (t288.size + 1 ≤ 9223372036854775807) = true := decide_eq_true c36
          try have c36b2 : (9223372036854775807 < t288.size + 1) = False := eq_false (Nat.not_lt.2 c36)
          obtain ⟨y291, hy291⟩ : ∃ y_ : List ByteArray, y_ = (x5_1.set (t266 : Int).toNat (t288 ++ (⟨#[10]⟩ : ByteArray))) := ⟨_, rfl⟩
          replace H : (spec_l1Cur_other.l0 k1 y291 (wrap64 (x6_1 - 1)) s0_0 t289 t290) = some (r1, r2, r3) := by first | (rw [hy291]; with_reducible exact H) | (have H2_ := (Option.bind_some _ _).symm.trans H; rw [hy291]; with_reducible exact H2_) | (have H2_ := (Option.bind_some _ _).symm.trans H; with_reducible exact H2_) | with_reducible exact H | (rw [hy291]; exact H) | exact H
          have Ny291 := am hy291
          clear hy291
          have H' := am H
          clear H
          obtain ⟨Ao38, co38, eo38⟩ := Kd.R_slice HO_5.out
          subst eo38
          go_wp2_with (first | ((with_reducible refine gateC (f := 62) rfl ?_); refine goesL_ (some 21) rfl rfl Try.func62 (by kernel_rfl) rfl #[.pointer (some ⟨g, 0, none⟩), .int .i64 (wrap64 ((x5_1.length : Int) + 1))] rfl zm ?_; (with_reducible refine (spec_l1Cur_pick.calls g s0_0 x1001_1 x1002_1 (wrap64 ((x5_1.length : Int) + 1)) t266 t267 t268 w0 _ ?side1 ?side2 A8.out).mono ?_); (case side1 => exact zi); (case side2 => exact zj); rintro e w39 ⟨rfl, hi, hb, hk⟩; refine ⟨_, rfl, ?_⟩; have n0_ := am (Kd.R_mono (Kd.R_keep (IsS87.apart (show IsS87 w0 _ g s0_0 x1001_1 x1002_1 from zi) (zr HO_5.out) (by decide)) hk (fun _ h => h.2)) (fun _ h => h.1)); have n1_ := am (KeepBut.trans zh hk (.inl rfl)); have n2_ := am (hb); have n3_ := am (hi); clear HO_5; clear HK; clear HB; clear HI0; have HO_5 := n0_; have HK := n1_; have HB := n2_; have HI0 := n3_; clear n0_ n1_ n2_ n3_; (try clear hb); (try clear hk); (try clear hi)) | ((with_reducible refine gateC (f := 62) rfl ?_); refine goesL_ (some 23) rfl rfl Try.func62 (by kernel_rfl) rfl #[.pointer (some ⟨g, 0, none⟩), .int .i64 3] rfl zm ?_; (with_reducible refine (spec_l1Cur_pick.calls g s0_0 t267 t268 3 t269 t270 t271 w0 _ ?side1 ?side2 A9.out).mono ?_); (case side1 => exact zi); (case side2 => exact zj); rintro e w40 ⟨rfl, hi, hb, hk⟩; refine ⟨_, rfl, ?_⟩; have n0_ := am (Kd.R_mono (Kd.R_keep (IsS87.apart (show IsS87 w0 _ g s0_0 t267 t268 from zi) (zr HO_5.out) (by decide)) hk (fun _ h => h.2)) (fun _ h => h.1)); have n1_ := am (KeepBut.trans zh hk (.inl rfl)); have n2_ := am (hb); have n3_ := am (hi); clear HO_5; clear HK; clear HB; clear HI0; have HO_5 := n0_; have HK := n1_; have HB := n2_; have HI0 := n3_; clear n0_ n1_ n2_ n3_; (try clear hb); (try clear hk); (try clear hi); have p286 : 0 ≤ (t266 : Int) := oa; have q286 : t266 < (x5_1.length : Int) := oa; obtain ⟨ad286, e286, hx286_0⟩ := Kd.at_string (Kd.R_reads' HO_5.out).2.2 t266 p286 q286; cases e286; replace p286 := eq_true p286; replace q286 := eq_true q286) | (go_at_call 127; (with_reducible refine (spec_l1Ends.calls (rdOf ByteArray.empty x5_1 t266) true _ A33.out).mono ?_); rintro e w' ⟨rfl, ⟨nd, rfl⟩⟩; (try (rw [drewN_self w40]; generalize hq_ : World.drewN w40 _ = w40; have n0_ : Aside0 (Kd.R Kd.string 9 w40 w.heap.size (fun _ => True) (.slice (some ad286) x5_1.length co38) x5_1) := ⟨by rw [← hq_]; exact (zr HO_5.out)⟩; have n1_ : Aside0 (IsS87 w0 w40 g s0_0 t270 t271) := ⟨by rw [← hq_]; exact zi⟩; have n2_ : Aside0 (KeepBut w w40 g none) := ⟨by rw [← hq_]; exact zh⟩; have n3_ : Aside0 (Below w0.heap.size w0 w40) := ⟨by rw [← hq_]; exact zj⟩; clear HO_5 HI0 HK HB hq_; have HO_5 := n0_; have HI0 := n1_; have HK := n2_; have HB := n3_; clear n0_ n1_ n2_ n3_))) | ((with_reducible refine gateC (f := 71) rfl ?_); refine goesL_ (some 76) rfl rfl Try.func71 (by kernel_rfl) rfl #[.pointer (some ⟨g, 0, none⟩)] rfl zm ?_; (with_reducible refine (spec_l1Cur_line.calls g s0_0 t270 t271 t288 t289 t290 w0 _ ?side1 ?side2 A35.out).mono ?_); (case side1 => exact zi); (case side2 => exact zj); rintro e w41 ⟨rfl, hi, hb, hk⟩; refine ⟨_, rfl, ?_⟩; have n0_ := am (Kd.R_mono (Kd.R_keep (IsS87.apart (show IsS87 w0 _ g s0_0 t270 t271 from zi) (zr HO_5.out) (by decide)) hk (fun _ h => h.2)) (fun _ h => h.1)); have n1_ := am (KeepBut.trans zh hk (.inl rfl)); have n2_ := am (hb); have n3_ := am (hi); clear HO_5; clear HK; clear HB; clear HI0; have HO_5 := n0_; have HK := n1_; have HB := n2_; have HI0 := n3_; clear n0_ n1_ n2_ n3_; (try clear hb); (try clear hk); (try clear hi); have p37 : 0 ≤ (t266 : Int) := oa; have q37 : (t266 : Int) < ((x5_1.length : Int) : Int) := oa; obtain ⟨go37, co37, eo37, gb37, gl37, cl37, HG37⟩ := Kd.R_form HO_5.out (by omega); (first | cases eo37 | (injection eo37 with ea_ en_ ec_; (first | subst ea_ | (injection ea_ with ea_; subst ea_)); subst ec_; clear en_)); have GB37 := am gb37; have GG37 := am HG37; clear gb37 gl37 HG37; (first | simp only [add_plain] at hx286_0 | skip); obtain ⟨hx37_0, hf37_0⟩ := Kd.R_celln (⟨#[]⟩ : ByteArray) HO_5.out (t266 : Int) p37 q37; replace p37 := eq_true p37; replace q37 := eq_true q37; obtain ⟨hy42_, hz42_⟩ := Kd.R_celln (⟨#[]⟩ : ByteArray) HO_5.out (t266 : Int) oa oa; have HP42 := Kd.R_putg HO_5.out (t266 : Int) (t288 ++ (⟨#[10]⟩ : ByteArray))) | ((with_reducible refine gate_store (t := 9) (p := 78) rfl ?_); refine store_event (t := 9) (p := 78) (v := ?vo_w43) (w1 := (w41.setCell ⟨go37, (t266 : Int).toNat, none⟩ (.string (t288 ++ (⟨#[10]⟩ : ByteArray))))) ?hg ?ho ?hn ?hr ?_; (case ho => rfl); (case hg => rfl); (case hn => rfl); (case hr => first | (go_simp; done) | (go_simp; rfl)); intro w43 hw; have hg : w41.grownBy w43 (some go37) := (by rw [hw]; exact HP42.2); have hp_ : Kd.R Kd.string 9 w43 w.heap.size (fun _ => True) (.slice (some ⟨go37, 0, none⟩) x5_1.length co38) y291 := (by rw [hw, Ny291.out]; exact HP42.1); clear HP42; have n0_ := am (hp_); have n1_ := am (IsS87.grown zi hg (IsS87.own_ne HI0.out HO_5.out (by decide))); have n2_ := am ((by rw [hw]; exact below_set (HB.out) (Nat.le_trans HL.out GB37.out) : Below w0.heap.size w0 w43)); have n3_ := am (KeepBut.trans zh (KeepBut.of_grown hg g) (Kd.R_base2 HO_5.out)); clear HO_5; clear HI0; clear HB; clear HK; have HO_5 := n0_; have HI0 := n1_; have HB := n2_; have HK := n3_; clear n0_ n1_ n2_ n3_; clear hg hw hp_))
          go_roundg k1
          case measure => have := HK1.out; omega
          case rel => exact ⟨(y291), (wrap64 (x6_1 - 1)), (t289), (t290), zf, H', ⟨by have := HK1.out; omega⟩, ⟨by (with_reducible repeat (first | apply Kd.R_alloc | apply Kd.R_drewN | apply Kd.R_drew)); exact HO_5.out⟩, ⟨by repeat (first | (with_reducible first | exact HI0.out | apply IsS87.alloc | apply IsS87.drewN | apply IsS87.drew | apply IsS87.set_1 | apply IsS87.set_2) | exact HI0.out)⟩, ⟨by repeat (first | (with_reducible first | exact HK.out | apply KeepBut.set_ | apply keep_drewN | apply keep_drew | apply keep_alloc) | exact HK.out)⟩, ⟨by repeat (first | (with_reducible first | exact HB.out | apply below_alloc | apply pw_below_drewN | apply below_drew1 | refine below_set ?_ (IsS87.ge HI0.out)) | exact HB.out)⟩⟩
         ·rw [if_neg c36] at H
          exact absurd H (by simp)
        ·replace c34 := Bool.eq_false_iff.mpr c34
         subst c34
         have H1 : (spec_l1Cur_other.l0 k1 x5_1 (wrap64 (x6_1 - 1)) s0_0 t270 t271) = some (r1, r2, r3) := by rw [if_neg (show ¬ (false = true) by decide)] at H; exact H
         clear H
         have H := H1
         clear H1
         have H' := am H
         clear H
         obtain ⟨Ao44, co44, eo44⟩ := Kd.R_slice HO_5.out
         subst eo44
         go_wp2_with (first | ((with_reducible refine gateC (f := 62) rfl ?_); refine goesL_ (some 21) rfl rfl Try.func62 (by kernel_rfl) rfl #[.pointer (some ⟨g, 0, none⟩), .int .i64 (wrap64 ((x5_1.length : Int) + 1))] rfl zm ?_; (with_reducible refine (spec_l1Cur_pick.calls g s0_0 x1001_1 x1002_1 (wrap64 ((x5_1.length : Int) + 1)) t266 t267 t268 w0 _ ?side1 ?side2 A8.out).mono ?_); (case side1 => exact zi); (case side2 => exact zj); rintro e w45 ⟨rfl, hi, hb, hk⟩; refine ⟨_, rfl, ?_⟩; have n0_ := am (Kd.R_mono (Kd.R_keep (IsS87.apart (show IsS87 w0 _ g s0_0 x1001_1 x1002_1 from zi) (zr HO_5.out) (by decide)) hk (fun _ h => h.2)) (fun _ h => h.1)); have n1_ := am (KeepBut.trans zh hk (.inl rfl)); have n2_ := am (hb); have n3_ := am (hi); clear HO_5; clear HK; clear HB; clear HI0; have HO_5 := n0_; have HK := n1_; have HB := n2_; have HI0 := n3_; clear n0_ n1_ n2_ n3_; (try clear hb); (try clear hk); (try clear hi)) | ((with_reducible refine gateC (f := 62) rfl ?_); refine goesL_ (some 23) rfl rfl Try.func62 (by kernel_rfl) rfl #[.pointer (some ⟨g, 0, none⟩), .int .i64 3] rfl zm ?_; (with_reducible refine (spec_l1Cur_pick.calls g s0_0 t267 t268 3 t269 t270 t271 w0 _ ?side1 ?side2 A9.out).mono ?_); (case side1 => exact zi); (case side2 => exact zj); rintro e w46 ⟨rfl, hi, hb, hk⟩; refine ⟨_, rfl, ?_⟩; have n0_ := am (Kd.R_mono (Kd.R_keep (IsS87.apart (show IsS87 w0 _ g s0_0 t267 t268 from zi) (zr HO_5.out) (by decide)) hk (fun _ h => h.2)) (fun _ h => h.1)); have n1_ := am (KeepBut.trans zh hk (.inl rfl)); have n2_ := am (hb); have n3_ := am (hi); clear HO_5; clear HK; clear HB; clear HI0; have HO_5 := n0_; have HK := n1_; have HB := n2_; have HI0 := n3_; clear n0_ n1_ n2_ n3_; (try clear hb); (try clear hk); (try clear hi); have p286 : 0 ≤ (t266 : Int) := oa; have q286 : t266 < (x5_1.length : Int) := oa; obtain ⟨ad286, e286, hx286_0⟩ := Kd.at_string (Kd.R_reads' HO_5.out).2.2 t266 p286 q286; cases e286; replace p286 := eq_true p286; replace q286 := eq_true q286) | (go_at_call 127; (with_reducible refine (spec_l1Ends.calls (rdOf ByteArray.empty x5_1 t266) false _ A33.out).mono ?_); rintro e w' ⟨rfl, ⟨nd, rfl⟩⟩))
         go_roundg k1
         case measure => have := HK1.out; omega
         case rel => exact ⟨(x5_1), (wrap64 (x6_1 - 1)), (t270), (t271), zf, H', ⟨by have := HK1.out; omega⟩, ⟨by (with_reducible repeat (first | apply Kd.R_alloc | apply Kd.R_drewN | apply Kd.R_drew)); exact HO_5.out⟩, ⟨by repeat (first | (with_reducible first | exact HI0.out | apply IsS87.alloc | apply IsS87.drewN | apply IsS87.drew | apply IsS87.set_1 | apply IsS87.set_2) | exact HI0.out)⟩, ⟨by repeat (first | (with_reducible first | exact HK.out | apply KeepBut.set_ | apply keep_drewN | apply keep_drew | apply keep_alloc) | exact HK.out)⟩, ⟨by repeat (first | (with_reducible first | exact HB.out | apply below_alloc | apply pw_below_drewN | apply below_drew1 | refine below_set ?_ (IsS87.ge HI0.out)) | exact HB.out)⟩⟩
       ·rw [if_neg c32] at H
        exact absurd H (by simp)
      ·rw [if_neg c31] at H
       have c31b0 : decide (t266 < (x5_1.length : Int)) = false := decide_eq_false c31
       clear c31
       have H' := am H
       clear H
       obtain ⟨Ao47, co47, eo47⟩ := Kd.R_slice HO_5.out
       subst eo47
       go_wp2_with (first | ((with_reducible refine gateC (f := 62) rfl ?_); refine goesL_ (some 21) rfl rfl Try.func62 (by kernel_rfl) rfl #[.pointer (some ⟨g, 0, none⟩), .int .i64 (wrap64 ((x5_1.length : Int) + 1))] rfl zm ?_; (with_reducible refine (spec_l1Cur_pick.calls g s0_0 x1001_1 x1002_1 (wrap64 ((x5_1.length : Int) + 1)) t266 t267 t268 w0 _ ?side1 ?side2 A8.out).mono ?_); (case side1 => exact zi); (case side2 => exact zj); rintro e w48 ⟨rfl, hi, hb, hk⟩; refine ⟨_, rfl, ?_⟩; have n0_ := am (Kd.R_mono (Kd.R_keep (IsS87.apart (show IsS87 w0 _ g s0_0 x1001_1 x1002_1 from zi) (zr HO_5.out) (by decide)) hk (fun _ h => h.2)) (fun _ h => h.1)); have n1_ := am (KeepBut.trans zh hk (.inl rfl)); have n2_ := am (hb); have n3_ := am (hi); clear HO_5; clear HK; clear HB; clear HI0; have HO_5 := n0_; have HK := n1_; have HB := n2_; have HI0 := n3_; clear n0_ n1_ n2_ n3_; (try clear hb); (try clear hk); (try clear hi)) | ((with_reducible refine gateC (f := 62) rfl ?_); refine goesL_ (some 23) rfl rfl Try.func62 (by kernel_rfl) rfl #[.pointer (some ⟨g, 0, none⟩), .int .i64 3] rfl zm ?_; (with_reducible refine (spec_l1Cur_pick.calls g s0_0 t267 t268 3 t269 t270 t271 w0 _ ?side1 ?side2 A9.out).mono ?_); (case side1 => exact zi); (case side2 => exact zj); rintro e w49 ⟨rfl, hi, hb, hk⟩; refine ⟨_, rfl, ?_⟩; have n0_ := am (Kd.R_mono (Kd.R_keep (IsS87.apart (show IsS87 w0 _ g s0_0 t267 t268 from zi) (zr HO_5.out) (by decide)) hk (fun _ h => h.2)) (fun _ h => h.1)); have n1_ := am (KeepBut.trans zh hk (.inl rfl)); have n2_ := am (hb); have n3_ := am (hi); clear HO_5; clear HK; clear HB; clear HI0; have HO_5 := n0_; have HK := n1_; have HB := n2_; have HI0 := n3_; clear n0_ n1_ n2_ n3_; (try clear hb); (try clear hk); (try clear hi)))
       go_roundg k1
       case measure => have := HK1.out; omega
       case rel => exact ⟨(x5_1), (wrap64 (x6_1 - 1)), (t270), (t271), zf, H', ⟨by have := HK1.out; omega⟩, ⟨by (with_reducible repeat (first | apply Kd.R_alloc | apply Kd.R_drewN | apply Kd.R_drew)); exact HO_5.out⟩, ⟨by repeat (first | (with_reducible first | exact HI0.out | apply IsS87.alloc | apply IsS87.drewN | apply IsS87.drew | apply IsS87.set_1 | apply IsS87.set_2) | exact HI0.out)⟩, ⟨by repeat (first | (with_reducible first | exact HK.out | apply KeepBut.set_ | apply keep_drewN | apply keep_drew | apply keep_alloc) | exact HK.out)⟩, ⟨by repeat (first | (with_reducible first | exact HB.out | apply below_alloc | apply pw_below_drewN | apply below_drew1 | refine below_set ?_ (IsS87.ge HI0.out)) | exact HB.out)⟩⟩
     ·rw [if_neg c30] at H
      have c30b0 : (t269 == 1) = false := beq_eq_false_iff_ne.mpr c30
      have c30b1 : (t269 != 1) = true := bne_iff_ne.mpr c30
      have HC50 := am H
      clear H
      obtain ⟨Ao51, co51, eo51⟩ := Kd.R_slice HO_5.out
      subst eo51
      go_upto_region 7 with (first | ((with_reducible refine gateC (f := 62) rfl ?_); refine goesL_ (some 21) rfl rfl Try.func62 (by kernel_rfl) rfl #[.pointer (some ⟨g, 0, none⟩), .int .i64 (wrap64 ((x5_1.length : Int) + 1))] rfl zm ?_; (with_reducible refine (spec_l1Cur_pick.calls g s0_0 x1001_1 x1002_1 (wrap64 ((x5_1.length : Int) + 1)) t266 t267 t268 w0 _ ?side1 ?side2 A8.out).mono ?_); (case side1 => exact zi); (case side2 => exact zj); rintro e w52 ⟨rfl, hi, hb, hk⟩; refine ⟨_, rfl, ?_⟩; have n0_ := am (Kd.R_mono (Kd.R_keep (IsS87.apart (show IsS87 w0 _ g s0_0 x1001_1 x1002_1 from zi) (zr HO_5.out) (by decide)) hk (fun _ h => h.2)) (fun _ h => h.1)); have n1_ := am (KeepBut.trans zh hk (.inl rfl)); have n2_ := am (hb); have n3_ := am (hi); clear HO_5; clear HK; clear HB; clear HI0; have HO_5 := n0_; have HK := n1_; have HB := n2_; have HI0 := n3_; clear n0_ n1_ n2_ n3_; (try clear hb); (try clear hk); (try clear hi)) | ((with_reducible refine gateC (f := 62) rfl ?_); refine goesL_ (some 23) rfl rfl Try.func62 (by kernel_rfl) rfl #[.pointer (some ⟨g, 0, none⟩), .int .i64 3] rfl zm ?_; (with_reducible refine (spec_l1Cur_pick.calls g s0_0 t267 t268 3 t269 t270 t271 w0 _ ?side1 ?side2 A9.out).mono ?_); (case side1 => exact zi); (case side2 => exact zj); rintro e w53 ⟨rfl, hi, hb, hk⟩; refine ⟨_, rfl, ?_⟩; have n0_ := am (Kd.R_mono (Kd.R_keep (IsS87.apart (show IsS87 w0 _ g s0_0 t267 t268 from zi) (zr HO_5.out) (by decide)) hk (fun _ h => h.2)) (fun _ h => h.1)); have n1_ := am (KeepBut.trans zh hk (.inl rfl)); have n2_ := am (hb); have n3_ := am (hi); clear HO_5; clear HK; clear HB; clear HI0; have HO_5 := n0_; have HK := n1_; have HB := n2_; have HI0 := n3_; clear n0_ n1_ n2_ n3_; (try clear hb); (try clear hk); (try clear hi)))
      (try simp only [Act.put, List.setIfInBounds_toArray, List.set_cons_zero, List.set_cons_succ])
      go_cut [31] (fun v31 wc => ∃ (kq : Nat) (x31_49 : Bool), v31 = .bool x31_49 ∧ Aside0 (spec_l1Cur_other.j1 kq x5_1 x6_1 t266 x31_49 s0_0 t270 t271 = some (r1, r2, r3)) ∧ Aside0 (kq ≤ k1) ∧ Aside0 (Kd.R Kd.string 9 wc w.heap.size (fun _ => True) (.slice Ao51 x5_1.length co51) x5_1) ∧ Aside0 (IsS87 w0 wc g s0_0 t270 t271) ∧ Aside0 (KeepBut w wc g none) ∧ Aside0 (Below w0.heap.size w0 wc))
      case first =>
       have H := HC50.out
       clear HC50
       by_cases c54 : t266 < (x5_1.length : Int)
       ·rw [if_pos c54] at H
        have c54b0 : decide (t266 < (x5_1.length : Int)) = true := decide_eq_true c54
        clear c54
        (first | rw [c54b0] | (simp only [i64_w, i32_w]; rw [c54b0]) | skip)
        have H' := am H
        clear H
        go_wp2
        go_meet
        case rel => exact ⟨_, (true), zf, H', ⟨by have := HK1.out; first | omega | exact Nat.le_refl _⟩, ⟨by (with_reducible repeat (first | apply Kd.R_alloc | apply Kd.R_drewN | apply Kd.R_drew)); exact HO_5.out⟩, ⟨by repeat (first | (with_reducible first | exact HI0.out | apply IsS87.alloc | apply IsS87.drewN | apply IsS87.drew | apply IsS87.set_1 | apply IsS87.set_2) | exact HI0.out)⟩, ⟨by repeat (first | (with_reducible first | exact HK.out | apply KeepBut.set_ | apply keep_drewN | apply keep_drew | apply keep_alloc) | exact HK.out)⟩, ⟨by repeat (first | (with_reducible first | exact HB.out | apply below_alloc | apply pw_below_drewN | apply below_drew1 | refine below_set ?_ (IsS87.ge HI0.out)) | exact HB.out)⟩⟩
       ·rw [if_neg c54] at H
        have c54b0 : decide (t266 < (x5_1.length : Int)) = false := decide_eq_false c54
        clear c54
        (first | rw [c54b0] | (simp only [i64_w, i32_w]; rw [c54b0]) | skip)
        replace H := Option.bind_eq_some_iff.mp H
        obtain ⟨t292, A550, H⟩ := H
        replace H : (spec_l1Cur_other.j1 k1 x5_1 x6_1 t266 t292 s0_0 t270 t271) = some (r1, r2, r3) := H
        have A55 := am A550
        clear A550
        have H' := am H
        clear H
        go_wp2_with (first | (go_at_call 152; (with_reducible refine (spec_l1Whole.calls _ _ x5_1 t292 _ ?side1 ?side2 A55.out).mono ?_); (case side1 => repeat (first | exact (Kd.R_reads' HO_5.out).2.2 | (with_reducible refine Kd.C_alloc ?_ _) | (with_reducible refine Kd.C_drewN ?_ _) | (with_reducible refine Kd.C_drew ?_))); (case side2 => exact (Kd.R_reads' HO_5.out).2.1); rintro e w' ⟨rfl, ⟨nd, rfl⟩⟩))
        go_meet
        case rel => exact ⟨_, (t292), zf, H', ⟨by have := HK1.out; first | omega | exact Nat.le_refl _⟩, ⟨by (with_reducible repeat (first | apply Kd.R_alloc | apply Kd.R_drewN | apply Kd.R_drew)); exact HO_5.out⟩, ⟨by repeat (first | (with_reducible first | exact HI0.out | apply IsS87.alloc | apply IsS87.drewN | apply IsS87.drew | apply IsS87.set_1 | apply IsS87.set_2) | exact HI0.out)⟩, ⟨by repeat (first | (with_reducible first | exact HK.out | apply KeepBut.set_ | apply keep_drewN | apply keep_drew | apply keep_alloc) | exact HK.out)⟩, ⟨by repeat (first | (with_reducible first | exact HB.out | apply below_alloc | apply pw_below_drewN | apply below_drew1 | refine below_set ?_ (IsS87.ge HI0.out)) | exact HB.out)⟩⟩
      case rest =>
       clear HC50
       try clear c1
       try clear c2
       try clear p2
       try clear q2
       try clear hx2
       try clear c3
       try clear p3
       try clear q3
       try clear hx3
       try clear hf3
       try clear c5
       try clear c6
       try clear p6
       try clear c7
       try clear c7b0
       try clear c10
       try clear c10b0
       try clear c10b1
       try clear c11
       try clear c11b0
       try clear c12
       try clear c12b0
       try clear c12b1
       try clear c13
       try clear c13b0
       try clear c13b1
       try clear c16
       try clear c16b0
       try clear c16b1
       try clear c17
       try clear c17b0
       try clear c17b1
       try clear c18
       try clear q23
       try clear c25
       try clear q25
       try clear p28
       try clear q28
       try clear hx28
       try clear c30
       try clear c30b0
       try clear c30b1
       try clear c31
       try clear c31b0
       try clear c32
       try clear c32b0
       try clear c34
       try clear c36
       try clear c36b0
       try clear c36b1
       try clear c36b2
       try clear p37
       try clear q37
       try clear hx37
       try clear hf37
       try clear c54
       try clear c54b0
       try clear hx286_0
       try clear hx37_0
       try clear p2
       try clear p286
       try clear p37
       try clear q025
       try clear q23
       try clear q25
       try clear q286
       try clear q37
       obtain ⟨kq, x31_49, rfl, HA, HJ49, HO_5, HI0, HK, HB⟩ := hcut
       cases kq with
       | zero => exact absurd HA.out (by simp [spec_l1Cur_other.j1])
       | succ kj49 =>
        have H := HA.out
        clear HA
        simp only [spec_l1Cur_other.j1] at H
        by_cases c56 : x31_49 = true
        ·subst c56
         have H1 : (if 0 ≤ t266 then (if t266 ≤ (x5_1.length : Int) then ((spec_l1OwnT.f (x5_1.take (t266 : Int).toNat)).bind fun t297 => ((spec_l1Cur_line.f s0_0 t270 t271).bind fun bt300 => (if bt300.1.size + 1 ≤ 9223372036854775807 then (if t297.length < 8796093022208 then ((some (t297 ++ [bt300.1 ++ (⟨#[10]⟩ : ByteArray)] : List ByteArray)).bind fun y303 => ((some (x5_1.drop (t266 : Int).toNat : List ByteArray)).bind fun y306 => (if y303.length + y306.length < 8796093022208 then (spec_l1Cur_other.l0 kj49 (y303 ++ y306) (wrap64 (x6_1 - 1)) s0_0 bt300.2.1 bt300.2.2) else (none)))) else (none)) else (none)))) else (none)) else (none)) = some (r1, r2, r3) := by rw [if_pos rfl] at H; exact H
         clear H
         have H := H1
         clear H1
         by_cases c57 : 0 ≤ t266
         ·rw [if_pos c57] at H
          have c57b0 := eq_true c57
          have c57b1 : decide (0 ≤ t266) = true := decide_eq_true c57
          clear c57
          by_cases c58 : t266 ≤ (x5_1.length : Int)
          ·rw [if_pos c58] at H
           have c58b0 := eq_true c58
           have c58b1 : decide (t266 ≤ (x5_1.length : Int)) = true := decide_eq_true c58
           clear c58
           obtain ⟨y293, hy293⟩ : ∃ y_ : List ByteArray, y_ = (x5_1.take (t266 : Int).toNat) := ⟨_, rfl⟩
           replace H : ((spec_l1OwnT.f y293).bind fun t297 => ((spec_l1Cur_line.f s0_0 t270 t271).bind fun bt300 => (if bt300.1.size + 1 ≤ 9223372036854775807 then (if t297.length < 8796093022208 then ((some (t297 ++ [bt300.1 ++ (⟨#[10]⟩ : ByteArray)] : List ByteArray)).bind fun y303 => ((some (x5_1.drop (t266 : Int).toNat : List ByteArray)).bind fun y306 => (if y303.length + y306.length < 8796093022208 then (spec_l1Cur_other.l0 kj49 (y303 ++ y306) (wrap64 (x6_1 - 1)) s0_0 bt300.2.1 bt300.2.2) else (none)))) else (none)) else (none)))) = some (r1, r2, r3) := by first | (rw [hy293]; with_reducible exact H) | (have H2_ := (Option.bind_some _ _).symm.trans H; rw [hy293]; with_reducible exact H2_) | (have H2_ := (Option.bind_some _ _).symm.trans H; with_reducible exact H2_) | with_reducible exact H | (rw [hy293]; exact H) | exact H
           have Ny293 := am hy293
           clear hy293
           replace H := Option.bind_eq_some_iff.mp H
           obtain ⟨t297, A590, H⟩ := H
           replace H : ((spec_l1Cur_line.f s0_0 t270 t271).bind fun bt300 => (if bt300.1.size + 1 ≤ 9223372036854775807 then (if t297.length < 8796093022208 then ((some (t297 ++ [bt300.1 ++ (⟨#[10]⟩ : ByteArray)] : List ByteArray)).bind fun y303 => ((some (x5_1.drop (t266 : Int).toNat : List ByteArray)).bind fun y306 => (if y303.length + y306.length < 8796093022208 then (spec_l1Cur_other.l0 kj49 (y303 ++ y306) (wrap64 (x6_1 - 1)) s0_0 bt300.2.1 bt300.2.2) else (none)))) else (none)) else (none))) = some (r1, r2, r3) := H
           have A59 := am A590
           clear A590
           replace H := Option.bind_eq_some_iff.mp H
           obtain ⟨⟨t300, t301, t302⟩, A600, H⟩ := H
           replace H : (if t300.size + 1 ≤ 9223372036854775807 then (if t297.length < 8796093022208 then ((some (t297 ++ [t300 ++ (⟨#[10]⟩ : ByteArray)] : List ByteArray)).bind fun y303 => ((some (x5_1.drop (t266 : Int).toNat : List ByteArray)).bind fun y306 => (if y303.length + y306.length < 8796093022208 then (spec_l1Cur_other.l0 kj49 (y303 ++ y306) (wrap64 (x6_1 - 1)) s0_0 t301 t302) else (none)))) else (none)) else (none)) = some (r1, r2, r3) := H
           have A60 := am A600
           clear A600
           by_cases c61 : t300.size + 1 ≤ 9223372036854775807
           ·rw [if_pos c61] at H
            have c61b0 := eq_true c61
            have c61b1 : decide (t300.size + 1 ≤ 9223372036854775807) = true := decide_eq_true c61
            try have c61b2 : (9223372036854775807 < t300.size + 1) = False := eq_false (Nat.not_lt.2 c61)
            by_cases c62 : t297.length < 8796093022208
            ·rw [if_pos c62] at H
             have LMc62 := am c62
             clear c62
             obtain ⟨y303, hy303⟩ : ∃ y_ : List ByteArray, y_ = (t297 ++ [t300 ++ (⟨#[10]⟩ : ByteArray)]) := ⟨_, rfl⟩
             replace H : ((some (x5_1.drop (t266 : Int).toNat : List ByteArray)).bind fun y306 => (if y303.length + y306.length < 8796093022208 then (spec_l1Cur_other.l0 kj49 (y303 ++ y306) (wrap64 (x6_1 - 1)) s0_0 t301 t302) else (none))) = some (r1, r2, r3) := by first | (rw [hy303]; with_reducible exact H) | (have H2_ := (Option.bind_some _ _).symm.trans H; rw [hy303]; with_reducible exact H2_) | (have H2_ := (Option.bind_some _ _).symm.trans H; with_reducible exact H2_) | with_reducible exact H | (rw [hy303]; exact H) | exact H
             have Ny303 := am hy303
             clear hy303
             have c63b0 := eq_true (oa : 0 ≤ t266)
             have c64b0 := eq_true (oa : t266 ≤ (x5_1.length : Int))
             obtain ⟨y306, hy306⟩ : ∃ y_ : List ByteArray, y_ = (x5_1.drop (t266 : Int).toNat) := ⟨_, rfl⟩
             replace H : (if y303.length + y306.length < 8796093022208 then (spec_l1Cur_other.l0 kj49 (y303 ++ y306) (wrap64 (x6_1 - 1)) s0_0 t301 t302) else (none)) = some (r1, r2, r3) := by first | (rw [hy306]; with_reducible exact H) | (have H2_ := (Option.bind_some _ _).symm.trans H; rw [hy306]; with_reducible exact H2_) | (have H2_ := (Option.bind_some _ _).symm.trans H; with_reducible exact H2_) | with_reducible exact H | (rw [hy306]; exact H) | exact H
             have Ny306 := am hy306
             clear hy306
             by_cases c65 : y303.length + y306.length < 8796093022208
             ·rw [if_pos c65] at H
              have LMc65 := am c65
              clear c65
              obtain ⟨y310, hy310⟩ : ∃ y_ : List ByteArray, y_ = (y303 ++ y306) := ⟨_, rfl⟩
              replace H : (spec_l1Cur_other.l0 kj49 y310 (wrap64 (x6_1 - 1)) s0_0 t301 t302) = some (r1, r2, r3) := by first | (rw [hy310]; with_reducible exact H) | (have H2_ := (Option.bind_some _ _).symm.trans H; rw [hy310]; with_reducible exact H2_) | (have H2_ := (Option.bind_some _ _).symm.trans H; with_reducible exact H2_) | with_reducible exact H | (rw [hy310]; exact H) | exact H
              have Ny310 := am hy310
              clear hy310
              have H' := am H
              clear H
              try go_wp2
              have n0_ := am (Kd.R_drew HO_5.out)
              have n1_ := am (IsS87.drew HI0.out)
              have n2_ := am (keep_drew HK.out)
              have n3_ := am (below_drew1 HB.out)
              clear HO_5
              clear HI0
              clear HK
              clear HB
              have HO_5 := n0_
              have HI0 := n1_
              have HK := n2_
              have HB := n3_
              clear n0_ n1_ n2_ n3_
              have q67 : (t266 : Int) ≤ ((x5_1.length : Int) : Int) := oa
              obtain ⟨i067, hi067, _, hsz67, _⟩ := info_parts info9
              have hroom67 : x5_1.length ≤ co51 := (Kd.R_reads' HO_5.out).2.1
              have hC67 : Kd.C Kd.string _ Ao51 x5_1.length x5_1 := (Kd.R_reads' HO_5.out).2.2
              have hcut67 := cut_to (P := Try.prog) 24 9 .i64 Try.underlying24 hi067 Ao51 x5_1.length co51 t266 oa q67 hroom67
              have hr67 := Kd.C_take (m := (t266 : Int).toNat) hC67 (by omega)
              have hy67 : y293.length = (t266 : Int).toNat := (by rw [Ny293.out, List.length_take]; omega)
              rw [← Ny293.out] at hr67
              rw [← hy67] at hcut67
              have HR296 := am hr67
              have HC296 := am (show y293.length ≤ co51 from by omega)
              clear hr67 hC67 hroom67 hi067 hsz67
              have KY67 := am hy67
              clear hy67
              have KL67 := am (show (t266 : Int).toNat ≤ x5_1.length from by omega)
              replace q67 := eq_true q67
              refine start_ (n := 14) (S := fun w' => True) (ds := []) #[O,O,O,O,O,O,O,O,O,O,O,O,O,O] (by kernel_rfl) rfl rfl trivial (fun hHeld => ?_); refine with_tabW spec_l1Cur_other.tab8 spec_l1Cur_other.bits8 (fun HT_ HW_ => ?_)
              generalize wc.drew = w66 at HO_5 HI0 HK HB HR296 hHeld ⊢
              refine pure_ (i := 0) (N := some 32) (v := ?_) (a' := ?_) #[Y,O,O,O,O,O,O,O,O,O,O,O,O,O] rfl rfl zx (fun _ _ _ h => h) (Or.inl ⟨by rfl, ?_⟩) ?_ ?_
              rotate_left; (intro w'; go_simp; with_reducible rfl); rotate_left; (simp only [Act.put,qa,qb,qc,i64_w,i32_w]; rfl)
              refine pure_ (i := 1) (N := some 33) (v := ?_) (a' := ?_) #[Y,Y,O,O,O,O,O,O,O,O,O,O,O,O] rfl rfl zx (fun _ _ _ h => h) (Or.inl ⟨by rfl, ?_⟩) ?_ ?_
              rotate_left; (intro w'; go_simp; with_reducible rfl); rotate_left; (simp only [Act.put,qa,qb,qc,i64_w,i32_w]; rfl)
              refine pure_ (i := 2) (N := some 34) (v := ?_) (a' := ?_) #[Y,Y,Y,O,O,O,O,O,O,O,O,O,O,O] rfl rfl zx (fun _ _ _ h => h) (Or.inl ⟨by rfl, ?_⟩) ?_ ?_
              rotate_left; (intro w'; go_simp; with_reducible rfl); rotate_left; (simp only [Act.put,qa,qb,qc,i64_w,i32_w]; rfl)
              refine pure_ (i := 4) (N := some 36) (v := ?_) (a' := ?_) #[Y,Y,Y,O,Y,O,O,O,O,O,O,O,O,O] rfl rfl zx (fun _ _ _ h => h) (Or.inl ⟨by rfl, ?_⟩) ?_ ?_
              rotate_left; (intro w'; go_simp; with_reducible rfl); rotate_left; (simp only [Act.put,qa,qb,qc,i64_w,i32_w]; rfl)
              refine pure_ (i := 9) (N := some 41) (v := ?_) (a' := ?_) #[Y,Y,Y,O,Y,O,O,O,O,Y,O,O,O,O] rfl rfl zx (fun _ _ _ h => h) (Or.inl ⟨by rfl, ?_⟩) ?_ ?_
              rotate_left; (intro w'; go_simp; with_reducible rfl); rotate_left; (simp only [Act.put,qa,qb,qc,i64_w,i32_w]; rfl)
              refine pure_ (i := 10) (N := some 42) (v := ?_) (a' := ?_) #[Y,Y,Y,O,Y,O,O,O,O,Y,Y,O,O,O] rfl rfl zx (fun _ _ _ h => h) (Or.inl ⟨by rfl, ?_⟩) ?_ ?_
              rotate_left; (intro w'; go_simp; with_reducible rfl); rotate_left; (simp only [Act.put,qa,qb,qc,i64_w,i32_w]; rfl)
                     -- cut ahead
              have q71 : (t266 : Int) ≤ ((x5_1.length : Int) : Int) := oa
              obtain ⟨i071, hi071, _, hsz71, _⟩ := info_parts info9
              have hroom71 : x5_1.length ≤ co51 := (Kd.R_reads' HO_5.out).2.1
              have hC71 : Kd.C Kd.string _ Ao51 x5_1.length x5_1 := (Kd.R_reads' HO_5.out).2.2
              have q071 : (0 : Int) ≤ (t266 : Int) := oa
              have hcut71 := cut_from (P := Try.prog) 24 9 .i64 Try.underlying24 hi071 1 hsz71 Ao51 x5_1.length co51 t266 q071 q71
              obtain ⟨A71, hA71⟩ : ∃ A1, A1 = (if co51 = (t266 : Int).toNat then Ao51 else (Ao51 : Option Addr).map (·.add ((t266 : Int).toNat * 1))) := ⟨_, rfl⟩
              obtain ⟨c71, hc71⟩ : ∃ c1, c1 = co51 - (t266 : Int).toNat := ⟨_, rfl⟩
              have hy71 : y306.length = x5_1.length - (t266 : Int).toNat := (by rw [Ny306.out, List.length_drop] <;> omega)
              rw [← hy71, ← hA71, ← hc71] at hcut71
              have HC309 := am (show y306.length ≤ c71 from by rw [hy71, hc71]; exact Nat.sub_le_sub_right hroom71 _)
              clear hC71 hroom71 hi071 hsz71 hc71
              have KY71 := am hy71
              have KA71 := am hA71
              clear hy71 hA71
              have KL71 := am (show (t266 : Int).toNat ≤ x5_1.length from by omega)
              replace q71 := eq_true q71
              refine pure_ (i := 11) (N := some 43) (v := ?_) (a' := ?_) #[Y,Y,Y,O,Y,O,O,O,O,Y,Y,Y,O,O] rfl rfl zx (fun _ _ _ h => h) (Or.inl ⟨by rfl, ?_⟩) ?_ ?_
              rotate_left; (intro w'; go_simp; with_reducible rfl); rotate_left; (simp only [Act.put,qa,qb,qc,i64_w,i32_w]; rfl)
              refine one_ (i := 3) (N := some 35) #[Y,Y,Y,Y,Y,O,O,O,O,Y,Y,Y,O,O] rfl rfl (one_of HT_.out (by kernel_rfl)) (by decide) (fun K hK => ?_)
              refine goes_ Try.func68 (by kernel_rfl) rfl #[.slice Ao51 y293.length co51] (by rfl) rfl rfl zm ?_
              with_reducible refine (spec_l1OwnT.calls _ _ y293 t297 _ ?side1 ?side2 A59.out).mono ?_
              (case side1 => repeat (first | exact (by repeat (first | (with_reducible exact HR296.out) | (with_reducible refine Kd.C_alloc ?_ _) | (with_reducible refine Kd.C_drewN ?_ _) | (with_reducible refine Kd.C_drew ?_) | exact HR296.out)) | (with_reducible refine Kd.C_alloc ?_ _) | (with_reducible refine Kd.C_drewN ?_ _) | (with_reducible refine Kd.C_drew ?_)))
              (case side2 => exact HC296.out)
              rintro e w68 ⟨v298, rfl, ho0, hb⟩
              refine ⟨_, rfl, ?_⟩
              have n0_ := am (Kd.R_elder' (zr HO_5.out) (Kd.R_base ho0) hb)
              have n1_ := am (Kd.R_lower (Kd.R_new' ho0 (Kd.R_lt (zr HO_5.out))) (keep_size (w := w) (g := g) (row := none) zh))
              have n2_ := am (IsS87.below zi hb)
              have n3_ := am (Kd.C_below (by repeat (first | (with_reducible exact HR296.out) | (with_reducible refine Kd.C_alloc ?_ _) | (with_reducible refine Kd.C_drewN ?_ _) | (with_reducible refine Kd.C_drew ?_) | exact HR296.out)) hb)
              have n4_ := am (KeepBut.trans zh (KeepBut.of_below hb g none) (.inl rfl))
              have n5_ := am (below_step zj hb)
              clear HO_5
              clear HI0
              clear HR296
              clear HK
              clear HB
              have HO_5 := n0_
              have HO299 := n1_
              have HI0 := n2_
              have HR296 := n3_
              have HK := n4_
              have HB := n5_
              clear n0_ n1_ n2_ n3_ n4_ n5_
              (try clear hb)
              (try clear hb2)
              (try clear hk)
              (try clear hi)
              (try clear ho0)
              refine hK.out _ _ trivial (fun hHeld => ?_)
              clear hK K
              refine norm_ (a' := ?_) ?_ ?_
              rotate_left
              ·show Act.put _ (some 35) _ = _
               simp only [Act.put,qa,qb,qc,i64_w,i32_w]
               rfl
              refine one_ (i := 5) (N := some 37) #[Y,Y,Y,Y,Y,Y,O,O,O,Y,Y,Y,O,O] rfl rfl (one_of HT_.out (by kernel_rfl)) (by decide) (fun K hK => ?_)
              refine goes_ Try.func71 (by kernel_rfl) rfl #[.pointer (some ⟨g, 0, none⟩)] (by rfl) rfl rfl zm ?_
              with_reducible refine (spec_l1Cur_line.calls g s0_0 t270 t271 t300 t301 t302 w0 _ ?side1 ?side2 A60.out).mono ?_
              (case side1 => exact zi)
              (case side2 => exact zj)
              rintro e w69 ⟨rfl, hi, hb, hk⟩
              refine ⟨_, rfl, ?_⟩
              have n0_ := am (Kd.R_mono (Kd.R_keep (IsS87.apart (show IsS87 w0 _ g s0_0 t270 t271 from zi) (zr HO_5.out) (by decide)) hk (fun _ h => h.2)) (fun _ h => h.1))
              have n1_ := am (Kd.R_mono (Kd.R_keep (IsS87.apart (show IsS87 w0 _ g s0_0 t270 t271 from zi) (zr HO299.out) (by decide)) hk (fun _ h => h.2)) (fun _ h => h.1))
              have n2_ := am (KeepBut.trans zh hk (.inl rfl))
              have n3_ := am (hb)
              have n4_ := am (hi)
              clear HO_5
              clear HO299
              clear HK
              clear HB
              clear HI0
              have HO_5 := n0_
              have HO299 := n1_
              have HK := n2_
              have HB := n3_
              have HI0 := n4_
              clear n0_ n1_ n2_ n3_ n4_
              (try clear hb)
              (try clear hb2)
              (try clear hk)
              (try clear hi)
              refine hK.out _ _ trivial (fun hHeld => ?_)
              clear hK K
              refine norm_ (a' := ?_) ?_ ?_
              rotate_left
              ·show Act.put _ (some 37) _ = _
               simp only [Act.put,qa,qb,qc,i64_w,i32_w]
               rfl
              refine pure_ (i := 6) (N := some 38) (v := ?_) (a' := ?_) #[Y,Y,Y,Y,Y,Y,Y,O,O,Y,Y,Y,O,O] rfl rfl zx (fun _ _ _ h => h) (Or.inl ⟨by rfl, ?_⟩) ?_ ?_
              rotate_left; (intro w'; go_simp; with_reducible rfl); rotate_left; (simp only [Act.put,qa,qb,qc,i64_w,i32_w]; rfl)
              refine one_ (i := 7) (N := some 39) #[Y,Y,Y,Y,Y,Y,Y,Y,O,Y,Y,Y,O,O] rfl rfl (one_of HT_.out (by kernel_rfl)) (by decide) (fun K hK => ?_)
              refine value_ (w1 := ?_) (v := ?_) (by rfl) rfl ?_ ?_
              rotate_left 2
              ·go_simp
               constructor
               ·rfl
               ·rfl
              refine hK.out _ _ trivial (fun hHeld => ?_)
              clear hK K
              refine norm_ (a' := ?_) ?_ ?_
              rotate_left
              ·show Act.put _ (some 39) _ = _
               simp only [Act.put,qa,qb,qc,i64_w,i32_w]
               rfl
              refine one_ (i := 8) (N := some 40) #[Y,Y,Y,Y,Y,Y,Y,Y,Y,Y,Y,Y,O,O] rfl rfl (one_of HT_.out (by kernel_rfl)) (by decide) (fun K hK => ?_)
              refine Kd.R_append_step Kd.string w.heap.size (by rfl) (.tmp 35) (.tmp 39) 24 9 (.string ⟨#[]⟩) 16 rfl Try.underlying24 info9 rfl (by decide) (by omega) v298 t297 (t300 ++ (⟨#[10]⟩ : ByteArray)) [.string (t300 ++ (⟨#[10]⟩ : ByteArray))] (fun k_ => some k_ ≠ (.slice Ao51 x5_1.length co51 : Value).ownBlock) (fun _ => False) rfl rfl ?aP (fun _ hk => hk.elim) ?aF ?aO (Below.refl _ _) ?aS ?aL ?_
              (case aP => exact rfl)
              (case aF => exact (fun k_ hk => Kd.fresh' (Kd.R_lt (zr HO_5.out)) k_ hk))
              (case aO => exact (by (with_reducible repeat (first | apply Kd.R_alloc | apply Kd.R_drewN | apply Kd.R_drew)); exact Kd.R_mono HO299.out (fun _ hk => hk.2)))
              (case aS => exact (keep_size (w := w) (g := g) (row := none) zh))
              (case aL => have := LMc62.out; omega)
              intro v304 w70 ho hb hg hat
              rw [← Ny303.out] at ho
              have n0_ := am (Kd.R_after (ok := (fun _ => True)) (zr HO_5.out) hg hat)
              have n1_ := am (IsS87.grown zi hg (IsS87.own_ne HI0.out HO299.out (by decide)))
              have n2_ := am (below_weaken zj HL.out hb)
              have n3_ := am (KeepBut.trans zh (KeepBut.of_grown hg g) (Kd.R_base2 HO299.out))
              have n4_ := am (ho)
              clear HO_5
              clear HI0
              clear HB
              clear HK
              clear HO299
              have HO_5 := n0_
              have HI0 := n1_
              have HB := n2_
              have HK := n3_
              have HO305 := n4_
              clear n0_ n1_ n2_ n3_ n4_
              clear ho hb hg hat
              have hr71 := Kd.C_drop (m := (t266 : Int).toNat) (c := co51) (Kd.R_reads' HO_5.out).2.2 (by have := KL71.out; omega) (Kd.R_reads' HO_5.out).2.1
              rw [show (x5_1).drop (t266 : Int).toNat = y306 from Ny306.out.symm] at hr71
              replace hr71 : Kd.C Kd.string _ A71 y306.length y306 := (by rw [KA71.out]; exact hr71)
              have HR309 := am hr71
              clear hr71
              refine hK.out _ _ trivial (fun hHeld => ?_)
              clear hK K
              refine norm_ (a' := ?_) ?_ ?_
              rotate_left
              ·show Act.put _ (some 40) _ = _
               simp only [Act.put,qa,qb,qc,i64_w,i32_w]
               rfl
              refine one_ (i := 12) (N := some 44) #[Y,Y,Y,Y,Y,Y,Y,Y,Y,Y,Y,Y,Y,O] rfl rfl (one_of HT_.out (by kernel_rfl)) (by decide) (fun K hK => ?_)
              refine Kd.R_append_rows_step Kd.string w.heap.size (by rfl) (.tmp 40) (.tmp 43) 24 9 (.string ⟨#[]⟩) 16 rfl Try.underlying24 info9 rfl (by decide) (by omega) v304 y303 y306 _ _ _ (fun k_ => some k_ ≠ (.slice Ao51 x5_1.length co51 : Value).ownBlock) (fun _ => False) rfl rfl ?aO ?aR (fun _ _ h => h) (fun _ h => h.elim) ?aF (Below.refl _ _) ?aS ?aL ?_
              (case aR => repeat (first | exact (by repeat (first | (with_reducible exact HR309.out) | (with_reducible refine Kd.C_alloc ?_ _) | (with_reducible refine Kd.C_drewN ?_ _) | (with_reducible refine Kd.C_drew ?_) | exact HR309.out)) | (with_reducible refine Kd.C_alloc ?_ _) | (with_reducible refine Kd.C_drewN ?_ _) | (with_reducible refine Kd.C_drew ?_)))
              (case aF => exact (fun k_ hk => Kd.fresh' (Kd.R_lt (zr HO_5.out)) k_ hk))
              (case aO => exact (zr HO305.out))
              (case aS => exact (keep_size (w := w) (g := g) (row := none) zh))
              (case aL => have := LMc65.out; omega)
              intro v311 w72 ho hb hg hat
              rw [← Ny310.out] at ho
              have n0_ := am (Kd.R_after (ok := (fun _ => True)) (zr HO_5.out) hg hat)
              have n1_ := am (IsS87.grown zi hg (IsS87.own_ne HI0.out HO305.out (by decide)))
              have n2_ := am (below_weaken zj HL.out hb)
              have n3_ := am (KeepBut.trans zh (KeepBut.of_grown hg g) (Kd.R_base2 HO305.out))
              have n4_ := am ((show Kd.C Kd.string w72 A71 y306.length y306 from by rw [Ny306.out, KA71.out]; exact Kd.C_drop (m := (t266 : Int).toNat) (c := co51) ((Kd.R_reads' (Kd.R_after (ok := (fun _ => True)) (zr HO_5.out) hg hat)).2.2) KL71.out ((Kd.R_reads' (Kd.R_after (ok := (fun _ => True)) (zr HO_5.out) hg hat)).2.1)))
              have n5_ := am (ho)
              clear HO_5
              clear HI0
              clear HB
              clear HK
              clear HR309
              clear HO305
              have HO_5 := n0_
              have HI0 := n1_
              have HB := n2_
              have HK := n3_
              have HR309 := n4_
              have HO312 := n5_
              clear n0_ n1_ n2_ n3_ n4_ n5_
              clear ho hb hg hat
              refine hK.out _ _ trivial (fun hHeld => ?_)
              clear hK K
              refine norm_ (a' := ?_) ?_ ?_
              rotate_left
              ·show Act.put _ (some 44) _ = _
               simp only [Act.put,qa,qb,qc,i64_w,i32_w]
               rfl
              refine pure_ (i := 13) (N := some 5) (v := ?_) (a' := ?_) #[Y,Y,Y,Y,Y,Y,Y,Y,Y,Y,Y,Y,Y,Y] rfl rfl zx (fun _ _ _ h => h) (Or.inl ⟨by rfl, ?_⟩) ?_ ?_
              rotate_left; (intro w'; go_simp; with_reducible rfl); rotate_left; (simp only [Act.put,qa,qb,qc,i64_w,i32_w]; rfl)
              refine done_ (done_of HT_.out (by kernel_rfl)) ?_
              try go_wp2
              go_roundg kj49
              case measure => have := HK1.out; have := HJ49.out; omega
              case rel => exact ⟨(y310), (wrap64 (x6_1 - 1)), (t301), (t302), zf, H', ⟨by have := HK1.out; have := HJ49.out; omega⟩, ⟨by (with_reducible repeat (first | apply Kd.R_alloc | apply Kd.R_drewN | apply Kd.R_drew)); exact Kd.R_mono HO312.out (fun _ hk => trivial)⟩, ⟨by repeat (first | (with_reducible first | exact HI0.out | apply IsS87.alloc | apply IsS87.drewN | apply IsS87.drew | apply IsS87.set_1 | apply IsS87.set_2) | exact HI0.out)⟩, ⟨by repeat (first | (with_reducible first | exact HK.out | apply KeepBut.set_ | apply keep_drewN | apply keep_drew | apply keep_alloc) | exact HK.out)⟩, ⟨by repeat (first | (with_reducible first | exact HB.out | apply below_alloc | apply pw_below_drewN | apply below_drew1 | refine below_set ?_ (IsS87.ge HI0.out)) | exact HB.out)⟩⟩
             ·rw [if_neg c65] at H
              exact absurd H (by simp)
            ·rw [if_neg c62] at H
             exact absurd H (by simp)
           ·rw [if_neg c61] at H
            exact absurd H (by simp)
          ·rw [if_neg c58] at H
           exact absurd H (by simp)
         ·rw [if_neg c57] at H
          exact absurd H (by simp)
        ·replace c56 := Bool.eq_false_iff.mpr c56
         subst c56
         have H1 : (spec_l1Cur_other.l0 kj49 x5_1 (wrap64 (x6_1 - 1)) s0_0 t270 t271) = some (r1, r2, r3) := by rw [if_neg (show ¬ (false = true) by decide)] at H; exact H
         clear H
         have H := H1
         clear H1
         have H' := am H
         clear H
         go_wp2
         go_roundg kj49
         case measure => have := HK1.out; have := HJ49.out; omega
         case rel => exact ⟨(x5_1), (wrap64 (x6_1 - 1)), (t270), (t271), zf, H', ⟨by have := HK1.out; have := HJ49.out; omega⟩, ⟨by (with_reducible repeat (first | apply Kd.R_alloc | apply Kd.R_drewN | apply Kd.R_drew)); exact HO_5.out⟩, ⟨by repeat (first | (with_reducible first | exact HI0.out | apply IsS87.alloc | apply IsS87.drewN | apply IsS87.drew | apply IsS87.set_1 | apply IsS87.set_2) | exact HI0.out)⟩, ⟨by repeat (first | (with_reducible first | exact HK.out | apply KeepBut.set_ | apply keep_drewN | apply keep_drew | apply keep_alloc) | exact HK.out)⟩, ⟨by repeat (first | (with_reducible first | exact HB.out | apply below_alloc | apply pw_below_drewN | apply below_drew1 | refine below_set ?_ (IsS87.ge HI0.out)) | exact HB.out)⟩⟩
   ·rw [if_neg c7] at H
    have c7b0 : decide (0 < x6_1) = false := decide_eq_false c7
    clear c7
    have HC73 := am H
    clear H
    go_upto_region 15 with (fail)
    go_cut [85] (fun v85 wc => ∃ (kq : Nat) (x85_72 : Bool) (x1001_72 : Int) (x1002_72 : Int), v85 = .bool x85_72 ∧ Aside0 (spec_l1Cur_other.j2 kq x5_1 x85_72 s0_0 x1001_72 x1002_72 = some (r1, r2, r3)) ∧ Aside0 (kq ≤ k1) ∧ Aside0 (Kd.R Kd.string 9 wc w.heap.size (fun _ => True) u5 x5_1) ∧ Aside0 (IsS87 w0 wc g s0_0 x1001_72 x1002_72) ∧ Aside0 (KeepBut w wc g none) ∧ Aside0 (Below w0.heap.size w0 wc))
    case first =>
     have H := HC73.out
     clear HC73
     by_cases c74 : (x5_1.length : Int) > 0
     ·rw [if_pos c74] at H
      have c74b0 : decide (0 < (x5_1.length : Int)) = true := decide_eq_true c74
      have c74b1 : decide (0 < x5_1.length) = true := decide_eq_true (by omega)
      clear c74
      (first | rw [c74b0] | (simp only [i64_w, i32_w]; rw [c74b0]) | skip)
      replace H := Option.bind_eq_some_iff.mp H
      obtain ⟨⟨t313, t314, t315⟩, A750, H⟩ := H
      replace H : (spec_l1Cur_other.j2 k1 x5_1 t313 s0_0 t314 t315) = some (r1, r2, r3) := H
      have A75 := am A750
      clear A750
      have H' := am H
      clear H
      obtain ⟨Ao76, co76, eo76⟩ := Kd.R_slice HO_5.out
      subst eo76
      go_wp2_with (first | (go_at_call 85; (with_reducible refine (spec_l1Cur_one.calls g s0_0 x1001_1 x1002_1 6 t313 t314 t315 w0 _ ?side1 ?side2 A75.out).mono ?_); (case side1 => exact zi); (case side2 => exact zj); rintro e w77 ⟨rfl, hi, hb, hk⟩; have n0_ := am (Kd.R_mono (Kd.R_keep (IsS87.apart (show IsS87 w0 _ g s0_0 x1001_1 x1002_1 from zi) (zr HO_5.out) (by decide)) hk (fun _ h => h.2)) (fun _ h => h.1)); have n1_ := am (KeepBut.trans zh hk (.inl rfl)); have n2_ := am (hb); have n3_ := am (hi); clear HO_5; clear HK; clear HB; clear HI0; have HO_5 := n0_; have HK := n1_; have HB := n2_; have HI0 := n3_; clear n0_ n1_ n2_ n3_; (try clear hb); (try clear hk); (try clear hi)))
      go_meet
      case rel => exact ⟨_, (t313), (t314), (t315), zf, H', ⟨by have := HK1.out; first | omega | exact Nat.le_refl _⟩, ⟨by (with_reducible repeat (first | apply Kd.R_alloc | apply Kd.R_drewN | apply Kd.R_drew)); exact HO_5.out⟩, ⟨by repeat (first | (with_reducible first | exact HI0.out | apply IsS87.alloc | apply IsS87.drewN | apply IsS87.drew | apply IsS87.set_1 | apply IsS87.set_2) | exact HI0.out)⟩, ⟨by repeat (first | (with_reducible first | exact HK.out | apply KeepBut.set_ | apply keep_drewN | apply keep_drew | apply keep_alloc) | exact HK.out)⟩, ⟨by repeat (first | (with_reducible first | exact HB.out | apply below_alloc | apply pw_below_drewN | apply below_drew1 | refine below_set ?_ (IsS87.ge HI0.out)) | exact HB.out)⟩⟩
     ·rw [if_neg c74] at H
      have c74b0 : decide (0 < (x5_1.length : Int)) = false := decide_eq_false c74
      have c74b1 : decide (0 < x5_1.length) = false := decide_eq_false (by omega)
      clear c74
      (first | rw [c74b0] | (simp only [i64_w, i32_w]; rw [c74b0]) | skip)
      have H' := am H
      clear H
      obtain ⟨Ao78, co78, eo78⟩ := Kd.R_slice HO_5.out
      subst eo78
      go_wp2
      go_meet
      case rel => exact ⟨_, (false), (x1001_1), (x1002_1), zf, H', ⟨by have := HK1.out; first | omega | exact Nat.le_refl _⟩, ⟨by (with_reducible repeat (first | apply Kd.R_alloc | apply Kd.R_drewN | apply Kd.R_drew)); exact HO_5.out⟩, ⟨by repeat (first | (with_reducible first | exact HI0.out | apply IsS87.alloc | apply IsS87.drewN | apply IsS87.drew | apply IsS87.set_1 | apply IsS87.set_2) | exact HI0.out)⟩, ⟨by repeat (first | (with_reducible first | exact HK.out | apply KeepBut.set_ | apply keep_drewN | apply keep_drew | apply keep_alloc) | exact HK.out)⟩, ⟨by repeat (first | (with_reducible first | exact HB.out | apply below_alloc | apply pw_below_drewN | apply below_drew1 | refine below_set ?_ (IsS87.ge HI0.out)) | exact HB.out)⟩⟩
    case rest =>
     clear HC73
     try clear c1
     try clear c2
     try clear p2
     try clear q2
     try clear hx2
     try clear c3
     try clear p3
     try clear q3
     try clear hx3
     try clear hf3
     try clear c5
     try clear c6
     try clear p6
     try clear q6
     try clear c7
     try clear c7b0
     try clear q7
     try clear c10
     try clear c10b0
     try clear c10b1
     try clear c11
     try clear c11b0
     try clear c12
     try clear c12b0
     try clear c12b1
     try clear c13
     try clear c13b0
     try clear c13b1
     try clear c16
     try clear c16b0
     try clear c16b1
     try clear c17
     try clear c17b0
     try clear c17b1
     try clear c18
     try clear q23
     try clear c25
     try clear q25
     try clear p28
     try clear q28
     try clear hx28
     try clear c30
     try clear c30b0
     try clear c30b1
     try clear c31
     try clear c31b0
     try clear c32
     try clear c32b0
     try clear c34
     try clear c36
     try clear c36b0
     try clear c36b1
     try clear c36b2
     try clear p37
     try clear q37
     try clear hx37
     try clear hf37
     try clear c54
     try clear c54b0
     try clear c56
     try clear c57
     try clear c57b0
     try clear c57b1
     try clear c58
     try clear c58b0
     try clear c58b1
     try clear c61
     try clear c61b0
     try clear c61b1
     try clear c61b2
     try clear c62
     try clear c63
     try clear c63b0
     try clear c64
     try clear c64b0
     try clear p64
     try clear c65
     try clear q67
     try clear c68
     try clear c71
     try clear q71
     try clear c74
     try clear c74b0
     try clear c74b1
     try clear hx286_0
     try clear hx37_0
     try clear p2
     try clear p28
     try clear p286
     try clear p3
     try clear p37
     try clear p6
     try clear q025
     try clear q071
     try clear q2
     try clear q23
     try clear q25
     try clear q28
     try clear q286
     try clear q3
     try clear q37
     try clear q67
     try clear q71
     obtain ⟨kq, x85_72, x1001_72, x1002_72, rfl, HA, HJ72, HO_5, HI0, HK, HB⟩ := hcut
     cases kq with
     | zero => exact absurd HA.out (by simp [spec_l1Cur_other.j2])
     | succ kj72 =>
      have H := HA.out
      clear HA
      simp only [spec_l1Cur_other.j2] at H
      by_cases c79 : x85_72 = true
      ·subst c79
       have H1 : (if 0 ≤ (wrap64 ((x5_1.length : Int) - 1)) then (if (wrap64 ((x5_1.length : Int) - 1)) < (x5_1.length : Int) then ((spec_l1Plain.f (rdOf ByteArray.empty x5_1 (wrap64 ((x5_1.length : Int) - 1)))).bind fun t317 => ((spec_l1Ends.f (rdOf ByteArray.empty x5_1 (wrap64 ((x5_1.length : Int) - 1)))).bind fun t319 => (if t319 = true then (if t317.toList = ([] : List UInt8) then (some (x5_1, x1001_72, x1002_72)) else (some ((x5_1.set ((wrap64 ((x5_1.length : Int) - 1)) : Int).toNat t317), x1001_72, x1002_72))) else (if t317.size + 1 ≤ 9223372036854775807 then (some ((x5_1.set ((wrap64 ((x5_1.length : Int) - 1)) : Int).toNat (t317 ++ (⟨#[10]⟩ : ByteArray))), x1001_72, x1002_72)) else (none))))) else (none)) else (none)) = some (r1, r2, r3) := by rw [if_pos rfl] at H; exact H
       clear H
       have H := H1
       clear H1
       obtain ⟨ji80, hji80⟩ : ∃ j_ : Int, (wrap64 ((x5_1.length : Int) - 1)) = j_ := ⟨_, rfl⟩
       replace H : (if 0 ≤ (ji80) then (if (ji80) < (x5_1.length : Int) then ((spec_l1Plain.f (rdOf ByteArray.empty x5_1 (ji80))).bind fun t317 => ((spec_l1Ends.f (rdOf ByteArray.empty x5_1 (ji80))).bind fun t319 => (if t319 = true then (if t317.toList = ([] : List UInt8) then (some (x5_1, x1001_72, x1002_72)) else (some ((x5_1.set ((ji80) : Int).toNat t317), x1001_72, x1002_72))) else (if t317.size + 1 ≤ 9223372036854775807 then (some ((x5_1.set ((ji80) : Int).toNat (t317 ++ (⟨#[10]⟩ : ByteArray))), x1001_72, x1002_72)) else (none))))) else (none)) else (none)) = some (r1, r2, r3) := by first | (rw [hji80] at H; exact H) | (simp only [hji80] at H ⊢; exact H)
       have hji80w : (IntKind.i64.wrap ((x5_1.length : Int) - 1)) = ji80 := (i64_w _).trans hji80
       by_cases c81 : 0 ≤ (ji80)
       ·rw [if_pos c81] at H
        have c81b0 : decide (0 ≤ (ji80)) = true := decide_eq_true c81
        clear c81
        by_cases c82 : (ji80) < (x5_1.length : Int)
        ·rw [if_pos c82] at H
         have c82b0 : decide ((ji80) < (x5_1.length : Int)) = true := decide_eq_true c82
         clear c82
         replace H := Option.bind_eq_some_iff.mp H
         obtain ⟨t317, A830, H⟩ := H
         replace H : ((spec_l1Ends.f (rdOf ByteArray.empty x5_1 (ji80))).bind fun t319 => (if t319 = true then (if t317.toList = ([] : List UInt8) then (some (x5_1, x1001_72, x1002_72)) else (some ((x5_1.set ((ji80) : Int).toNat t317), x1001_72, x1002_72))) else (if t317.size + 1 ≤ 9223372036854775807 then (some ((x5_1.set ((ji80) : Int).toNat (t317 ++ (⟨#[10]⟩ : ByteArray))), x1001_72, x1002_72)) else (none)))) = some (r1, r2, r3) := H
         have A83 := am A830
         clear A830
         replace H := Option.bind_eq_some_iff.mp H
         obtain ⟨t319, A840, H⟩ := H
         replace H : (if t319 = true then (if t317.toList = ([] : List UInt8) then (some (x5_1, x1001_72, x1002_72)) else (some ((x5_1.set ((ji80) : Int).toNat t317), x1001_72, x1002_72))) else (if t317.size + 1 ≤ 9223372036854775807 then (some ((x5_1.set ((ji80) : Int).toNat (t317 ++ (⟨#[10]⟩ : ByteArray))), x1001_72, x1002_72)) else (none))) = some (r1, r2, r3) := H
         have A84 := am A840
         clear A840
         by_cases c85 : t319 = true
         ·subst c85
          have H1 : (if t317.toList = ([] : List UInt8) then (some (x5_1, x1001_72, x1002_72)) else (some ((x5_1.set ((ji80) : Int).toNat t317), x1001_72, x1002_72))) = some (r1, r2, r3) := by rw [if_pos rfl] at H; exact H
          clear H
          have H := H1
          clear H1
          by_cases c86 : t317.toList = ([] : List UInt8)
          ·rw [if_pos c86] at H
           have c86b0 : (t317.toList == ([] : List UInt8)) = true := beq_iff_eq.mpr c86
           have c86b1 : (t317.toList != ([] : List UInt8)) = false := bne_eq_false_iff_eq.mpr c86
           clear c86
           simp only [Option.some.injEq, Prod.mk.injEq] at H
           obtain ⟨rfl, rfl, rfl⟩ := H
           obtain ⟨Ao87, co87, eo87⟩ := Kd.R_slice HO_5.out
           subst eo87
           have p316 : 0 ≤ ((ji80) : Int) := oa
           have q316 : (ji80) < (x5_1.length : Int) := oa
           obtain ⟨ad316, e316, hx316_0⟩ := Kd.at_string (Kd.R_reads' HO_5.out).2.2 (ji80) p316 q316
           cases e316
           replace p316 := eq_true p316
           replace q316 := eq_true q316
           go_wp2_with (first | ((with_reducible refine gateC (f := 74) rfl ?_); refine goesL_ (some 92) rfl rfl Try.func74 (by kernel_rfl) rfl #[.string (rdOf ByteArray.empty x5_1 (ji80))] rfl (by (try simp only [List.map_toArray, List.map_cons, List.map_nil]); first | done | (simp only [hji80]; rfl) | rfl | (simp only [List.length_drop, List.length_take]; rfl)) ?_; (with_reducible refine (spec_l1Plain.calls (rdOf ByteArray.empty x5_1 (ji80)) t317 _ A83.out).mono ?_); rintro e w' ⟨rfl, ⟨nd, rfl⟩⟩; refine ⟨_, rfl, ?_⟩; have p318 : 0 ≤ ((ji80) : Int) := oa; have q318 : (ji80) < (x5_1.length : Int) := oa; obtain ⟨ad318, e318, hx318_0⟩ := Kd.at_string (Kd.R_reads' HO_5.out).2.2 (ji80) p318 q318; obtain rfl : ad316 = ad318 := (by injection e318); replace p318 := eq_true p318; replace q318 := eq_true q318) | ((with_reducible refine gateC (f := 127) rfl ?_); refine goesL_ (some 100) rfl rfl Try.func127 (by kernel_rfl) rfl #[.string (rdOf ByteArray.empty x5_1 (ji80))] rfl (by (try simp only [List.map_toArray, List.map_cons, List.map_nil]); first | done | (simp only [hji80]; rfl) | rfl | (simp only [List.length_drop, List.length_take]; rfl)) ?_; (with_reducible refine (spec_l1Ends.calls (rdOf ByteArray.empty x5_1 (ji80)) true _ A84.out).mono ?_); rintro e w' ⟨rfl, ⟨nd, rfl⟩⟩; refine ⟨_, rfl, ?_⟩))
           go_ret
           exact ⟨_, by first | rfl | (simp [errW_none, errW_some] <;> rfl) | (simp only [← hji80]; first | rfl | (simp [errW_none, errW_some] <;> rfl)) | (simp [*, errW_none, errW_some] <;> rfl), by (with_reducible repeat (first | apply Kd.R_alloc | apply Kd.R_drewN | apply Kd.R_drew)); exact HO_5.out, zi, zj, zh⟩
          ·rw [if_neg c86] at H
           have c86b0 : (t317.toList == ([] : List UInt8)) = false := beq_eq_false_iff_ne.mpr c86
           have c86b1 : (t317.toList != ([] : List UInt8)) = true := bne_iff_ne.mpr c86
           obtain ⟨y320, hy320⟩ : ∃ y_ : List ByteArray, y_ = (x5_1.set ((ji80) : Int).toNat t317) := ⟨_, rfl⟩
           replace H : (some (y320, x1001_72, x1002_72)) = some (r1, r2, r3) := by first | (rw [hy320]; with_reducible exact H) | (have H2_ := (Option.bind_some _ _).symm.trans H; rw [hy320]; with_reducible exact H2_) | (have H2_ := (Option.bind_some _ _).symm.trans H; with_reducible exact H2_) | with_reducible exact H | (rw [hy320]; exact H) | exact H
           have Ny320 := am hy320
           clear hy320
           simp only [Option.some.injEq, Prod.mk.injEq] at H
           obtain ⟨rfl, rfl, rfl⟩ := H
           obtain ⟨Ao89, co89, eo89⟩ := Kd.R_slice HO_5.out
           subst eo89
           have p316 : 0 ≤ ((ji80) : Int) := oa
           have q316 : (ji80) < (x5_1.length : Int) := oa
           obtain ⟨ad316, e316, hx316_0⟩ := Kd.at_string (Kd.R_reads' HO_5.out).2.2 (ji80) p316 q316
           cases e316
           replace p316 := eq_true p316
           replace q316 := eq_true q316
           go_wp2_with (first | ((with_reducible refine gateC (f := 74) rfl ?_); refine goesL_ (some 92) rfl rfl Try.func74 (by kernel_rfl) rfl #[.string (rdOf ByteArray.empty x5_1 (ji80))] rfl (by (try simp only [List.map_toArray, List.map_cons, List.map_nil]); first | done | (simp only [hji80]; rfl) | rfl | (simp only [List.length_drop, List.length_take]; rfl)) ?_; (with_reducible refine (spec_l1Plain.calls (rdOf ByteArray.empty x5_1 (ji80)) t317 _ A83.out).mono ?_); rintro e w' ⟨rfl, ⟨nd, rfl⟩⟩; refine ⟨_, rfl, ?_⟩; (try (rw [drewN_self wc]; generalize hq_ : World.drewN wc _ = wc; have n0_ : Aside0 (Kd.R Kd.string 9 wc w.heap.size (fun _ => True) (.slice (some ad316) x5_1.length co89) x5_1) := ⟨by rw [← hq_]; exact (zr HO_5.out)⟩; have n1_ : Aside0 (IsS87 w0 wc g s0_0 x1001_72 x1002_72) := ⟨by rw [← hq_]; exact zi⟩; have n2_ : Aside0 (KeepBut w wc g none) := ⟨by rw [← hq_]; exact zh⟩; have n3_ : Aside0 (Below w0.heap.size w0 wc) := ⟨by rw [← hq_]; exact zj⟩; clear HO_5 HI0 HK HB hq_; have HO_5 := n0_; have HI0 := n1_; have HK := n2_; have HB := n3_; clear n0_ n1_ n2_ n3_)); have p318 : 0 ≤ ((ji80) : Int) := oa; have q318 : (ji80) < (x5_1.length : Int) := oa; obtain ⟨ad318, e318, hx318_0⟩ := Kd.at_string (Kd.R_reads' HO_5.out).2.2 (ji80) p318 q318; obtain rfl : ad316 = ad318 := (by injection e318); replace p318 := eq_true p318; replace q318 := eq_true q318) | ((with_reducible refine gateC (f := 127) rfl ?_); refine goesL_ (some 100) rfl rfl Try.func127 (by kernel_rfl) rfl #[.string (rdOf ByteArray.empty x5_1 (ji80))] rfl (by (try simp only [List.map_toArray, List.map_cons, List.map_nil]); first | done | (simp only [hji80]; rfl) | rfl | (simp only [List.length_drop, List.length_take]; rfl)) ?_; (with_reducible refine (spec_l1Ends.calls (rdOf ByteArray.empty x5_1 (ji80)) true _ A84.out).mono ?_); rintro e w' ⟨rfl, ⟨nd, rfl⟩⟩; refine ⟨_, rfl, ?_⟩; (try (rw [drewN_self wc]; generalize hq_ : World.drewN wc _ = wc; have n0_ : Aside0 (Kd.R Kd.string 9 wc w.heap.size (fun _ => True) (.slice (some ad316) x5_1.length co89) x5_1) := ⟨by rw [← hq_]; exact (zr HO_5.out)⟩; have n1_ : Aside0 (IsS87 w0 wc g s0_0 x1001_72 x1002_72) := ⟨by rw [← hq_]; exact zi⟩; have n2_ : Aside0 (KeepBut w wc g none) := ⟨by rw [← hq_]; exact zh⟩; have n3_ : Aside0 (Below w0.heap.size w0 wc) := ⟨by rw [← hq_]; exact zj⟩; clear HO_5 HI0 HK HB hq_; have HO_5 := n0_; have HI0 := n1_; have HK := n2_; have HB := n3_; clear n0_ n1_ n2_ n3_)); have p88 : 0 ≤ ((ji80) : Int) := oa; have q88 : ((ji80) : Int) < ((x5_1.length : Int) : Int) := oa; obtain ⟨go88, co88, eo88, gb88, gl88, cl88, HG88⟩ := Kd.R_form HO_5.out (by omega); (first | cases eo88 | (injection eo88 with ea_ en_ ec_; (first | subst ea_ | (injection ea_ with ea_; subst ea_)); subst ec_; clear en_)); have GB88 := am gb88; have GG88 := am HG88; clear gb88 gl88 HG88; (first | simp only [add_plain] at hx316_0 | skip); (first | simp only [add_plain] at hx318_0 | skip); obtain ⟨hx88_0, hf88_0⟩ := Kd.R_celln (⟨#[]⟩ : ByteArray) HO_5.out ((ji80) : Int) p88 q88; replace p88 := eq_true p88; replace q88 := eq_true q88; obtain ⟨hy90_, hz90_⟩ := Kd.R_celln (⟨#[]⟩ : ByteArray) HO_5.out ((ji80) : Int) oa oa; have HP90 := Kd.R_putg HO_5.out ((ji80) : Int) t317) | ((with_reducible refine gate_store (t := 9) (p := 117) rfl ?_); refine store_event (t := 9) (p := 117) (v := ?vo_w91) (w1 := (wc.setCell ⟨go88, ((ji80) : Int).toNat, none⟩ (.string t317))) ?hg ?ho ?hn ?hr ?_; (case ho => rfl); (case hg => rfl); (case hn => rfl); (case hr => first | (go_simp; done) | (go_simp; rfl)); intro w91 hw; have hg : wc.grownBy w91 (some go88) := (by rw [hw]; exact HP90.2); have hp_ : Kd.R Kd.string 9 w91 w.heap.size (fun _ => True) (.slice (some ⟨go88, 0, none⟩) x5_1.length co89) y320 := (by rw [hw, Ny320.out]; exact HP90.1); clear HP90; have n0_ := am (hp_); have n1_ := am (IsS87.grown zi hg (IsS87.own_ne HI0.out HO_5.out (by decide))); have n2_ := am ((by rw [hw]; exact below_set (HB.out) (Nat.le_trans HL.out GB88.out) : Below w0.heap.size w0 w91)); have n3_ := am (KeepBut.trans zh (KeepBut.of_grown hg g) (Kd.R_base2 HO_5.out)); clear HO_5; clear HI0; clear HB; clear HK; have HO_5 := n0_; have HI0 := n1_; have HB := n2_; have HK := n3_; clear n0_ n1_ n2_ n3_; clear hg hw hp_))
           go_ret
           exact ⟨_, by first | rfl | (simp [errW_none, errW_some] <;> rfl) | (simp only [← hji80]; first | rfl | (simp [errW_none, errW_some] <;> rfl)) | (simp [*, errW_none, errW_some] <;> rfl), by (with_reducible repeat (first | apply Kd.R_alloc | apply Kd.R_drewN | apply Kd.R_drew)); exact HO_5.out, zi, zj, zh⟩
         ·replace c85 := Bool.eq_false_iff.mpr c85
          subst c85
          have H1 : (if t317.size + 1 ≤ 9223372036854775807 then (some ((x5_1.set ((ji80) : Int).toNat (t317 ++ (⟨#[10]⟩ : ByteArray))), x1001_72, x1002_72)) else (none)) = some (r1, r2, r3) := by rw [if_neg (show ¬ (false = true) by decide)] at H; exact H
          clear H
          have H := H1
          clear H1
          by_cases c92 : t317.size + 1 ≤ 9223372036854775807
          ·rw [if_pos c92] at H
           have c92b0 := eq_true c92
           have c92b1 : decide (t317.size + 1 ≤ 9223372036854775807) = true := decide_eq_true c92
           try have c92b2 : (9223372036854775807 < t317.size + 1) = False := eq_false (Nat.not_lt.2 c92)
           obtain ⟨y321, hy321⟩ : ∃ y_ : List ByteArray, y_ = (x5_1.set ((ji80) : Int).toNat (t317 ++ (⟨#[10]⟩ : ByteArray))) := ⟨_, rfl⟩
           replace H : (some (y321, x1001_72, x1002_72)) = some (r1, r2, r3) := by first | (rw [hy321]; with_reducible exact H) | (have H2_ := (Option.bind_some _ _).symm.trans H; rw [hy321]; with_reducible exact H2_) | (have H2_ := (Option.bind_some _ _).symm.trans H; with_reducible exact H2_) | with_reducible exact H | (rw [hy321]; exact H) | exact H
           have Ny321 := am hy321
           clear hy321
           simp only [Option.some.injEq, Prod.mk.injEq] at H
           obtain ⟨rfl, rfl, rfl⟩ := H
           obtain ⟨Ao94, co94, eo94⟩ := Kd.R_slice HO_5.out
           subst eo94
           have p316 : 0 ≤ ((ji80) : Int) := oa
           have q316 : (ji80) < (x5_1.length : Int) := oa
           obtain ⟨ad316, e316, hx316_0⟩ := Kd.at_string (Kd.R_reads' HO_5.out).2.2 (ji80) p316 q316
           cases e316
           replace p316 := eq_true p316
           replace q316 := eq_true q316
           go_wp2_with (first | ((with_reducible refine gateC (f := 74) rfl ?_); refine goesL_ (some 92) rfl rfl Try.func74 (by kernel_rfl) rfl #[.string (rdOf ByteArray.empty x5_1 (ji80))] rfl (by (try simp only [List.map_toArray, List.map_cons, List.map_nil]); first | done | (simp only [hji80]; rfl) | rfl | (simp only [List.length_drop, List.length_take]; rfl)) ?_; (with_reducible refine (spec_l1Plain.calls (rdOf ByteArray.empty x5_1 (ji80)) t317 _ A83.out).mono ?_); rintro e w' ⟨rfl, ⟨nd, rfl⟩⟩; refine ⟨_, rfl, ?_⟩; (try (rw [drewN_self wc]; generalize hq_ : World.drewN wc _ = wc; have n0_ : Aside0 (Kd.R Kd.string 9 wc w.heap.size (fun _ => True) (.slice (some ad316) x5_1.length co94) x5_1) := ⟨by rw [← hq_]; exact (zr HO_5.out)⟩; have n1_ : Aside0 (IsS87 w0 wc g s0_0 x1001_72 x1002_72) := ⟨by rw [← hq_]; exact zi⟩; have n2_ : Aside0 (KeepBut w wc g none) := ⟨by rw [← hq_]; exact zh⟩; have n3_ : Aside0 (Below w0.heap.size w0 wc) := ⟨by rw [← hq_]; exact zj⟩; clear HO_5 HI0 HK HB hq_; have HO_5 := n0_; have HI0 := n1_; have HK := n2_; have HB := n3_; clear n0_ n1_ n2_ n3_)); have p318 : 0 ≤ ((ji80) : Int) := oa; have q318 : (ji80) < (x5_1.length : Int) := oa; obtain ⟨ad318, e318, hx318_0⟩ := Kd.at_string (Kd.R_reads' HO_5.out).2.2 (ji80) p318 q318; obtain rfl : ad316 = ad318 := (by injection e318); replace p318 := eq_true p318; replace q318 := eq_true q318) | ((with_reducible refine gateC (f := 127) rfl ?_); refine goesL_ (some 100) rfl rfl Try.func127 (by kernel_rfl) rfl #[.string (rdOf ByteArray.empty x5_1 (ji80))] rfl (by (try simp only [List.map_toArray, List.map_cons, List.map_nil]); first | done | (simp only [hji80]; rfl) | rfl | (simp only [List.length_drop, List.length_take]; rfl)) ?_; (with_reducible refine (spec_l1Ends.calls (rdOf ByteArray.empty x5_1 (ji80)) false _ A84.out).mono ?_); rintro e w' ⟨rfl, ⟨nd, rfl⟩⟩; refine ⟨_, rfl, ?_⟩; (try (rw [drewN_self wc]; generalize hq_ : World.drewN wc _ = wc; have n0_ : Aside0 (Kd.R Kd.string 9 wc w.heap.size (fun _ => True) (.slice (some ad316) x5_1.length co94) x5_1) := ⟨by rw [← hq_]; exact (zr HO_5.out)⟩; have n1_ : Aside0 (IsS87 w0 wc g s0_0 x1001_72 x1002_72) := ⟨by rw [← hq_]; exact zi⟩; have n2_ : Aside0 (KeepBut w wc g none) := ⟨by rw [← hq_]; exact zh⟩; have n3_ : Aside0 (Below w0.heap.size w0 wc) := ⟨by rw [← hq_]; exact zj⟩; clear HO_5 HI0 HK HB hq_; have HO_5 := n0_; have HI0 := n1_; have HK := n2_; have HB := n3_; clear n0_ n1_ n2_ n3_)); have p93 : 0 ≤ ((ji80) : Int) := oa; have q93 : ((ji80) : Int) < ((x5_1.length : Int) : Int) := oa; obtain ⟨go93, co93, eo93, gb93, gl93, cl93, HG93⟩ := Kd.R_form HO_5.out (by omega); (first | cases eo93 | (injection eo93 with ea_ en_ ec_; (first | subst ea_ | (injection ea_ with ea_; subst ea_)); subst ec_; clear en_)); have GB93 := am gb93; have GG93 := am HG93; clear gb93 gl93 HG93; (first | simp only [add_plain] at hx316_0 | skip); (first | simp only [add_plain] at hx318_0 | skip); obtain ⟨hx93_0, hf93_0⟩ := Kd.R_celln (⟨#[]⟩ : ByteArray) HO_5.out ((ji80) : Int) p93 q93; replace p93 := eq_true p93; replace q93 := eq_true q93; obtain ⟨hy95_, hz95_⟩ := Kd.R_celln (⟨#[]⟩ : ByteArray) HO_5.out ((ji80) : Int) oa oa; have HP95 := Kd.R_putg HO_5.out ((ji80) : Int) (t317 ++ (⟨#[10]⟩ : ByteArray))) | ((with_reducible refine gate_store (t := 9) (p := 108) rfl ?_); refine store_event (t := 9) (p := 108) (v := ?vo_w96) (w1 := (wc.setCell ⟨go93, ((ji80) : Int).toNat, none⟩ (.string (t317 ++ (⟨#[10]⟩ : ByteArray))))) ?hg ?ho ?hn ?hr ?_; (case ho => rfl); (case hg => rfl); (case hn => rfl); (case hr => first | (go_simp; done) | (go_simp; rfl)); intro w96 hw; have hg : wc.grownBy w96 (some go93) := (by rw [hw]; exact HP95.2); have hp_ : Kd.R Kd.string 9 w96 w.heap.size (fun _ => True) (.slice (some ⟨go93, 0, none⟩) x5_1.length co94) y321 := (by rw [hw, Ny321.out]; exact HP95.1); clear HP95; have n0_ := am (hp_); have n1_ := am (IsS87.grown zi hg (IsS87.own_ne HI0.out HO_5.out (by decide))); have n2_ := am ((by rw [hw]; exact below_set (HB.out) (Nat.le_trans HL.out GB93.out) : Below w0.heap.size w0 w96)); have n3_ := am (KeepBut.trans zh (KeepBut.of_grown hg g) (Kd.R_base2 HO_5.out)); clear HO_5; clear HI0; clear HB; clear HK; have HO_5 := n0_; have HI0 := n1_; have HB := n2_; have HK := n3_; clear n0_ n1_ n2_ n3_; clear hg hw hp_))
           go_ret
           exact ⟨_, by first | rfl | (simp [errW_none, errW_some] <;> rfl) | (simp only [← hji80]; first | rfl | (simp [errW_none, errW_some] <;> rfl)) | (simp [*, errW_none, errW_some] <;> rfl), by (with_reducible repeat (first | apply Kd.R_alloc | apply Kd.R_drewN | apply Kd.R_drew)); exact HO_5.out, zi, zj, zh⟩
          ·rw [if_neg c92] at H
           exact absurd H (by simp)
        ·rw [if_neg c82] at H
         exact absurd H (by simp)
       ·rw [if_neg c81] at H
        exact absurd H (by simp)
      ·replace c79 := Bool.eq_false_iff.mpr c79
       subst c79
       have H1 : (some (x5_1, x1001_72, x1002_72)) = some (r1, r2, r3) := by rw [if_neg (show ¬ (false = true) by decide)] at H; exact H
       clear H
       have H := H1
       clear H1
       simp only [Option.some.injEq, Prod.mk.injEq] at H
       obtain ⟨rfl, rfl, rfl⟩ := H
       go_wp2
       go_ret
       exact ⟨_, by first | rfl | (simp [errW_none, errW_some] <;> rfl) | (simp [*, errW_none, errW_some] <;> rfl), by (with_reducible repeat (first | apply Kd.R_alloc | apply Kd.R_drewN | apply Kd.R_drew)); exact HO_5.out, zi, zj, zh⟩
end Go.Proofs.Ytmcldkobejhaeaa.My
/- Written by this session's program (wip/gen): a plain function with the same answers as the Go function, and the proof that the Go code comes to them. Asked: that the plain function has an answer. -/
namespace Go.Proofs.Ytmcldkobejhaeaa.My
open Go.RowKit Go.Proofs.YtmcldkobejhaeaaW.PrintWords Go.Proofs.YtmcldkobejhaeaaW.PrintLast Go.Proofs.YtmcldkobejhaeaaW.PrintMore
attribute [local go_sem] max2_int min2_int max_two min_two max_three min_three max_four min_four
set_option linter.unusedVariables false
set_option linter.unusedSimpArgs false
def spec_DrawSameAhead.j0 : Nat → List ByteArray → Bool → List Int → Int → Int → Option (List ByteArray × List ByteArray × Int × Int)
 | 0, _, _, _, _, _ => none
 | k + 1, x5, x16, x1000, x1001, x1002 => if x16 = true then ((spec_l1Cur_other.f k x1000 x1001 x1002 x5).bind fun bt309 => (some (x5, bt309.1, bt309.2.1, bt309.2.2))) else ((spec_l1Cur_text.f k x1000 x1001 x1002).bind fun bt314 => (some (x5, bt314.1, bt314.2.1, bt314.2.2)))
def spec_DrawSameAhead.g (k : Nat) (s0_0 : List Int) (s0_1 : Int) (s0_2 : Int) : Option (List ByteArray × List ByteArray × Int × Int) := (spec_l1Cur_anyText.f k s0_0 s0_1 s0_2).bind fun bt300 => ((spec_l1Cur_one.f s0_0 bt300.2.1 bt300.2.2 2).bind fun bt305 => (if bt305.1 = true then ((spec_l1Good.f k bt300.1).bind fun t308 => (spec_DrawSameAhead.j0 k bt300.1 t308 s0_0 bt305.2.1 bt305.2.2)) else (spec_DrawSameAhead.j0 k bt300.1 false s0_0 bt305.2.1 bt305.2.2)))
def spec_DrawSameAhead.f (k : Nat) (l0 : List Int) : Option (List ByteArray × List ByteArray) := (spec_DrawSameAhead.g k l0 0 0).bind fun r => some (r.1, r.2.1)
set_option maxHeartbeats 8000000 in
set_option maxRecDepth 100000 in
theorem spec_DrawSameAhead.made (k : Nat) (A0 : Option Addr) (c0 : Nat) (l0 : List Int) (r1 : List ByteArray) (r2 : List ByteArray) (r3 : Int) (r4 : Int) (w0 : World) (hr0 : Kd.C (Kd.int .u8) w0 A0 l0.length l0) (h : spec_DrawSameAhead.g k l0 0 0 = some (r1, r2, r3, r4)) :
  Calls Try.prog 75 #[.slice A0 l0.length c0] w0 fun e w' => ∃ (g : Nat) (w : World), w0.heap.size ≤ w.heap.size ∧ ∃ v0_ v1_ : Value, e = .returned (.tuple #[v0_, v1_]) ∧ Kd.R Kd.string 9 w' w.heap.size (fun k_ => some k_ ≠ (v1_ : Value).ownBlock) v0_ r1 ∧ Kd.R Kd.string 9 w' w.heap.size (fun k_ => some k_ ≠ (v0_ : Value).ownBlock) v1_ r2 ∧ IsS87 w0 w' g l0 r3 r4 ∧ Below w0.heap.size w0 w' ∧ KeepBut w w' g none := by
 have HR0 := am hr0
 clear hr0
 have HB := am (Below.refl w0.heap.size w0)
 have H : ((spec_l1Cur_anyText.f k l0 0 0).bind fun bt300 => ((spec_l1Cur_one.f l0 bt300.2.1 bt300.2.2 2).bind fun bt305 => (if bt305.1 = true then ((spec_l1Good.f k bt300.1).bind fun t308 => (spec_DrawSameAhead.j0 k bt300.1 t308 l0 bt305.2.1 bt305.2.2)) else (spec_DrawSameAhead.j0 k bt300.1 false l0 bt305.2.1 bt305.2.2)))) = some (r1, r2, r3, r4) := h
 clear h
 replace H := Option.bind_eq_some_iff.mp H
 obtain ⟨⟨t300, t303, t304⟩, A20, H⟩ := H
 replace H : ((spec_l1Cur_one.f l0 t303 t304 2).bind fun bt305 => (if bt305.1 = true then ((spec_l1Good.f k t300).bind fun t308 => (spec_DrawSameAhead.j0 k t300 t308 l0 bt305.2.1 bt305.2.2)) else (spec_DrawSameAhead.j0 k t300 false l0 bt305.2.1 bt305.2.2))) = some (r1, r2, r3, r4) := H
 have A2 := am A20
 clear A20
 have HC3 := am H
 clear H
 go_enter Try.func75, Try.ntmps75
 go_upto_region 3 with (first | ((with_reducible refine gate_dst (N := 8) rfl ?_); refine box_event ?hg (N := 8) ?hd (cs := #[.slice A0 l0.length c0, .int .i64 0, .int .u64 0]) (t := 87) ?hr ?_; (case hd => rfl); (case hg => rfl); (case hr => first | (go_simp; done) | (go_simp; rfl)); intro g hg w hbox hb; have n0_ := am (show IsS87 w0 w g l0 0 0 from ⟨A0, c0, hbox, (by rw [hg]; exact below_size zb), HR0.out⟩); have n1_ := am (below_step zb hb); clear HB HR0; have HI0 := n0_; have HB := n1_; have HK := am (KeepBut.refl w g none); have HL := am HB.out.size; have HW0 := am HB.out.size; clear n0_ n1_ hb hbox hg) | ((with_reducible refine gateC (f := 61) rfl ?_); refine goesL_ (some 10) rfl rfl Try.func61 (by kernel_rfl) rfl #[.pointer (some ⟨g, 0, none⟩)] rfl zm ?_; (with_reducible refine (spec_l1Cur_anyText.calls k g l0 0 0 t300 t303 t304 w0 _ ?side1 ?side2 A2.out).mono ?_); (case side1 => exact zi); (case side2 => exact zj); rintro e w4 ⟨v301, rfl, ho0, hi, hb, hk⟩; refine ⟨_, rfl, ?_⟩; have n0_ := am (Kd.R_lower ho0 (keep_size (w := w) (g := g) (row := none) zh)); have n1_ := am (KeepBut.trans zh hk (.inl rfl)); have n2_ := am (hb); have n3_ := am (hi); clear HK; clear HB; clear HI0; have HO302 := n0_; have HK := n1_; have HB := n2_; have HI0 := n3_; clear n0_ n1_ n2_ n3_; (try clear hb); (try clear hk); (try clear hi); (try clear ho0)))
 (try simp only [Act.put, List.setIfInBounds_toArray, List.set_cons_zero, List.set_cons_succ])
 go_cut [16] (fun v16 wc => ∃ (kq : Nat) (x16_2 : Bool) (x1001_2 : Int) (x1002_2 : Int), v16 = .bool x16_2 ∧ Aside0 (spec_DrawSameAhead.j0 kq t300 x16_2 l0 x1001_2 x1002_2 = some (r1, r2, r3, r4)) ∧ Aside0 (kq ≤ k) ∧ Aside0 (Kd.R Kd.string 9 wc w.heap.size (fun _ => True) v301 t300) ∧ Aside0 (IsS87 w0 wc g l0 x1001_2 x1002_2) ∧ Aside0 (KeepBut w wc g none) ∧ Aside0 (Below w0.heap.size w0 wc))
 case first =>
  have H := HC3.out
  clear HC3
  replace H := Option.bind_eq_some_iff.mp H
  obtain ⟨⟨t305, t306, t307⟩, A50, H⟩ := H
  replace H : (if t305 = true then ((spec_l1Good.f k t300).bind fun t308 => (spec_DrawSameAhead.j0 k t300 t308 l0 t306 t307)) else (spec_DrawSameAhead.j0 k t300 false l0 t306 t307)) = some (r1, r2, r3, r4) := H
  have A5 := am A50
  clear A50
  by_cases c6 : t305 = true
  ·subst c6
   have H1 : ((spec_l1Good.f k t300).bind fun t308 => (spec_DrawSameAhead.j0 k t300 t308 l0 t306 t307)) = some (r1, r2, r3, r4) := by rw [if_pos rfl] at H; exact H
   clear H
   have H := H1
   clear H1
   replace H := Option.bind_eq_some_iff.mp H
   obtain ⟨t308, A70, H⟩ := H
   replace H : (spec_DrawSameAhead.j0 k t300 t308 l0 t306 t307) = some (r1, r2, r3, r4) := H
   have A7 := am A70
   clear A70
   have H' := am H
   clear H
   go_wp2_with (first | ((with_reducible refine gateC (f := 85) rfl ?_); refine goesL_ (some 12) rfl rfl Try.func85 (by kernel_rfl) rfl #[.pointer (some ⟨g, 0, none⟩), .int .i64 2] rfl zm ?_; (with_reducible refine (spec_l1Cur_one.calls g l0 t303 t304 2 true t306 t307 w0 _ ?side1 ?side2 A5.out).mono ?_); (case side1 => exact zi); (case side2 => exact zj); rintro e w8 ⟨rfl, hi, hb, hk⟩; refine ⟨_, rfl, ?_⟩; have n0_ := am (Kd.R_mono (Kd.R_keep (IsS87.apart (show IsS87 w0 _ g l0 t303 t304 from zi) (zr HO302.out) (by decide)) hk (fun _ h => h.2)) (fun _ h => h.1)); have n1_ := am (KeepBut.trans zh hk (.inl rfl)); have n2_ := am (hb); have n3_ := am (hi); clear HO302; clear HK; clear HB; clear HI0; have HO302 := n0_; have HK := n1_; have HB := n2_; have HI0 := n3_; clear n0_ n1_ n2_ n3_; (try clear hb); (try clear hk); (try clear hi); obtain ⟨Ao9, co9, eo9⟩ := Kd.R_slice HO302.out; subst eo9) | (go_at_call 66; (with_reducible refine (spec_l1Good.calls k _ _ t300 t308 _ ?side1 ?side2 A7.out).mono ?_); (case side1 => repeat (first | exact (Kd.R_reads' HO302.out).2.2 | (with_reducible refine Kd.C_alloc ?_ _) | (with_reducible refine Kd.C_drewN ?_ _) | (with_reducible refine Kd.C_drew ?_))); (case side2 => exact (Kd.R_reads' HO302.out).2.1); rintro e w' ⟨rfl, ⟨nd, rfl⟩⟩))
   go_meet
   case rel => exact ⟨_, (t308), (t306), (t307), zf, H', ⟨by first | omega | exact Nat.le_refl _⟩, ⟨by (with_reducible repeat (first | apply Kd.R_alloc | apply Kd.R_drewN | apply Kd.R_drew)); exact HO302.out⟩, ⟨by repeat (first | (with_reducible first | exact HI0.out | apply IsS87.alloc | apply IsS87.drewN | apply IsS87.drew | apply IsS87.set_1 | apply IsS87.set_2) | exact HI0.out)⟩, ⟨by repeat (first | (with_reducible first | exact HK.out | apply KeepBut.set_ | apply keep_drewN | apply keep_drew | apply keep_alloc) | exact HK.out)⟩, ⟨by repeat (first | (with_reducible first | exact HB.out | apply below_alloc | apply pw_below_drewN | apply below_drew1 | refine below_set ?_ (IsS87.ge HI0.out)) | exact HB.out)⟩⟩
  ·replace c6 := Bool.eq_false_iff.mpr c6
   subst c6
   have H1 : (spec_DrawSameAhead.j0 k t300 false l0 t306 t307) = some (r1, r2, r3, r4) := by rw [if_neg (show ¬ (false = true) by decide)] at H; exact H
   clear H
   have H := H1
   clear H1
   have H' := am H
   clear H
   go_wp2_with (first | ((with_reducible refine gateC (f := 85) rfl ?_); refine goesL_ (some 12) rfl rfl Try.func85 (by kernel_rfl) rfl #[.pointer (some ⟨g, 0, none⟩), .int .i64 2] rfl zm ?_; (with_reducible refine (spec_l1Cur_one.calls g l0 t303 t304 2 false t306 t307 w0 _ ?side1 ?side2 A5.out).mono ?_); (case side1 => exact zi); (case side2 => exact zj); rintro e w10 ⟨rfl, hi, hb, hk⟩; refine ⟨_, rfl, ?_⟩; have n0_ := am (Kd.R_mono (Kd.R_keep (IsS87.apart (show IsS87 w0 _ g l0 t303 t304 from zi) (zr HO302.out) (by decide)) hk (fun _ h => h.2)) (fun _ h => h.1)); have n1_ := am (KeepBut.trans zh hk (.inl rfl)); have n2_ := am (hb); have n3_ := am (hi); clear HO302; clear HK; clear HB; clear HI0; have HO302 := n0_; have HK := n1_; have HB := n2_; have HI0 := n3_; clear n0_ n1_ n2_ n3_; (try clear hb); (try clear hk); (try clear hi)))
   go_meet
   case rel => exact ⟨_, (false), (t306), (t307), zf, H', ⟨by first | omega | exact Nat.le_refl _⟩, ⟨by (with_reducible repeat (first | apply Kd.R_alloc | apply Kd.R_drewN | apply Kd.R_drew)); exact HO302.out⟩, ⟨by repeat (first | (with_reducible first | exact HI0.out | apply IsS87.alloc | apply IsS87.drewN | apply IsS87.drew | apply IsS87.set_1 | apply IsS87.set_2) | exact HI0.out)⟩, ⟨by repeat (first | (with_reducible first | exact HK.out | apply KeepBut.set_ | apply keep_drewN | apply keep_drew | apply keep_alloc) | exact HK.out)⟩, ⟨by repeat (first | (with_reducible first | exact HB.out | apply below_alloc | apply pw_below_drewN | apply below_drew1 | refine below_set ?_ (IsS87.ge HI0.out)) | exact HB.out)⟩⟩
 case rest =>
  clear HC3
  try clear p2
  try clear c6
  try clear c7
  try clear c8
  obtain ⟨kq, x16_2, x1001_2, x1002_2, rfl, HA, HJ2, HO_5, HI0, HK, HB⟩ := hcut
  cases kq with
  | zero => exact absurd HA.out (by simp [spec_DrawSameAhead.j0])
  | succ kj2 =>
   have H := HA.out
   clear HA
   simp only [spec_DrawSameAhead.j0] at H
   by_cases c11 : x16_2 = true
   ·subst c11
    have H1 : ((spec_l1Cur_other.f kj2 l0 x1001_2 x1002_2 t300).bind fun bt309 => (some (t300, bt309.1, bt309.2.1, bt309.2.2))) = some (r1, r2, r3, r4) := by rw [if_pos rfl] at H; exact H
    clear H
    have H := H1
    clear H1
    replace H := Option.bind_eq_some_iff.mp H
    obtain ⟨⟨t309, t312, t313⟩, A120, H⟩ := H
    replace H : (some (t300, t309, t312, t313)) = some (r1, r2, r3, r4) := H
    have A12 := am A120
    clear A120
    simp only [Option.some.injEq, Prod.mk.injEq] at H
    obtain ⟨rfl, rfl, rfl, rfl⟩ := H
    obtain ⟨Ao13, co13, eo13⟩ := Kd.R_slice HO_5.out
    subst eo13
    go_wp2_with (first | ((with_reducible refine gateC (f := 130) rfl ?_); refine goesL_ (some 20) rfl rfl Try.func130 (by kernel_rfl) rfl #[.pointer (some ⟨g, 0, none⟩), .slice Ao13 t300.length co13] rfl zm ?_; (with_reducible refine (spec_l1Cur_other.calls kj2 g l0 x1001_2 x1002_2 _ _ t300 t309 t312 t313 w0 _ ?side1 ?side2 ?side3 ?side4 ?side5 A12.out).mono ?_); (case side1 => exact zi); (case side2 => exact zj); (case side3 => repeat (first | exact (Kd.R_reads' HO_5.out).2.2 | (with_reducible refine Kd.C_alloc ?_ _) | (with_reducible refine Kd.C_drewN ?_ _) | (with_reducible refine Kd.C_drew ?_))); (case side4 => exact (Kd.R_reads' HO_5.out).2.1); (case side5 => exact far_slice (IsS87.own_ne HI0.out HO_5.out (by decide))); rintro e w14 ⟨v310, rfl, ho0, hi, hb, hk⟩; refine ⟨_, rfl, ?_⟩; have n0_ := am (Kd.R_mono (Kd.R_told (Kd.R_oldK (IsS87.apart (show IsS87 w0 _ g l0 x1001_2 x1002_2 from zi) (zr HO_5.out) (by decide)) hk) (Kd.R_base ho0)) (fun _ h_ => h_.1)); have n1_ := am (Kd.R_lower (Kd.R_new' ho0 (Kd.R_lt (zr HO_5.out))) (keep_size (w := w) (g := g) (row := none) zh)); have n2_ := am (KeepBut.trans zh hk (.inl rfl)); have n3_ := am (hb); have n4_ := am (hi); clear HO_5; clear HK; clear HB; clear HI0; have HO_5 := n0_; have HO311 := n1_; have HK := n2_; have HB := n3_; have HI0 := n4_; clear n0_ n1_ n2_ n3_ n4_; (try clear hb); (try clear hk); (try clear hi); (try clear ho0)))
    go_ret2
    exact ⟨g, w, HW0.out, _, _, by first | rfl | (simp [errW_none, errW_some] <;> rfl) | (simp [*, errW_none, errW_some] <;> rfl), by (with_reducible repeat (first | apply Kd.R_alloc | apply Kd.R_drewN | apply Kd.R_drew)); exact Kd.R_mono HO_5.out (fun _ hk => hk.2), by (with_reducible repeat (first | apply Kd.R_alloc | apply Kd.R_drewN | apply Kd.R_drew)); exact Kd.R_mono HO311.out (fun _ hk => hk.2), zi, zj, zh⟩
   ·replace c11 := Bool.eq_false_iff.mpr c11
    subst c11
    have H1 : ((spec_l1Cur_text.f kj2 l0 x1001_2 x1002_2).bind fun bt314 => (some (t300, bt314.1, bt314.2.1, bt314.2.2))) = some (r1, r2, r3, r4) := by rw [if_neg (show ¬ (false = true) by decide)] at H; exact H
    clear H
    have H := H1
    clear H1
    replace H := Option.bind_eq_some_iff.mp H
    obtain ⟨⟨t314, t317, t318⟩, A150, H⟩ := H
    replace H : (some (t300, t314, t317, t318)) = some (r1, r2, r3, r4) := H
    have A15 := am A150
    clear A150
    simp only [Option.some.injEq, Prod.mk.injEq] at H
    obtain ⟨rfl, rfl, rfl, rfl⟩ := H
    go_wp2_with (first | ((with_reducible refine gateC (f := 123) rfl ?_); refine goesL_ (some 23) rfl rfl Try.func123 (by kernel_rfl) rfl #[.pointer (some ⟨g, 0, none⟩)] rfl zm ?_; (with_reducible refine (spec_l1Cur_text.calls kj2 g l0 x1001_2 x1002_2 t314 t317 t318 w0 _ ?side1 ?side2 A15.out).mono ?_); (case side1 => exact zi); (case side2 => exact zj); rintro e w16 ⟨v315, rfl, ho0, hi, hb, hk⟩; refine ⟨_, rfl, ?_⟩; have n0_ := am (Kd.R_mono (Kd.R_told (Kd.R_oldK (IsS87.apart (show IsS87 w0 _ g l0 x1001_2 x1002_2 from zi) (zr HO_5.out) (by decide)) hk) (Kd.R_base ho0)) (fun _ h_ => h_.1)); have n1_ := am (Kd.R_lower (Kd.R_new' ho0 (Kd.R_lt (zr HO_5.out))) (keep_size (w := w) (g := g) (row := none) zh)); have n2_ := am (KeepBut.trans zh hk (.inl rfl)); have n3_ := am (hb); have n4_ := am (hi); clear HO_5; clear HK; clear HB; clear HI0; have HO_5 := n0_; have HO316 := n1_; have HK := n2_; have HB := n3_; have HI0 := n4_; clear n0_ n1_ n2_ n3_ n4_; (try clear hb); (try clear hk); (try clear hi); (try clear ho0)))
    go_ret2
    exact ⟨g, w, HW0.out, _, _, by first | rfl | (simp [errW_none, errW_some] <;> rfl) | (simp [*, errW_none, errW_some] <;> rfl), by (with_reducible repeat (first | apply Kd.R_alloc | apply Kd.R_drewN | apply Kd.R_drew)); exact Kd.R_mono HO_5.out (fun _ hk => hk.2), by (with_reducible repeat (first | apply Kd.R_alloc | apply Kd.R_drewN | apply Kd.R_drew)); exact Kd.R_mono HO316.out (fun _ hk => hk.2), zi, zj, zh⟩
theorem spec_DrawSameAhead.calls (k : Nat) (A0 : Option Addr) (c0 : Nat) (l0 : List Int) (r1 : List ByteArray) (r2 : List ByteArray) (w0 : World) (hr0 : Kd.C (Kd.int .u8) w0 A0 l0.length l0) (hc0 : l0.length ≤ c0) (h : spec_DrawSameAhead.f k l0 = some (r1, r2)) :
  Calls Try.prog 75 #[.slice A0 l0.length c0] w0 fun e w' => ∃ v0_ v1_ : Value, e = .returned (.tuple #[v0_, v1_]) ∧ Kd.R Kd.string 9 w' w0.heap.size (fun k_ => some k_ ≠ (v1_ : Value).ownBlock) v0_ r1 ∧ Kd.R Kd.string 9 w' w0.heap.size (fun k_ => some k_ ≠ (v0_ : Value).ownBlock) v1_ r2 ∧ Below w0.heap.size w0 w' := by
  obtain ⟨q, hq, e⟩ := Option.bind_eq_some_iff.1 h
  obtain ⟨q0, q1, q2, q3⟩ := q
  injection e with e
  simp only [Prod.mk.injEq] at e
  obtain ⟨rfl, rfl⟩ := e
  refine (spec_DrawSameAhead.made k A0 c0 l0 _ _ _ _ w0 hr0 hq).mono ?_
  rintro e w' ⟨g, w, hw, v0_, v1_, h0, h1, h2, _, hb, _⟩
  exact ⟨v0_, v1_, h0, Kd.R_lower h1 hw, Kd.R_lower h2 hw, hb⟩
end Go.Proofs.Ytmcldkobejhaeaa.My
/- Written by this session's program (wip/gen): a plain function with the same answers as the Go function, and the proof that the Go code comes to them. Asked: that the plain function has an answer. -/
namespace Go.Proofs.Ytmcldkobejhaeaa.My
open Go.RowKit Go.Proofs.YtmcldkobejhaeaaW.PrintWords Go.Proofs.YtmcldkobejhaeaaW.PrintLast Go.Proofs.YtmcldkobejhaeaaW.PrintMore
attribute [local go_sem] max2_int min2_int max_two min_two max_three min_three max_four min_four
set_option linter.unusedVariables false
set_option linter.unusedSimpArgs false
def spec_DrawAlikeOf.f (k : Nat) (l0 : List Int) : Option (List ByteArray × List ByteArray) := (spec_DrawSameAhead.f k l0).bind fun bt461 => (some (bt461.1, bt461.2))
set_option maxHeartbeats 8000000 in
set_option maxRecDepth 100000 in
theorem spec_DrawAlikeOf.calls (k : Nat) (A0 : Option Addr) (c0 : Nat) (l0 : List Int) (r1 : List ByteArray) (r2 : List ByteArray) (w : World) (hr0 : Kd.C (Kd.int .u8) w A0 l0.length l0) (hc0 : l0.length ≤ c0) (h : spec_DrawAlikeOf.f k l0 = some (r1, r2)) :
  Calls Try.prog 25 #[.slice A0 l0.length c0] w fun e w' => ∃ v0_ v1_ : Value, e = .returned (.tuple #[v0_, v1_]) ∧ Kd.R Kd.string 9 w' w.heap.size (fun k_ => some k_ ≠ (v1_ : Value).ownBlock) v0_ r1 ∧ Kd.R Kd.string 9 w' w.heap.size (fun k_ => some k_ ≠ (v0_ : Value).ownBlock) v1_ r2 ∧ Below w.heap.size w w' := by
 have HR0 := am hr0
 have HC0 := am hc0
 clear hr0 hc0
 have HB := am (Below.refl w.heap.size w)
 have H : ((spec_DrawSameAhead.f k l0).bind fun bt461 => (some (bt461.1, bt461.2))) = some (r1, r2) := h
 clear h
 replace H := Option.bind_eq_some_iff.mp H
 obtain ⟨⟨t461, t462⟩, A20, H⟩ := H
 replace H : (some (t461, t462)) = some (r1, r2) := H
 have A2 := am A20
 clear A20
 simp only [Option.some.injEq, Prod.mk.injEq] at H
 obtain ⟨rfl, rfl⟩ := H
 go_enter Try.func25, Try.ntmps25
 go_wp2_with (first | ((with_reducible refine gateC (f := 75) rfl ?_); refine goesL_ (some 5) rfl rfl Try.func75 (by kernel_rfl) rfl #[.slice A0 l0.length c0] rfl zm ?_; (with_reducible refine (spec_DrawSameAhead.calls k _ _ l0 t461 t462 _ ?side1 ?side2 A2.out).mono ?_); (case side1 => exact zq HR0.out); (case side2 => exact HC0.out); rintro e w3 ⟨v463, v465, rfl, ho0, ho1, hb⟩; refine ⟨_, rfl, ?_⟩; have n0_ := am (Kd.R_lower ho0 (below_size zb)); have n1_ := am (Kd.R_lower ho1 (below_size zb)); have n2_ := am (below_step zb hb); clear HB; have HO464 := n0_; have HO466 := n1_; have HB := n2_; clear n0_ n1_ n2_; (try clear hb); (try clear ho0); (try clear ho1)))
 go_ret2
 exact ⟨_, _, by first | rfl | (simp [errW_none, errW_some] <;> rfl) | (simp [*, errW_none, errW_some] <;> rfl), by (with_reducible repeat (first | apply Kd.R_alloc | apply Kd.R_drewN | apply Kd.R_drew)); exact HO464.out, by (with_reducible repeat (first | apply Kd.R_alloc | apply Kd.R_drewN | apply Kd.R_drew)); exact HO466.out, by repeat (first | (with_reducible first | exact HB.out | apply below_alloc | apply pw_below_drewN | apply below_drew1) | exact HB.out)⟩
end Go.Proofs.Ytmcldkobejhaeaa.My
/- Written by this session's program (wip/gen): a plain function with the same answers as the Go function, and the proof that the Go code comes to them. Asked: that the plain function has an answer. -/
namespace Go.Proofs.Ytmcldkobejhaeaa.My
open Go.RowKit Go.Proofs.YtmcldkobejhaeaaW.PrintWords Go.Proofs.YtmcldkobejhaeaaW.PrintLast Go.Proofs.YtmcldkobejhaeaaW.PrintMore
attribute [local go_sem] max2_int min2_int max_two min_two max_three min_three max_four min_four
set_option linter.unusedVariables false
set_option linter.unusedSimpArgs false
def spec_DrawCommonLines.f (k : Nat) (l0 : List Int) : Option (List ByteArray × List ByteArray) := (spec_DrawSameAhead.f k l0).bind fun bt322 => (some (bt322.1, bt322.2))
set_option maxHeartbeats 8000000 in
set_option maxRecDepth 100000 in
theorem spec_DrawCommonLines.calls (k : Nat) (A0 : Option Addr) (c0 : Nat) (l0 : List Int) (r1 : List ByteArray) (r2 : List ByteArray) (w : World) (hr0 : Kd.C (Kd.int .u8) w A0 l0.length l0) (hc0 : l0.length ≤ c0) (h : spec_DrawCommonLines.f k l0 = some (r1, r2)) :
  Calls Try.prog 17 #[.slice A0 l0.length c0] w fun e w' => ∃ v0_ v1_ : Value, e = .returned (.tuple #[v0_, v1_]) ∧ Kd.R Kd.string 9 w' w.heap.size (fun k_ => some k_ ≠ (v1_ : Value).ownBlock) v0_ r1 ∧ Kd.R Kd.string 9 w' w.heap.size (fun k_ => some k_ ≠ (v0_ : Value).ownBlock) v1_ r2 ∧ Below w.heap.size w w' := by
 have HR0 := am hr0
 have HC0 := am hc0
 clear hr0 hc0
 have HB := am (Below.refl w.heap.size w)
 have H : ((spec_DrawSameAhead.f k l0).bind fun bt322 => (some (bt322.1, bt322.2))) = some (r1, r2) := h
 clear h
 replace H := Option.bind_eq_some_iff.mp H
 obtain ⟨⟨t322, t323⟩, A20, H⟩ := H
 replace H : (some (t322, t323)) = some (r1, r2) := H
 have A2 := am A20
 clear A20
 simp only [Option.some.injEq, Prod.mk.injEq] at H
 obtain ⟨rfl, rfl⟩ := H
 go_enter Try.func17, Try.ntmps17
 go_wp2_with (first | ((with_reducible refine gateC (f := 75) rfl ?_); refine goesL_ (some 5) rfl rfl Try.func75 (by kernel_rfl) rfl #[.slice A0 l0.length c0] rfl zm ?_; (with_reducible refine (spec_DrawSameAhead.calls k _ _ l0 t322 t323 _ ?side1 ?side2 A2.out).mono ?_); (case side1 => exact zq HR0.out); (case side2 => exact HC0.out); rintro e w3 ⟨v324, v326, rfl, ho0, ho1, hb⟩; refine ⟨_, rfl, ?_⟩; have n0_ := am (Kd.R_lower ho0 (below_size zb)); have n1_ := am (Kd.R_lower ho1 (below_size zb)); have n2_ := am (below_step zb hb); clear HB; have HO325 := n0_; have HO327 := n1_; have HB := n2_; clear n0_ n1_ n2_; (try clear hb); (try clear ho0); (try clear ho1)))
 go_ret2
 exact ⟨_, _, by first | rfl | (simp [errW_none, errW_some] <;> rfl) | (simp [*, errW_none, errW_some] <;> rfl), by (with_reducible repeat (first | apply Kd.R_alloc | apply Kd.R_drewN | apply Kd.R_drew)); exact HO325.out, by (with_reducible repeat (first | apply Kd.R_alloc | apply Kd.R_drewN | apply Kd.R_drew)); exact HO327.out, by repeat (first | (with_reducible first | exact HB.out | apply below_alloc | apply pw_below_drewN | apply below_drew1) | exact HB.out)⟩
end Go.Proofs.Ytmcldkobejhaeaa.My
/- Written by this session's program (wip/gen): a plain function with the same answers as the Go function, and the proof that the Go code comes to them. Asked: that the plain function has an answer. -/
namespace Go.Proofs.Ytmcldkobejhaeaa.My
open Go.RowKit Go.Proofs.YtmcldkobejhaeaaW.PrintWords Go.Proofs.YtmcldkobejhaeaaW.PrintLast Go.Proofs.YtmcldkobejhaeaaW.PrintMore
attribute [local go_sem] max2_int min2_int max_two min_two max_three min_three max_four min_four
set_option linter.unusedVariables false
set_option linter.unusedSimpArgs false
def spec_l3Apart.f (k : Nat) (l0 : List ByteArray) (l1 : List ByteArray) : Option (Int) := (spec_l3Table.f k l0 l1).bind fun t474 => (if 0 < (t474.length : Int) then (if 0 < ((rd_L5 t474 0).length : Int) then (some (wrap64 ((wrap64 ((l0.length : Int) + (l1.length : Int))) - (wrap64 (2 * (rd (rd_L5 t474 0) 0)))))) else (none)) else (none))
set_option maxHeartbeats 8000000 in
set_option maxRecDepth 100000 in
theorem spec_l3Apart.calls (k : Nat) (A0 : Option Addr) (c0 : Nat) (l0 : List ByteArray) (A1 : Option Addr) (c1 : Nat) (l1 : List ByteArray) (r : Int) (w : World) (hr0 : Kd.C Kd.string w A0 l0.length l0) (hc0 : l0.length ≤ c0) (hr1 : Kd.C Kd.string w A1 l1.length l1) (hc1 : l1.length ≤ c1) (h : spec_l3Apart.f k l0 l1 = some r) :
  Calls Try.prog 82 #[.slice A0 l0.length c0, .slice A1 l1.length c1] w fun e w' => e = .returned (.int .i64 r) ∧ Below w.heap.size w w' := by
 have HR0 := am hr0
 have HC0 := am hc0
 clear hr0 hc0
 have HR1 := am hr1
 have HC1 := am hc1
 clear hr1 hc1
 have HB := am (Below.refl w.heap.size w)
 have H : ((spec_l3Table.f k l0 l1).bind fun t474 => (if 0 < (t474.length : Int) then (if 0 < ((rd_L5 t474 0).length : Int) then (some (wrap64 ((wrap64 ((l0.length : Int) + (l1.length : Int))) - (wrap64 (2 * (rd (rd_L5 t474 0) 0)))))) else (none)) else (none))) = some r := h
 clear h
 replace H := Option.bind_eq_some_iff.mp H
 obtain ⟨t474, A30, H⟩ := H
 replace H : (if 0 < (t474.length : Int) then (if 0 < ((rd_L5 t474 0).length : Int) then (some (wrap64 ((wrap64 ((l0.length : Int) + (l1.length : Int))) - (wrap64 (2 * (rd (rd_L5 t474 0) 0)))))) else (none)) else (none)) = some r := H
 have A3 := am A30
 clear A30
 by_cases c4 : 0 < (t474.length : Int)
 ·rw [if_pos c4] at H
  have c4b0 : decide (0 < (t474.length : Int)) = true := decide_eq_true c4
  have c4b1 : decide (0 < t474.length) = true := decide_eq_true (by omega)
  clear c4
  by_cases c5 : 0 < ((rd_L5 t474 0).length : Int)
  ·rw [if_pos c5] at H
   have c5b0 : decide (0 < ((rd_L5 t474 0).length : Int)) = true := decide_eq_true c5
   have c5b1 : decide (0 < (rd_L5 t474 0).length) = true := decide_eq_true (by omega)
   clear c5
   obtain rfl := Option.some.inj H
   go_enter Try.func82, Try.ntmps82
   go_wp2_with (first | ((with_reducible refine gateC (f := 79) rfl ?_); refine goesL_ (some 12) rfl rfl Try.func79 (by kernel_rfl) rfl #[.slice A0 l0.length c0, .slice A1 l1.length c1] rfl zm ?_; (with_reducible refine (spec_l3Table.calls k _ _ l0 _ _ l1 t474 _ ?side1 ?side2 ?side3 ?side4 A3.out).mono ?_); (case side1 => exact zq HR0.out); (case side2 => exact HC0.out); (case side3 => exact zq HR1.out); (case side4 => exact HC1.out); rintro e w6 ⟨v475, rfl, ho0, hb⟩; refine ⟨_, rfl, ?_⟩; have n0_ := am (Kd.S_lower ho0 (below_size zb)); have n1_ := am (below_step zb hb); clear HB; have HO476 := n0_; have HB := n1_; clear n0_ n1_; (try clear hb); (try clear ho0); obtain ⟨Ao7, co7, eo7⟩ := Kd.S_slice HO476.out; subst eo7; have p477 : 0 ≤ (0 : Int) := (by omega); have q477 : 0 < (t474.length : Int) := oa; obtain ⟨ad477, A477_0, c477_0, e477, hx477_0, hl477_0, hi477_0⟩ := at_L5 (Kd.S_reads' HO476.out).2.2 0 p477 q477; cases e477; obtain ⟨ce477, hce477, hMe477, hcc477⟩ := Kd.S_get HO476.out [] 0 p477 (by first | exact q477 | exact oa | (have e_ := (Kd.S_reads' HO476.out).1; omega)); obtain ⟨ve477_0, rfl, ge477_0⟩ := hMe477; have hv477_0 := hcc477 0 _ rfl; rw [Nat.add_zero, show ((Kd.slice 3 (Kd.int .i64))).sz = 1 from rfl, Nat.mul_one] at hv477_0; replace hv477_0 := Option.some.inj (hv477_0.symm.trans hx477_0); rw [hv477_0] at ge477_0; have HL477_0 := am (show Kd.R (Kd.int .i64) 3 _ _ _ _ (rd_L5 t474 0) from ge477_0); clear hv477_0 ge477_0; clear hcc477 hce477; have qi477 : (0 < t474.length) = True := eq_true (by omega); (try rw [show ((0 : Int)).toNat = 0 from rfl] at hx477_0); (try rw [Addr.add_zero'] at hx477_0); have HR477_0 := am hi477_0; have HC477_0 := am hl477_0; clear hi477_0 hl477_0; replace p477 := eq_true p477; replace q477 := eq_true q477; have p478 : 0 ≤ (0 : Int) := (by omega); have q478 : 0 < ((rd_L5 t474 0).length : Int) := oa; obtain ⟨ad478, e478, hx478_0⟩ := Kd.at_int (by repeat (first | (with_reducible exact HR477_0.out) | (with_reducible refine Kd.C_alloc ?_ _) | (with_reducible refine Kd.C_drewN ?_ _) | (with_reducible refine Kd.C_drew ?_) | exact HR477_0.out)) 0 p478 q478; cases e478; have qi478 : (0 < (rd_L5 t474 0).length) = True := eq_true (by omega); (try rw [show ((0 : Int)).toNat = 0 from rfl] at hx478_0); (try rw [Addr.add_zero'] at hx478_0); replace p478 := eq_true p478; replace q478 := eq_true q478))
   go_ret
   exact ⟨by first | rfl | (simp [errW_none, errW_some] <;> rfl) | (simp [*, errW_none, errW_some] <;> rfl), by repeat (first | (with_reducible first | exact HB.out | apply below_alloc | apply pw_below_drewN | apply below_drew1) | exact HB.out)⟩
  ·rw [if_neg c5] at H
   exact absurd H (by simp)
 ·rw [if_neg c4] at H
  exact absurd H (by simp)
end Go.Proofs.Ytmcldkobejhaeaa.My
/- Written by this session's program (wip/gen): a plain function with the same answers as the Go function, and the proof that the Go code comes to them. Asked: that the plain function has an answer. -/
namespace Go.Proofs.Ytmcldkobejhaeaa.My
open Go.RowKit Go.Proofs.YtmcldkobejhaeaaW.PrintWords Go.Proofs.YtmcldkobejhaeaaW.PrintLast Go.Proofs.YtmcldkobejhaeaaW.PrintMore
attribute [local go_sem] max2_int min2_int max_two min_two max_three min_three max_four min_four
set_option linter.unusedVariables false
set_option linter.unusedSimpArgs false
def spec_FarApart.f (k : Nat) (l0 : List ByteArray) (l1 : List ByteArray) : Option (Int × Bool) := (spec_l1Good.f k l0).bind fun t479 => (if t479 = true then ((spec_l1Good.f k l1).bind fun t480 => (if t480 = true then ((spec_l3Apart.f k l0 l1).bind fun t481 => (some (t481, true))) else (some (0, false)))) else (some (0, false)))
set_option maxHeartbeats 8000000 in
set_option maxRecDepth 100000 in
theorem spec_FarApart.calls (k : Nat) (A0 : Option Addr) (c0 : Nat) (l0 : List ByteArray) (A1 : Option Addr) (c1 : Nat) (l1 : List ByteArray) (r1 : Int) (r2 : Bool) (w : World) (hr0 : Kd.C Kd.string w A0 l0.length l0) (hc0 : l0.length ≤ c0) (hr1 : Kd.C Kd.string w A1 l1.length l1) (hc1 : l1.length ≤ c1) (h : spec_FarApart.f k l0 l1 = some (r1, r2)) :
  Calls Try.prog 27 #[.slice A0 l0.length c0, .slice A1 l1.length c1] w fun e w' => e = .returned (.tuple #[.int .i64 r1, .bool r2]) ∧ Below w.heap.size w w' := by
 have HR0 := am hr0
 have HC0 := am hc0
 clear hr0 hc0
 have HR1 := am hr1
 have HC1 := am hc1
 clear hr1 hc1
 have HB := am (Below.refl w.heap.size w)
 have H : ((spec_l1Good.f k l0).bind fun t479 => (if t479 = true then ((spec_l1Good.f k l1).bind fun t480 => (if t480 = true then ((spec_l3Apart.f k l0 l1).bind fun t481 => (some (t481, true))) else (some (0, false)))) else (some (0, false)))) = some (r1, r2) := h
 clear h
 replace H := Option.bind_eq_some_iff.mp H
 obtain ⟨t479, A30, H⟩ := H
 replace H : (if t479 = true then ((spec_l1Good.f k l1).bind fun t480 => (if t480 = true then ((spec_l3Apart.f k l0 l1).bind fun t481 => (some (t481, true))) else (some (0, false)))) else (some (0, false))) = some (r1, r2) := H
 have A3 := am A30
 clear A30
 by_cases c4 : t479 = true
 ·subst c4
  have H1 : ((spec_l1Good.f k l1).bind fun t480 => (if t480 = true then ((spec_l3Apart.f k l0 l1).bind fun t481 => (some (t481, true))) else (some (0, false)))) = some (r1, r2) := by rw [if_pos rfl] at H; exact H
  clear H
  have H := H1
  clear H1
  replace H := Option.bind_eq_some_iff.mp H
  obtain ⟨t480, A50, H⟩ := H
  replace H : (if t480 = true then ((spec_l3Apart.f k l0 l1).bind fun t481 => (some (t481, true))) else (some (0, false))) = some (r1, r2) := H
  have A5 := am A50
  clear A50
  by_cases c6 : t480 = true
  ·subst c6
   have H1 : ((spec_l3Apart.f k l0 l1).bind fun t481 => (some (t481, true))) = some (r1, r2) := by rw [if_pos rfl] at H; exact H
   clear H
   have H := H1
   clear H1
   replace H := Option.bind_eq_some_iff.mp H
   obtain ⟨t481, A70, H⟩ := H
   replace H : (some (t481, true)) = some (r1, r2) := H
   have A7 := am A70
   clear A70
   simp only [Option.some.injEq, Prod.mk.injEq] at H
   obtain ⟨rfl, rfl⟩ := H
   go_enter Try.func27, Try.ntmps27
   go_wp2_with (first | ((with_reducible refine gateC (f := 66) rfl ?_); refine goesL_ (some 7) rfl rfl Try.func66 (by kernel_rfl) rfl #[.slice A0 l0.length c0] rfl zm ?_; (with_reducible refine (spec_l1Good.calls k _ _ l0 true _ ?side1 ?side2 A3.out).mono ?_); (case side1 => exact zq HR0.out); (case side2 => exact HC0.out); rintro e w' ⟨rfl, ⟨nd, rfl⟩⟩; refine ⟨_, rfl, ?_⟩) | (go_at_call 66; (with_reducible refine (spec_l1Good.calls k _ _ l1 true _ ?side1 ?side2 A5.out).mono ?_); (case side1 => exact zq HR1.out); (case side2 => exact HC1.out); rintro e w' ⟨rfl, ⟨nd, rfl⟩⟩) | ((with_reducible refine gateC (f := 82) rfl ?_); refine goesL_ (some 16) rfl rfl Try.func82 (by kernel_rfl) rfl #[.slice A0 l0.length c0, .slice A1 l1.length c1] rfl zm ?_; (with_reducible refine (spec_l3Apart.calls k _ _ l0 _ _ l1 t481 _ ?side1 ?side2 ?side3 ?side4 A7.out).mono ?_); (case side1 => exact zq HR0.out); (case side2 => exact HC0.out); (case side3 => exact zq HR1.out); (case side4 => exact HC1.out); rintro e w8 ⟨rfl, hb⟩; refine ⟨_, rfl, ?_⟩; have n0_ := am (below_step zb hb); clear HB; have HB := n0_; clear n0_; (try clear hb)))
   go_ret2
   exact ⟨by first | rfl | (simp [errW_none, errW_some] <;> rfl) | (simp [*, errW_none, errW_some] <;> rfl), by repeat (first | (with_reducible first | exact HB.out | apply below_alloc | apply pw_below_drewN | apply below_drew1) | exact HB.out)⟩
  ·replace c6 := Bool.eq_false_iff.mpr c6
   subst c6
   have H1 : (some (0, false)) = some (r1, r2) := by rw [if_neg (show ¬ (false = true) by decide)] at H; exact H
   clear H
   have H := H1
   clear H1
   simp only [Option.some.injEq, Prod.mk.injEq] at H
   obtain ⟨rfl, rfl⟩ := H
   go_enter Try.func27, Try.ntmps27
   go_wp2_with (first | ((with_reducible refine gateC (f := 66) rfl ?_); refine goesL_ (some 7) rfl rfl Try.func66 (by kernel_rfl) rfl #[.slice A0 l0.length c0] rfl zm ?_; (with_reducible refine (spec_l1Good.calls k _ _ l0 true _ ?side1 ?side2 A3.out).mono ?_); (case side1 => exact zq HR0.out); (case side2 => exact HC0.out); rintro e w' ⟨rfl, ⟨nd, rfl⟩⟩; refine ⟨_, rfl, ?_⟩) | (go_at_call 66; (with_reducible refine (spec_l1Good.calls k _ _ l1 false _ ?side1 ?side2 A5.out).mono ?_); (case side1 => exact zq HR1.out); (case side2 => exact HC1.out); rintro e w' ⟨rfl, ⟨nd, rfl⟩⟩))
   go_ret2
   exact ⟨by first | rfl | (simp [errW_none, errW_some] <;> rfl) | (simp [*, errW_none, errW_some] <;> rfl), by repeat (first | (with_reducible first | exact HB.out | apply below_alloc | apply pw_below_drewN | apply below_drew1) | exact HB.out)⟩
 ·replace c4 := Bool.eq_false_iff.mpr c4
  subst c4
  have H1 : (some (0, false)) = some (r1, r2) := by rw [if_neg (show ¬ (false = true) by decide)] at H; exact H
  clear H
  have H := H1
  clear H1
  simp only [Option.some.injEq, Prod.mk.injEq] at H
  obtain ⟨rfl, rfl⟩ := H
  go_enter Try.func27, Try.ntmps27
  go_wp2_with (first | ((with_reducible refine gateC (f := 66) rfl ?_); refine goesL_ (some 7) rfl rfl Try.func66 (by kernel_rfl) rfl #[.slice A0 l0.length c0] rfl zm ?_; (with_reducible refine (spec_l1Good.calls k _ _ l0 false _ ?side1 ?side2 A3.out).mono ?_); (case side1 => exact zq HR0.out); (case side2 => exact HC0.out); rintro e w' ⟨rfl, ⟨nd, rfl⟩⟩; refine ⟨_, rfl, ?_⟩))
  go_ret2
  exact ⟨by first | rfl | (simp [errW_none, errW_some] <;> rfl) | (simp [*, errW_none, errW_some] <;> rfl), by repeat (first | (with_reducible first | exact HB.out | apply below_alloc | apply pw_below_drewN | apply below_drew1) | exact HB.out)⟩
end Go.Proofs.Ytmcldkobejhaeaa.My