/- Part 5 of 6 of a proof of this sentence: The Go function loop.example/g00825/laws.FnExactApplySteps returns true for every input, and each argument reads afterwards as it read before. No condition. -/
import Derived.Lib.Strings
import Derived.Lib.Bytealg
import Derived.Test.YtcefenlblnediaaCFnExactApplySteps4
/- Written by this session's program (wip/gen): a plain function with the same answers as the Go function, and the proof that the Go code comes to them. Asked: that the plain function has an answer. -/
namespace Go.Proofs.Ytcefenlblnediaa.My
open Go.RowKit Go.Proofs.YtcefenlblnediaaW.PrintWords Go.Proofs.YtcefenlblnediaaW.PrintLast Go.Proofs.YtcefenlblnediaaW.PrintMore
attribute [local go_sem] max2_int min2_int max_two min_two max_three min_three max_four min_four
set_option linter.unusedVariables false
set_option linter.unusedSimpArgs false

/-! ### laws_szStringS: function 14 -/
def laws_szStringS.l0 : Nat → List ByteArray → Int → Int → Option (Int)
 | 0, _, _, _ => none
 | k + 1, x0, x1, x5 => if x5 < (x0.length : Int) then (if 0 ≤ x5 then (if (wrap64 (x1 - ((rdOf ByteArray.empty x0 x5).size : Int))) < 0 then (some (-1)) else (laws_szStringS.l0 k x0 (wrap64 (x1 - ((rdOf ByteArray.empty x0 x5).size : Int))) (wrap64 (x5 + 1)))) else (none)) else (some x1)
def laws_szStringS.f (k : Nat) (l0 : List ByteArray) (a1 : Int) : Option (Int) := if (wrap64 (a1 - (l0.length : Int))) < 0 then (some (-1)) else (laws_szStringS.l0 k l0 (wrap64 (a1 - (l0.length : Int))) 0)
set_option maxHeartbeats 8000000 in
set_option maxRecDepth 100000 in
theorem laws_szStringS.calls (k : Nat) (A0 : Option Addr) (c0 : Nat) (l0 : List ByteArray) (a1 : Int) (r : Int) (w : World) (hr0 : Kd.C Kd.string w A0 l0.length l0) (hc0 : l0.length ≤ c0) (h : laws_szStringS.f k l0 a1 = some r) :
  Calls Try.prog 14 #[.slice A0 l0.length c0, .int .i64 a1] w fun e w' => e = .returned (.int .i64 r) ∧ Drawn0 w w' := by
 have HR0 := Aside0.mk hr0
 have HC0 := Aside0.mk hc0
 clear hr0 hc0
 have H : (if (wrap64 (a1 - (l0.length : Int))) < 0 then (some (-1)) else (laws_szStringS.l0 k l0 (wrap64 (a1 - (l0.length : Int))) 0)) = some r := h
 clear h
 by_cases c3 : (wrap64 (a1 - (l0.length : Int))) < 0
 ·rw [if_pos c3] at H
  have c3b0 : decide ((wrap64 (a1 - (l0.length : Int))) < 0) = true := decide_eq_true c3
  clear c3
  obtain rfl := Option.some.inj H
  go_enter Try.func14, Try.ntmps14
  go_wp2
  go_ret
  exact ⟨by first | rfl | (simp; done) | (simp [*]; done), by repeat (first | exact Drawn0.refl _ | apply Drawn0.step)⟩
 ·rw [if_neg c3] at H
  have c3b0 : decide ((wrap64 (a1 - (l0.length : Int))) < 0) = false := decide_eq_false c3
  clear c3
  have H' := Aside0.mk H
  clear H
  go_enter Try.func14, Try.ntmps14
  go_wp2
  go_loopg [1, 5] k (fun kq v1 v5 w' => ∃ (x1_1 : Int) (x5_1 : Int), v1 = .int .i64 x1_1 ∧ v5 = .int .i64 x5_1 ∧ Aside0 (laws_szStringS.l0 kq l0 x1_1 x5_1 = some r) ∧ Aside0 (kq ≤ k) ∧ Drawn0 w w')
  case atStart => exact ⟨(wrap64 (a1 - (l0.length : Int))), (0), zf, zf, H', ⟨Nat.le_refl _⟩, by repeat (first | exact Drawn0.refl _ | apply Drawn0.step)⟩
  case round =>
   clear H'
   try clear c1
   try clear p2
   try clear c3
   try clear c3b0
   obtain ⟨x1_1, x5_1, rfl, rfl, HA, HK1, ⟨m1, rfl⟩⟩ := hrel
   cases gk with
   | zero => exact absurd HA.out (by simp [laws_szStringS.l0])
   | succ k1 =>
    have H := HA.out
    clear HA
    simp only [laws_szStringS.l0] at H
    by_cases c4 : x5_1 < (l0.length : Int)
    ·rw [if_pos c4] at H
     have c4b0 : decide (x5_1 < (l0.length : Int)) = true := decide_eq_true c4
     clear c4
     by_cases c5 : 0 ≤ x5_1
     ·rw [if_pos c5] at H
      have c5b0 : decide (0 ≤ x5_1) = true := decide_eq_true c5
      clear c5
      by_cases c6 : (wrap64 (x1_1 - ((rdOf ByteArray.empty l0 x5_1).size : Int))) < 0
      ·rw [if_pos c6] at H
       have c6b0 : decide ((wrap64 (x1_1 - ((rdOf ByteArray.empty l0 x5_1).size : Int))) < 0) = true := decide_eq_true c6
       clear c6
       obtain rfl := Option.some.inj H
       have p101 : 0 ≤ (x5_1 : Int) := oa
       have q101 : x5_1 < (l0.length : Int) := oa
       obtain ⟨ad101, e101, hx101_0⟩ := Kd.at_string HR0.out x5_1 p101 q101
       cases e101
       replace p101 := eq_true p101
       replace q101 := eq_true q101
       go_wp2
       go_ret
       exact ⟨by first | rfl | (simp; done) | (simp [*]; done), by repeat (first | exact Drawn0.refl _ | apply Drawn0.step)⟩
      ·rw [if_neg c6] at H
       have c6b0 : decide ((wrap64 (x1_1 - ((rdOf ByteArray.empty l0 x5_1).size : Int))) < 0) = false := decide_eq_false c6
       clear c6
       have H' := Aside0.mk H
       clear H
       have p101 : 0 ≤ (x5_1 : Int) := oa
       have q101 : x5_1 < (l0.length : Int) := oa
       obtain ⟨ad101, e101, hx101_0⟩ := Kd.at_string HR0.out x5_1 p101 q101
       cases e101
       replace p101 := eq_true p101
       replace q101 := eq_true q101
       go_wp2
       go_roundg k1
       case measure => have := HK1.out; omega
       case rel => exact ⟨(wrap64 (x1_1 - ((rdOf ByteArray.empty l0 x5_1).size : Int))), (wrap64 (x5_1 + 1)), zf, zf, H', ⟨by have := HK1.out; omega⟩, by repeat (first | exact Drawn0.refl _ | apply Drawn0.step)⟩
     ·rw [if_neg c5] at H
      exact absurd H (by simp)
    ·rw [if_neg c4] at H
     have c4b0 : decide (x5_1 < (l0.length : Int)) = false := decide_eq_false c4
     clear c4
     obtain rfl := Option.some.inj H
     go_wp2
     go_ret
     exact ⟨by first | rfl | (simp; done) | (simp [*]; done), by repeat (first | exact Drawn0.refl _ | apply Drawn0.step)⟩

end Go.Proofs.Ytcefenlblnediaa.My

/- Written by this session's program (wip/gen): a plain function with the same answers as the Go function, and the proof that the Go code comes to them. Asked: that the plain function has an answer. -/
namespace Go.Proofs.Ytcefenlblnediaa.My
open Go.RowKit Go.Proofs.YtcefenlblnediaaW.PrintWords Go.Proofs.YtcefenlblnediaaW.PrintLast Go.Proofs.YtcefenlblnediaaW.PrintMore
attribute [local go_sem] max2_int min2_int max_two min_two max_three min_three max_four min_four
set_option linter.unusedVariables false
set_option linter.unusedSimpArgs false

/-! ### laws_toStringS: function 16 -/
def laws_toStringS.l0 : Nat → List ByteArray → List ByteArray → Int → Option (List ByteArray)
 | 0, _, _, _ => none
 | k + 1, x0, x3, x4 => if x4 < (x0.length : Int) then (if 0 ≤ x4 then (if x4 < (x3.length : Int) then (laws_toStringS.l0 k x0 (x3.set (x4 : Int).toNat (rdOf ByteArray.empty x0 x4)) (wrap64 (x4 + 1))) else (none)) else (none)) else (some x3)
def laws_toStringS.f (k : Nat) (l0 : List ByteArray) : Option (List ByteArray) := if 0 ≤ (l0.length : Int) then (if ((l0.length : Int) : Int).toNat ≤ 17592186044416 then (laws_toStringS.l0 k l0 (List.replicate ((l0.length : Int) : Int).toNat (⟨#[]⟩ : ByteArray)) 0) else (none)) else (none)
set_option maxHeartbeats 8000000 in
set_option maxRecDepth 100000 in
theorem laws_toStringS.calls (k : Nat) (A0 : Option Addr) (c0 : Nat) (l0 : List ByteArray) (r : List ByteArray) (w : World) (hr0 : Kd.C Kd.string w A0 l0.length l0) (hc0 : l0.length ≤ c0) (h : laws_toStringS.f k l0 = some r) :
  Calls Try.prog 16 #[.slice A0 l0.length c0] w fun e w' => ∃ v0_ : Value, e = .returned (v0_) ∧ Kd.R Kd.string 9 w' w.heap.size (fun _ => True) v0_ r ∧ Below w.heap.size w w' := by
 have HR0 := Aside0.mk hr0
 have HC0 := Aside0.mk hc0
 clear hr0 hc0
 have HB := Aside0.mk (Below.refl w.heap.size w)
 have H : (if 0 ≤ (l0.length : Int) then (if ((l0.length : Int) : Int).toNat ≤ 17592186044416 then (laws_toStringS.l0 k l0 (List.replicate ((l0.length : Int) : Int).toNat (⟨#[]⟩ : ByteArray)) 0) else (none)) else (none)) = some r := h
 clear h
 by_cases c2 : 0 ≤ (l0.length : Int)
 ·rw [if_pos c2] at H
  have c2b0 := eq_true c2
  have c2b1 : decide (0 ≤ (l0.length : Int)) = true := decide_eq_true c2
  clear c2
  by_cases c3 : ((l0.length : Int) : Int).toNat ≤ 17592186044416
  ·rw [if_pos c3] at H
   have c3b0 := eq_true c3
   have c3b1 : decide (((l0.length : Int) : Int).toNat ≤ 17592186044416) = true := decide_eq_true c3
   clear c3
   obtain ⟨y109, hy109⟩ : ∃ y_ : List ByteArray, y_ = (List.replicate ((l0.length : Int) : Int).toNat (⟨#[]⟩ : ByteArray)) := ⟨_, rfl⟩
   replace H : (laws_toStringS.l0 k l0 y109 0) = some r := by first | (rw [hy109]; with_reducible exact H) | (have H2_ := (Option.bind_some _ _).symm.trans H; rw [hy109]; with_reducible exact H2_) | (have H2_ := (Option.bind_some _ _).symm.trans H; with_reducible exact H2_) | with_reducible exact H | (rw [hy109]; exact H) | exact H
   have Ny109 := Aside0.mk hy109
   clear hy109
   have H' := Aside0.mk H
   clear H
   go_enter Try.func16, Try.ntmps16
   go_wp2_with (first | ((with_reducible refine gate_dst (N := 7) rfl ?_); refine Kd.R_make Kd.string _ 9 rfl (N := 7) rfl 22 _ _ rfl (l0.length : Int) rfl rfl Try.underlying22 (.string ⟨#[]⟩) 16 info9 rfl (by decide) (by omega) (⟨#[]⟩ : ByteArray) (ok := fun _ => True) (okp := fun _ => True) rfl (fun _ hk => hk) trivial oa (Nat.le_trans (Nat.mul_le_mul_right _ (oa : (l0.length : Int).toNat ≤ 17592186044416)) (by omega)) (Below.refl _ _) (Nat.le_refl _) ?_; intro v110 w4 ho5 hb hg_ hnew_; clear hg_ hnew_; (first | rw [← Ny109.out] at ho5 | (simp only [Int.reduceToNat] at ho5; rw [← Ny109.out] at ho5)); have n0_ := Aside0.mk (Kd.R_lower ho5 (below_size zb)); have n1_ := Aside0.mk (below_step zb hb); clear HB; have HO111 := n0_; have HB := n1_; clear n0_ n1_; clear hb ho5))
   go_loopg [4] k (fun kq v4 w' => ∃ (x3_1 : List ByteArray) (x4_1 : Int), v4 = .int .i64 x4_1 ∧ Aside0 (laws_toStringS.l0 kq l0 x3_1 x4_1 = some r) ∧ Aside0 (kq ≤ k) ∧ Aside0 (Kd.R Kd.string 9 w' w.heap.size (fun _ => True) v110 x3_1) ∧ Aside0 (Below w.heap.size w w'))
   case atStart => exact ⟨(y109), (0), zf, H', ⟨Nat.le_refl _⟩, ⟨by (with_reducible repeat (first | apply Kd.R_alloc | apply Kd.R_drewN | apply Kd.R_drew)); exact HO111.out⟩, ⟨by repeat (first | (with_reducible first | exact HB.out | apply below_alloc | apply pw_below_drewN | apply below_drew1) | exact HB.out)⟩⟩
   case round =>
    clear H'
    try clear c1
    try clear c2
    try clear c2b0
    try clear c2b1
    try clear p2
    try clear c3
    try clear c3b0
    try clear c3b1
    obtain ⟨x3_1, x4_1, rfl, HA, HK1, HO_3, HB⟩ := hrel
    cases gk with
    | zero => exact absurd HA.out (by simp [laws_toStringS.l0])
    | succ k1 =>
     have H := HA.out
     clear HA
     simp only [laws_toStringS.l0] at H
     by_cases c6 : x4_1 < (l0.length : Int)
     ·rw [if_pos c6] at H
      have c6b0 : decide (x4_1 < (l0.length : Int)) = true := decide_eq_true c6
      clear c6
      by_cases c7 : 0 ≤ x4_1
      ·rw [if_pos c7] at H
       have c7b0 : decide (0 ≤ x4_1) = true := decide_eq_true c7
       clear c7
       by_cases c8 : x4_1 < (x3_1.length : Int)
       ·rw [if_pos c8] at H
        have c8b0 : decide (x4_1 < (x3_1.length : Int)) = true := decide_eq_true c8
        clear c8
        obtain ⟨y113, hy113⟩ : ∃ y_ : List ByteArray, y_ = (x3_1.set (x4_1 : Int).toNat (rdOf ByteArray.empty l0 x4_1)) := ⟨_, rfl⟩
        replace H : (laws_toStringS.l0 k1 l0 y113 (wrap64 (x4_1 + 1))) = some r := by first | (rw [hy113]; with_reducible exact H) | (have H2_ := (Option.bind_some _ _).symm.trans H; rw [hy113]; with_reducible exact H2_) | (have H2_ := (Option.bind_some _ _).symm.trans H; with_reducible exact H2_) | with_reducible exact H | (rw [hy113]; exact H) | exact H
        have Ny113 := Aside0.mk hy113
        clear hy113
        have H' := Aside0.mk H
        clear H
        have p112 : 0 ≤ (x4_1 : Int) := oa
        have q112 : x4_1 < (l0.length : Int) := oa
        obtain ⟨ad112, e112, hx112_0⟩ := Kd.at_string HR0.out x4_1 p112 q112
        cases e112
        replace hx112_0 := (HB.out.cell (World.block_lt_of_cell? w _ hx112_0)).trans hx112_0
        replace p112 := eq_true p112
        replace q112 := eq_true q112
        have p9 : 0 ≤ (x4_1 : Int) := oa
        have q9 : (x4_1 : Int) < ((x3_1.length : Int) : Int) := oa
        obtain ⟨go9, co9, eo9, gb9, gl9, cl9, HG9⟩ := Kd.R_form HO_3.out (by omega)
        (first | cases eo9 | (injection eo9 with ea_ en_ ec_; (first | subst ea_ | (injection ea_ with ea_; subst ea_)); subst ec_; clear en_))
        have GB9 := Aside0.mk gb9
        have GG9 := Aside0.mk HG9
        clear gb9 gl9 HG9
        obtain ⟨hx9_0, hf9_0⟩ := Kd.R_celln (⟨#[]⟩ : ByteArray) HO_3.out (x4_1 : Int) p9 q9
        replace p9 := eq_true p9
        replace q9 := eq_true q9
        have HP10 := Kd.R_putg HO_3.out (x4_1 : Int) (rdOf ByteArray.empty l0 x4_1)
        go_wp2_with (first | ((with_reducible refine gate_store (t := 9) (p := 20) rfl ?_); refine store_event (t := 9) (p := 20) (v := ?vo_w11) (w1 := (wr.setCell ⟨go9, (x4_1 : Int).toNat, none⟩ (.string (rdOf ByteArray.empty l0 x4_1)))) ?hg ?ho ?hn ?hr ?_; (case ho => rfl); (case hg => rfl); (case hn => rfl); (case hr => first | (go_simp; done) | (go_simp; rfl)); intro w11 hw; have hg : wr.grownBy w11 (some go9) := (by rw [hw]; exact HP10.2); have hp_ : Kd.R Kd.string 9 w11 w.heap.size (fun _ => True) (.slice (some ⟨go9, 0, none⟩) x3_1.length co9) y113 := (by rw [hw, Ny113.out]; exact HP10.1); clear HP10; have n0_ := Aside0.mk (hp_); have n1_ := Aside0.mk ((by rw [hw]; exact below_set (HB.out) GB9.out : Below w.heap.size w w11)); clear HO_3; clear HB; have HO_3 := n0_; have HB := n1_; clear n0_ n1_; clear hg hw hp_))
        go_roundg k1
        case measure => have := HK1.out; omega
        case rel => exact ⟨(y113), (wrap64 (x4_1 + 1)), zf, H', ⟨by have := HK1.out; omega⟩, ⟨by (with_reducible repeat (first | apply Kd.R_alloc | apply Kd.R_drewN | apply Kd.R_drew)); exact HO_3.out⟩, ⟨by repeat (first | (with_reducible first | exact HB.out | apply below_alloc | apply pw_below_drewN | apply below_drew1) | exact HB.out)⟩⟩
       ·rw [if_neg c8] at H
        exact absurd H (by simp)
      ·rw [if_neg c7] at H
       exact absurd H (by simp)
     ·rw [if_neg c6] at H
      have c6b0 : decide (x4_1 < (l0.length : Int)) = false := decide_eq_false c6
      clear c6
      obtain rfl := Option.some.inj H
      go_wp2
      go_ret
      exact ⟨_, by first | rfl | (simp [errW_none, errW_some] <;> rfl) | (simp [*, errW_none, errW_some] <;> rfl), by (with_reducible repeat (first | apply Kd.R_alloc | apply Kd.R_drewN | apply Kd.R_drew)); exact HO_3.out, by repeat (first | (with_reducible first | exact HB.out | apply below_alloc | apply pw_below_drewN | apply below_drew1) | exact HB.out)⟩
  ·rw [if_neg c3] at H
   exact absurd H (by simp)
 ·rw [if_neg c2] at H
  exact absurd H (by simp)

end Go.Proofs.Ytcefenlblnediaa.My

/- Written by this session's program (wip/gen): a plain function with the same answers as the Go function, and the proof that the Go code comes to them. Asked: that the plain function has an answer. -/
namespace Go.Proofs.Ytcefenlblnediaa.My
open Go.RowKit Go.Proofs.YtcefenlblnediaaW.PrintWords Go.Proofs.YtcefenlblnediaaW.PrintLast Go.Proofs.YtcefenlblnediaaW.PrintMore
attribute [local go_sem] max2_int min2_int max_two min_two max_three min_three max_four min_four
set_option linter.unusedVariables false
set_option linter.unusedSimpArgs false

/-! ### laws_eqStringS: function 18 -/
def laws_eqStringS.l0 : Nat → List ByteArray → List ByteArray → Int → Option (Bool)
 | 0, _, _, _ => none
 | k + 1, x0, x1, x5 => if x5 < (x0.length : Int) then (if 0 ≤ x5 then (if x5 < (x1.length : Int) then (if (rdOf ByteArray.empty x0 x5).toList = (rdOf ByteArray.empty x1 x5).toList then (laws_eqStringS.l0 k x0 x1 (wrap64 (x5 + 1))) else (some false)) else (none)) else (none)) else (some true)
def laws_eqStringS.f (k : Nat) (l0 : List ByteArray) (l1 : List ByteArray) : Option (Bool) := if (l0.length : Int) = (l1.length : Int) then (laws_eqStringS.l0 k l0 l1 0) else (some false)
set_option maxHeartbeats 8000000 in
set_option maxRecDepth 100000 in
theorem laws_eqStringS.calls (k : Nat) (A0 : Option Addr) (c0 : Nat) (l0 : List ByteArray) (A1 : Option Addr) (c1 : Nat) (l1 : List ByteArray) (r : Bool) (w : World) (hr0 : Kd.C Kd.string w A0 l0.length l0) (hc0 : l0.length ≤ c0) (hr1 : Kd.C Kd.string w A1 l1.length l1) (hc1 : l1.length ≤ c1) (h : laws_eqStringS.f k l0 l1 = some r) :
  Calls Try.prog 18 #[.slice A0 l0.length c0, .slice A1 l1.length c1] w fun e w' => e = .returned (.bool r) ∧ Drawn0 w w' := by
 have HR0 := Aside0.mk hr0
 have HC0 := Aside0.mk hc0
 clear hr0 hc0
 have HR1 := Aside0.mk hr1
 have HC1 := Aside0.mk hc1
 clear hr1 hc1
 have H : (if (l0.length : Int) = (l1.length : Int) then (laws_eqStringS.l0 k l0 l1 0) else (some false)) = some r := h
 clear h
 by_cases c3 : (l0.length : Int) = (l1.length : Int)
 ·rw [if_pos c3] at H
  have c3b0 : ((l0.length : Int) == (l1.length : Int)) = true := beq_iff_eq.mpr c3
  have c3b1 : ((l0.length : Int) != (l1.length : Int)) = false := bne_eq_false_iff_eq.mpr c3
  have c3b2 : (l0.length == l1.length) = true := by first | simpa using c3 | (simp at c3 ⊢; omega)
  clear c3
  have H' := Aside0.mk H
  clear H
  go_enter Try.func18, Try.ntmps18
  go_wp2
  repeat (go_quiet (fail); try go_wp2)
  go_loopg [5] k (fun kq v5 w' => ∃ (x5_1 : Int), v5 = .int .i64 x5_1 ∧ Aside0 (laws_eqStringS.l0 kq l0 l1 x5_1 = some r) ∧ Aside0 (kq ≤ k) ∧ Drawn0 w w')
  case atStart => exact ⟨(0), zf, H', ⟨Nat.le_refl _⟩, by repeat (first | exact Drawn0.refl _ | apply Drawn0.step)⟩
  case round =>
   clear H'
   try clear c1
   try clear p2
   try clear c3
   try clear c3b0
   try clear c3b1
   try clear c3b2
   obtain ⟨x5_1, rfl, HA, HK1, ⟨m1, rfl⟩⟩ := hrel
   cases gk with
   | zero => exact absurd HA.out (by simp [laws_eqStringS.l0])
   | succ k1 =>
    have H := HA.out
    clear HA
    simp only [laws_eqStringS.l0] at H
    by_cases c4 : x5_1 < (l0.length : Int)
    ·rw [if_pos c4] at H
     have c4b0 : decide (x5_1 < (l0.length : Int)) = true := decide_eq_true c4
     clear c4
     by_cases c5 : 0 ≤ x5_1
     ·rw [if_pos c5] at H
      have c5b0 : decide (0 ≤ x5_1) = true := decide_eq_true c5
      clear c5
      by_cases c6 : x5_1 < (l1.length : Int)
      ·rw [if_pos c6] at H
       have c6b0 : decide (x5_1 < (l1.length : Int)) = true := decide_eq_true c6
       clear c6
       by_cases c7 : (rdOf ByteArray.empty l0 x5_1).toList = (rdOf ByteArray.empty l1 x5_1).toList
       ·rw [if_pos c7] at H
        have c7b0 : ((rdOf ByteArray.empty l0 x5_1).toList == (rdOf ByteArray.empty l1 x5_1).toList) = true := beq_iff_eq.mpr c7
        have c7b1 : ((rdOf ByteArray.empty l0 x5_1).toList != (rdOf ByteArray.empty l1 x5_1).toList) = false := bne_eq_false_iff_eq.mpr c7
        clear c7
        have H' := Aside0.mk H
        clear H
        have p133 : 0 ≤ (x5_1 : Int) := oa
        have q133 : x5_1 < (l0.length : Int) := oa
        obtain ⟨ad133, e133, hx133_0⟩ := Kd.at_string HR0.out x5_1 p133 q133
        cases e133
        replace p133 := eq_true p133
        replace q133 := eq_true q133
        have p134 : 0 ≤ (x5_1 : Int) := oa
        have q134 : x5_1 < (l1.length : Int) := oa
        obtain ⟨ad134, e134, hx134_0⟩ := Kd.at_string HR1.out x5_1 p134 q134
        cases e134
        replace p134 := eq_true p134
        replace q134 := eq_true q134
        go_wp2
        repeat (go_quiet (fail); try go_wp2)
        go_roundg k1
        case measure => have := HK1.out; omega
        case rel => exact ⟨(wrap64 (x5_1 + 1)), zf, H', ⟨by have := HK1.out; omega⟩, by repeat (first | exact Drawn0.refl _ | apply Drawn0.step)⟩
       ·rw [if_neg c7] at H
        have c7b0 : ((rdOf ByteArray.empty l0 x5_1).toList == (rdOf ByteArray.empty l1 x5_1).toList) = false := beq_eq_false_iff_ne.mpr c7
        have c7b1 : ((rdOf ByteArray.empty l0 x5_1).toList != (rdOf ByteArray.empty l1 x5_1).toList) = true := bne_iff_ne.mpr c7
        obtain rfl := Option.some.inj H
        have p133 : 0 ≤ (x5_1 : Int) := oa
        have q133 : x5_1 < (l0.length : Int) := oa
        obtain ⟨ad133, e133, hx133_0⟩ := Kd.at_string HR0.out x5_1 p133 q133
        cases e133
        replace p133 := eq_true p133
        replace q133 := eq_true q133
        have p134 : 0 ≤ (x5_1 : Int) := oa
        have q134 : x5_1 < (l1.length : Int) := oa
        obtain ⟨ad134, e134, hx134_0⟩ := Kd.at_string HR1.out x5_1 p134 q134
        cases e134
        replace p134 := eq_true p134
        replace q134 := eq_true q134
        go_wp2
        repeat (go_quiet (fail); try go_wp2)
        go_ret
        exact ⟨by first | rfl | (simp; done) | (simp [*]; done), by repeat (first | exact Drawn0.refl _ | apply Drawn0.step)⟩
      ·rw [if_neg c6] at H
       exact absurd H (by simp)
     ·rw [if_neg c5] at H
      exact absurd H (by simp)
    ·rw [if_neg c4] at H
     have c4b0 : decide (x5_1 < (l0.length : Int)) = false := decide_eq_false c4
     clear c4
     obtain rfl := Option.some.inj H
     go_wp2
     repeat (go_quiet (fail); try go_wp2)
     go_ret
     exact ⟨by first | rfl | (simp; done) | (simp [*]; done), by repeat (first | exact Drawn0.refl _ | apply Drawn0.step)⟩
 ·rw [if_neg c3] at H
  have c3b0 : ((l0.length : Int) == (l1.length : Int)) = false := beq_eq_false_iff_ne.mpr c3
  have c3b1 : ((l0.length : Int) != (l1.length : Int)) = true := bne_iff_ne.mpr c3
  have c3b2 : (l0.length == l1.length) = false := by first | simpa using c3 | (simp at c3 ⊢; omega)
  obtain rfl := Option.some.inj H
  go_enter Try.func18, Try.ntmps18
  go_wp2
  repeat (go_quiet (fail); try go_wp2)
  go_ret
  exact ⟨by first | rfl | (simp; done) | (simp [*]; done), by repeat (first | exact Drawn0.refl _ | apply Drawn0.step)⟩

end Go.Proofs.Ytcefenlblnediaa.My

/- Written by this session's program (wip/gen): a plain function with the same answers as the Go function, and the proof that the Go code comes to them. Asked: that the plain function has an answer. -/
namespace Go.Proofs.Ytcefenlblnediaa.My
open Go.RowKit Go.Proofs.YtcefenlblnediaaW.PrintWords Go.Proofs.YtcefenlblnediaaW.PrintLast Go.Proofs.YtcefenlblnediaaW.PrintMore
attribute [local go_sem] max2_int min2_int max_two min_two max_three min_three max_four min_four
set_option linter.unusedVariables false
set_option linter.unusedSimpArgs false

/-! ### laws_szStep: function 123 -/
def laws_szStep.f (k : Nat) (a0_0 : Int) (a0_1 : Int) (l0_2 : List ByteArray) (a0_3 : Int) (a0_4 : Int) (l0_5 : List ByteArray) (a1 : Int) : Option (Int) := (laws_szStringS.f k l0_2 a1).bind fun t1200 => (if t1200 < 0 then (some (-1)) else ((laws_szStringS.f k l0_5 t1200).bind fun t1201 => (if t1201 < 0 then (some (-1)) else (some t1201))))
set_option maxHeartbeats 8000000 in
set_option maxRecDepth 100000 in
theorem laws_szStep.calls (k : Nat) (a0_0 : Int) (a0_1 : Int) (A0_2 : Option Addr) (c0_2 : Nat) (l0_2 : List ByteArray) (a0_3 : Int) (a0_4 : Int) (A0_5 : Option Addr) (c0_5 : Nat) (l0_5 : List ByteArray) (a1 : Int) (r : Int) (w : World) (hr0_2 : Kd.C Kd.string w A0_2 l0_2.length l0_2) (hc0_2 : l0_2.length ≤ c0_2) (hr0_5 : Kd.C Kd.string w A0_5 l0_5.length l0_5) (hc0_5 : l0_5.length ≤ c0_5) (h : laws_szStep.f k a0_0 a0_1 l0_2 a0_3 a0_4 l0_5 a1 = some r) :
  Calls Try.prog 123 #[.agg #[.int .i64 a0_0, .int .i64 a0_1, .slice A0_2 l0_2.length c0_2, .int .i64 a0_3, .int .i64 a0_4, .slice A0_5 l0_5.length c0_5], .int .i64 a1] w fun e w' => e = .returned (.int .i64 r) ∧ Below w.heap.size w w' := by
 have hu140 := Try.underlying140
 have HR0_2 := Aside0.mk hr0_2
 have HC0_2 := Aside0.mk hc0_2
 clear hr0_2 hc0_2
 have HR0_5 := Aside0.mk hr0_5
 have HC0_5 := Aside0.mk hc0_5
 clear hr0_5 hc0_5
 have HB := Aside0.mk (Below.refl w.heap.size w)
 have H : ((laws_szStringS.f k l0_2 a1).bind fun t1200 => (if t1200 < 0 then (some (-1)) else ((laws_szStringS.f k l0_5 t1200).bind fun t1201 => (if t1201 < 0 then (some (-1)) else (some t1201))))) = some r := h
 clear h
 replace H := Option.bind_eq_some_iff.mp H
 obtain ⟨t1200, A30, H⟩ := H
 replace H : (if t1200 < 0 then (some (-1)) else ((laws_szStringS.f k l0_5 t1200).bind fun t1201 => (if t1201 < 0 then (some (-1)) else (some t1201)))) = some r := H
 have A3 := Aside0.mk A30
 clear A30
 by_cases c4 : t1200 < 0
 ·rw [if_pos c4] at H
  have c4b0 : decide (t1200 < 0) = true := decide_eq_true c4
  clear c4
  obtain rfl := Option.some.inj H
  go_enter Try.func123, Try.ntmps123
  go_wp2_with (first | ((with_reducible refine gate_dst (N := 2) rfl ?_); refine box_event ?hg (N := 2) ?hd (cs := #[.int .i64 a0_0, .int .i64 a0_1, .slice A0_2 l0_2.length c0_2, .int .i64 a0_3, .int .i64 a0_4, .slice A0_5 l0_5.length c0_5]) (t := 140) ?hr ?_; (case hd => rfl); (case hg => rfl); (case hr => first | (go_simp; done) | (go_simp; rfl)); intro gb1199 hg w5 hbox hb; have n0_ := Aside0.mk (below_step zb hb); have n1_ := Aside0.mk (hbox); have n2_ := Aside0.mk ((by rw [hg]; exact (below_size zb) : w.heap.size ≤ gb1199)); have n3_ := Aside0.mk ((by rw [hg]; exact (below_size zb) : w.heap.size ≤ gb1199)); clear HB; have HB := n0_; have BK1199 := n1_; have GW1199 := n2_; have GE1199 := n3_; clear n0_ n1_ n2_ n3_; clear hb hbox hg; have hcz6_0 : w5.cell? ⟨gb1199, 0, none⟩ = some (.int .i64 a0_0) := (blk_cell BK1199.out 0).trans rfl; have hcz6_1 : w5.cell? ⟨gb1199, 1, none⟩ = some (.int .i64 a0_1) := (blk_cell BK1199.out 1).trans rfl; have hcz6_2 : w5.cell? ⟨gb1199, 2, none⟩ = some (.slice A0_2 l0_2.length c0_2) := (blk_cell BK1199.out 2).trans rfl; have hcz6_3 : w5.cell? ⟨gb1199, 3, none⟩ = some (.int .i64 a0_3) := (blk_cell BK1199.out 3).trans rfl; have hcz6_4 : w5.cell? ⟨gb1199, 4, none⟩ = some (.int .i64 a0_4) := (blk_cell BK1199.out 4).trans rfl; have hcz6_5 : w5.cell? ⟨gb1199, 5, none⟩ = some (.slice A0_5 l0_5.length c0_5) := (blk_cell BK1199.out 5).trans rfl; have hfz6_0 := blk_frozen BK1199.out 0; have hfz6_1 := blk_frozen BK1199.out 1; have hfz6_2 := blk_frozen BK1199.out 2; have hfz6_3 := blk_frozen BK1199.out 3; have hfz6_4 := blk_frozen BK1199.out 4; have hfz6_5 := blk_frozen BK1199.out 5) | ((with_reducible refine gateC (f := 14) rfl ?_); refine goesL_ (some 8) rfl rfl Try.func14 (by kernel_rfl) rfl #[.slice A0_2 l0_2.length c0_2, .int .i64 a1] rfl zm ?_; (with_reducible refine (laws_szStringS.calls k _ _ l0_2 a1 t1200 _ ?side1 ?side2 A3.out).mono ?_); (case side1 => exact zq (Kd.C_below HR0_2.out HB.out)); (case side2 => exact HC0_2.out); rintro e w' ⟨rfl, ⟨nd, rfl⟩⟩; refine ⟨_, rfl, ?_⟩))
  go_ret
  exact ⟨by first | rfl | (simp [errW_none, errW_some] <;> rfl) | (simp [*, errW_none, errW_some] <;> rfl), by repeat (first | (with_reducible first | exact HB.out | apply below_alloc | apply pw_below_drewN | apply below_drew1 | refine below_set ?_ GE1199.out) | exact HB.out)⟩
 ·rw [if_neg c4] at H
  have c4b0 : decide (t1200 < 0) = false := decide_eq_false c4
  clear c4
  replace H := Option.bind_eq_some_iff.mp H
  obtain ⟨t1201, A70, H⟩ := H
  replace H : (if t1201 < 0 then (some (-1)) else (some t1201)) = some r := H
  have A7 := Aside0.mk A70
  clear A70
  by_cases c8 : t1201 < 0
  ·rw [if_pos c8] at H
   have c8b0 : decide (t1201 < 0) = true := decide_eq_true c8
   clear c8
   obtain rfl := Option.some.inj H
   go_enter Try.func123, Try.ntmps123
   go_wp2_with (first | ((with_reducible refine gate_dst (N := 2) rfl ?_); refine box_event ?hg (N := 2) ?hd (cs := #[.int .i64 a0_0, .int .i64 a0_1, .slice A0_2 l0_2.length c0_2, .int .i64 a0_3, .int .i64 a0_4, .slice A0_5 l0_5.length c0_5]) (t := 140) ?hr ?_; (case hd => rfl); (case hg => rfl); (case hr => first | (go_simp; done) | (go_simp; rfl)); intro gb1199 hg w9 hbox hb; have n0_ := Aside0.mk (below_step zb hb); have n1_ := Aside0.mk (hbox); have n2_ := Aside0.mk ((by rw [hg]; exact (below_size zb) : w.heap.size ≤ gb1199)); have n3_ := Aside0.mk ((by rw [hg]; exact (below_size zb) : w.heap.size ≤ gb1199)); clear HB; have HB := n0_; have BK1199 := n1_; have GW1199 := n2_; have GE1199 := n3_; clear n0_ n1_ n2_ n3_; clear hb hbox hg; have hcz10_0 : w9.cell? ⟨gb1199, 0, none⟩ = some (.int .i64 a0_0) := (blk_cell BK1199.out 0).trans rfl; have hcz10_1 : w9.cell? ⟨gb1199, 1, none⟩ = some (.int .i64 a0_1) := (blk_cell BK1199.out 1).trans rfl; have hcz10_2 : w9.cell? ⟨gb1199, 2, none⟩ = some (.slice A0_2 l0_2.length c0_2) := (blk_cell BK1199.out 2).trans rfl; have hcz10_3 : w9.cell? ⟨gb1199, 3, none⟩ = some (.int .i64 a0_3) := (blk_cell BK1199.out 3).trans rfl; have hcz10_4 : w9.cell? ⟨gb1199, 4, none⟩ = some (.int .i64 a0_4) := (blk_cell BK1199.out 4).trans rfl; have hcz10_5 : w9.cell? ⟨gb1199, 5, none⟩ = some (.slice A0_5 l0_5.length c0_5) := (blk_cell BK1199.out 5).trans rfl; have hfz10_0 := blk_frozen BK1199.out 0; have hfz10_1 := blk_frozen BK1199.out 1; have hfz10_2 := blk_frozen BK1199.out 2; have hfz10_3 := blk_frozen BK1199.out 3; have hfz10_4 := blk_frozen BK1199.out 4; have hfz10_5 := blk_frozen BK1199.out 5) | ((with_reducible refine gateC (f := 14) rfl ?_); refine goesL_ (some 8) rfl rfl Try.func14 (by kernel_rfl) rfl #[.slice A0_2 l0_2.length c0_2, .int .i64 a1] rfl zm ?_; (with_reducible refine (laws_szStringS.calls k _ _ l0_2 a1 t1200 _ ?side1 ?side2 A3.out).mono ?_); (case side1 => exact zq (Kd.C_below HR0_2.out HB.out)); (case side2 => exact HC0_2.out); rintro e w' ⟨rfl, ⟨nd, rfl⟩⟩; refine ⟨_, rfl, ?_⟩) | ((with_reducible refine gateC (f := 14) rfl ?_); refine goesL_ (some 14) rfl rfl Try.func14 (by kernel_rfl) rfl #[.slice A0_5 l0_5.length c0_5, .int .i64 t1200] rfl zm ?_; (with_reducible refine (laws_szStringS.calls k _ _ l0_5 t1200 t1201 _ ?side1 ?side2 A7.out).mono ?_); (case side1 => repeat (first | exact (Kd.C_below HR0_5.out (by repeat (first | (with_reducible first | exact HB.out | apply below_alloc | apply pw_below_drewN | apply below_drew1 | refine below_set ?_ GE1199.out) | exact HB.out))) | (with_reducible refine Kd.C_alloc ?_ _) | (with_reducible refine Kd.C_drewN ?_ _) | (with_reducible refine Kd.C_drew ?_))); (case side2 => exact HC0_5.out); rintro e w' ⟨rfl, ⟨nd, rfl⟩⟩; refine ⟨_, rfl, ?_⟩))
   go_ret
   exact ⟨by first | rfl | (simp [errW_none, errW_some] <;> rfl) | (simp [*, errW_none, errW_some] <;> rfl), by repeat (first | (with_reducible first | exact HB.out | apply below_alloc | apply pw_below_drewN | apply below_drew1 | refine below_set ?_ GE1199.out) | exact HB.out)⟩
  ·rw [if_neg c8] at H
   have c8b0 : decide (t1201 < 0) = false := decide_eq_false c8
   clear c8
   obtain rfl := Option.some.inj H
   go_enter Try.func123, Try.ntmps123
   go_wp2_with (first | ((with_reducible refine gate_dst (N := 2) rfl ?_); refine box_event ?hg (N := 2) ?hd (cs := #[.int .i64 a0_0, .int .i64 a0_1, .slice A0_2 l0_2.length c0_2, .int .i64 a0_3, .int .i64 a0_4, .slice A0_5 l0_5.length c0_5]) (t := 140) ?hr ?_; (case hd => rfl); (case hg => rfl); (case hr => first | (go_simp; done) | (go_simp; rfl)); intro gb1199 hg w11 hbox hb; have n0_ := Aside0.mk (below_step zb hb); have n1_ := Aside0.mk (hbox); have n2_ := Aside0.mk ((by rw [hg]; exact (below_size zb) : w.heap.size ≤ gb1199)); have n3_ := Aside0.mk ((by rw [hg]; exact (below_size zb) : w.heap.size ≤ gb1199)); clear HB; have HB := n0_; have BK1199 := n1_; have GW1199 := n2_; have GE1199 := n3_; clear n0_ n1_ n2_ n3_; clear hb hbox hg; have hcz12_0 : w11.cell? ⟨gb1199, 0, none⟩ = some (.int .i64 a0_0) := (blk_cell BK1199.out 0).trans rfl; have hcz12_1 : w11.cell? ⟨gb1199, 1, none⟩ = some (.int .i64 a0_1) := (blk_cell BK1199.out 1).trans rfl; have hcz12_2 : w11.cell? ⟨gb1199, 2, none⟩ = some (.slice A0_2 l0_2.length c0_2) := (blk_cell BK1199.out 2).trans rfl; have hcz12_3 : w11.cell? ⟨gb1199, 3, none⟩ = some (.int .i64 a0_3) := (blk_cell BK1199.out 3).trans rfl; have hcz12_4 : w11.cell? ⟨gb1199, 4, none⟩ = some (.int .i64 a0_4) := (blk_cell BK1199.out 4).trans rfl; have hcz12_5 : w11.cell? ⟨gb1199, 5, none⟩ = some (.slice A0_5 l0_5.length c0_5) := (blk_cell BK1199.out 5).trans rfl; have hfz12_0 := blk_frozen BK1199.out 0; have hfz12_1 := blk_frozen BK1199.out 1; have hfz12_2 := blk_frozen BK1199.out 2; have hfz12_3 := blk_frozen BK1199.out 3; have hfz12_4 := blk_frozen BK1199.out 4; have hfz12_5 := blk_frozen BK1199.out 5) | ((with_reducible refine gateC (f := 14) rfl ?_); refine goesL_ (some 8) rfl rfl Try.func14 (by kernel_rfl) rfl #[.slice A0_2 l0_2.length c0_2, .int .i64 a1] rfl zm ?_; (with_reducible refine (laws_szStringS.calls k _ _ l0_2 a1 t1200 _ ?side1 ?side2 A3.out).mono ?_); (case side1 => exact zq (Kd.C_below HR0_2.out HB.out)); (case side2 => exact HC0_2.out); rintro e w' ⟨rfl, ⟨nd, rfl⟩⟩; refine ⟨_, rfl, ?_⟩) | ((with_reducible refine gateC (f := 14) rfl ?_); refine goesL_ (some 14) rfl rfl Try.func14 (by kernel_rfl) rfl #[.slice A0_5 l0_5.length c0_5, .int .i64 t1200] rfl zm ?_; (with_reducible refine (laws_szStringS.calls k _ _ l0_5 t1200 t1201 _ ?side1 ?side2 A7.out).mono ?_); (case side1 => repeat (first | exact (Kd.C_below HR0_5.out (by repeat (first | (with_reducible first | exact HB.out | apply below_alloc | apply pw_below_drewN | apply below_drew1 | refine below_set ?_ GE1199.out) | exact HB.out))) | (with_reducible refine Kd.C_alloc ?_ _) | (with_reducible refine Kd.C_drewN ?_ _) | (with_reducible refine Kd.C_drew ?_))); (case side2 => exact HC0_5.out); rintro e w' ⟨rfl, ⟨nd, rfl⟩⟩; refine ⟨_, rfl, ?_⟩))
   go_ret
   exact ⟨by first | rfl | (simp [errW_none, errW_some] <;> rfl) | (simp [*, errW_none, errW_some] <;> rfl), by repeat (first | (with_reducible first | exact HB.out | apply below_alloc | apply pw_below_drewN | apply below_drew1 | refine below_set ?_ GE1199.out) | exact HB.out)⟩

end Go.Proofs.Ytcefenlblnediaa.My

/- Written by this session's program (wip/gen): a plain function with the same answers as the Go function, and the proof that the Go code comes to them. Asked: that the plain function has an answer. -/
namespace Go.Proofs.Ytcefenlblnediaa.My
open Go.RowKit Go.Proofs.YtcefenlblnediaaW.PrintWords Go.Proofs.YtcefenlblnediaaW.PrintLast Go.Proofs.YtcefenlblnediaaW.PrintMore
attribute [local go_sem] max2_int min2_int max_two min_two max_three min_three max_four min_four
set_option linter.unusedVariables false
set_option linter.unusedSimpArgs false

/-! ### laws_szStepS: function 61 -/
def laws_szStepS.l0 : Nat → List (S140) → Int → Int → Option (Int)
 | 0, _, _, _ => none
 | k + 1, x0, x1, x5 => if x5 < (x0.length : Int) then (if 0 ≤ x5 then ((laws_szStep.f k ((rd_T140 x0 x5).f0) ((rd_T140 x0 x5).f1) ((rd_T140 x0 x5).f2) ((rd_T140 x0 x5).f3) ((rd_T140 x0 x5).f4) ((rd_T140 x0 x5).f5) x1).bind fun t1203 => (if t1203 < 0 then (some (-1)) else (laws_szStepS.l0 k x0 t1203 (wrap64 (x5 + 1))))) else (none)) else (some x1)
def laws_szStepS.f (k : Nat) (l0 : List (S140)) (a1 : Int) : Option (Int) := if (wrap64 (a1 - (l0.length : Int))) < 0 then (some (-1)) else (laws_szStepS.l0 k l0 (wrap64 (a1 - (l0.length : Int))) 0)
set_option maxHeartbeats 8000000 in
set_option maxRecDepth 100000 in
theorem laws_szStepS.calls (k : Nat) (A0 : Option Addr) (c0 : Nat) (l0 : List (S140)) (a1 : Int) (r : Int) (w : World) (hr0 : Kd.C k140 w A0 l0.length l0) (hc0 : l0.length ≤ c0) (h : laws_szStepS.f k l0 a1 = some r) :
  Calls Try.prog 61 #[.slice A0 l0.length c0, .int .i64 a1] w fun e w' => e = .returned (.int .i64 r) ∧ Below w.heap.size w w' := by
 have hu140 := Try.underlying140
 have HR0 := Aside0.mk hr0
 have HC0 := Aside0.mk hc0
 clear hr0 hc0
 have HB := Aside0.mk (Below.refl w.heap.size w)
 have H : (if (wrap64 (a1 - (l0.length : Int))) < 0 then (some (-1)) else (laws_szStepS.l0 k l0 (wrap64 (a1 - (l0.length : Int))) 0)) = some r := h
 clear h
 by_cases c3 : (wrap64 (a1 - (l0.length : Int))) < 0
 ·rw [if_pos c3] at H
  have c3b0 : decide ((wrap64 (a1 - (l0.length : Int))) < 0) = true := decide_eq_true c3
  clear c3
  obtain rfl := Option.some.inj H
  go_enter Try.func61, Try.ntmps61
  go_wp2
  go_ret
  exact ⟨by first | rfl | (simp [errW_none, errW_some] <;> rfl) | (simp [*, errW_none, errW_some] <;> rfl), by repeat (first | (with_reducible first | exact HB.out | apply below_alloc | apply pw_below_drewN | apply below_drew1) | exact HB.out)⟩
 ·rw [if_neg c3] at H
  have c3b0 : decide ((wrap64 (a1 - (l0.length : Int))) < 0) = false := decide_eq_false c3
  clear c3
  have H' := Aside0.mk H
  clear H
  go_enter Try.func61, Try.ntmps61
  go_wp2
  go_loopg [1, 5] k (fun kq v1 v5 w' => ∃ (x1_1 : Int) (x5_1 : Int), v1 = .int .i64 x1_1 ∧ v5 = .int .i64 x5_1 ∧ Aside0 (laws_szStepS.l0 kq l0 x1_1 x5_1 = some r) ∧ Aside0 (kq ≤ k) ∧ Aside0 (Below w.heap.size w w'))
  case atStart => exact ⟨(wrap64 (a1 - (l0.length : Int))), (0), zf, zf, H', ⟨Nat.le_refl _⟩, ⟨by repeat (first | (with_reducible first | exact HB.out | apply below_alloc | apply pw_below_drewN | apply below_drew1) | exact HB.out)⟩⟩
  case round =>
   clear H'
   try clear p2
   try clear c3
   try clear c3b0
   obtain ⟨x1_1, x5_1, rfl, rfl, HA, HK1, HB⟩ := hrel
   cases gk with
   | zero => exact absurd HA.out (by simp [laws_szStepS.l0])
   | succ k1 =>
    have H := HA.out
    clear HA
    simp only [laws_szStepS.l0] at H
    by_cases c4 : x5_1 < (l0.length : Int)
    ·rw [if_pos c4] at H
     have c4b0 : decide (x5_1 < (l0.length : Int)) = true := decide_eq_true c4
     clear c4
     by_cases c5 : 0 ≤ x5_1
     ·rw [if_pos c5] at H
      have c5b0 : decide (0 ≤ x5_1) = true := decide_eq_true c5
      clear c5
      replace H := Option.bind_eq_some_iff.mp H
      obtain ⟨t1203, A60, H⟩ := H
      replace H : (if t1203 < 0 then (some (-1)) else (laws_szStepS.l0 k1 l0 t1203 (wrap64 (x5_1 + 1)))) = some r := H
      have A6 := Aside0.mk A60
      clear A60
      by_cases c7 : t1203 < 0
      ·rw [if_pos c7] at H
       have c7b0 : decide (t1203 < 0) = true := decide_eq_true c7
       clear c7
       obtain rfl := Option.some.inj H
       have p1202 : 0 ≤ (x5_1 : Int) := oa
       have q1202 : x5_1 < (l0.length : Int) := oa
       obtain ⟨ad1202, A1202_2, c1202_2, A1202_5, c1202_5, e1202, hx1202_0, hx1202_1, hx1202_2, hx1202_3, hx1202_4, hx1202_5, hl1202_2, hi1202_2, hl1202_5, hi1202_5⟩ := at_T140 HR0.out x5_1 p1202 q1202
       cases e1202
       replace hx1202_0 := (HB.out.cell (World.block_lt_of_cell? w _ hx1202_0)).trans hx1202_0
       replace hx1202_1 := (HB.out.cell (World.block_lt_of_cell? w _ hx1202_1)).trans hx1202_1
       replace hx1202_2 := (HB.out.cell (World.block_lt_of_cell? w _ hx1202_2)).trans hx1202_2
       replace hx1202_3 := (HB.out.cell (World.block_lt_of_cell? w _ hx1202_3)).trans hx1202_3
       replace hx1202_4 := (HB.out.cell (World.block_lt_of_cell? w _ hx1202_4)).trans hx1202_4
       replace hx1202_5 := (HB.out.cell (World.block_lt_of_cell? w _ hx1202_5)).trans hx1202_5
       have HR1202_2 := Aside0.mk hi1202_2
       have HC1202_2 := Aside0.mk hl1202_2
       clear hi1202_2 hl1202_2
       have HR1202_5 := Aside0.mk hi1202_5
       have HC1202_5 := Aside0.mk hl1202_5
       clear hi1202_5 hl1202_5
       replace p1202 := eq_true p1202
       replace q1202 := eq_true q1202
       go_wp2_with (first | ((with_reducible refine gateC (f := 123) rfl ?_); refine goesL_ (some 23) rfl rfl Try.func123 (by kernel_rfl) rfl #[.agg #[.int .i64 ((rd_T140 l0 x5_1).f0), .int .i64 ((rd_T140 l0 x5_1).f1), .slice A1202_2 ((rd_T140 l0 x5_1).f2).length c1202_2, .int .i64 ((rd_T140 l0 x5_1).f3), .int .i64 ((rd_T140 l0 x5_1).f4), .slice A1202_5 ((rd_T140 l0 x5_1).f5).length c1202_5], .int .i64 x1_1] rfl zm ?_; (with_reducible refine (laws_szStep.calls k1 ((rd_T140 l0 x5_1).f0) ((rd_T140 l0 x5_1).f1) _ _ ((rd_T140 l0 x5_1).f2) ((rd_T140 l0 x5_1).f3) ((rd_T140 l0 x5_1).f4) _ _ ((rd_T140 l0 x5_1).f5) x1_1 t1203 _ ?side1 ?side2 ?side3 ?side4 A6.out).mono ?_); (case side1 => exact zq (Kd.C_below HR1202_2.out HB.out)); (case side2 => exact HC1202_2.out); (case side3 => exact zq (Kd.C_below HR1202_5.out HB.out)); (case side4 => exact HC1202_5.out); rintro e w8 ⟨rfl, hb⟩; refine ⟨_, rfl, ?_⟩; have n0_ := Aside0.mk (below_step zb hb); clear HB; have HB := n0_; clear n0_; (try clear hb); (try clear hb2); (try clear hk); (try clear hi)))
       go_ret
       exact ⟨by first | rfl | (simp [errW_none, errW_some] <;> rfl) | (simp [*, errW_none, errW_some] <;> rfl), by repeat (first | (with_reducible first | exact HB.out | apply below_alloc | apply pw_below_drewN | apply below_drew1) | exact HB.out)⟩
      ·rw [if_neg c7] at H
       have c7b0 : decide (t1203 < 0) = false := decide_eq_false c7
       clear c7
       have H' := Aside0.mk H
       clear H
       have p1202 : 0 ≤ (x5_1 : Int) := oa
       have q1202 : x5_1 < (l0.length : Int) := oa
       obtain ⟨ad1202, A1202_2, c1202_2, A1202_5, c1202_5, e1202, hx1202_0, hx1202_1, hx1202_2, hx1202_3, hx1202_4, hx1202_5, hl1202_2, hi1202_2, hl1202_5, hi1202_5⟩ := at_T140 HR0.out x5_1 p1202 q1202
       cases e1202
       replace hx1202_0 := (HB.out.cell (World.block_lt_of_cell? w _ hx1202_0)).trans hx1202_0
       replace hx1202_1 := (HB.out.cell (World.block_lt_of_cell? w _ hx1202_1)).trans hx1202_1
       replace hx1202_2 := (HB.out.cell (World.block_lt_of_cell? w _ hx1202_2)).trans hx1202_2
       replace hx1202_3 := (HB.out.cell (World.block_lt_of_cell? w _ hx1202_3)).trans hx1202_3
       replace hx1202_4 := (HB.out.cell (World.block_lt_of_cell? w _ hx1202_4)).trans hx1202_4
       replace hx1202_5 := (HB.out.cell (World.block_lt_of_cell? w _ hx1202_5)).trans hx1202_5
       have HR1202_2 := Aside0.mk hi1202_2
       have HC1202_2 := Aside0.mk hl1202_2
       clear hi1202_2 hl1202_2
       have HR1202_5 := Aside0.mk hi1202_5
       have HC1202_5 := Aside0.mk hl1202_5
       clear hi1202_5 hl1202_5
       replace p1202 := eq_true p1202
       replace q1202 := eq_true q1202
       go_wp2_with (first | ((with_reducible refine gateC (f := 123) rfl ?_); refine goesL_ (some 23) rfl rfl Try.func123 (by kernel_rfl) rfl #[.agg #[.int .i64 ((rd_T140 l0 x5_1).f0), .int .i64 ((rd_T140 l0 x5_1).f1), .slice A1202_2 ((rd_T140 l0 x5_1).f2).length c1202_2, .int .i64 ((rd_T140 l0 x5_1).f3), .int .i64 ((rd_T140 l0 x5_1).f4), .slice A1202_5 ((rd_T140 l0 x5_1).f5).length c1202_5], .int .i64 x1_1] rfl zm ?_; (with_reducible refine (laws_szStep.calls k1 ((rd_T140 l0 x5_1).f0) ((rd_T140 l0 x5_1).f1) _ _ ((rd_T140 l0 x5_1).f2) ((rd_T140 l0 x5_1).f3) ((rd_T140 l0 x5_1).f4) _ _ ((rd_T140 l0 x5_1).f5) x1_1 t1203 _ ?side1 ?side2 ?side3 ?side4 A6.out).mono ?_); (case side1 => exact zq (Kd.C_below HR1202_2.out HB.out)); (case side2 => exact HC1202_2.out); (case side3 => exact zq (Kd.C_below HR1202_5.out HB.out)); (case side4 => exact HC1202_5.out); rintro e w9 ⟨rfl, hb⟩; refine ⟨_, rfl, ?_⟩; have n0_ := Aside0.mk (below_step zb hb); clear HB; have HB := n0_; clear n0_; (try clear hb); (try clear hb2); (try clear hk); (try clear hi)))
       go_roundg k1
       case measure => have := HK1.out; omega
       case rel => exact ⟨(t1203), (wrap64 (x5_1 + 1)), zf, zf, H', ⟨by have := HK1.out; omega⟩, ⟨by repeat (first | (with_reducible first | exact HB.out | apply below_alloc | apply pw_below_drewN | apply below_drew1) | exact HB.out)⟩⟩
     ·rw [if_neg c5] at H
      exact absurd H (by simp)
    ·rw [if_neg c4] at H
     have c4b0 : decide (x5_1 < (l0.length : Int)) = false := decide_eq_false c4
     clear c4
     obtain rfl := Option.some.inj H
     go_wp2
     go_ret
     exact ⟨by first | rfl | (simp [errW_none, errW_some] <;> rfl) | (simp [*, errW_none, errW_some] <;> rfl), by repeat (first | (with_reducible first | exact HB.out | apply below_alloc | apply pw_below_drewN | apply below_drew1) | exact HB.out)⟩

end Go.Proofs.Ytcefenlblnediaa.My

/- Written by this session's program (wip/gen): a plain function with the same answers as the Go function, and the proof that the Go code comes to them. Asked: that the plain function has an answer. -/
namespace Go.Proofs.Ytcefenlblnediaa.My
open Go.RowKit Go.Proofs.YtcefenlblnediaaW.PrintWords Go.Proofs.YtcefenlblnediaaW.PrintLast Go.Proofs.YtcefenlblnediaaW.PrintMore
attribute [local go_sem] max2_int min2_int max_two min_two max_three min_three max_four min_four
set_option linter.unusedVariables false
set_option linter.unusedSimpArgs false

/-! ### laws_toStep: function 126 -/
def laws_toStep.f (k : Nat) (a0_0 : Int) (a0_1 : Int) (l0_2 : List ByteArray) (a0_3 : Int) (a0_4 : Int) (l0_5 : List ByteArray) : Option (Int × Int × List ByteArray × Int × Int × List ByteArray) := (laws_toStringS.f k l0_2).bind fun t1239 => ((laws_toStringS.f k l0_5).bind fun t1242 => (some (a0_0, a0_1, t1239, a0_3, a0_4, t1242)))
set_option maxHeartbeats 8000000 in
set_option maxRecDepth 100000 in
theorem laws_toStep.calls (k : Nat) (a0_0 : Int) (a0_1 : Int) (A0_2 : Option Addr) (c0_2 : Nat) (l0_2 : List ByteArray) (a0_3 : Int) (a0_4 : Int) (A0_5 : Option Addr) (c0_5 : Nat) (l0_5 : List ByteArray) (r1 : Int) (r2 : Int) (r3 : List ByteArray) (r4 : Int) (r5 : Int) (r6 : List ByteArray) (w : World) (hr0_2 : Kd.C Kd.string w A0_2 l0_2.length l0_2) (hc0_2 : l0_2.length ≤ c0_2) (hr0_5 : Kd.C Kd.string w A0_5 l0_5.length l0_5) (hc0_5 : l0_5.length ≤ c0_5) (h : laws_toStep.f k a0_0 a0_1 l0_2 a0_3 a0_4 l0_5 = some (r1, r2, r3, r4, r5, r6)) :
  Calls Try.prog 126 #[.agg #[.int .i64 a0_0, .int .i64 a0_1, .slice A0_2 l0_2.length c0_2, .int .i64 a0_3, .int .i64 a0_4, .slice A0_5 l0_5.length c0_5]] w fun e w' => ∃ v2_ v5_ : Value, e = .returned (.agg #[.int .i64 r1, .int .i64 r2, v2_, .int .i64 r4, .int .i64 r5, v5_]) ∧ Kd.R Kd.string 9 w' w.heap.size (fun k_ => some k_ ≠ (v5_ : Value).ownBlock) v2_ r3 ∧ Kd.R Kd.string 9 w' w.heap.size (fun k_ => some k_ ≠ (v2_ : Value).ownBlock) v5_ r6 ∧ Below w.heap.size w w' := by
 have hu140 := Try.underlying140
 have hu144 := Try.underlying144
 have HR0_2 := Aside0.mk hr0_2
 have HC0_2 := Aside0.mk hc0_2
 clear hr0_2 hc0_2
 have HR0_5 := Aside0.mk hr0_5
 have HC0_5 := Aside0.mk hc0_5
 clear hr0_5 hc0_5
 have HB := Aside0.mk (Below.refl w.heap.size w)
 have H : ((laws_toStringS.f k l0_2).bind fun t1239 => ((laws_toStringS.f k l0_5).bind fun t1242 => (some (a0_0, a0_1, t1239, a0_3, a0_4, t1242)))) = some (r1, r2, r3, r4, r5, r6) := h
 clear h
 replace H := Option.bind_eq_some_iff.mp H
 obtain ⟨t1239, A20, H⟩ := H
 replace H : ((laws_toStringS.f k l0_5).bind fun t1242 => (some (a0_0, a0_1, t1239, a0_3, a0_4, t1242))) = some (r1, r2, r3, r4, r5, r6) := H
 have A2 := Aside0.mk A20
 clear A20
 replace H := Option.bind_eq_some_iff.mp H
 obtain ⟨t1242, A30, H⟩ := H
 replace H : (some (a0_0, a0_1, t1239, a0_3, a0_4, t1242)) = some (r1, r2, r3, r4, r5, r6) := H
 have A3 := Aside0.mk A30
 clear A30
 simp only [Option.some.injEq, Prod.mk.injEq] at H
 obtain ⟨rfl, rfl, rfl, rfl, rfl, rfl⟩ := H
 go_enter Try.func126, Try.ntmps126
 go_wp2_with (first | ((with_reducible refine gate_dst (N := 1) rfl ?_); refine box_event ?hg (N := 1) ?hd (cs := #[.int .i64 a0_0, .int .i64 a0_1, .slice A0_2 l0_2.length c0_2, .int .i64 a0_3, .int .i64 a0_4, .slice A0_5 l0_5.length c0_5]) (t := 140) ?hr ?_; (case hd => rfl); (case hg => rfl); (case hr => first | (go_simp; done) | (go_simp; rfl)); intro gb1236 hg w4 hbox hb; have n0_ := Aside0.mk (below_step zb hb); have n1_ := Aside0.mk (hbox); have n2_ := Aside0.mk ((by rw [hg]; exact (below_size zb) : w.heap.size ≤ gb1236)); have n3_ := Aside0.mk ((by rw [hg]; exact (below_size zb) : w.heap.size ≤ gb1236)); clear HB; have HB := n0_; have BK1236 := n1_; have GW1236 := n2_; have GE1236 := n3_; clear n0_ n1_ n2_ n3_; clear hb hbox hg) | ((with_reducible refine gate_dst (N := 2) rfl ?_); refine box_event ?hg (N := 2) ?hd (cs := #[.int .i64 0, .int .i64 0, .slice none 0 0, .int .i64 0, .int .i64 0, .slice none 0 0]) (t := 144) ?hr ?_; (case hd => rfl); (case hg => rfl); (case hr => first | (go_simp; done) | (go_simp; rfl)); intro gb1237 hg w5 hbox hb; have n0_ := Aside0.mk (blk_below (g := gb1236) (o := .cells #[.int .i64 a0_0, .int .i64 a0_1, .slice A0_2 l0_2.length c0_2, .int .i64 a0_3, .int .i64 a0_4, .slice A0_5 l0_5.length c0_5] 140 (0, 0)) (zk BK1236.out) hb); have n1_ := Aside0.mk (below_step (by repeat (first | (with_reducible first | exact HB.out | apply below_alloc | apply pw_below_drewN | apply below_drew1 | refine below_set ?_ GE1236.out) | exact HB.out)) hb); have n2_ := Aside0.mk (hbox); have n3_ := Aside0.mk ((by rw [hg]; exact (below_size (by repeat (first | (with_reducible first | exact HB.out | apply below_alloc | apply pw_below_drewN | apply below_drew1 | refine below_set ?_ GE1236.out) | exact HB.out))) : w.heap.size ≤ gb1237)); have n4_ := Aside0.mk ((by rw [hg]; exact (below_size (by repeat (first | (with_reducible first | exact HB.out | apply below_alloc | apply pw_below_drewN | apply below_drew1 | refine below_set ?_ GE1236.out) | exact HB.out))) : w.heap.size ≤ gb1237)); have n5_ := Aside0.mk ((by rw [hg]; exact Nat.ne_of_lt (blk_lt (g := gb1236) (o := .cells #[.int .i64 a0_0, .int .i64 a0_1, .slice A0_2 l0_2.length c0_2, .int .i64 a0_3, .int .i64 a0_4, .slice A0_5 l0_5.length c0_5] 140 (0, 0)) (zk BK1236.out)) : gb1236 ≠ gb1237)); have n6_ := Aside0.mk ((by rw [hg]; exact Nat.ne_of_gt (blk_lt (g := gb1236) (o := .cells #[.int .i64 a0_0, .int .i64 a0_1, .slice A0_2 l0_2.length c0_2, .int .i64 a0_3, .int .i64 a0_4, .slice A0_5 l0_5.length c0_5] 140 (0, 0)) (zk BK1236.out)) : gb1237 ≠ gb1236)); clear BK1236; clear HB; have BK1236 := n0_; have HB := n1_; have BK1237 := n2_; have GW1237 := n3_; have GE1237 := n4_; have NB1236_1237 := n5_; have NB1237_1236 := n6_; clear n0_ n1_ n2_ n3_ n4_ n5_ n6_; clear hb hbox hg) | ((with_reducible refine gate_dst (N := 3) rfl ?_); refine box_event ?hg (N := 3) ?hd (cs := #[.int .i64 0, .int .i64 0, .slice none 0 0, .int .i64 0, .int .i64 0, .slice none 0 0]) (t := 144) ?hr ?_; (case hd => rfl); (case hg => rfl); (case hr => first | (go_simp; done) | (go_simp; rfl)); intro gb1238 hg w6 hbox hb; have n0_ := Aside0.mk (blk_below (g := gb1236) (o := .cells #[.int .i64 a0_0, .int .i64 a0_1, .slice A0_2 l0_2.length c0_2, .int .i64 a0_3, .int .i64 a0_4, .slice A0_5 l0_5.length c0_5] 140 (0, 0)) (zk BK1236.out) hb); have n1_ := Aside0.mk (blk_below (g := gb1237) (o := .cells #[.int .i64 0, .int .i64 0, .slice none 0 0, .int .i64 0, .int .i64 0, .slice none 0 0] 144 (0, 0)) (zk BK1237.out) hb); have n2_ := Aside0.mk (below_step (by repeat (first | (with_reducible first | exact HB.out | apply below_alloc | apply pw_below_drewN | apply below_drew1 | refine below_set ?_ GE1236.out | refine below_set ?_ GE1237.out) | exact HB.out)) hb); have n3_ := Aside0.mk (hbox); have n4_ := Aside0.mk ((by rw [hg]; exact (below_size (by repeat (first | (with_reducible first | exact HB.out | apply below_alloc | apply pw_below_drewN | apply below_drew1 | refine below_set ?_ GE1236.out | refine below_set ?_ GE1237.out) | exact HB.out))) : w.heap.size ≤ gb1238)); have n5_ := Aside0.mk ((by rw [hg]; exact (below_size (by repeat (first | (with_reducible first | exact HB.out | apply below_alloc | apply pw_below_drewN | apply below_drew1 | refine below_set ?_ GE1236.out | refine below_set ?_ GE1237.out) | exact HB.out))) : w.heap.size ≤ gb1238)); have n6_ := Aside0.mk ((by rw [hg]; exact Nat.ne_of_lt (blk_lt (g := gb1236) (o := .cells #[.int .i64 a0_0, .int .i64 a0_1, .slice A0_2 l0_2.length c0_2, .int .i64 a0_3, .int .i64 a0_4, .slice A0_5 l0_5.length c0_5] 140 (0, 0)) (zk BK1236.out)) : gb1236 ≠ gb1238)); have n7_ := Aside0.mk ((by rw [hg]; exact Nat.ne_of_gt (blk_lt (g := gb1236) (o := .cells #[.int .i64 a0_0, .int .i64 a0_1, .slice A0_2 l0_2.length c0_2, .int .i64 a0_3, .int .i64 a0_4, .slice A0_5 l0_5.length c0_5] 140 (0, 0)) (zk BK1236.out)) : gb1238 ≠ gb1236)); have n8_ := Aside0.mk ((by rw [hg]; exact Nat.ne_of_lt (blk_lt (g := gb1237) (o := .cells #[.int .i64 0, .int .i64 0, .slice none 0 0, .int .i64 0, .int .i64 0, .slice none 0 0] 144 (0, 0)) (zk BK1237.out)) : gb1237 ≠ gb1238)); have n9_ := Aside0.mk ((by rw [hg]; exact Nat.ne_of_gt (blk_lt (g := gb1237) (o := .cells #[.int .i64 0, .int .i64 0, .slice none 0 0, .int .i64 0, .int .i64 0, .slice none 0 0] 144 (0, 0)) (zk BK1237.out)) : gb1238 ≠ gb1237)); clear BK1236; clear BK1237; clear HB; have BK1236 := n0_; have BK1237 := n1_; have HB := n2_; have BK1238 := n3_; have GW1238 := n4_; have GE1238 := n5_; have NB1236_1238 := n6_; have NB1238_1236 := n7_; have NB1237_1238 := n8_; have NB1238_1237 := n9_; clear n0_ n1_ n2_ n3_ n4_ n5_ n6_ n7_ n8_ n9_; clear hb hbox hg; have hnb7 := NB1236_1237.out; have hnc7 := NB1237_1236.out; have hnb8 := NB1236_1238.out; have hnc8 := NB1238_1236.out; have hcz9_0 : w6.cell? ⟨gb1236, 0, none⟩ = some (.int .i64 a0_0) := (blk_cell BK1236.out 0).trans rfl; have hcz9_1 : w6.cell? ⟨gb1236, 1, none⟩ = some (.int .i64 a0_1) := (blk_cell BK1236.out 1).trans rfl; have hcz9_2 : w6.cell? ⟨gb1236, 2, none⟩ = some (.slice A0_2 l0_2.length c0_2) := (blk_cell BK1236.out 2).trans rfl; have hcz9_3 : w6.cell? ⟨gb1236, 3, none⟩ = some (.int .i64 a0_3) := (blk_cell BK1236.out 3).trans rfl; have hcz9_4 : w6.cell? ⟨gb1236, 4, none⟩ = some (.int .i64 a0_4) := (blk_cell BK1236.out 4).trans rfl; have hcz9_5 : w6.cell? ⟨gb1236, 5, none⟩ = some (.slice A0_5 l0_5.length c0_5) := (blk_cell BK1236.out 5).trans rfl; have hfz9_0 := blk_frozen BK1236.out 0; have hfz9_1 := blk_frozen BK1236.out 1; have hfz9_2 := blk_frozen BK1236.out 2; have hfz9_3 := blk_frozen BK1236.out 3; have hfz9_4 := blk_frozen BK1236.out 4; have hfz9_5 := blk_frozen BK1236.out 5; have hnb10 := NB1238_1237.out; have hnc10 := NB1237_1238.out; have hcz11_0 : w6.cell? ⟨gb1238, 0, none⟩ = some (.int .i64 0) := (blk_cell BK1238.out 0).trans rfl; have hcz11_1 : w6.cell? ⟨gb1238, 1, none⟩ = some (.int .i64 0) := (blk_cell BK1238.out 1).trans rfl; have hcz11_2 : w6.cell? ⟨gb1238, 2, none⟩ = some (.slice none 0 0) := (blk_cell BK1238.out 2).trans rfl; have hcz11_3 : w6.cell? ⟨gb1238, 3, none⟩ = some (.int .i64 0) := (blk_cell BK1238.out 3).trans rfl; have hcz11_4 : w6.cell? ⟨gb1238, 4, none⟩ = some (.int .i64 0) := (blk_cell BK1238.out 4).trans rfl; have hcz11_5 : w6.cell? ⟨gb1238, 5, none⟩ = some (.slice none 0 0) := (blk_cell BK1238.out 5).trans rfl; have hfz11_0 := blk_frozen BK1238.out 0; have hfz11_1 := blk_frozen BK1238.out 1; have hfz11_2 := blk_frozen BK1238.out 2; have hfz11_3 := blk_frozen BK1238.out 3; have hfz11_4 := blk_frozen BK1238.out 4; have hfz11_5 := blk_frozen BK1238.out 5) | ((with_reducible refine gateC (f := 16) rfl ?_); refine goesL_ (some 12) rfl rfl Try.func16 (by kernel_rfl) rfl #[.slice A0_2 l0_2.length c0_2] rfl zm ?_; (with_reducible refine (laws_toStringS.calls k _ _ l0_2 t1239 _ ?side1 ?side2 A2.out).mono ?_); (case side1 => exact Kd.C_below HR0_2.out (by repeat (first | (with_reducible first | exact HB.out | apply below_alloc | apply pw_below_drewN | apply below_drew1 | refine below_set ?_ GE1236.out | refine below_set ?_ GE1237.out | refine below_set ?_ GE1238.out) | exact HB.out))); (case side2 => exact HC0_2.out); rintro e w12 ⟨v1240, rfl, ho0, hb⟩; refine ⟨_, rfl, ?_⟩; have n0_ := Aside0.mk (Kd.R_lower ho0 (below_size (by repeat (first | (with_reducible first | exact HB.out | apply below_alloc | apply pw_below_drewN | apply below_drew1 | refine below_set ?_ GE1236.out | refine below_set ?_ GE1237.out | refine below_set ?_ GE1238.out) | exact HB.out)))); have n1_ := Aside0.mk (blk_below (g := gb1236) (o := .cells #[.int .i64 a0_0, .int .i64 a0_1, .slice A0_2 l0_2.length c0_2, .int .i64 a0_3, .int .i64 a0_4, .slice A0_5 l0_5.length c0_5] 140 (0, 0)) (by (with_reducible repeat (first | refine blk_drewN ?_ _ | refine blk_drew ?_ | refine blk_alloc ?_ _)); refine blk_far ?_ NB1236_1238.out _; (with_reducible repeat (first | refine blk_drewN ?_ _ | refine blk_drew ?_ | refine blk_alloc ?_ _)); refine blk_far ?_ NB1236_1238.out _; (with_reducible repeat (first | refine blk_drewN ?_ _ | refine blk_drew ?_ | refine blk_alloc ?_ _)); exact BK1236.out) hb); have n2_ := Aside0.mk (blk_below (g := gb1237) (o := .cells #[.int .i64 0, .int .i64 0, .slice none 0 0, .int .i64 0, .int .i64 0, .slice none 0 0] 144 (0, 0)) (by (with_reducible repeat (first | refine blk_drewN ?_ _ | refine blk_drew ?_ | refine blk_alloc ?_ _)); refine blk_far ?_ NB1237_1238.out _; (with_reducible repeat (first | refine blk_drewN ?_ _ | refine blk_drew ?_ | refine blk_alloc ?_ _)); refine blk_far ?_ NB1237_1238.out _; (with_reducible repeat (first | refine blk_drewN ?_ _ | refine blk_drew ?_ | refine blk_alloc ?_ _)); exact BK1237.out) hb); have n3_ := Aside0.mk (blk_below (g := gb1238) (o := .cells #[.int .i64 a0_0, .int .i64 a0_1, .slice none 0 0, .int .i64 0, .int .i64 0, .slice none 0 0] 144 (0, 0)) (by (with_reducible repeat (first | refine blk_drewN ?_ _ | refine blk_drew ?_ | refine blk_alloc ?_ _)); refine blk_put (cs := #[.int .i64 a0_0, .int .i64 0, .slice none 0 0, .int .i64 0, .int .i64 0, .slice none 0 0]) ?_ 1 _ rfl; (with_reducible repeat (first | refine blk_drewN ?_ _ | refine blk_drew ?_ | refine blk_alloc ?_ _)); refine blk_put (cs := #[.int .i64 0, .int .i64 0, .slice none 0 0, .int .i64 0, .int .i64 0, .slice none 0 0]) ?_ 0 _ rfl; (with_reducible repeat (first | refine blk_drewN ?_ _ | refine blk_drew ?_ | refine blk_alloc ?_ _)); exact BK1238.out) hb); have n4_ := Aside0.mk (below_step (by repeat (first | (with_reducible first | exact HB.out | apply below_alloc | apply pw_below_drewN | apply below_drew1 | refine below_set ?_ GE1236.out | refine below_set ?_ GE1237.out | refine below_set ?_ GE1238.out) | exact HB.out)) hb); clear BK1236; clear BK1237; clear BK1238; clear HB; have HO1241 := n0_; have BK1236 := n1_; have BK1237 := n2_; have BK1238 := n3_; have HB := n4_; clear n0_ n1_ n2_ n3_ n4_; (try clear hb); (try clear hb2); (try clear hk); (try clear hi); (try clear ho0); obtain ⟨Ao13, co13, eo13⟩ := Kd.R_slice HO1241.out; subst eo13; have hcz14_0 : w12.cell? ⟨gb1238, 0, none⟩ = some (.int .i64 a0_0) := (blk_cell BK1238.out 0).trans rfl; have hcz14_1 : w12.cell? ⟨gb1238, 1, none⟩ = some (.int .i64 a0_1) := (blk_cell BK1238.out 1).trans rfl; have hcz14_2 : w12.cell? ⟨gb1238, 2, none⟩ = some (.slice none 0 0) := (blk_cell BK1238.out 2).trans rfl; have hcz14_3 : w12.cell? ⟨gb1238, 3, none⟩ = some (.int .i64 0) := (blk_cell BK1238.out 3).trans rfl; have hcz14_4 : w12.cell? ⟨gb1238, 4, none⟩ = some (.int .i64 0) := (blk_cell BK1238.out 4).trans rfl; have hcz14_5 : w12.cell? ⟨gb1238, 5, none⟩ = some (.slice none 0 0) := (blk_cell BK1238.out 5).trans rfl; have hfz14_0 := blk_frozen BK1238.out 0; have hfz14_1 := blk_frozen BK1238.out 1; have hfz14_2 := blk_frozen BK1238.out 2; have hfz14_3 := blk_frozen BK1238.out 3; have hfz14_4 := blk_frozen BK1238.out 4; have hfz14_5 := blk_frozen BK1238.out 5; have hcz15_0 : w12.cell? ⟨gb1236, 0, none⟩ = some (.int .i64 a0_0) := (blk_cell BK1236.out 0).trans rfl; have hcz15_1 : w12.cell? ⟨gb1236, 1, none⟩ = some (.int .i64 a0_1) := (blk_cell BK1236.out 1).trans rfl; have hcz15_2 : w12.cell? ⟨gb1236, 2, none⟩ = some (.slice A0_2 l0_2.length c0_2) := (blk_cell BK1236.out 2).trans rfl; have hcz15_3 : w12.cell? ⟨gb1236, 3, none⟩ = some (.int .i64 a0_3) := (blk_cell BK1236.out 3).trans rfl; have hcz15_4 : w12.cell? ⟨gb1236, 4, none⟩ = some (.int .i64 a0_4) := (blk_cell BK1236.out 4).trans rfl; have hcz15_5 : w12.cell? ⟨gb1236, 5, none⟩ = some (.slice A0_5 l0_5.length c0_5) := (blk_cell BK1236.out 5).trans rfl; have hfz15_0 := blk_frozen BK1236.out 0; have hfz15_1 := blk_frozen BK1236.out 1; have hfz15_2 := blk_frozen BK1236.out 2; have hfz15_3 := blk_frozen BK1236.out 3; have hfz15_4 := blk_frozen BK1236.out 4; have hfz15_5 := blk_frozen BK1236.out 5) | ((with_reducible refine gateC (f := 16) rfl ?_); refine goesL_ (some 22) rfl rfl Try.func16 (by kernel_rfl) rfl #[.slice A0_5 l0_5.length c0_5] rfl zm ?_; (with_reducible refine (laws_toStringS.calls k _ _ l0_5 t1242 _ ?side1 ?side2 A3.out).mono ?_); (case side1 => exact Kd.C_below HR0_5.out (by repeat (first | (with_reducible first | exact HB.out | apply below_alloc | apply pw_below_drewN | apply below_drew1 | refine below_set ?_ GE1236.out | refine below_set ?_ GE1237.out | refine below_set ?_ GE1238.out) | exact HB.out))); (case side2 => exact HC0_5.out); rintro e w16 ⟨v1243, rfl, ho0, hb⟩; refine ⟨_, rfl, ?_⟩; have n0_ := Aside0.mk (Kd.R_elder' (by (with_reducible repeat (first | apply Kd.R_alloc | apply Kd.R_drewN | apply Kd.R_drew)); exact (Kd.R_mono (Kd.R_far (p := ⟨gb1238, 4, none⟩) (Kd.R_far (p := ⟨gb1238, 3, none⟩) (Kd.R_far (p := ⟨gb1238, 2, none⟩) (Kd.R_types HO1241.out BK1238.out (by decide)) (fun _ hk => hk.2) (.slice Ao13 t1239.length co13)) (fun _ hk => hk.2) (.int .i64 a0_3)) (fun _ hk => hk.2) (.int .i64 a0_4)) (fun _ h_ => h_.1))) (Kd.R_base ho0) hb); have n1_ := Aside0.mk (Kd.R_lower (Kd.R_new' ho0 (Kd.R_lt (by (with_reducible repeat (first | apply Kd.R_alloc | apply Kd.R_drewN | apply Kd.R_drew)); exact (Kd.R_mono (Kd.R_far (p := ⟨gb1238, 4, none⟩) (Kd.R_far (p := ⟨gb1238, 3, none⟩) (Kd.R_far (p := ⟨gb1238, 2, none⟩) (Kd.R_types HO1241.out BK1238.out (by decide)) (fun _ hk => hk.2) (.slice Ao13 t1239.length co13)) (fun _ hk => hk.2) (.int .i64 a0_3)) (fun _ hk => hk.2) (.int .i64 a0_4)) (fun _ h_ => h_.1))))) (below_size (by repeat (first | (with_reducible first | exact HB.out | apply below_alloc | apply pw_below_drewN | apply below_drew1 | refine below_set ?_ GE1236.out | refine below_set ?_ GE1237.out | refine below_set ?_ GE1238.out) | exact HB.out)))); have n2_ := Aside0.mk (blk_below (g := gb1236) (o := .cells #[.int .i64 a0_0, .int .i64 a0_1, .slice A0_2 l0_2.length c0_2, .int .i64 a0_3, .int .i64 a0_4, .slice A0_5 l0_5.length c0_5] 140 (0, 0)) (by (with_reducible repeat (first | refine blk_drewN ?_ _ | refine blk_drew ?_ | refine blk_alloc ?_ _)); refine blk_far ?_ NB1236_1238.out _; (with_reducible repeat (first | refine blk_drewN ?_ _ | refine blk_drew ?_ | refine blk_alloc ?_ _)); refine blk_far ?_ NB1236_1238.out _; (with_reducible repeat (first | refine blk_drewN ?_ _ | refine blk_drew ?_ | refine blk_alloc ?_ _)); refine blk_far ?_ NB1236_1238.out _; (with_reducible repeat (first | refine blk_drewN ?_ _ | refine blk_drew ?_ | refine blk_alloc ?_ _)); exact BK1236.out) hb); have n3_ := Aside0.mk (blk_below (g := gb1237) (o := .cells #[.int .i64 0, .int .i64 0, .slice none 0 0, .int .i64 0, .int .i64 0, .slice none 0 0] 144 (0, 0)) (by (with_reducible repeat (first | refine blk_drewN ?_ _ | refine blk_drew ?_ | refine blk_alloc ?_ _)); refine blk_far ?_ NB1237_1238.out _; (with_reducible repeat (first | refine blk_drewN ?_ _ | refine blk_drew ?_ | refine blk_alloc ?_ _)); refine blk_far ?_ NB1237_1238.out _; (with_reducible repeat (first | refine blk_drewN ?_ _ | refine blk_drew ?_ | refine blk_alloc ?_ _)); refine blk_far ?_ NB1237_1238.out _; (with_reducible repeat (first | refine blk_drewN ?_ _ | refine blk_drew ?_ | refine blk_alloc ?_ _)); exact BK1237.out) hb); have n4_ := Aside0.mk (blk_below (g := gb1238) (o := .cells #[.int .i64 a0_0, .int .i64 a0_1, .slice Ao13 t1239.length co13, .int .i64 a0_3, .int .i64 a0_4, .slice none 0 0] 144 (0, 0)) (by (with_reducible repeat (first | refine blk_drewN ?_ _ | refine blk_drew ?_ | refine blk_alloc ?_ _)); refine blk_put (cs := #[.int .i64 a0_0, .int .i64 a0_1, .slice Ao13 t1239.length co13, .int .i64 a0_3, .int .i64 0, .slice none 0 0]) ?_ 4 _ rfl; (with_reducible repeat (first | refine blk_drewN ?_ _ | refine blk_drew ?_ | refine blk_alloc ?_ _)); refine blk_put (cs := #[.int .i64 a0_0, .int .i64 a0_1, .slice Ao13 t1239.length co13, .int .i64 0, .int .i64 0, .slice none 0 0]) ?_ 3 _ rfl; (with_reducible repeat (first | refine blk_drewN ?_ _ | refine blk_drew ?_ | refine blk_alloc ?_ _)); refine blk_put (cs := #[.int .i64 a0_0, .int .i64 a0_1, .slice none 0 0, .int .i64 0, .int .i64 0, .slice none 0 0]) ?_ 2 _ rfl; (with_reducible repeat (first | refine blk_drewN ?_ _ | refine blk_drew ?_ | refine blk_alloc ?_ _)); exact BK1238.out) hb); have n5_ := Aside0.mk (below_step (by repeat (first | (with_reducible first | exact HB.out | apply below_alloc | apply pw_below_drewN | apply below_drew1 | refine below_set ?_ GE1236.out | refine below_set ?_ GE1237.out | refine below_set ?_ GE1238.out) | exact HB.out)) hb); clear HO1241; clear BK1236; clear BK1237; clear BK1238; clear HB; have HO1241 := n0_; have HO1244 := n1_; have BK1236 := n2_; have BK1237 := n3_; have BK1238 := n4_; have HB := n5_; clear n0_ n1_ n2_ n3_ n4_ n5_; (try clear hb); (try clear hb2); (try clear hk); (try clear hi); (try clear ho0); obtain ⟨Ao17, co17, eo17⟩ := Kd.R_slice HO1244.out; subst eo17; have hcz18_0 : w16.cell? ⟨gb1238, 0, none⟩ = some (.int .i64 a0_0) := (blk_cell BK1238.out 0).trans rfl; have hcz18_1 : w16.cell? ⟨gb1238, 1, none⟩ = some (.int .i64 a0_1) := (blk_cell BK1238.out 1).trans rfl; have hcz18_2 : w16.cell? ⟨gb1238, 2, none⟩ = some (.slice Ao13 t1239.length co13) := (blk_cell BK1238.out 2).trans rfl; have hcz18_3 : w16.cell? ⟨gb1238, 3, none⟩ = some (.int .i64 a0_3) := (blk_cell BK1238.out 3).trans rfl; have hcz18_4 : w16.cell? ⟨gb1238, 4, none⟩ = some (.int .i64 a0_4) := (blk_cell BK1238.out 4).trans rfl; have hcz18_5 : w16.cell? ⟨gb1238, 5, none⟩ = some (.slice none 0 0) := (blk_cell BK1238.out 5).trans rfl; have hfz18_0 := blk_frozen BK1238.out 0; have hfz18_1 := blk_frozen BK1238.out 1; have hfz18_2 := blk_frozen BK1238.out 2; have hfz18_3 := blk_frozen BK1238.out 3; have hfz18_4 := blk_frozen BK1238.out 4; have hfz18_5 := blk_frozen BK1238.out 5; have hcz19_0 : w16.cell? ⟨gb1237, 0, none⟩ = some (.int .i64 0) := (blk_cell BK1237.out 0).trans rfl; have hcz19_1 : w16.cell? ⟨gb1237, 1, none⟩ = some (.int .i64 0) := (blk_cell BK1237.out 1).trans rfl; have hcz19_2 : w16.cell? ⟨gb1237, 2, none⟩ = some (.slice none 0 0) := (blk_cell BK1237.out 2).trans rfl; have hcz19_3 : w16.cell? ⟨gb1237, 3, none⟩ = some (.int .i64 0) := (blk_cell BK1237.out 3).trans rfl; have hcz19_4 : w16.cell? ⟨gb1237, 4, none⟩ = some (.int .i64 0) := (blk_cell BK1237.out 4).trans rfl; have hcz19_5 : w16.cell? ⟨gb1237, 5, none⟩ = some (.slice none 0 0) := (blk_cell BK1237.out 5).trans rfl; have hfz19_0 := blk_frozen BK1237.out 0; have hfz19_1 := blk_frozen BK1237.out 1; have hfz19_2 := blk_frozen BK1237.out 2; have hfz19_3 := blk_frozen BK1237.out 3; have hfz19_4 := blk_frozen BK1237.out 4; have hfz19_5 := blk_frozen BK1237.out 5))
 refine bodyPost_ret (results_cell_row rfl _ _ gb1237 144 #[.int .i64 a0_0, .int .i64 a0_1, .slice Ao13 t1239.length co13, .int .i64 a0_3, .int .i64 a0_4, .slice Ao17 t1242.length co17] (0, 0) _ rfl (by (with_reducible repeat (first | refine blk_drewN ?_ _ | refine blk_drew ?_ | refine blk_alloc ?_ _)); refine blk_put (cs := #[.int .i64 a0_0, .int .i64 a0_1, .slice Ao13 t1239.length co13, .int .i64 a0_3, .int .i64 a0_4, .slice none 0 0]) ?_ 5 _ rfl; (with_reducible repeat (first | refine blk_drewN ?_ _ | refine blk_drew ?_ | refine blk_alloc ?_ _)); refine blk_put (cs := #[.int .i64 a0_0, .int .i64 a0_1, .slice Ao13 t1239.length co13, .int .i64 a0_3, .int .i64 0, .slice none 0 0]) ?_ 4 _ rfl; (with_reducible repeat (first | refine blk_drewN ?_ _ | refine blk_drew ?_ | refine blk_alloc ?_ _)); refine blk_put (cs := #[.int .i64 a0_0, .int .i64 a0_1, .slice Ao13 t1239.length co13, .int .i64 0, .int .i64 0, .slice none 0 0]) ?_ 3 _ rfl; (with_reducible repeat (first | refine blk_drewN ?_ _ | refine blk_drew ?_ | refine blk_alloc ?_ _)); refine blk_put (cs := #[.int .i64 a0_0, .int .i64 a0_1, .slice none 0 0, .int .i64 0, .int .i64 0, .slice none 0 0]) ?_ 2 _ rfl; (with_reducible repeat (first | refine blk_drewN ?_ _ | refine blk_drew ?_ | refine blk_alloc ?_ _)); refine blk_put (cs := #[.int .i64 a0_0, .int .i64 0, .slice none 0 0, .int .i64 0, .int .i64 0, .slice none 0 0]) ?_ 1 _ rfl; (with_reducible repeat (first | refine blk_drewN ?_ _ | refine blk_drew ?_ | refine blk_alloc ?_ _)); refine blk_put (cs := #[.int .i64 0, .int .i64 0, .slice none 0 0, .int .i64 0, .int .i64 0, .slice none 0 0]) ?_ 0 _ rfl; (with_reducible repeat (first | refine blk_drewN ?_ _ | refine blk_drew ?_ | refine blk_alloc ?_ _)); refine blk_far ?_ NB1237_1238.out _; (with_reducible repeat (first | refine blk_drewN ?_ _ | refine blk_drew ?_ | refine blk_alloc ?_ _)); exact BK1237.out) Try.underlying144 rfl (by kernel_rfl)) rfl ?_
 exact ⟨_, _, by first | rfl | (simp [errW_none, errW_some] <;> rfl) | (simp [*, errW_none, errW_some] <;> rfl), by (with_reducible repeat (first | apply Kd.R_alloc | apply Kd.R_drewN | apply Kd.R_drew)); exact Kd.R_mono (Kd.R_far (p := ⟨gb1237, 5, none⟩) (Kd.R_far (p := ⟨gb1237, 4, none⟩) (Kd.R_far (p := ⟨gb1237, 3, none⟩) (Kd.R_far (p := ⟨gb1237, 2, none⟩) (Kd.R_far (p := ⟨gb1237, 1, none⟩) (Kd.R_far (p := ⟨gb1237, 0, none⟩) (Kd.R_far (p := ⟨gb1238, 5, none⟩) (Kd.R_types (Kd.R_types HO1241.out BK1238.out (by decide)) BK1237.out (by decide)) (fun _ hk => hk.1.2) (.slice Ao17 t1242.length co17)) (fun _ hk => hk.2) (.int .i64 a0_0)) (fun _ hk => hk.2) (.int .i64 a0_1)) (fun _ hk => hk.2) (.slice Ao13 t1239.length co13)) (fun _ hk => hk.2) (.int .i64 a0_3)) (fun _ hk => hk.2) (.int .i64 a0_4)) (fun _ hk => hk.2) (.slice Ao17 t1242.length co17)) (fun _ hk => hk.1.1.2), by (with_reducible repeat (first | apply Kd.R_alloc | apply Kd.R_drewN | apply Kd.R_drew)); exact Kd.R_mono (Kd.R_far (p := ⟨gb1237, 5, none⟩) (Kd.R_far (p := ⟨gb1237, 4, none⟩) (Kd.R_far (p := ⟨gb1237, 3, none⟩) (Kd.R_far (p := ⟨gb1237, 2, none⟩) (Kd.R_far (p := ⟨gb1237, 1, none⟩) (Kd.R_far (p := ⟨gb1237, 0, none⟩) (Kd.R_far (p := ⟨gb1238, 5, none⟩) (Kd.R_types (Kd.R_types HO1244.out BK1238.out (by decide)) BK1237.out (by decide)) (fun _ hk => hk.1.2) (.slice Ao17 t1242.length co17)) (fun _ hk => hk.2) (.int .i64 a0_0)) (fun _ hk => hk.2) (.int .i64 a0_1)) (fun _ hk => hk.2) (.slice Ao13 t1239.length co13)) (fun _ hk => hk.2) (.int .i64 a0_3)) (fun _ hk => hk.2) (.int .i64 a0_4)) (fun _ hk => hk.2) (.slice Ao17 t1242.length co17)) (fun _ hk => hk.1.1.2), by repeat (first | (with_reducible first | exact HB.out | apply below_alloc | apply pw_below_drewN | apply below_drew1 | refine below_set ?_ GE1236.out | refine below_set ?_ GE1237.out | refine below_set ?_ GE1238.out) | exact HB.out)⟩

end Go.Proofs.Ytcefenlblnediaa.My

/- Written by this session's program (wip/gen): a plain function with the same answers as the Go function, and the proof that the Go code comes to them. Asked: that the plain function has an answer. -/
namespace Go.Proofs.Ytcefenlblnediaa.My
open Go.RowKit Go.Proofs.YtcefenlblnediaaW.PrintWords Go.Proofs.YtcefenlblnediaaW.PrintLast Go.Proofs.YtcefenlblnediaaW.PrintMore
attribute [local go_sem] max2_int min2_int max_two min_two max_three min_three max_four min_four
set_option linter.unusedVariables false
set_option linter.unusedSimpArgs false

/-! ### laws_toStepS: function 63 -/
def laws_toStepS.l0 : Nat → List (S140) → List (S144) → Int → Option ((List (S144)))
 | 0, _, _, _ => none
 | k + 1, x0, x3, x4 => if x4 < (x0.length : Int) then (if 0 ≤ x4 then ((laws_toStep.f k ((rd_T140 x0 x4).f0) ((rd_T140 x0 x4).f1) ((rd_T140 x0 x4).f2) ((rd_T140 x0 x4).f3) ((rd_T140 x0 x4).f4) ((rd_T140 x0 x4).f5)).bind fun bt1249 => (if x4 < (x3.length : Int) then (laws_toStepS.l0 k x0 (x3.set (x4 : Int).toNat (⟨bt1249.1, bt1249.2.1, bt1249.2.2.1, bt1249.2.2.2.1, bt1249.2.2.2.2.1, bt1249.2.2.2.2.2⟩ : S144)) (wrap64 (x4 + 1))) else (none))) else (none)) else (some x3)
def laws_toStepS.f (k : Nat) (l0 : List (S140)) : Option ((List (S144))) := if 0 ≤ (l0.length : Int) then (if ((l0.length : Int) : Int).toNat ≤ 3518437208883 then (laws_toStepS.l0 k l0 (List.replicate ((l0.length : Int) : Int).toNat z144) 0) else (none)) else (none)
set_option maxHeartbeats 8000000 in
set_option maxRecDepth 100000 in
theorem laws_toStepS.calls (k : Nat) (A0 : Option Addr) (c0 : Nat) (l0 : List (S140)) (r : List (S144)) (w : World) (hr0 : Kd.C k140 w A0 l0.length l0) (hc0 : l0.length ≤ c0) (h : laws_toStepS.f k l0 = some r) :
  Calls Try.prog 63 #[.slice A0 l0.length c0] w fun e w' => ∃ v0_ : Value, e = .returned (v0_) ∧ Kd.S k144 144 w' w.heap.size (fun _ => True) v0_ r ∧ Below w.heap.size w w' := by
 have hu140 := Try.underlying140
 have hu144 := Try.underlying144
 have HR0 := Aside0.mk hr0
 have HC0 := Aside0.mk hc0
 clear hr0 hc0
 have HB := Aside0.mk (Below.refl w.heap.size w)
 have H : (if 0 ≤ (l0.length : Int) then (if ((l0.length : Int) : Int).toNat ≤ 3518437208883 then (laws_toStepS.l0 k l0 (List.replicate ((l0.length : Int) : Int).toNat z144) 0) else (none)) else (none)) = some r := h
 clear h
 by_cases c2 : 0 ≤ (l0.length : Int)
 ·rw [if_pos c2] at H
  have c2b0 := eq_true c2
  have c2b1 : decide (0 ≤ (l0.length : Int)) = true := decide_eq_true c2
  clear c2
  by_cases c3 : ((l0.length : Int) : Int).toNat ≤ 3518437208883
  ·rw [if_pos c3] at H
   have c3b0 := eq_true c3
   have c3b1 : decide (((l0.length : Int) : Int).toNat ≤ 3518437208883) = true := decide_eq_true c3
   clear c3
   obtain ⟨y1245, hy1245⟩ : ∃ y_ : List (S144), y_ = (List.replicate ((l0.length : Int) : Int).toNat z144) := ⟨_, rfl⟩
   replace H : (laws_toStepS.l0 k l0 y1245 0) = some r := by first | (rw [hy1245]; with_reducible exact H) | (have H2_ := (Option.bind_some _ _).symm.trans H; rw [hy1245]; with_reducible exact H2_) | (have H2_ := (Option.bind_some _ _).symm.trans H; with_reducible exact H2_) | with_reducible exact H | (rw [hy1245]; exact H) | exact H
   have Ny1245 := Aside0.mk hy1245
   clear hy1245
   have H' := Aside0.mk H
   clear H
   go_enter Try.func63, Try.ntmps63
   go_wp2_with (first | ((with_reducible refine gate_dst (N := 7) rfl ?_); refine Kd.S_make k144 _ 144 rfl (N := 7) rfl 74 _ _ rfl (l0.length : Int) rfl rfl Try.underlying74 (.agg #[(.int .i64 0), (.int .i64 0), (.slice none 0 0), (.int .i64 0), (.int .i64 0), (.slice none 0 0)]) 80 info144 rfl (by decide) (by omega) z144 (ok := fun _ => True) (okp := fun _ => True) (k144_mkM (by with_reducible first | exact sep_nil | exact sep_e (by assumption) | exact sep_f (by assumption) | exact sep_a (by assumption) | exact sep_b (by assumption) | exact sep_a2 (by assumption) | exact sep_b2 (by assumption) | exact sep_c (by assumption) | exact sep_d (by assumption)) _ _ _ z144 (Kd.R_nil _ _ _ _ _) (Kd.R_nil _ _ _ _ _)) (fun _ hk => hk) trivial oa (Nat.le_trans (Nat.mul_le_mul_right _ (oa : (l0.length : Int).toNat ≤ 3518437208883)) (by omega)) (Below.refl _ _) (Nat.le_refl _) ?_; intro v1246 w4 ho5 hb hg_ hnew_; clear hg_ hnew_; (first | rw [← Ny1245.out] at ho5 | (simp only [Int.reduceToNat] at ho5; rw [← Ny1245.out] at ho5)); have n0_ := Aside0.mk (Kd.S_lower ho5 (below_size zb)); have n1_ := Aside0.mk (below_step zb hb); clear HB; have HO1247 := n0_; have HB := n1_; clear n0_ n1_; clear hb ho5))
   go_loopg [4] k (fun kq v4 w' => ∃ (x3_1 : List (S144)) (x4_1 : Int), v4 = .int .i64 x4_1 ∧ Aside0 (laws_toStepS.l0 kq l0 x3_1 x4_1 = some r) ∧ Aside0 (kq ≤ k) ∧ Aside0 (Kd.S k144 144 w' w.heap.size (fun _ => True) v1246 x3_1) ∧ Aside0 (Below w.heap.size w w'))
   case atStart => exact ⟨(y1245), (0), zf, H', ⟨Nat.le_refl _⟩, ⟨by (with_reducible repeat (first | apply Kd.S_alloc | apply Kd.S_drewN | apply Kd.S_drew)); exact HO1247.out⟩, ⟨by repeat (first | (with_reducible first | exact HB.out | apply below_alloc | apply pw_below_drewN | apply below_drew1) | exact HB.out)⟩⟩
   case round =>
    clear H'
    try clear c2
    try clear c2b0
    try clear c2b1
    try clear p2
    try clear c3
    try clear c3b0
    try clear c3b1
    obtain ⟨x3_1, x4_1, rfl, HA, HK1, HO_3, HB⟩ := hrel
    cases gk with
    | zero => exact absurd HA.out (by simp [laws_toStepS.l0])
    | succ k1 =>
     have H := HA.out
     clear HA
     simp only [laws_toStepS.l0] at H
     by_cases c6 : x4_1 < (l0.length : Int)
     ·rw [if_pos c6] at H
      have c6b0 : decide (x4_1 < (l0.length : Int)) = true := decide_eq_true c6
      clear c6
      by_cases c7 : 0 ≤ x4_1
      ·rw [if_pos c7] at H
       have c7b0 : decide (0 ≤ x4_1) = true := decide_eq_true c7
       clear c7
       replace H := Option.bind_eq_some_iff.mp H
       obtain ⟨⟨t1249, t1250, t1251, t1254, t1255, t1256⟩, A80, H⟩ := H
       replace H : (if x4_1 < (x3_1.length : Int) then (laws_toStepS.l0 k1 l0 (x3_1.set (x4_1 : Int).toNat (⟨t1249, t1250, t1251, t1254, t1255, t1256⟩ : S144)) (wrap64 (x4_1 + 1))) else (none)) = some r := H
       have A8 := Aside0.mk A80
       clear A80
       by_cases c9 : x4_1 < (x3_1.length : Int)
       ·rw [if_pos c9] at H
        have c9b0 : decide (x4_1 < (x3_1.length : Int)) = true := decide_eq_true c9
        clear c9
        obtain ⟨y1259, hy1259⟩ : ∃ y_ : List (S144), y_ = (x3_1.set (x4_1 : Int).toNat (⟨t1249, t1250, t1251, t1254, t1255, t1256⟩ : S144)) := ⟨_, rfl⟩
        replace H : (laws_toStepS.l0 k1 l0 y1259 (wrap64 (x4_1 + 1))) = some r := by first | (rw [hy1259]; with_reducible exact H) | (have H2_ := (Option.bind_some _ _).symm.trans H; rw [hy1259]; with_reducible exact H2_) | (have H2_ := (Option.bind_some _ _).symm.trans H; with_reducible exact H2_) | with_reducible exact H | (rw [hy1259]; exact H) | exact H
        have Ny1259 := Aside0.mk hy1259
        clear hy1259
        have H' := Aside0.mk H
        clear H
        have p1248 : 0 ≤ (x4_1 : Int) := oa
        have q1248 : x4_1 < (l0.length : Int) := oa
        obtain ⟨ad1248, A1248_2, c1248_2, A1248_5, c1248_5, e1248, hx1248_0, hx1248_1, hx1248_2, hx1248_3, hx1248_4, hx1248_5, hl1248_2, hi1248_2, hl1248_5, hi1248_5⟩ := at_T140 HR0.out x4_1 p1248 q1248
        cases e1248
        replace hx1248_0 := (HB.out.cell (World.block_lt_of_cell? w _ hx1248_0)).trans hx1248_0
        replace hx1248_1 := (HB.out.cell (World.block_lt_of_cell? w _ hx1248_1)).trans hx1248_1
        replace hx1248_2 := (HB.out.cell (World.block_lt_of_cell? w _ hx1248_2)).trans hx1248_2
        replace hx1248_3 := (HB.out.cell (World.block_lt_of_cell? w _ hx1248_3)).trans hx1248_3
        replace hx1248_4 := (HB.out.cell (World.block_lt_of_cell? w _ hx1248_4)).trans hx1248_4
        replace hx1248_5 := (HB.out.cell (World.block_lt_of_cell? w _ hx1248_5)).trans hx1248_5
        have HR1248_2 := Aside0.mk hi1248_2
        have HC1248_2 := Aside0.mk hl1248_2
        clear hi1248_2 hl1248_2
        have HR1248_5 := Aside0.mk hi1248_5
        have HC1248_5 := Aside0.mk hl1248_5
        clear hi1248_5 hl1248_5
        replace p1248 := eq_true p1248
        replace q1248 := eq_true q1248
        go_wp2_with (first | ((with_reducible refine gateC (f := 126) rfl ?_); refine goesL_ (some 20) rfl rfl Try.func126 (by kernel_rfl) rfl #[.agg #[.int .i64 ((rd_T140 l0 x4_1).f0), .int .i64 ((rd_T140 l0 x4_1).f1), .slice A1248_2 ((rd_T140 l0 x4_1).f2).length c1248_2, .int .i64 ((rd_T140 l0 x4_1).f3), .int .i64 ((rd_T140 l0 x4_1).f4), .slice A1248_5 ((rd_T140 l0 x4_1).f5).length c1248_5]] rfl zm ?_; (with_reducible refine (laws_toStep.calls k1 ((rd_T140 l0 x4_1).f0) ((rd_T140 l0 x4_1).f1) _ _ ((rd_T140 l0 x4_1).f2) ((rd_T140 l0 x4_1).f3) ((rd_T140 l0 x4_1).f4) _ _ ((rd_T140 l0 x4_1).f5) t1249 t1250 t1251 t1254 t1255 t1256 _ ?side1 ?side2 ?side3 ?side4 A8.out).mono ?_); (case side1 => exact zq (Kd.C_below HR1248_2.out HB.out)); (case side2 => exact HC1248_2.out); (case side3 => exact zq (Kd.C_below HR1248_5.out HB.out)); (case side4 => exact HC1248_5.out); rintro e w11 ⟨v1252, v1257, rfl, ho0, ho1, hb⟩; refine ⟨_, rfl, ?_⟩; have n0_ := Aside0.mk (Kd.S_mono (Kd.S_told (Kd.S_told (Kd.S_old (zs HO_3.out) hb) (Kd.R_base ho0)) (Kd.R_base ho1)) (fun _ h_ => h_.1)); have n1_ := Aside0.mk (Kd.R_lower ho0 (below_size zb)); have n2_ := Aside0.mk (Kd.R_lower ho1 (below_size zb)); have n3_ := Aside0.mk (below_step zb hb); clear HO_3; clear HB; have HO_3 := n0_; have HO1253 := n1_; have HO1258 := n2_; have HB := n3_; clear n0_ n1_ n2_ n3_; (try clear hb); (try clear hb2); (try clear hk); (try clear hi); (try clear ho0); (try clear ho1); have p10 : 0 ≤ (x4_1 : Int) := oa; have q10 : (x4_1 : Int) < ((x3_1.length : Int) : Int) := oa; obtain ⟨go10, co10, eo10, gb10, gl10, cl10, HG10⟩ := Kd.S_form HO_3.out (by omega); (first | cases eo10 | (injection eo10 with ea_ en_ ec_; (first | subst ea_ | (injection ea_ with ea_; subst ea_)); subst ec_; clear en_)); have GB10 := Aside0.mk gb10; have GG10 := Aside0.mk HG10; clear gb10 gl10 HG10; obtain ⟨_, ce10, hcl10, hM10, hcc10, hfr10, _, _⟩ := Kd.S_elem HO_3.out z144 (x4_1 : Int) p10 q10; obtain ⟨ve10_2, ve10_5, rfl, ge10_2, ge10_5⟩ := k144_openM hM10; have hx10_0 : w11.cell? ⟨go10, (x4_1 : Int).toNat * 6, none⟩ = some (.int .i64 ((rd_T144 x3_1 x4_1).f0)) := hcc10 0 _ rfl; have hx10_1 : w11.cell? ⟨go10, (x4_1 : Int).toNat * 6 + 1, none⟩ = some (.int .i64 ((rd_T144 x3_1 x4_1).f1)) := hcc10 1 _ rfl; have hx10_2 : w11.cell? ⟨go10, (x4_1 : Int).toNat * 6 + 2, none⟩ = some (ve10_2) := hcc10 2 _ rfl; have hx10_3 : w11.cell? ⟨go10, (x4_1 : Int).toNat * 6 + 3, none⟩ = some (.int .i64 ((rd_T144 x3_1 x4_1).f3)) := hcc10 3 _ rfl; have hx10_4 : w11.cell? ⟨go10, (x4_1 : Int).toNat * 6 + 4, none⟩ = some (.int .i64 ((rd_T144 x3_1 x4_1).f4)) := hcc10 4 _ rfl; have hx10_5 : w11.cell? ⟨go10, (x4_1 : Int).toNat * 6 + 5, none⟩ = some (ve10_5) := hcc10 5 _ rfl; have hf10_0 : w11.frozen? ⟨go10, (x4_1 : Int).toNat * 6, none⟩ = false := hfr10 0; have hf10_1 : w11.frozen? ⟨go10, (x4_1 : Int).toNat * 6 + 1, none⟩ = false := hfr10 1; have hf10_2 : w11.frozen? ⟨go10, (x4_1 : Int).toNat * 6 + 2, none⟩ = false := hfr10 2; have hf10_3 : w11.frozen? ⟨go10, (x4_1 : Int).toNat * 6 + 3, none⟩ = false := hfr10 3; have hf10_4 : w11.frozen? ⟨go10, (x4_1 : Int).toNat * 6 + 4, none⟩ = false := hfr10 4; have hf10_5 : w11.frozen? ⟨go10, (x4_1 : Int).toNat * 6 + 5, none⟩ = false := hfr10 5; clear hcl10 hcc10 hfr10; (try clear hM10); replace p10 := eq_true p10; replace q10 := eq_true q10; have n_ := Aside0.mk (Kd.S_mono (ok' := (fun k_ => some k_ ≠ (v1252 : Value).ownBlock ∧ some k_ ≠ (v1257 : Value).ownBlock)) HO_3.out (fun k_ hk => ⟨hk.1.2, hk.2⟩)); clear HO_3; have HO_3 := n_; clear n_; have HX12 := Aside0.mk (show Kd.S k144 144 w11 w.heap.size (fun k_ => ((fun _ => True)) k_ ∧ ¬ ((fun k_ => some k_ = (v1252 : Value).ownBlock ∨ some k_ = (v1257 : Value).ownBlock)) k_) (.slice (some ⟨go10, 0, none⟩) x3_1.length co10) x3_1 from (by (with_reducible repeat (first | apply Kd.S_alloc | apply Kd.S_drewN | apply Kd.S_drew)); exact Kd.S_mono HO_3.out (fun k_ hk => ⟨trivial, fun e_ => e_.elim (fun h_ => hk.1 h_) (fun h_ => hk.2 h_)⟩))); obtain ⟨oki12, ce12, hcl12, hM12, hcc12, hfr12, hoki12, hH12⟩ := Kd.S_elem HX12.out z144 (x4_1 : Int) oa (by have h_ : (x4_1 : Int) < ((x3_1.length : Int) : Int) := oa; first | exact h_ | (have e_ := (Kd.S_reads' HO_3.out).1; omega) | simpa using h_); obtain ⟨ve12_2, ve12_5, rfl, ge12_2, ge12_5⟩ := k144_openM hM12; have HP12 := Kd.S_seg hH12 oa (by have h_ : (x4_1 : Int) < ((x3_1.length : Int) : Int) := oa; first | exact h_ | (have e_ := (Kd.S_reads' HO_3.out).1; omega) | simpa using h_) (seg := [.int .i64 t1249, .int .i64 t1250, v1252, .int .i64 t1254, .int .i64 t1255, v1257]) (j := 0) (show 6 ≤ 6 from by decide) (x' := (⟨t1249, t1250, t1251, t1254, t1255, t1256⟩ : S144)) (k144_mkM (by with_reducible first | exact sep_nil | exact sep_e (by assumption) | exact sep_f (by assumption) | exact sep_a (by assumption) | exact sep_b (by assumption) | exact sep_a2 (by assumption) | exact sep_b2 (by assumption) | exact sep_c (by assumption) | exact sep_d (by assumption)) _ _ _ (⟨t1249, t1250, t1251, t1254, t1255, t1256⟩ : S144) (Kd.R_mono (Kd.R_tight rfl (Kd.R_mono (ok' := fun k_ => ((fun _ => True)) k_ ∧ k_ ≠ go10) (Kd.R_apart' (HO1253.out) (Kd.S_typed HO_3.out) (by decide)) (fun k_ hk => ⟨trivial, fun e_ => (hk.2) (by rw [e_]; rfl)⟩))) (fun _ h_ => Or.inr (Or.inl h_))) (Kd.R_mono (Kd.R_tight rfl (Kd.R_mono (ok' := fun k_ => ((fun _ => True)) k_ ∧ k_ ≠ go10) (Kd.R_apart' (HO1258.out) (Kd.S_typed HO_3.out) (by decide)) (fun k_ hk => ⟨trivial, fun e_ => (hk.2) (by rw [e_]; rfl)⟩))) (fun _ h_ => Or.inr (Or.inr (h_))))) (fun _ hk => hk) (fun k_ hk_ => hk_.elim (fun h_ => ((Kd.R_mono (ok' := fun k_ => ((fun _ => True)) k_ ∧ k_ ≠ go10) (Kd.R_apart' (HO1253.out) (Kd.S_typed HO_3.out) (by decide)) (fun k_ hk => ⟨trivial, fun e_ => (hk.2) (by rw [e_]; rfl)⟩))).1 k_ h_.symm) (fun h_ => ((Kd.R_mono (ok' := fun k_ => ((fun _ => True)) k_ ∧ k_ ≠ go10) (Kd.R_apart' (HO1258.out) (Kd.S_typed HO_3.out) (by decide)) (fun k_ hk => ⟨trivial, fun e_ => (hk.2) (by rw [e_]; rfl)⟩))).1 k_ h_.symm)); have hx12_0 := hcc12 0 _ rfl; (try simp only [show (k144).sz = 6 from rfl, Nat.mul_one, Nat.add_zero] at hx12_0); have hf12_0 := hfr12 0; (try simp only [show (k144).sz = 6 from rfl, Nat.mul_one, Nat.add_zero] at hf12_0); have hx12_1 := hcc12 1 _ rfl; (try simp only [show (k144).sz = 6 from rfl, Nat.mul_one, Nat.add_zero] at hx12_1); have hf12_1 := hfr12 1; (try simp only [show (k144).sz = 6 from rfl, Nat.mul_one, Nat.add_zero] at hf12_1); have hx12_2 := hcc12 2 _ rfl; (try simp only [show (k144).sz = 6 from rfl, Nat.mul_one, Nat.add_zero] at hx12_2); have hf12_2 := hfr12 2; (try simp only [show (k144).sz = 6 from rfl, Nat.mul_one, Nat.add_zero] at hf12_2); have hx12_3 := hcc12 3 _ rfl; (try simp only [show (k144).sz = 6 from rfl, Nat.mul_one, Nat.add_zero] at hx12_3); have hf12_3 := hfr12 3; (try simp only [show (k144).sz = 6 from rfl, Nat.mul_one, Nat.add_zero] at hf12_3); have hx12_4 := hcc12 4 _ rfl; (try simp only [show (k144).sz = 6 from rfl, Nat.mul_one, Nat.add_zero] at hx12_4); have hf12_4 := hfr12 4; (try simp only [show (k144).sz = 6 from rfl, Nat.mul_one, Nat.add_zero] at hf12_4); have hx12_5 := hcc12 5 _ rfl; (try simp only [show (k144).sz = 6 from rfl, Nat.mul_one, Nat.add_zero] at hx12_5); have hf12_5 := hfr12 5; (try simp only [show (k144).sz = 6 from rfl, Nat.mul_one, Nat.add_zero] at hf12_5); clear hcl12 hcc12 hfr12 hoki12 hH12; (try clear hM12)) | ((with_reducible refine gate_store (t := 144) (p := 21) rfl ?_); refine store_event (t := 144) (p := 21) (v := ?vo_w13) (w1 := ((((((w11.setCell ⟨go10, (x4_1 : Int).toNat * 6, none⟩ (.int .i64 t1249)).setCell ⟨go10, (x4_1 : Int).toNat * 6 + 1, none⟩ (.int .i64 t1250)).setCell ⟨go10, (x4_1 : Int).toNat * 6 + 2, none⟩ (v1252)).setCell ⟨go10, (x4_1 : Int).toNat * 6 + 3, none⟩ (.int .i64 t1254)).setCell ⟨go10, (x4_1 : Int).toNat * 6 + 4, none⟩ (.int .i64 t1255)).setCell ⟨go10, (x4_1 : Int).toNat * 6 + 5, none⟩ (v1257))) ?hg ?ho ?hn ?hr ?_; (case ho => rfl); (case hg => rfl); (case hn => rfl); (case hr => (obtain ⟨A2_, c2_, e2_⟩ := Kd.R_slice HO1253.out); (subst e2_); (obtain ⟨A5_, c5_, e5_⟩ := Kd.R_slice HO1258.out); (subst e5_); first | (go_simp; done) | (go_simp; rfl)); intro w13 hw; have hg : w11.grownBy w13 (some go10) := (by rw [hw]; exact HP12.2); have hp_ : Kd.S k144 144 w13 w.heap.size (fun _ => True) (.slice (some ⟨go10, 0, none⟩) x3_1.length co10) y1259 := (by rw [hw, Ny1259.out]; exact HP12.1); clear HP12; have n0_ := Aside0.mk (hp_); have n1_ := Aside0.mk ((by rw [hw]; exact below_set (below_set (below_set (below_set (below_set (below_set (HB.out) GB10.out) GB10.out) GB10.out) GB10.out) GB10.out) GB10.out : Below w.heap.size w w13)); clear HO_3; clear HB; clear HO1253; clear HO1258; have HO_3 := n0_; have HB := n1_; clear n0_ n1_; clear hg hw hp_))
        go_roundg k1
        case measure => have := HK1.out; omega
        case rel => exact ⟨(y1259), (wrap64 (x4_1 + 1)), zf, H', ⟨by have := HK1.out; omega⟩, ⟨by (with_reducible repeat (first | apply Kd.S_alloc | apply Kd.S_drewN | apply Kd.S_drew)); exact HO_3.out⟩, ⟨by repeat (first | (with_reducible first | exact HB.out | apply below_alloc | apply pw_below_drewN | apply below_drew1) | exact HB.out)⟩⟩
       ·rw [if_neg c9] at H
        exact absurd H (by simp)
      ·rw [if_neg c7] at H
       exact absurd H (by simp)
     ·rw [if_neg c6] at H
      have c6b0 : decide (x4_1 < (l0.length : Int)) = false := decide_eq_false c6
      clear c6
      obtain rfl := Option.some.inj H
      go_wp2
      go_ret
      exact ⟨_, by first | rfl | (simp [errW_none, errW_some] <;> rfl) | (simp [*, errW_none, errW_some] <;> rfl), by (with_reducible repeat (first | apply Kd.S_alloc | apply Kd.S_drewN | apply Kd.S_drew)); exact HO_3.out, by repeat (first | (with_reducible first | exact HB.out | apply below_alloc | apply pw_below_drewN | apply below_drew1) | exact HB.out)⟩
  ·rw [if_neg c3] at H
   exact absurd H (by simp)
 ·rw [if_neg c2] at H
  exact absurd H (by simp)

end Go.Proofs.Ytcefenlblnediaa.My

/- Written by this session's program (wip/gen): a plain function with the same answers as the Go function, and the proof that the Go code comes to them. Asked: that the plain function has an answer. -/
namespace Go.Proofs.Ytcefenlblnediaa.My
open Go.RowKit Go.Proofs.YtcefenlblnediaaW.PrintWords Go.Proofs.YtcefenlblnediaaW.PrintLast Go.Proofs.YtcefenlblnediaaW.PrintMore
attribute [local go_sem] max2_int min2_int max_two min_two max_three min_three max_four min_four
set_option linter.unusedVariables false
set_option linter.unusedSimpArgs false

/-! ### laws_eqStep: function 133 -/
def laws_eqStep.f (k : Nat) (a0_0 : Int) (a0_1 : Int) (l0_2 : List ByteArray) (a0_3 : Int) (a0_4 : Int) (l0_5 : List ByteArray) (a1_0 : Int) (a1_1 : Int) (l1_2 : List ByteArray) (a1_3 : Int) (a1_4 : Int) (l1_5 : List ByteArray) : Option (Bool) := if a0_0 = a1_0 then (if a0_1 = a1_1 then ((laws_eqStringS.f k l0_2 l1_2).bind fun t1306 => (if t1306 = true then (if a0_3 = a1_3 then (if a0_4 = a1_4 then ((laws_eqStringS.f k l0_5 l1_5).bind fun t1307 => (if t1307 = true then (some true) else (some false))) else (some false)) else (some false)) else (some false))) else (some false)) else (some false)
set_option maxHeartbeats 8000000 in
set_option maxRecDepth 100000 in
theorem laws_eqStep.calls (k : Nat) (a0_0 : Int) (a0_1 : Int) (A0_2 : Option Addr) (c0_2 : Nat) (l0_2 : List ByteArray) (a0_3 : Int) (a0_4 : Int) (A0_5 : Option Addr) (c0_5 : Nat) (l0_5 : List ByteArray) (a1_0 : Int) (a1_1 : Int) (A1_2 : Option Addr) (c1_2 : Nat) (l1_2 : List ByteArray) (a1_3 : Int) (a1_4 : Int) (A1_5 : Option Addr) (c1_5 : Nat) (l1_5 : List ByteArray) (r : Bool) (w : World) (hr0_2 : Kd.C Kd.string w A0_2 l0_2.length l0_2) (hc0_2 : l0_2.length ≤ c0_2) (hr0_5 : Kd.C Kd.string w A0_5 l0_5.length l0_5) (hc0_5 : l0_5.length ≤ c0_5) (hr1_2 : Kd.C Kd.string w A1_2 l1_2.length l1_2) (hc1_2 : l1_2.length ≤ c1_2) (hr1_5 : Kd.C Kd.string w A1_5 l1_5.length l1_5) (hc1_5 : l1_5.length ≤ c1_5) (h : laws_eqStep.f k a0_0 a0_1 l0_2 a0_3 a0_4 l0_5 a1_0 a1_1 l1_2 a1_3 a1_4 l1_5 = some r) :
  Calls Try.prog 133 #[.agg #[.int .i64 a0_0, .int .i64 a0_1, .slice A0_2 l0_2.length c0_2, .int .i64 a0_3, .int .i64 a0_4, .slice A0_5 l0_5.length c0_5], .agg #[.int .i64 a1_0, .int .i64 a1_1, .slice A1_2 l1_2.length c1_2, .int .i64 a1_3, .int .i64 a1_4, .slice A1_5 l1_5.length c1_5]] w fun e w' => e = .returned (.bool r) ∧ Below w.heap.size w w' := by
 have hu144 := Try.underlying144
 have HR0_2 := Aside0.mk hr0_2
 have HC0_2 := Aside0.mk hc0_2
 clear hr0_2 hc0_2
 have HR0_5 := Aside0.mk hr0_5
 have HC0_5 := Aside0.mk hc0_5
 clear hr0_5 hc0_5
 have HR1_2 := Aside0.mk hr1_2
 have HC1_2 := Aside0.mk hc1_2
 clear hr1_2 hc1_2
 have HR1_5 := Aside0.mk hr1_5
 have HC1_5 := Aside0.mk hc1_5
 clear hr1_5 hc1_5
 have HB := Aside0.mk (Below.refl w.heap.size w)
 have H : (if a0_0 = a1_0 then (if a0_1 = a1_1 then ((laws_eqStringS.f k l0_2 l1_2).bind fun t1306 => (if t1306 = true then (if a0_3 = a1_3 then (if a0_4 = a1_4 then ((laws_eqStringS.f k l0_5 l1_5).bind fun t1307 => (if t1307 = true then (some true) else (some false))) else (some false)) else (some false)) else (some false))) else (some false)) else (some false)) = some r := h
 clear h
 by_cases c3 : a0_0 = a1_0
 ·rw [if_pos c3] at H
  have c3b0 : (a0_0 == a1_0) = true := beq_iff_eq.mpr c3
  have c3b1 : (a0_0 != a1_0) = false := bne_eq_false_iff_eq.mpr c3
  clear c3
  by_cases c4 : a0_1 = a1_1
  ·rw [if_pos c4] at H
   have c4b0 : (a0_1 == a1_1) = true := beq_iff_eq.mpr c4
   have c4b1 : (a0_1 != a1_1) = false := bne_eq_false_iff_eq.mpr c4
   clear c4
   replace H := Option.bind_eq_some_iff.mp H
   obtain ⟨t1306, A50, H⟩ := H
   replace H : (if t1306 = true then (if a0_3 = a1_3 then (if a0_4 = a1_4 then ((laws_eqStringS.f k l0_5 l1_5).bind fun t1307 => (if t1307 = true then (some true) else (some false))) else (some false)) else (some false)) else (some false)) = some r := H
   have A5 := Aside0.mk A50
   clear A50
   by_cases c6 : t1306 = true
   ·subst c6
    have H1 : (if a0_3 = a1_3 then (if a0_4 = a1_4 then ((laws_eqStringS.f k l0_5 l1_5).bind fun t1307 => (if t1307 = true then (some true) else (some false))) else (some false)) else (some false)) = some r := by rw [if_pos rfl] at H; exact H
    clear H
    have H := H1
    clear H1
    by_cases c7 : a0_3 = a1_3
    ·rw [if_pos c7] at H
     have c7b0 : (a0_3 == a1_3) = true := beq_iff_eq.mpr c7
     have c7b1 : (a0_3 != a1_3) = false := bne_eq_false_iff_eq.mpr c7
     clear c7
     by_cases c8 : a0_4 = a1_4
     ·rw [if_pos c8] at H
      have c8b0 : (a0_4 == a1_4) = true := beq_iff_eq.mpr c8
      have c8b1 : (a0_4 != a1_4) = false := bne_eq_false_iff_eq.mpr c8
      clear c8
      replace H := Option.bind_eq_some_iff.mp H
      obtain ⟨t1307, A90, H⟩ := H
      replace H : (if t1307 = true then (some true) else (some false)) = some r := H
      have A9 := Aside0.mk A90
      clear A90
      by_cases c10 : t1307 = true
      ·subst c10
       have H1 : (some true) = some r := by rw [if_pos rfl] at H; exact H
       clear H
       have H := H1
       clear H1
       obtain rfl := Option.some.inj H
       go_enter Try.func133, Try.ntmps133
       go_wp2_with (first | ((with_reducible refine gate_dst (N := 2) rfl ?_); refine box_event ?hg (N := 2) ?hd (cs := #[.int .i64 a0_0, .int .i64 a0_1, .slice A0_2 l0_2.length c0_2, .int .i64 a0_3, .int .i64 a0_4, .slice A0_5 l0_5.length c0_5]) (t := 144) ?hr ?_; (case hd => rfl); (case hg => rfl); (case hr => first | (go_simp; done) | (go_simp; rfl)); intro gb1304 hg w11 hbox hb; have n0_ := Aside0.mk (below_step zb hb); have n1_ := Aside0.mk (hbox); have n2_ := Aside0.mk ((by rw [hg]; exact (below_size zb) : w.heap.size ≤ gb1304)); have n3_ := Aside0.mk ((by rw [hg]; exact (below_size zb) : w.heap.size ≤ gb1304)); clear HB; have HB := n0_; have BK1304 := n1_; have GW1304 := n2_; have GE1304 := n3_; clear n0_ n1_ n2_ n3_; clear hb hbox hg) | ((with_reducible refine gate_dst (N := 3) rfl ?_); refine box_event ?hg (N := 3) ?hd (cs := #[.int .i64 a1_0, .int .i64 a1_1, .slice A1_2 l1_2.length c1_2, .int .i64 a1_3, .int .i64 a1_4, .slice A1_5 l1_5.length c1_5]) (t := 144) ?hr ?_; (case hd => rfl); (case hg => rfl); (case hr => first | (go_simp; done) | (go_simp; rfl)); intro gb1305 hg w12 hbox hb; have n0_ := Aside0.mk (blk_below (g := gb1304) (o := .cells #[.int .i64 a0_0, .int .i64 a0_1, .slice A0_2 l0_2.length c0_2, .int .i64 a0_3, .int .i64 a0_4, .slice A0_5 l0_5.length c0_5] 144 (0, 0)) (zk BK1304.out) hb); have n1_ := Aside0.mk (below_step (by repeat (first | (with_reducible first | exact HB.out | apply below_alloc | apply pw_below_drewN | apply below_drew1 | refine below_set ?_ GE1304.out) | exact HB.out)) hb); have n2_ := Aside0.mk (hbox); have n3_ := Aside0.mk ((by rw [hg]; exact (below_size (by repeat (first | (with_reducible first | exact HB.out | apply below_alloc | apply pw_below_drewN | apply below_drew1 | refine below_set ?_ GE1304.out) | exact HB.out))) : w.heap.size ≤ gb1305)); have n4_ := Aside0.mk ((by rw [hg]; exact (below_size (by repeat (first | (with_reducible first | exact HB.out | apply below_alloc | apply pw_below_drewN | apply below_drew1 | refine below_set ?_ GE1304.out) | exact HB.out))) : w.heap.size ≤ gb1305)); have n5_ := Aside0.mk ((by rw [hg]; exact Nat.ne_of_lt (blk_lt (g := gb1304) (o := .cells #[.int .i64 a0_0, .int .i64 a0_1, .slice A0_2 l0_2.length c0_2, .int .i64 a0_3, .int .i64 a0_4, .slice A0_5 l0_5.length c0_5] 144 (0, 0)) (zk BK1304.out)) : gb1304 ≠ gb1305)); have n6_ := Aside0.mk ((by rw [hg]; exact Nat.ne_of_gt (blk_lt (g := gb1304) (o := .cells #[.int .i64 a0_0, .int .i64 a0_1, .slice A0_2 l0_2.length c0_2, .int .i64 a0_3, .int .i64 a0_4, .slice A0_5 l0_5.length c0_5] 144 (0, 0)) (zk BK1304.out)) : gb1305 ≠ gb1304)); clear BK1304; clear HB; have BK1304 := n0_; have HB := n1_; have BK1305 := n2_; have GW1305 := n3_; have GE1305 := n4_; have NB1304_1305 := n5_; have NB1305_1304 := n6_; clear n0_ n1_ n2_ n3_ n4_ n5_ n6_; clear hb hbox hg; have hnb13 := NB1304_1305.out; have hnc13 := NB1305_1304.out; have hcz14_0 : w12.cell? ⟨gb1304, 0, none⟩ = some (.int .i64 a0_0) := (blk_cell BK1304.out 0).trans rfl; have hcz14_1 : w12.cell? ⟨gb1304, 1, none⟩ = some (.int .i64 a0_1) := (blk_cell BK1304.out 1).trans rfl; have hcz14_2 : w12.cell? ⟨gb1304, 2, none⟩ = some (.slice A0_2 l0_2.length c0_2) := (blk_cell BK1304.out 2).trans rfl; have hcz14_3 : w12.cell? ⟨gb1304, 3, none⟩ = some (.int .i64 a0_3) := (blk_cell BK1304.out 3).trans rfl; have hcz14_4 : w12.cell? ⟨gb1304, 4, none⟩ = some (.int .i64 a0_4) := (blk_cell BK1304.out 4).trans rfl; have hcz14_5 : w12.cell? ⟨gb1304, 5, none⟩ = some (.slice A0_5 l0_5.length c0_5) := (blk_cell BK1304.out 5).trans rfl; have hfz14_0 := blk_frozen BK1304.out 0; have hfz14_1 := blk_frozen BK1304.out 1; have hfz14_2 := blk_frozen BK1304.out 2; have hfz14_3 := blk_frozen BK1304.out 3; have hfz14_4 := blk_frozen BK1304.out 4; have hfz14_5 := blk_frozen BK1304.out 5; have hcz15_0 : w12.cell? ⟨gb1305, 0, none⟩ = some (.int .i64 a1_0) := (blk_cell BK1305.out 0).trans rfl; have hcz15_1 : w12.cell? ⟨gb1305, 1, none⟩ = some (.int .i64 a1_1) := (blk_cell BK1305.out 1).trans rfl; have hcz15_2 : w12.cell? ⟨gb1305, 2, none⟩ = some (.slice A1_2 l1_2.length c1_2) := (blk_cell BK1305.out 2).trans rfl; have hcz15_3 : w12.cell? ⟨gb1305, 3, none⟩ = some (.int .i64 a1_3) := (blk_cell BK1305.out 3).trans rfl; have hcz15_4 : w12.cell? ⟨gb1305, 4, none⟩ = some (.int .i64 a1_4) := (blk_cell BK1305.out 4).trans rfl; have hcz15_5 : w12.cell? ⟨gb1305, 5, none⟩ = some (.slice A1_5 l1_5.length c1_5) := (blk_cell BK1305.out 5).trans rfl; have hfz15_0 := blk_frozen BK1305.out 0; have hfz15_1 := blk_frozen BK1305.out 1; have hfz15_2 := blk_frozen BK1305.out 2; have hfz15_3 := blk_frozen BK1305.out 3; have hfz15_4 := blk_frozen BK1305.out 4; have hfz15_5 := blk_frozen BK1305.out 5) | ((with_reducible refine gateC (f := 18) rfl ?_); refine goesL_ (some 19) rfl rfl Try.func18 (by kernel_rfl) rfl #[.slice A0_2 l0_2.length c0_2, .slice A1_2 l1_2.length c1_2] rfl zm ?_; (with_reducible refine (laws_eqStringS.calls k _ _ l0_2 _ _ l1_2 true _ ?side1 ?side2 ?side3 ?side4 A5.out).mono ?_); (case side1 => exact zq (Kd.C_below HR0_2.out HB.out)); (case side2 => exact HC0_2.out); (case side3 => exact zq (Kd.C_below HR1_2.out HB.out)); (case side4 => exact HC1_2.out); rintro e w' ⟨rfl, ⟨nd, rfl⟩⟩; refine ⟨_, rfl, ?_⟩) | ((with_reducible refine gateC (f := 18) rfl ?_); refine goesL_ (some 35) rfl rfl Try.func18 (by kernel_rfl) rfl #[.slice A0_5 l0_5.length c0_5, .slice A1_5 l1_5.length c1_5] rfl zm ?_; (with_reducible refine (laws_eqStringS.calls k _ _ l0_5 _ _ l1_5 true _ ?side1 ?side2 ?side3 ?side4 A9.out).mono ?_); (case side1 => repeat (first | exact (Kd.C_below HR0_5.out (by repeat (first | (with_reducible first | exact HB.out | apply below_alloc | apply pw_below_drewN | apply below_drew1 | refine below_set ?_ GE1304.out | refine below_set ?_ GE1305.out) | exact HB.out))) | (with_reducible refine Kd.C_alloc ?_ _) | (with_reducible refine Kd.C_drewN ?_ _) | (with_reducible refine Kd.C_drew ?_))); (case side2 => exact HC0_5.out); (case side3 => repeat (first | exact (Kd.C_below HR1_5.out (by repeat (first | (with_reducible first | exact HB.out | apply below_alloc | apply pw_below_drewN | apply below_drew1 | refine below_set ?_ GE1304.out | refine below_set ?_ GE1305.out) | exact HB.out))) | (with_reducible refine Kd.C_alloc ?_ _) | (with_reducible refine Kd.C_drewN ?_ _) | (with_reducible refine Kd.C_drew ?_))); (case side4 => exact HC1_5.out); rintro e w' ⟨rfl, ⟨nd, rfl⟩⟩; refine ⟨_, rfl, ?_⟩))
       go_ret
       exact ⟨by first | rfl | (simp [errW_none, errW_some] <;> rfl) | (simp [*, errW_none, errW_some] <;> rfl), by repeat (first | (with_reducible first | exact HB.out | apply below_alloc | apply pw_below_drewN | apply below_drew1 | refine below_set ?_ GE1304.out | refine below_set ?_ GE1305.out) | exact HB.out)⟩
      ·replace c10 := Bool.eq_false_iff.mpr c10
       subst c10
       have H1 : (some false) = some r := by rw [if_neg (show ¬ (false = true) by decide)] at H; exact H
       clear H
       have H := H1
       clear H1
       obtain rfl := Option.some.inj H
       go_enter Try.func133, Try.ntmps133
       go_wp2_with (first | ((with_reducible refine gate_dst (N := 2) rfl ?_); refine box_event ?hg (N := 2) ?hd (cs := #[.int .i64 a0_0, .int .i64 a0_1, .slice A0_2 l0_2.length c0_2, .int .i64 a0_3, .int .i64 a0_4, .slice A0_5 l0_5.length c0_5]) (t := 144) ?hr ?_; (case hd => rfl); (case hg => rfl); (case hr => first | (go_simp; done) | (go_simp; rfl)); intro gb1304 hg w16 hbox hb; have n0_ := Aside0.mk (below_step zb hb); have n1_ := Aside0.mk (hbox); have n2_ := Aside0.mk ((by rw [hg]; exact (below_size zb) : w.heap.size ≤ gb1304)); have n3_ := Aside0.mk ((by rw [hg]; exact (below_size zb) : w.heap.size ≤ gb1304)); clear HB; have HB := n0_; have BK1304 := n1_; have GW1304 := n2_; have GE1304 := n3_; clear n0_ n1_ n2_ n3_; clear hb hbox hg) | ((with_reducible refine gate_dst (N := 3) rfl ?_); refine box_event ?hg (N := 3) ?hd (cs := #[.int .i64 a1_0, .int .i64 a1_1, .slice A1_2 l1_2.length c1_2, .int .i64 a1_3, .int .i64 a1_4, .slice A1_5 l1_5.length c1_5]) (t := 144) ?hr ?_; (case hd => rfl); (case hg => rfl); (case hr => first | (go_simp; done) | (go_simp; rfl)); intro gb1305 hg w17 hbox hb; have n0_ := Aside0.mk (blk_below (g := gb1304) (o := .cells #[.int .i64 a0_0, .int .i64 a0_1, .slice A0_2 l0_2.length c0_2, .int .i64 a0_3, .int .i64 a0_4, .slice A0_5 l0_5.length c0_5] 144 (0, 0)) (zk BK1304.out) hb); have n1_ := Aside0.mk (below_step (by repeat (first | (with_reducible first | exact HB.out | apply below_alloc | apply pw_below_drewN | apply below_drew1 | refine below_set ?_ GE1304.out) | exact HB.out)) hb); have n2_ := Aside0.mk (hbox); have n3_ := Aside0.mk ((by rw [hg]; exact (below_size (by repeat (first | (with_reducible first | exact HB.out | apply below_alloc | apply pw_below_drewN | apply below_drew1 | refine below_set ?_ GE1304.out) | exact HB.out))) : w.heap.size ≤ gb1305)); have n4_ := Aside0.mk ((by rw [hg]; exact (below_size (by repeat (first | (with_reducible first | exact HB.out | apply below_alloc | apply pw_below_drewN | apply below_drew1 | refine below_set ?_ GE1304.out) | exact HB.out))) : w.heap.size ≤ gb1305)); have n5_ := Aside0.mk ((by rw [hg]; exact Nat.ne_of_lt (blk_lt (g := gb1304) (o := .cells #[.int .i64 a0_0, .int .i64 a0_1, .slice A0_2 l0_2.length c0_2, .int .i64 a0_3, .int .i64 a0_4, .slice A0_5 l0_5.length c0_5] 144 (0, 0)) (zk BK1304.out)) : gb1304 ≠ gb1305)); have n6_ := Aside0.mk ((by rw [hg]; exact Nat.ne_of_gt (blk_lt (g := gb1304) (o := .cells #[.int .i64 a0_0, .int .i64 a0_1, .slice A0_2 l0_2.length c0_2, .int .i64 a0_3, .int .i64 a0_4, .slice A0_5 l0_5.length c0_5] 144 (0, 0)) (zk BK1304.out)) : gb1305 ≠ gb1304)); clear BK1304; clear HB; have BK1304 := n0_; have HB := n1_; have BK1305 := n2_; have GW1305 := n3_; have GE1305 := n4_; have NB1304_1305 := n5_; have NB1305_1304 := n6_; clear n0_ n1_ n2_ n3_ n4_ n5_ n6_; clear hb hbox hg; have hnb18 := NB1304_1305.out; have hnc18 := NB1305_1304.out; have hcz19_0 : w17.cell? ⟨gb1304, 0, none⟩ = some (.int .i64 a0_0) := (blk_cell BK1304.out 0).trans rfl; have hcz19_1 : w17.cell? ⟨gb1304, 1, none⟩ = some (.int .i64 a0_1) := (blk_cell BK1304.out 1).trans rfl; have hcz19_2 : w17.cell? ⟨gb1304, 2, none⟩ = some (.slice A0_2 l0_2.length c0_2) := (blk_cell BK1304.out 2).trans rfl; have hcz19_3 : w17.cell? ⟨gb1304, 3, none⟩ = some (.int .i64 a0_3) := (blk_cell BK1304.out 3).trans rfl; have hcz19_4 : w17.cell? ⟨gb1304, 4, none⟩ = some (.int .i64 a0_4) := (blk_cell BK1304.out 4).trans rfl; have hcz19_5 : w17.cell? ⟨gb1304, 5, none⟩ = some (.slice A0_5 l0_5.length c0_5) := (blk_cell BK1304.out 5).trans rfl; have hfz19_0 := blk_frozen BK1304.out 0; have hfz19_1 := blk_frozen BK1304.out 1; have hfz19_2 := blk_frozen BK1304.out 2; have hfz19_3 := blk_frozen BK1304.out 3; have hfz19_4 := blk_frozen BK1304.out 4; have hfz19_5 := blk_frozen BK1304.out 5; have hcz20_0 : w17.cell? ⟨gb1305, 0, none⟩ = some (.int .i64 a1_0) := (blk_cell BK1305.out 0).trans rfl; have hcz20_1 : w17.cell? ⟨gb1305, 1, none⟩ = some (.int .i64 a1_1) := (blk_cell BK1305.out 1).trans rfl; have hcz20_2 : w17.cell? ⟨gb1305, 2, none⟩ = some (.slice A1_2 l1_2.length c1_2) := (blk_cell BK1305.out 2).trans rfl; have hcz20_3 : w17.cell? ⟨gb1305, 3, none⟩ = some (.int .i64 a1_3) := (blk_cell BK1305.out 3).trans rfl; have hcz20_4 : w17.cell? ⟨gb1305, 4, none⟩ = some (.int .i64 a1_4) := (blk_cell BK1305.out 4).trans rfl; have hcz20_5 : w17.cell? ⟨gb1305, 5, none⟩ = some (.slice A1_5 l1_5.length c1_5) := (blk_cell BK1305.out 5).trans rfl; have hfz20_0 := blk_frozen BK1305.out 0; have hfz20_1 := blk_frozen BK1305.out 1; have hfz20_2 := blk_frozen BK1305.out 2; have hfz20_3 := blk_frozen BK1305.out 3; have hfz20_4 := blk_frozen BK1305.out 4; have hfz20_5 := blk_frozen BK1305.out 5) | ((with_reducible refine gateC (f := 18) rfl ?_); refine goesL_ (some 19) rfl rfl Try.func18 (by kernel_rfl) rfl #[.slice A0_2 l0_2.length c0_2, .slice A1_2 l1_2.length c1_2] rfl zm ?_; (with_reducible refine (laws_eqStringS.calls k _ _ l0_2 _ _ l1_2 true _ ?side1 ?side2 ?side3 ?side4 A5.out).mono ?_); (case side1 => exact zq (Kd.C_below HR0_2.out HB.out)); (case side2 => exact HC0_2.out); (case side3 => exact zq (Kd.C_below HR1_2.out HB.out)); (case side4 => exact HC1_2.out); rintro e w' ⟨rfl, ⟨nd, rfl⟩⟩; refine ⟨_, rfl, ?_⟩) | ((with_reducible refine gateC (f := 18) rfl ?_); refine goesL_ (some 35) rfl rfl Try.func18 (by kernel_rfl) rfl #[.slice A0_5 l0_5.length c0_5, .slice A1_5 l1_5.length c1_5] rfl zm ?_; (with_reducible refine (laws_eqStringS.calls k _ _ l0_5 _ _ l1_5 false _ ?side1 ?side2 ?side3 ?side4 A9.out).mono ?_); (case side1 => repeat (first | exact (Kd.C_below HR0_5.out (by repeat (first | (with_reducible first | exact HB.out | apply below_alloc | apply pw_below_drewN | apply below_drew1 | refine below_set ?_ GE1304.out | refine below_set ?_ GE1305.out) | exact HB.out))) | (with_reducible refine Kd.C_alloc ?_ _) | (with_reducible refine Kd.C_drewN ?_ _) | (with_reducible refine Kd.C_drew ?_))); (case side2 => exact HC0_5.out); (case side3 => repeat (first | exact (Kd.C_below HR1_5.out (by repeat (first | (with_reducible first | exact HB.out | apply below_alloc | apply pw_below_drewN | apply below_drew1 | refine below_set ?_ GE1304.out | refine below_set ?_ GE1305.out) | exact HB.out))) | (with_reducible refine Kd.C_alloc ?_ _) | (with_reducible refine Kd.C_drewN ?_ _) | (with_reducible refine Kd.C_drew ?_))); (case side4 => exact HC1_5.out); rintro e w' ⟨rfl, ⟨nd, rfl⟩⟩; refine ⟨_, rfl, ?_⟩))
       go_ret
       exact ⟨by first | rfl | (simp [errW_none, errW_some] <;> rfl) | (simp [*, errW_none, errW_some] <;> rfl), by repeat (first | (with_reducible first | exact HB.out | apply below_alloc | apply pw_below_drewN | apply below_drew1 | refine below_set ?_ GE1304.out | refine below_set ?_ GE1305.out) | exact HB.out)⟩
     ·rw [if_neg c8] at H
      have c8b0 : (a0_4 == a1_4) = false := beq_eq_false_iff_ne.mpr c8
      have c8b1 : (a0_4 != a1_4) = true := bne_iff_ne.mpr c8
      obtain rfl := Option.some.inj H
      go_enter Try.func133, Try.ntmps133
      go_wp2_with (first | ((with_reducible refine gate_dst (N := 2) rfl ?_); refine box_event ?hg (N := 2) ?hd (cs := #[.int .i64 a0_0, .int .i64 a0_1, .slice A0_2 l0_2.length c0_2, .int .i64 a0_3, .int .i64 a0_4, .slice A0_5 l0_5.length c0_5]) (t := 144) ?hr ?_; (case hd => rfl); (case hg => rfl); (case hr => first | (go_simp; done) | (go_simp; rfl)); intro gb1304 hg w21 hbox hb; have n0_ := Aside0.mk (below_step zb hb); have n1_ := Aside0.mk (hbox); have n2_ := Aside0.mk ((by rw [hg]; exact (below_size zb) : w.heap.size ≤ gb1304)); have n3_ := Aside0.mk ((by rw [hg]; exact (below_size zb) : w.heap.size ≤ gb1304)); clear HB; have HB := n0_; have BK1304 := n1_; have GW1304 := n2_; have GE1304 := n3_; clear n0_ n1_ n2_ n3_; clear hb hbox hg) | ((with_reducible refine gate_dst (N := 3) rfl ?_); refine box_event ?hg (N := 3) ?hd (cs := #[.int .i64 a1_0, .int .i64 a1_1, .slice A1_2 l1_2.length c1_2, .int .i64 a1_3, .int .i64 a1_4, .slice A1_5 l1_5.length c1_5]) (t := 144) ?hr ?_; (case hd => rfl); (case hg => rfl); (case hr => first | (go_simp; done) | (go_simp; rfl)); intro gb1305 hg w22 hbox hb; have n0_ := Aside0.mk (blk_below (g := gb1304) (o := .cells #[.int .i64 a0_0, .int .i64 a0_1, .slice A0_2 l0_2.length c0_2, .int .i64 a0_3, .int .i64 a0_4, .slice A0_5 l0_5.length c0_5] 144 (0, 0)) (zk BK1304.out) hb); have n1_ := Aside0.mk (below_step (by repeat (first | (with_reducible first | exact HB.out | apply below_alloc | apply pw_below_drewN | apply below_drew1 | refine below_set ?_ GE1304.out) | exact HB.out)) hb); have n2_ := Aside0.mk (hbox); have n3_ := Aside0.mk ((by rw [hg]; exact (below_size (by repeat (first | (with_reducible first | exact HB.out | apply below_alloc | apply pw_below_drewN | apply below_drew1 | refine below_set ?_ GE1304.out) | exact HB.out))) : w.heap.size ≤ gb1305)); have n4_ := Aside0.mk ((by rw [hg]; exact (below_size (by repeat (first | (with_reducible first | exact HB.out | apply below_alloc | apply pw_below_drewN | apply below_drew1 | refine below_set ?_ GE1304.out) | exact HB.out))) : w.heap.size ≤ gb1305)); have n5_ := Aside0.mk ((by rw [hg]; exact Nat.ne_of_lt (blk_lt (g := gb1304) (o := .cells #[.int .i64 a0_0, .int .i64 a0_1, .slice A0_2 l0_2.length c0_2, .int .i64 a0_3, .int .i64 a0_4, .slice A0_5 l0_5.length c0_5] 144 (0, 0)) (zk BK1304.out)) : gb1304 ≠ gb1305)); have n6_ := Aside0.mk ((by rw [hg]; exact Nat.ne_of_gt (blk_lt (g := gb1304) (o := .cells #[.int .i64 a0_0, .int .i64 a0_1, .slice A0_2 l0_2.length c0_2, .int .i64 a0_3, .int .i64 a0_4, .slice A0_5 l0_5.length c0_5] 144 (0, 0)) (zk BK1304.out)) : gb1305 ≠ gb1304)); clear BK1304; clear HB; have BK1304 := n0_; have HB := n1_; have BK1305 := n2_; have GW1305 := n3_; have GE1305 := n4_; have NB1304_1305 := n5_; have NB1305_1304 := n6_; clear n0_ n1_ n2_ n3_ n4_ n5_ n6_; clear hb hbox hg; have hnb23 := NB1304_1305.out; have hnc23 := NB1305_1304.out; have hcz24_0 : w22.cell? ⟨gb1304, 0, none⟩ = some (.int .i64 a0_0) := (blk_cell BK1304.out 0).trans rfl; have hcz24_1 : w22.cell? ⟨gb1304, 1, none⟩ = some (.int .i64 a0_1) := (blk_cell BK1304.out 1).trans rfl; have hcz24_2 : w22.cell? ⟨gb1304, 2, none⟩ = some (.slice A0_2 l0_2.length c0_2) := (blk_cell BK1304.out 2).trans rfl; have hcz24_3 : w22.cell? ⟨gb1304, 3, none⟩ = some (.int .i64 a0_3) := (blk_cell BK1304.out 3).trans rfl; have hcz24_4 : w22.cell? ⟨gb1304, 4, none⟩ = some (.int .i64 a0_4) := (blk_cell BK1304.out 4).trans rfl; have hcz24_5 : w22.cell? ⟨gb1304, 5, none⟩ = some (.slice A0_5 l0_5.length c0_5) := (blk_cell BK1304.out 5).trans rfl; have hfz24_0 := blk_frozen BK1304.out 0; have hfz24_1 := blk_frozen BK1304.out 1; have hfz24_2 := blk_frozen BK1304.out 2; have hfz24_3 := blk_frozen BK1304.out 3; have hfz24_4 := blk_frozen BK1304.out 4; have hfz24_5 := blk_frozen BK1304.out 5; have hcz25_0 : w22.cell? ⟨gb1305, 0, none⟩ = some (.int .i64 a1_0) := (blk_cell BK1305.out 0).trans rfl; have hcz25_1 : w22.cell? ⟨gb1305, 1, none⟩ = some (.int .i64 a1_1) := (blk_cell BK1305.out 1).trans rfl; have hcz25_2 : w22.cell? ⟨gb1305, 2, none⟩ = some (.slice A1_2 l1_2.length c1_2) := (blk_cell BK1305.out 2).trans rfl; have hcz25_3 : w22.cell? ⟨gb1305, 3, none⟩ = some (.int .i64 a1_3) := (blk_cell BK1305.out 3).trans rfl; have hcz25_4 : w22.cell? ⟨gb1305, 4, none⟩ = some (.int .i64 a1_4) := (blk_cell BK1305.out 4).trans rfl; have hcz25_5 : w22.cell? ⟨gb1305, 5, none⟩ = some (.slice A1_5 l1_5.length c1_5) := (blk_cell BK1305.out 5).trans rfl; have hfz25_0 := blk_frozen BK1305.out 0; have hfz25_1 := blk_frozen BK1305.out 1; have hfz25_2 := blk_frozen BK1305.out 2; have hfz25_3 := blk_frozen BK1305.out 3; have hfz25_4 := blk_frozen BK1305.out 4; have hfz25_5 := blk_frozen BK1305.out 5) | ((with_reducible refine gateC (f := 18) rfl ?_); refine goesL_ (some 19) rfl rfl Try.func18 (by kernel_rfl) rfl #[.slice A0_2 l0_2.length c0_2, .slice A1_2 l1_2.length c1_2] rfl zm ?_; (with_reducible refine (laws_eqStringS.calls k _ _ l0_2 _ _ l1_2 true _ ?side1 ?side2 ?side3 ?side4 A5.out).mono ?_); (case side1 => exact zq (Kd.C_below HR0_2.out HB.out)); (case side2 => exact HC0_2.out); (case side3 => exact zq (Kd.C_below HR1_2.out HB.out)); (case side4 => exact HC1_2.out); rintro e w' ⟨rfl, ⟨nd, rfl⟩⟩; refine ⟨_, rfl, ?_⟩))
      go_ret
      exact ⟨by first | rfl | (simp [errW_none, errW_some] <;> rfl) | (simp [*, errW_none, errW_some] <;> rfl), by repeat (first | (with_reducible first | exact HB.out | apply below_alloc | apply pw_below_drewN | apply below_drew1 | refine below_set ?_ GE1304.out | refine below_set ?_ GE1305.out) | exact HB.out)⟩
    ·rw [if_neg c7] at H
     have c7b0 : (a0_3 == a1_3) = false := beq_eq_false_iff_ne.mpr c7
     have c7b1 : (a0_3 != a1_3) = true := bne_iff_ne.mpr c7
     obtain rfl := Option.some.inj H
     go_enter Try.func133, Try.ntmps133
     go_wp2_with (first | ((with_reducible refine gate_dst (N := 2) rfl ?_); refine box_event ?hg (N := 2) ?hd (cs := #[.int .i64 a0_0, .int .i64 a0_1, .slice A0_2 l0_2.length c0_2, .int .i64 a0_3, .int .i64 a0_4, .slice A0_5 l0_5.length c0_5]) (t := 144) ?hr ?_; (case hd => rfl); (case hg => rfl); (case hr => first | (go_simp; done) | (go_simp; rfl)); intro gb1304 hg w26 hbox hb; have n0_ := Aside0.mk (below_step zb hb); have n1_ := Aside0.mk (hbox); have n2_ := Aside0.mk ((by rw [hg]; exact (below_size zb) : w.heap.size ≤ gb1304)); have n3_ := Aside0.mk ((by rw [hg]; exact (below_size zb) : w.heap.size ≤ gb1304)); clear HB; have HB := n0_; have BK1304 := n1_; have GW1304 := n2_; have GE1304 := n3_; clear n0_ n1_ n2_ n3_; clear hb hbox hg) | ((with_reducible refine gate_dst (N := 3) rfl ?_); refine box_event ?hg (N := 3) ?hd (cs := #[.int .i64 a1_0, .int .i64 a1_1, .slice A1_2 l1_2.length c1_2, .int .i64 a1_3, .int .i64 a1_4, .slice A1_5 l1_5.length c1_5]) (t := 144) ?hr ?_; (case hd => rfl); (case hg => rfl); (case hr => first | (go_simp; done) | (go_simp; rfl)); intro gb1305 hg w27 hbox hb; have n0_ := Aside0.mk (blk_below (g := gb1304) (o := .cells #[.int .i64 a0_0, .int .i64 a0_1, .slice A0_2 l0_2.length c0_2, .int .i64 a0_3, .int .i64 a0_4, .slice A0_5 l0_5.length c0_5] 144 (0, 0)) (zk BK1304.out) hb); have n1_ := Aside0.mk (below_step (by repeat (first | (with_reducible first | exact HB.out | apply below_alloc | apply pw_below_drewN | apply below_drew1 | refine below_set ?_ GE1304.out) | exact HB.out)) hb); have n2_ := Aside0.mk (hbox); have n3_ := Aside0.mk ((by rw [hg]; exact (below_size (by repeat (first | (with_reducible first | exact HB.out | apply below_alloc | apply pw_below_drewN | apply below_drew1 | refine below_set ?_ GE1304.out) | exact HB.out))) : w.heap.size ≤ gb1305)); have n4_ := Aside0.mk ((by rw [hg]; exact (below_size (by repeat (first | (with_reducible first | exact HB.out | apply below_alloc | apply pw_below_drewN | apply below_drew1 | refine below_set ?_ GE1304.out) | exact HB.out))) : w.heap.size ≤ gb1305)); have n5_ := Aside0.mk ((by rw [hg]; exact Nat.ne_of_lt (blk_lt (g := gb1304) (o := .cells #[.int .i64 a0_0, .int .i64 a0_1, .slice A0_2 l0_2.length c0_2, .int .i64 a0_3, .int .i64 a0_4, .slice A0_5 l0_5.length c0_5] 144 (0, 0)) (zk BK1304.out)) : gb1304 ≠ gb1305)); have n6_ := Aside0.mk ((by rw [hg]; exact Nat.ne_of_gt (blk_lt (g := gb1304) (o := .cells #[.int .i64 a0_0, .int .i64 a0_1, .slice A0_2 l0_2.length c0_2, .int .i64 a0_3, .int .i64 a0_4, .slice A0_5 l0_5.length c0_5] 144 (0, 0)) (zk BK1304.out)) : gb1305 ≠ gb1304)); clear BK1304; clear HB; have BK1304 := n0_; have HB := n1_; have BK1305 := n2_; have GW1305 := n3_; have GE1305 := n4_; have NB1304_1305 := n5_; have NB1305_1304 := n6_; clear n0_ n1_ n2_ n3_ n4_ n5_ n6_; clear hb hbox hg; have hnb28 := NB1304_1305.out; have hnc28 := NB1305_1304.out; have hcz29_0 : w27.cell? ⟨gb1304, 0, none⟩ = some (.int .i64 a0_0) := (blk_cell BK1304.out 0).trans rfl; have hcz29_1 : w27.cell? ⟨gb1304, 1, none⟩ = some (.int .i64 a0_1) := (blk_cell BK1304.out 1).trans rfl; have hcz29_2 : w27.cell? ⟨gb1304, 2, none⟩ = some (.slice A0_2 l0_2.length c0_2) := (blk_cell BK1304.out 2).trans rfl; have hcz29_3 : w27.cell? ⟨gb1304, 3, none⟩ = some (.int .i64 a0_3) := (blk_cell BK1304.out 3).trans rfl; have hcz29_4 : w27.cell? ⟨gb1304, 4, none⟩ = some (.int .i64 a0_4) := (blk_cell BK1304.out 4).trans rfl; have hcz29_5 : w27.cell? ⟨gb1304, 5, none⟩ = some (.slice A0_5 l0_5.length c0_5) := (blk_cell BK1304.out 5).trans rfl; have hfz29_0 := blk_frozen BK1304.out 0; have hfz29_1 := blk_frozen BK1304.out 1; have hfz29_2 := blk_frozen BK1304.out 2; have hfz29_3 := blk_frozen BK1304.out 3; have hfz29_4 := blk_frozen BK1304.out 4; have hfz29_5 := blk_frozen BK1304.out 5; have hcz30_0 : w27.cell? ⟨gb1305, 0, none⟩ = some (.int .i64 a1_0) := (blk_cell BK1305.out 0).trans rfl; have hcz30_1 : w27.cell? ⟨gb1305, 1, none⟩ = some (.int .i64 a1_1) := (blk_cell BK1305.out 1).trans rfl; have hcz30_2 : w27.cell? ⟨gb1305, 2, none⟩ = some (.slice A1_2 l1_2.length c1_2) := (blk_cell BK1305.out 2).trans rfl; have hcz30_3 : w27.cell? ⟨gb1305, 3, none⟩ = some (.int .i64 a1_3) := (blk_cell BK1305.out 3).trans rfl; have hcz30_4 : w27.cell? ⟨gb1305, 4, none⟩ = some (.int .i64 a1_4) := (blk_cell BK1305.out 4).trans rfl; have hcz30_5 : w27.cell? ⟨gb1305, 5, none⟩ = some (.slice A1_5 l1_5.length c1_5) := (blk_cell BK1305.out 5).trans rfl; have hfz30_0 := blk_frozen BK1305.out 0; have hfz30_1 := blk_frozen BK1305.out 1; have hfz30_2 := blk_frozen BK1305.out 2; have hfz30_3 := blk_frozen BK1305.out 3; have hfz30_4 := blk_frozen BK1305.out 4; have hfz30_5 := blk_frozen BK1305.out 5) | ((with_reducible refine gateC (f := 18) rfl ?_); refine goesL_ (some 19) rfl rfl Try.func18 (by kernel_rfl) rfl #[.slice A0_2 l0_2.length c0_2, .slice A1_2 l1_2.length c1_2] rfl zm ?_; (with_reducible refine (laws_eqStringS.calls k _ _ l0_2 _ _ l1_2 true _ ?side1 ?side2 ?side3 ?side4 A5.out).mono ?_); (case side1 => exact zq (Kd.C_below HR0_2.out HB.out)); (case side2 => exact HC0_2.out); (case side3 => exact zq (Kd.C_below HR1_2.out HB.out)); (case side4 => exact HC1_2.out); rintro e w' ⟨rfl, ⟨nd, rfl⟩⟩; refine ⟨_, rfl, ?_⟩))
     go_ret
     exact ⟨by first | rfl | (simp [errW_none, errW_some] <;> rfl) | (simp [*, errW_none, errW_some] <;> rfl), by repeat (first | (with_reducible first | exact HB.out | apply below_alloc | apply pw_below_drewN | apply below_drew1 | refine below_set ?_ GE1304.out | refine below_set ?_ GE1305.out) | exact HB.out)⟩
   ·replace c6 := Bool.eq_false_iff.mpr c6
    subst c6
    have H1 : (some false) = some r := by rw [if_neg (show ¬ (false = true) by decide)] at H; exact H
    clear H
    have H := H1
    clear H1
    obtain rfl := Option.some.inj H
    go_enter Try.func133, Try.ntmps133
    go_wp2_with (first | ((with_reducible refine gate_dst (N := 2) rfl ?_); refine box_event ?hg (N := 2) ?hd (cs := #[.int .i64 a0_0, .int .i64 a0_1, .slice A0_2 l0_2.length c0_2, .int .i64 a0_3, .int .i64 a0_4, .slice A0_5 l0_5.length c0_5]) (t := 144) ?hr ?_; (case hd => rfl); (case hg => rfl); (case hr => first | (go_simp; done) | (go_simp; rfl)); intro gb1304 hg w31 hbox hb; have n0_ := Aside0.mk (below_step zb hb); have n1_ := Aside0.mk (hbox); have n2_ := Aside0.mk ((by rw [hg]; exact (below_size zb) : w.heap.size ≤ gb1304)); have n3_ := Aside0.mk ((by rw [hg]; exact (below_size zb) : w.heap.size ≤ gb1304)); clear HB; have HB := n0_; have BK1304 := n1_; have GW1304 := n2_; have GE1304 := n3_; clear n0_ n1_ n2_ n3_; clear hb hbox hg) | ((with_reducible refine gate_dst (N := 3) rfl ?_); refine box_event ?hg (N := 3) ?hd (cs := #[.int .i64 a1_0, .int .i64 a1_1, .slice A1_2 l1_2.length c1_2, .int .i64 a1_3, .int .i64 a1_4, .slice A1_5 l1_5.length c1_5]) (t := 144) ?hr ?_; (case hd => rfl); (case hg => rfl); (case hr => first | (go_simp; done) | (go_simp; rfl)); intro gb1305 hg w32 hbox hb; have n0_ := Aside0.mk (blk_below (g := gb1304) (o := .cells #[.int .i64 a0_0, .int .i64 a0_1, .slice A0_2 l0_2.length c0_2, .int .i64 a0_3, .int .i64 a0_4, .slice A0_5 l0_5.length c0_5] 144 (0, 0)) (zk BK1304.out) hb); have n1_ := Aside0.mk (below_step (by repeat (first | (with_reducible first | exact HB.out | apply below_alloc | apply pw_below_drewN | apply below_drew1 | refine below_set ?_ GE1304.out) | exact HB.out)) hb); have n2_ := Aside0.mk (hbox); have n3_ := Aside0.mk ((by rw [hg]; exact (below_size (by repeat (first | (with_reducible first | exact HB.out | apply below_alloc | apply pw_below_drewN | apply below_drew1 | refine below_set ?_ GE1304.out) | exact HB.out))) : w.heap.size ≤ gb1305)); have n4_ := Aside0.mk ((by rw [hg]; exact (below_size (by repeat (first | (with_reducible first | exact HB.out | apply below_alloc | apply pw_below_drewN | apply below_drew1 | refine below_set ?_ GE1304.out) | exact HB.out))) : w.heap.size ≤ gb1305)); have n5_ := Aside0.mk ((by rw [hg]; exact Nat.ne_of_lt (blk_lt (g := gb1304) (o := .cells #[.int .i64 a0_0, .int .i64 a0_1, .slice A0_2 l0_2.length c0_2, .int .i64 a0_3, .int .i64 a0_4, .slice A0_5 l0_5.length c0_5] 144 (0, 0)) (zk BK1304.out)) : gb1304 ≠ gb1305)); have n6_ := Aside0.mk ((by rw [hg]; exact Nat.ne_of_gt (blk_lt (g := gb1304) (o := .cells #[.int .i64 a0_0, .int .i64 a0_1, .slice A0_2 l0_2.length c0_2, .int .i64 a0_3, .int .i64 a0_4, .slice A0_5 l0_5.length c0_5] 144 (0, 0)) (zk BK1304.out)) : gb1305 ≠ gb1304)); clear BK1304; clear HB; have BK1304 := n0_; have HB := n1_; have BK1305 := n2_; have GW1305 := n3_; have GE1305 := n4_; have NB1304_1305 := n5_; have NB1305_1304 := n6_; clear n0_ n1_ n2_ n3_ n4_ n5_ n6_; clear hb hbox hg; have hnb33 := NB1304_1305.out; have hnc33 := NB1305_1304.out; have hcz34_0 : w32.cell? ⟨gb1304, 0, none⟩ = some (.int .i64 a0_0) := (blk_cell BK1304.out 0).trans rfl; have hcz34_1 : w32.cell? ⟨gb1304, 1, none⟩ = some (.int .i64 a0_1) := (blk_cell BK1304.out 1).trans rfl; have hcz34_2 : w32.cell? ⟨gb1304, 2, none⟩ = some (.slice A0_2 l0_2.length c0_2) := (blk_cell BK1304.out 2).trans rfl; have hcz34_3 : w32.cell? ⟨gb1304, 3, none⟩ = some (.int .i64 a0_3) := (blk_cell BK1304.out 3).trans rfl; have hcz34_4 : w32.cell? ⟨gb1304, 4, none⟩ = some (.int .i64 a0_4) := (blk_cell BK1304.out 4).trans rfl; have hcz34_5 : w32.cell? ⟨gb1304, 5, none⟩ = some (.slice A0_5 l0_5.length c0_5) := (blk_cell BK1304.out 5).trans rfl; have hfz34_0 := blk_frozen BK1304.out 0; have hfz34_1 := blk_frozen BK1304.out 1; have hfz34_2 := blk_frozen BK1304.out 2; have hfz34_3 := blk_frozen BK1304.out 3; have hfz34_4 := blk_frozen BK1304.out 4; have hfz34_5 := blk_frozen BK1304.out 5; have hcz35_0 : w32.cell? ⟨gb1305, 0, none⟩ = some (.int .i64 a1_0) := (blk_cell BK1305.out 0).trans rfl; have hcz35_1 : w32.cell? ⟨gb1305, 1, none⟩ = some (.int .i64 a1_1) := (blk_cell BK1305.out 1).trans rfl; have hcz35_2 : w32.cell? ⟨gb1305, 2, none⟩ = some (.slice A1_2 l1_2.length c1_2) := (blk_cell BK1305.out 2).trans rfl; have hcz35_3 : w32.cell? ⟨gb1305, 3, none⟩ = some (.int .i64 a1_3) := (blk_cell BK1305.out 3).trans rfl; have hcz35_4 : w32.cell? ⟨gb1305, 4, none⟩ = some (.int .i64 a1_4) := (blk_cell BK1305.out 4).trans rfl; have hcz35_5 : w32.cell? ⟨gb1305, 5, none⟩ = some (.slice A1_5 l1_5.length c1_5) := (blk_cell BK1305.out 5).trans rfl; have hfz35_0 := blk_frozen BK1305.out 0; have hfz35_1 := blk_frozen BK1305.out 1; have hfz35_2 := blk_frozen BK1305.out 2; have hfz35_3 := blk_frozen BK1305.out 3; have hfz35_4 := blk_frozen BK1305.out 4; have hfz35_5 := blk_frozen BK1305.out 5) | ((with_reducible refine gateC (f := 18) rfl ?_); refine goesL_ (some 19) rfl rfl Try.func18 (by kernel_rfl) rfl #[.slice A0_2 l0_2.length c0_2, .slice A1_2 l1_2.length c1_2] rfl zm ?_; (with_reducible refine (laws_eqStringS.calls k _ _ l0_2 _ _ l1_2 false _ ?side1 ?side2 ?side3 ?side4 A5.out).mono ?_); (case side1 => exact zq (Kd.C_below HR0_2.out HB.out)); (case side2 => exact HC0_2.out); (case side3 => exact zq (Kd.C_below HR1_2.out HB.out)); (case side4 => exact HC1_2.out); rintro e w' ⟨rfl, ⟨nd, rfl⟩⟩; refine ⟨_, rfl, ?_⟩))
    go_ret
    exact ⟨by first | rfl | (simp [errW_none, errW_some] <;> rfl) | (simp [*, errW_none, errW_some] <;> rfl), by repeat (first | (with_reducible first | exact HB.out | apply below_alloc | apply pw_below_drewN | apply below_drew1 | refine below_set ?_ GE1304.out | refine below_set ?_ GE1305.out) | exact HB.out)⟩
  ·rw [if_neg c4] at H
   have c4b0 : (a0_1 == a1_1) = false := beq_eq_false_iff_ne.mpr c4
   have c4b1 : (a0_1 != a1_1) = true := bne_iff_ne.mpr c4
   obtain rfl := Option.some.inj H
   go_enter Try.func133, Try.ntmps133
   go_wp2_with (first | ((with_reducible refine gate_dst (N := 2) rfl ?_); refine box_event ?hg (N := 2) ?hd (cs := #[.int .i64 a0_0, .int .i64 a0_1, .slice A0_2 l0_2.length c0_2, .int .i64 a0_3, .int .i64 a0_4, .slice A0_5 l0_5.length c0_5]) (t := 144) ?hr ?_; (case hd => rfl); (case hg => rfl); (case hr => first | (go_simp; done) | (go_simp; rfl)); intro gb1304 hg w36 hbox hb; have n0_ := Aside0.mk (below_step zb hb); have n1_ := Aside0.mk (hbox); have n2_ := Aside0.mk ((by rw [hg]; exact (below_size zb) : w.heap.size ≤ gb1304)); have n3_ := Aside0.mk ((by rw [hg]; exact (below_size zb) : w.heap.size ≤ gb1304)); clear HB; have HB := n0_; have BK1304 := n1_; have GW1304 := n2_; have GE1304 := n3_; clear n0_ n1_ n2_ n3_; clear hb hbox hg) | ((with_reducible refine gate_dst (N := 3) rfl ?_); refine box_event ?hg (N := 3) ?hd (cs := #[.int .i64 a1_0, .int .i64 a1_1, .slice A1_2 l1_2.length c1_2, .int .i64 a1_3, .int .i64 a1_4, .slice A1_5 l1_5.length c1_5]) (t := 144) ?hr ?_; (case hd => rfl); (case hg => rfl); (case hr => first | (go_simp; done) | (go_simp; rfl)); intro gb1305 hg w37 hbox hb; have n0_ := Aside0.mk (blk_below (g := gb1304) (o := .cells #[.int .i64 a0_0, .int .i64 a0_1, .slice A0_2 l0_2.length c0_2, .int .i64 a0_3, .int .i64 a0_4, .slice A0_5 l0_5.length c0_5] 144 (0, 0)) (zk BK1304.out) hb); have n1_ := Aside0.mk (below_step (by repeat (first | (with_reducible first | exact HB.out | apply below_alloc | apply pw_below_drewN | apply below_drew1 | refine below_set ?_ GE1304.out) | exact HB.out)) hb); have n2_ := Aside0.mk (hbox); have n3_ := Aside0.mk ((by rw [hg]; exact (below_size (by repeat (first | (with_reducible first | exact HB.out | apply below_alloc | apply pw_below_drewN | apply below_drew1 | refine below_set ?_ GE1304.out) | exact HB.out))) : w.heap.size ≤ gb1305)); have n4_ := Aside0.mk ((by rw [hg]; exact (below_size (by repeat (first | (with_reducible first | exact HB.out | apply below_alloc | apply pw_below_drewN | apply below_drew1 | refine below_set ?_ GE1304.out) | exact HB.out))) : w.heap.size ≤ gb1305)); have n5_ := Aside0.mk ((by rw [hg]; exact Nat.ne_of_lt (blk_lt (g := gb1304) (o := .cells #[.int .i64 a0_0, .int .i64 a0_1, .slice A0_2 l0_2.length c0_2, .int .i64 a0_3, .int .i64 a0_4, .slice A0_5 l0_5.length c0_5] 144 (0, 0)) (zk BK1304.out)) : gb1304 ≠ gb1305)); have n6_ := Aside0.mk ((by rw [hg]; exact Nat.ne_of_gt (blk_lt (g := gb1304) (o := .cells #[.int .i64 a0_0, .int .i64 a0_1, .slice A0_2 l0_2.length c0_2, .int .i64 a0_3, .int .i64 a0_4, .slice A0_5 l0_5.length c0_5] 144 (0, 0)) (zk BK1304.out)) : gb1305 ≠ gb1304)); clear BK1304; clear HB; have BK1304 := n0_; have HB := n1_; have BK1305 := n2_; have GW1305 := n3_; have GE1305 := n4_; have NB1304_1305 := n5_; have NB1305_1304 := n6_; clear n0_ n1_ n2_ n3_ n4_ n5_ n6_; clear hb hbox hg; have hnb38 := NB1304_1305.out; have hnc38 := NB1305_1304.out; have hcz39_0 : w37.cell? ⟨gb1304, 0, none⟩ = some (.int .i64 a0_0) := (blk_cell BK1304.out 0).trans rfl; have hcz39_1 : w37.cell? ⟨gb1304, 1, none⟩ = some (.int .i64 a0_1) := (blk_cell BK1304.out 1).trans rfl; have hcz39_2 : w37.cell? ⟨gb1304, 2, none⟩ = some (.slice A0_2 l0_2.length c0_2) := (blk_cell BK1304.out 2).trans rfl; have hcz39_3 : w37.cell? ⟨gb1304, 3, none⟩ = some (.int .i64 a0_3) := (blk_cell BK1304.out 3).trans rfl; have hcz39_4 : w37.cell? ⟨gb1304, 4, none⟩ = some (.int .i64 a0_4) := (blk_cell BK1304.out 4).trans rfl; have hcz39_5 : w37.cell? ⟨gb1304, 5, none⟩ = some (.slice A0_5 l0_5.length c0_5) := (blk_cell BK1304.out 5).trans rfl; have hfz39_0 := blk_frozen BK1304.out 0; have hfz39_1 := blk_frozen BK1304.out 1; have hfz39_2 := blk_frozen BK1304.out 2; have hfz39_3 := blk_frozen BK1304.out 3; have hfz39_4 := blk_frozen BK1304.out 4; have hfz39_5 := blk_frozen BK1304.out 5; have hcz40_0 : w37.cell? ⟨gb1305, 0, none⟩ = some (.int .i64 a1_0) := (blk_cell BK1305.out 0).trans rfl; have hcz40_1 : w37.cell? ⟨gb1305, 1, none⟩ = some (.int .i64 a1_1) := (blk_cell BK1305.out 1).trans rfl; have hcz40_2 : w37.cell? ⟨gb1305, 2, none⟩ = some (.slice A1_2 l1_2.length c1_2) := (blk_cell BK1305.out 2).trans rfl; have hcz40_3 : w37.cell? ⟨gb1305, 3, none⟩ = some (.int .i64 a1_3) := (blk_cell BK1305.out 3).trans rfl; have hcz40_4 : w37.cell? ⟨gb1305, 4, none⟩ = some (.int .i64 a1_4) := (blk_cell BK1305.out 4).trans rfl; have hcz40_5 : w37.cell? ⟨gb1305, 5, none⟩ = some (.slice A1_5 l1_5.length c1_5) := (blk_cell BK1305.out 5).trans rfl; have hfz40_0 := blk_frozen BK1305.out 0; have hfz40_1 := blk_frozen BK1305.out 1; have hfz40_2 := blk_frozen BK1305.out 2; have hfz40_3 := blk_frozen BK1305.out 3; have hfz40_4 := blk_frozen BK1305.out 4; have hfz40_5 := blk_frozen BK1305.out 5))
   go_ret
   exact ⟨by first | rfl | (simp [errW_none, errW_some] <;> rfl) | (simp [*, errW_none, errW_some] <;> rfl), by repeat (first | (with_reducible first | exact HB.out | apply below_alloc | apply pw_below_drewN | apply below_drew1 | refine below_set ?_ GE1304.out | refine below_set ?_ GE1305.out) | exact HB.out)⟩
 ·rw [if_neg c3] at H
  have c3b0 : (a0_0 == a1_0) = false := beq_eq_false_iff_ne.mpr c3
  have c3b1 : (a0_0 != a1_0) = true := bne_iff_ne.mpr c3
  obtain rfl := Option.some.inj H
  go_enter Try.func133, Try.ntmps133
  go_wp2_with (first | ((with_reducible refine gate_dst (N := 2) rfl ?_); refine box_event ?hg (N := 2) ?hd (cs := #[.int .i64 a0_0, .int .i64 a0_1, .slice A0_2 l0_2.length c0_2, .int .i64 a0_3, .int .i64 a0_4, .slice A0_5 l0_5.length c0_5]) (t := 144) ?hr ?_; (case hd => rfl); (case hg => rfl); (case hr => first | (go_simp; done) | (go_simp; rfl)); intro gb1304 hg w41 hbox hb; have n0_ := Aside0.mk (below_step zb hb); have n1_ := Aside0.mk (hbox); have n2_ := Aside0.mk ((by rw [hg]; exact (below_size zb) : w.heap.size ≤ gb1304)); have n3_ := Aside0.mk ((by rw [hg]; exact (below_size zb) : w.heap.size ≤ gb1304)); clear HB; have HB := n0_; have BK1304 := n1_; have GW1304 := n2_; have GE1304 := n3_; clear n0_ n1_ n2_ n3_; clear hb hbox hg) | ((with_reducible refine gate_dst (N := 3) rfl ?_); refine box_event ?hg (N := 3) ?hd (cs := #[.int .i64 a1_0, .int .i64 a1_1, .slice A1_2 l1_2.length c1_2, .int .i64 a1_3, .int .i64 a1_4, .slice A1_5 l1_5.length c1_5]) (t := 144) ?hr ?_; (case hd => rfl); (case hg => rfl); (case hr => first | (go_simp; done) | (go_simp; rfl)); intro gb1305 hg w42 hbox hb; have n0_ := Aside0.mk (blk_below (g := gb1304) (o := .cells #[.int .i64 a0_0, .int .i64 a0_1, .slice A0_2 l0_2.length c0_2, .int .i64 a0_3, .int .i64 a0_4, .slice A0_5 l0_5.length c0_5] 144 (0, 0)) (zk BK1304.out) hb); have n1_ := Aside0.mk (below_step (by repeat (first | (with_reducible first | exact HB.out | apply below_alloc | apply pw_below_drewN | apply below_drew1 | refine below_set ?_ GE1304.out) | exact HB.out)) hb); have n2_ := Aside0.mk (hbox); have n3_ := Aside0.mk ((by rw [hg]; exact (below_size (by repeat (first | (with_reducible first | exact HB.out | apply below_alloc | apply pw_below_drewN | apply below_drew1 | refine below_set ?_ GE1304.out) | exact HB.out))) : w.heap.size ≤ gb1305)); have n4_ := Aside0.mk ((by rw [hg]; exact (below_size (by repeat (first | (with_reducible first | exact HB.out | apply below_alloc | apply pw_below_drewN | apply below_drew1 | refine below_set ?_ GE1304.out) | exact HB.out))) : w.heap.size ≤ gb1305)); have n5_ := Aside0.mk ((by rw [hg]; exact Nat.ne_of_lt (blk_lt (g := gb1304) (o := .cells #[.int .i64 a0_0, .int .i64 a0_1, .slice A0_2 l0_2.length c0_2, .int .i64 a0_3, .int .i64 a0_4, .slice A0_5 l0_5.length c0_5] 144 (0, 0)) (zk BK1304.out)) : gb1304 ≠ gb1305)); have n6_ := Aside0.mk ((by rw [hg]; exact Nat.ne_of_gt (blk_lt (g := gb1304) (o := .cells #[.int .i64 a0_0, .int .i64 a0_1, .slice A0_2 l0_2.length c0_2, .int .i64 a0_3, .int .i64 a0_4, .slice A0_5 l0_5.length c0_5] 144 (0, 0)) (zk BK1304.out)) : gb1305 ≠ gb1304)); clear BK1304; clear HB; have BK1304 := n0_; have HB := n1_; have BK1305 := n2_; have GW1305 := n3_; have GE1305 := n4_; have NB1304_1305 := n5_; have NB1305_1304 := n6_; clear n0_ n1_ n2_ n3_ n4_ n5_ n6_; clear hb hbox hg; have hnb43 := NB1304_1305.out; have hnc43 := NB1305_1304.out; have hcz44_0 : w42.cell? ⟨gb1304, 0, none⟩ = some (.int .i64 a0_0) := (blk_cell BK1304.out 0).trans rfl; have hcz44_1 : w42.cell? ⟨gb1304, 1, none⟩ = some (.int .i64 a0_1) := (blk_cell BK1304.out 1).trans rfl; have hcz44_2 : w42.cell? ⟨gb1304, 2, none⟩ = some (.slice A0_2 l0_2.length c0_2) := (blk_cell BK1304.out 2).trans rfl; have hcz44_3 : w42.cell? ⟨gb1304, 3, none⟩ = some (.int .i64 a0_3) := (blk_cell BK1304.out 3).trans rfl; have hcz44_4 : w42.cell? ⟨gb1304, 4, none⟩ = some (.int .i64 a0_4) := (blk_cell BK1304.out 4).trans rfl; have hcz44_5 : w42.cell? ⟨gb1304, 5, none⟩ = some (.slice A0_5 l0_5.length c0_5) := (blk_cell BK1304.out 5).trans rfl; have hfz44_0 := blk_frozen BK1304.out 0; have hfz44_1 := blk_frozen BK1304.out 1; have hfz44_2 := blk_frozen BK1304.out 2; have hfz44_3 := blk_frozen BK1304.out 3; have hfz44_4 := blk_frozen BK1304.out 4; have hfz44_5 := blk_frozen BK1304.out 5; have hcz45_0 : w42.cell? ⟨gb1305, 0, none⟩ = some (.int .i64 a1_0) := (blk_cell BK1305.out 0).trans rfl; have hcz45_1 : w42.cell? ⟨gb1305, 1, none⟩ = some (.int .i64 a1_1) := (blk_cell BK1305.out 1).trans rfl; have hcz45_2 : w42.cell? ⟨gb1305, 2, none⟩ = some (.slice A1_2 l1_2.length c1_2) := (blk_cell BK1305.out 2).trans rfl; have hcz45_3 : w42.cell? ⟨gb1305, 3, none⟩ = some (.int .i64 a1_3) := (blk_cell BK1305.out 3).trans rfl; have hcz45_4 : w42.cell? ⟨gb1305, 4, none⟩ = some (.int .i64 a1_4) := (blk_cell BK1305.out 4).trans rfl; have hcz45_5 : w42.cell? ⟨gb1305, 5, none⟩ = some (.slice A1_5 l1_5.length c1_5) := (blk_cell BK1305.out 5).trans rfl; have hfz45_0 := blk_frozen BK1305.out 0; have hfz45_1 := blk_frozen BK1305.out 1; have hfz45_2 := blk_frozen BK1305.out 2; have hfz45_3 := blk_frozen BK1305.out 3; have hfz45_4 := blk_frozen BK1305.out 4; have hfz45_5 := blk_frozen BK1305.out 5))
  go_ret
  exact ⟨by first | rfl | (simp [errW_none, errW_some] <;> rfl) | (simp [*, errW_none, errW_some] <;> rfl), by repeat (first | (with_reducible first | exact HB.out | apply below_alloc | apply pw_below_drewN | apply below_drew1 | refine below_set ?_ GE1304.out | refine below_set ?_ GE1305.out) | exact HB.out)⟩

end Go.Proofs.Ytcefenlblnediaa.My

/- Written by this session's program (wip/gen): a plain function with the same answers as the Go function, and the proof that the Go code comes to them. Asked: that the plain function has an answer. -/
namespace Go.Proofs.Ytcefenlblnediaa.My
open Go.RowKit Go.Proofs.YtcefenlblnediaaW.PrintWords Go.Proofs.YtcefenlblnediaaW.PrintLast Go.Proofs.YtcefenlblnediaaW.PrintMore
attribute [local go_sem] max2_int min2_int max_two min_two max_three min_three max_four min_four
set_option linter.unusedVariables false
set_option linter.unusedSimpArgs false

/-! ### laws_eqStepS: function 65 -/
def laws_eqStepS.l0 : Nat → List (S144) → List (S144) → Int → Option (Bool)
 | 0, _, _, _ => none
 | k + 1, x0, x1, x5 => if x5 < (x0.length : Int) then (if 0 ≤ x5 then (if x5 < (x1.length : Int) then ((laws_eqStep.f k ((rd_T144 x0 x5).f0) ((rd_T144 x0 x5).f1) ((rd_T144 x0 x5).f2) ((rd_T144 x0 x5).f3) ((rd_T144 x0 x5).f4) ((rd_T144 x0 x5).f5) ((rd_T144 x1 x5).f0) ((rd_T144 x1 x5).f1) ((rd_T144 x1 x5).f2) ((rd_T144 x1 x5).f3) ((rd_T144 x1 x5).f4) ((rd_T144 x1 x5).f5)).bind fun t1310 => (if t1310 = true then (laws_eqStepS.l0 k x0 x1 (wrap64 (x5 + 1))) else (some false))) else (none)) else (none)) else (some true)
def laws_eqStepS.f (k : Nat) (l0 : List (S144)) (l1 : List (S144)) : Option (Bool) := if (l0.length : Int) = (l1.length : Int) then (laws_eqStepS.l0 k l0 l1 0) else (some false)
def laws_eqStepS.T6 : Bool × List (List Nat × List Nat) := (true, [([], []), ([], []), ([0, 1], [0, 1]), ([2], [2]), ([], []), ([], []), ([4, 5], [4, 5]), ([6], [6]), ([3, 7], [3, 7]), ([8], [8])])
def laws_eqStepS.B6 : List Nat := [0, 0, 3, 7, 0, 0, 48, 112, 255, 511]
theorem laws_eqStepS.tab6 : rtab .any (opsOf Try.f65 6) = laws_eqStepS.T6 := by kernel_rfl
theorem laws_eqStepS.bits6 : waitsOk laws_eqStepS.T6.2 laws_eqStepS.B6 = true := by kernel_rfl
set_option maxHeartbeats 8000000 in
set_option maxRecDepth 100000 in
theorem laws_eqStepS.calls (k : Nat) (A0 : Option Addr) (c0 : Nat) (l0 : List (S144)) (A1 : Option Addr) (c1 : Nat) (l1 : List (S144)) (r : Bool) (w : World) (hr0 : Kd.C k144 w A0 l0.length l0) (hc0 : l0.length ≤ c0) (hr1 : Kd.C k144 w A1 l1.length l1) (hc1 : l1.length ≤ c1) (h : laws_eqStepS.f k l0 l1 = some r) :
  Calls Try.prog 65 #[.slice A0 l0.length c0, .slice A1 l1.length c1] w fun e w' => e = .returned (.bool r) ∧ Below w.heap.size w w' := by
 have hu144 := Try.underlying144
 have HR0 := Aside0.mk hr0
 have HC0 := Aside0.mk hc0
 clear hr0 hc0
 have HR1 := Aside0.mk hr1
 have HC1 := Aside0.mk hc1
 clear hr1 hc1
 have HB := Aside0.mk (Below.refl w.heap.size w)
 have H : (if (l0.length : Int) = (l1.length : Int) then (laws_eqStepS.l0 k l0 l1 0) else (some false)) = some r := h
 clear h
 by_cases c3 : (l0.length : Int) = (l1.length : Int)
 ·rw [if_pos c3] at H
  have c3b0 : ((l0.length : Int) == (l1.length : Int)) = true := beq_iff_eq.mpr c3
  have c3b1 : ((l0.length : Int) != (l1.length : Int)) = false := bne_eq_false_iff_eq.mpr c3
  have c3b2 : (l0.length == l1.length) = true := by first | simpa using c3 | (simp at c3 ⊢; omega)
  clear c3
  have H' := Aside0.mk H
  clear H
  go_enter Try.func65, Try.ntmps65
  go_wp2
  go_loopg [5] k (fun kq v5 w' => ∃ (x5_1 : Int), v5 = .int .i64 x5_1 ∧ Aside0 (laws_eqStepS.l0 kq l0 l1 x5_1 = some r) ∧ Aside0 (kq ≤ k) ∧ Aside0 (Below w.heap.size w w'))
  case atStart => exact ⟨(0), zf, H', ⟨Nat.le_refl _⟩, ⟨by repeat (first | (with_reducible first | exact HB.out | apply below_alloc | apply pw_below_drewN | apply below_drew1) | exact HB.out)⟩⟩
  case round =>
   clear H'
   try clear c1
   try clear p2
   try clear c3
   try clear c3b0
   try clear c3b1
   try clear c3b2
   obtain ⟨x5_1, rfl, HA, HK1, HB⟩ := hrel
   cases gk with
   | zero => exact absurd HA.out (by simp [laws_eqStepS.l0])
   | succ k1 =>
    have H := HA.out
    clear HA
    simp only [laws_eqStepS.l0] at H
    by_cases c4 : x5_1 < (l0.length : Int)
    ·rw [if_pos c4] at H
     have c4b0 : decide (x5_1 < (l0.length : Int)) = true := decide_eq_true c4
     clear c4
     by_cases c5 : 0 ≤ x5_1
     ·rw [if_pos c5] at H
      have c5b0 : decide (0 ≤ x5_1) = true := decide_eq_true c5
      clear c5
      by_cases c6 : x5_1 < (l1.length : Int)
      ·rw [if_pos c6] at H
       have c6b0 : decide (x5_1 < (l1.length : Int)) = true := decide_eq_true c6
       clear c6
       replace H := Option.bind_eq_some_iff.mp H
       obtain ⟨t1310, A70, H⟩ := H
       replace H : (if t1310 = true then (laws_eqStepS.l0 k1 l0 l1 (wrap64 (x5_1 + 1))) else (some false)) = some r := H
       have A7 := Aside0.mk A70
       clear A70
       by_cases c8 : t1310 = true
       ·subst c8
        have H1 : (laws_eqStepS.l0 k1 l0 l1 (wrap64 (x5_1 + 1))) = some r := by rw [if_pos rfl] at H; exact H
        clear H
        have H := H1
        clear H1
        have H' := Aside0.mk H
        clear H
        try go_wp2
        have n0_ := Aside0.mk (below_drew1 HB.out)
        clear HB
        have HB := n0_
        clear n0_
        have p1308 : 0 ≤ (x5_1 : Int) := oa
        have q1308 : x5_1 < (l0.length : Int) := oa
        obtain ⟨ad1308, A1308_2, c1308_2, A1308_5, c1308_5, e1308, hx1308_0, hx1308_1, hx1308_2, hx1308_3, hx1308_4, hx1308_5, hl1308_2, hi1308_2, hl1308_5, hi1308_5⟩ := at_T144 HR0.out x5_1 p1308 q1308
        have hw1308_5 := hx1308_5
        have hw1308_4 := hx1308_4
        have hw1308_3 := hx1308_3
        have hw1308_2 := hx1308_2
        have hw1308_1 := hx1308_1
        have hw1308_0 := hx1308_0
        cases e1308
        replace hx1308_0 := (HB.out.cell (World.block_lt_of_cell? w _ hx1308_0)).trans hx1308_0
        replace hx1308_1 := (HB.out.cell (World.block_lt_of_cell? w _ hx1308_1)).trans hx1308_1
        replace hx1308_2 := (HB.out.cell (World.block_lt_of_cell? w _ hx1308_2)).trans hx1308_2
        replace hx1308_3 := (HB.out.cell (World.block_lt_of_cell? w _ hx1308_3)).trans hx1308_3
        replace hx1308_4 := (HB.out.cell (World.block_lt_of_cell? w _ hx1308_4)).trans hx1308_4
        replace hx1308_5 := (HB.out.cell (World.block_lt_of_cell? w _ hx1308_5)).trans hx1308_5
        have HR1308_2 := Aside0.mk hi1308_2
        have HC1308_2 := Aside0.mk hl1308_2
        clear hi1308_2 hl1308_2
        have HR1308_5 := Aside0.mk hi1308_5
        have HC1308_5 := Aside0.mk hl1308_5
        clear hi1308_5 hl1308_5
        replace p1308 := eq_true p1308
        replace q1308 := eq_true q1308
        have p1309 : 0 ≤ (x5_1 : Int) := oa
        have q1309 : x5_1 < (l1.length : Int) := oa
        obtain ⟨ad1309, A1309_2, c1309_2, A1309_5, c1309_5, e1309, hx1309_0, hx1309_1, hx1309_2, hx1309_3, hx1309_4, hx1309_5, hl1309_2, hi1309_2, hl1309_5, hi1309_5⟩ := at_T144 HR1.out x5_1 p1309 q1309
        have hw1309_5 := hx1309_5
        have hw1309_4 := hx1309_4
        have hw1309_3 := hx1309_3
        have hw1309_2 := hx1309_2
        have hw1309_1 := hx1309_1
        have hw1309_0 := hx1309_0
        cases e1309
        replace hx1309_0 := (HB.out.cell (World.block_lt_of_cell? w _ hx1309_0)).trans hx1309_0
        replace hx1309_1 := (HB.out.cell (World.block_lt_of_cell? w _ hx1309_1)).trans hx1309_1
        replace hx1309_2 := (HB.out.cell (World.block_lt_of_cell? w _ hx1309_2)).trans hx1309_2
        replace hx1309_3 := (HB.out.cell (World.block_lt_of_cell? w _ hx1309_3)).trans hx1309_3
        replace hx1309_4 := (HB.out.cell (World.block_lt_of_cell? w _ hx1309_4)).trans hx1309_4
        replace hx1309_5 := (HB.out.cell (World.block_lt_of_cell? w _ hx1309_5)).trans hx1309_5
        have HR1309_2 := Aside0.mk hi1309_2
        have HC1309_2 := Aside0.mk hl1309_2
        clear hi1309_2 hl1309_2
        have HR1309_5 := Aside0.mk hi1309_5
        have HC1309_5 := Aside0.mk hl1309_5
        clear hi1309_5 hl1309_5
        replace p1309 := eq_true p1309
        replace q1309 := eq_true q1309
        refine start_ (n := 10) (S := fun w' => w'.cell? (ad1308.add ((x5_1).toNat * 6)) = some (.int .i64 ((rd_T144 l0 x5_1).f0)) ∧ w'.cell? ⟨(ad1308.add ((x5_1).toNat * 6)).block, (ad1308.add ((x5_1).toNat * 6)).off + 1, none⟩ = some (.int .i64 ((rd_T144 l0 x5_1).f1)) ∧ w'.cell? ⟨(ad1308.add ((x5_1).toNat * 6)).block, (ad1308.add ((x5_1).toNat * 6)).off + 2, none⟩ = some (.slice A1308_2 ((rd_T144 l0 x5_1).f2).length c1308_2) ∧ w'.cell? ⟨(ad1308.add ((x5_1).toNat * 6)).block, (ad1308.add ((x5_1).toNat * 6)).off + 3, none⟩ = some (.int .i64 ((rd_T144 l0 x5_1).f3)) ∧ w'.cell? ⟨(ad1308.add ((x5_1).toNat * 6)).block, (ad1308.add ((x5_1).toNat * 6)).off + 4, none⟩ = some (.int .i64 ((rd_T144 l0 x5_1).f4)) ∧ w'.cell? ⟨(ad1308.add ((x5_1).toNat * 6)).block, (ad1308.add ((x5_1).toNat * 6)).off + 5, none⟩ = some (.slice A1308_5 ((rd_T144 l0 x5_1).f5).length c1308_5) ∧ w'.cell? (ad1309.add ((x5_1).toNat * 6)) = some (.int .i64 ((rd_T144 l1 x5_1).f0)) ∧ w'.cell? ⟨(ad1309.add ((x5_1).toNat * 6)).block, (ad1309.add ((x5_1).toNat * 6)).off + 1, none⟩ = some (.int .i64 ((rd_T144 l1 x5_1).f1)) ∧ w'.cell? ⟨(ad1309.add ((x5_1).toNat * 6)).block, (ad1309.add ((x5_1).toNat * 6)).off + 2, none⟩ = some (.slice A1309_2 ((rd_T144 l1 x5_1).f2).length c1309_2) ∧ w'.cell? ⟨(ad1309.add ((x5_1).toNat * 6)).block, (ad1309.add ((x5_1).toNat * 6)).off + 3, none⟩ = some (.int .i64 ((rd_T144 l1 x5_1).f3)) ∧ w'.cell? ⟨(ad1309.add ((x5_1).toNat * 6)).block, (ad1309.add ((x5_1).toNat * 6)).off + 4, none⟩ = some (.int .i64 ((rd_T144 l1 x5_1).f4)) ∧ w'.cell? ⟨(ad1309.add ((x5_1).toNat * 6)).block, (ad1309.add ((x5_1).toNat * 6)).off + 5, none⟩ = some (.slice A1309_5 ((rd_T144 l1 x5_1).f5).length c1309_5)) (ds := []) #[O,O,O,O,O,O,O,O,O,O] (by kernel_rfl) rfl rfl ⟨((HB.out.cell (World.block_lt_of_cell? w _ hw1308_0)).trans hw1308_0), ((HB.out.cell (World.block_lt_of_cell? w _ hw1308_1)).trans hw1308_1), ((HB.out.cell (World.block_lt_of_cell? w _ hw1308_2)).trans hw1308_2), ((HB.out.cell (World.block_lt_of_cell? w _ hw1308_3)).trans hw1308_3), ((HB.out.cell (World.block_lt_of_cell? w _ hw1308_4)).trans hw1308_4), ((HB.out.cell (World.block_lt_of_cell? w _ hw1308_5)).trans hw1308_5), ((HB.out.cell (World.block_lt_of_cell? w _ hw1309_0)).trans hw1309_0), ((HB.out.cell (World.block_lt_of_cell? w _ hw1309_1)).trans hw1309_1), ((HB.out.cell (World.block_lt_of_cell? w _ hw1309_2)).trans hw1309_2), ((HB.out.cell (World.block_lt_of_cell? w _ hw1309_3)).trans hw1309_3), ((HB.out.cell (World.block_lt_of_cell? w _ hw1309_4)).trans hw1309_4), ((HB.out.cell (World.block_lt_of_cell? w _ hw1309_5)).trans hw1309_5)⟩ (fun hHeld => ?_); refine with_tabW laws_eqStepS.tab6 laws_eqStepS.bits6 (fun HT_ HW_ => ?_)
        generalize wr.drew = w9 at HB HR1308_2 HR1308_5 HR1309_2 HR1309_5 hx1308_0 hx1308_1 hx1308_2 hx1308_3 hx1308_4 hx1308_5 hx1309_0 hx1309_1 hx1309_2 hx1309_3 hx1309_4 hx1309_5 hHeld ⊢
        refine pure_ (i := 0) (N := some 17) (v := ?_) (a' := ?_) #[Y,O,O,O,O,O,O,O,O,O] rfl rfl zx (fun _ _ _ h => h) (Or.inl ⟨by rfl, ?_⟩) ?_ ?_
        rotate_left; (intro w'; go_simp; with_reducible rfl); rotate_left; (simp only [Act.put,qa,qb,qc,i64_w,i32_w]; rfl)
        refine pure_ (i := 1) (N := some 18) (v := ?_) (a' := ?_) #[Y,Y,O,O,O,O,O,O,O,O] rfl rfl zx (fun _ _ _ h => h) (Or.inl ⟨by rfl, ?_⟩) ?_ ?_
        rotate_left; (intro w'; go_simp; with_reducible rfl); rotate_left; (simp only [Act.put,qa,qb,qc,i64_w,i32_w]; rfl)
        refine pure_ (i := 2) (N := some 19) (v := ?_) (a' := ?_) #[Y,Y,Y,O,O,O,O,O,O,O] rfl rfl zx (fun _ _ _ h => h) (Or.inl ⟨by rfl, ?_⟩) ?_ ?_
        rotate_left; (intro w'; go_simp; with_reducible rfl); rotate_left; (simp only [Act.put,qa,qb,qc,i64_w,i32_w]; rfl)
        refine pure_ (i := 4) (N := some 21) (v := ?_) (a' := ?_) #[Y,Y,Y,O,Y,O,O,O,O,O] rfl rfl zx (fun _ _ _ h => h) (Or.inl ⟨by rfl, ?_⟩) ?_ ?_
        rotate_left; (intro w'; go_simp; with_reducible rfl); rotate_left; (simp only [Act.put,qa,qb,qc,i64_w,i32_w]; rfl)
        refine pure_ (i := 5) (N := some 22) (v := ?_) (a' := ?_) #[Y,Y,Y,O,Y,Y,O,O,O,O] rfl rfl zx (fun _ _ _ h => h) (Or.inl ⟨by rfl, ?_⟩) ?_ ?_
        rotate_left; (intro w'; go_simp; with_reducible rfl); rotate_left; (simp only [Act.put,qa,qb,qc,i64_w,i32_w]; rfl)
        refine pure_ (i := 6) (N := some 23) (v := ?_) (a' := ?_) #[Y,Y,Y,O,Y,Y,Y,O,O,O] rfl rfl zx (fun _ _ _ h => h) (Or.inl ⟨by rfl, ?_⟩) ?_ ?_
        rotate_left; (intro w'; go_simp; with_reducible rfl); rotate_left; (simp only [Act.put,qa,qb,qc,i64_w,i32_w]; rfl)
        refine take_ (i := 3) (N := some 20) (v := ?_) (a' := ?_) #[Y,Y,Y,Y,Y,Y,Y,O,O,O] rfl rfl (take_ofW HT_.out HW_.out (by kernel_rfl)) (fun _ _ _ h => h) (Or.inl ⟨by rfl, ?_⟩) hHeld ?_ ?_
        rotate_left; (rintro w' ⟨s0, s1, s2, s3, s4, s5, s6, s7, s8, s9, s10, s11⟩; go_simp; with_reducible rfl); rotate_left; (simp only [Act.put,qa,qb,qc,i64_w,i32_w]; rfl)
        refine take_ (i := 7) (N := some 24) (v := ?_) (a' := ?_) #[Y,Y,Y,Y,Y,Y,Y,Y,O,O] rfl rfl (take_ofW HT_.out HW_.out (by kernel_rfl)) (fun _ _ _ h => h) (Or.inl ⟨by rfl, ?_⟩) hHeld ?_ ?_
        rotate_left; (rintro w' ⟨s0, s1, s2, s3, s4, s5, s6, s7, s8, s9, s10, s11⟩; go_simp; with_reducible rfl); rotate_left; (simp only [Act.put,qa,qb,qc,i64_w,i32_w]; rfl)
        refine one_ (i := 8) (N := some 25) #[Y,Y,Y,Y,Y,Y,Y,Y,Y,O] rfl rfl (one_of HT_.out (by kernel_rfl)) (by decide) (fun K hK => ?_)
        refine goes_ Try.func133 (by kernel_rfl) rfl #[.agg #[.int .i64 ((rd_T144 l0 x5_1).f0), .int .i64 ((rd_T144 l0 x5_1).f1), .slice A1308_2 ((rd_T144 l0 x5_1).f2).length c1308_2, .int .i64 ((rd_T144 l0 x5_1).f3), .int .i64 ((rd_T144 l0 x5_1).f4), .slice A1308_5 ((rd_T144 l0 x5_1).f5).length c1308_5], .agg #[.int .i64 ((rd_T144 l1 x5_1).f0), .int .i64 ((rd_T144 l1 x5_1).f1), .slice A1309_2 ((rd_T144 l1 x5_1).f2).length c1309_2, .int .i64 ((rd_T144 l1 x5_1).f3), .int .i64 ((rd_T144 l1 x5_1).f4), .slice A1309_5 ((rd_T144 l1 x5_1).f5).length c1309_5]] (by rfl) rfl rfl zm ?_
        with_reducible refine (laws_eqStep.calls k1 ((rd_T144 l0 x5_1).f0) ((rd_T144 l0 x5_1).f1) _ _ ((rd_T144 l0 x5_1).f2) ((rd_T144 l0 x5_1).f3) ((rd_T144 l0 x5_1).f4) _ _ ((rd_T144 l0 x5_1).f5) ((rd_T144 l1 x5_1).f0) ((rd_T144 l1 x5_1).f1) _ _ ((rd_T144 l1 x5_1).f2) ((rd_T144 l1 x5_1).f3) ((rd_T144 l1 x5_1).f4) _ _ ((rd_T144 l1 x5_1).f5) true _ ?side1 ?side2 ?side3 ?side4 ?side5 ?side6 ?side7 ?side8 A7.out).mono ?_
        (case side1 => exact zq (Kd.C_below HR1308_2.out HB.out))
        (case side2 => exact HC1308_2.out)
        (case side3 => exact zq (Kd.C_below HR1308_5.out HB.out))
        (case side4 => exact HC1308_5.out)
        (case side5 => exact zq (Kd.C_below HR1309_2.out HB.out))
        (case side6 => exact HC1309_2.out)
        (case side7 => exact zq (Kd.C_below HR1309_5.out HB.out))
        (case side8 => exact HC1309_5.out)
        rintro e w10 ⟨rfl, hb⟩
        refine ⟨_, rfl, ?_⟩
        have n0_ := Aside0.mk (below_step zb hb)
        clear HB
        have HB := n0_
        clear n0_
        (try clear hb)
        (try clear hb2)
        (try clear hk)
        (try clear hi)
        refine hK.out _ _ ⟨((HB.out.cell (World.block_lt_of_cell? w _ hw1308_0)).trans hw1308_0), ((HB.out.cell (World.block_lt_of_cell? w _ hw1308_1)).trans hw1308_1), ((HB.out.cell (World.block_lt_of_cell? w _ hw1308_2)).trans hw1308_2), ((HB.out.cell (World.block_lt_of_cell? w _ hw1308_3)).trans hw1308_3), ((HB.out.cell (World.block_lt_of_cell? w _ hw1308_4)).trans hw1308_4), ((HB.out.cell (World.block_lt_of_cell? w _ hw1308_5)).trans hw1308_5), ((HB.out.cell (World.block_lt_of_cell? w _ hw1309_0)).trans hw1309_0), ((HB.out.cell (World.block_lt_of_cell? w _ hw1309_1)).trans hw1309_1), ((HB.out.cell (World.block_lt_of_cell? w _ hw1309_2)).trans hw1309_2), ((HB.out.cell (World.block_lt_of_cell? w _ hw1309_3)).trans hw1309_3), ((HB.out.cell (World.block_lt_of_cell? w _ hw1309_4)).trans hw1309_4), ((HB.out.cell (World.block_lt_of_cell? w _ hw1309_5)).trans hw1309_5)⟩ (fun hHeld => ?_)
        clear hK K
        refine norm_ (a' := ?_) ?_ ?_
        rotate_left
        ·show Act.put _ (some 25) _ = _
         simp only [Act.put,qa,qb,qc,i64_w,i32_w]
         rfl
        refine pure_ (i := 9) (N := some 26) (v := ?_) (a' := ?_) #[Y,Y,Y,Y,Y,Y,Y,Y,Y,Y] rfl rfl zx (fun _ _ _ h => h) (Or.inl ⟨by rfl, ?_⟩) ?_ ?_
        rotate_left; (intro w'; go_simp; with_reducible rfl); rotate_left; (simp only [Act.put,qa,qb,qc,i64_w,i32_w]; rfl)
        refine done_ (done_of HT_.out (by kernel_rfl)) ?_
        try go_wp2
        go_roundg k1
        case measure => have := HK1.out; omega
        case rel => exact ⟨(wrap64 (x5_1 + 1)), zf, H', ⟨by have := HK1.out; omega⟩, ⟨by repeat (first | (with_reducible first | exact HB.out | apply below_alloc | apply pw_below_drewN | apply below_drew1) | exact HB.out)⟩⟩
       ·replace c8 := Bool.eq_false_iff.mpr c8
        subst c8
        have H1 : (some false) = some r := by rw [if_neg (show ¬ (false = true) by decide)] at H; exact H
        clear H
        have H := H1
        clear H1
        obtain rfl := Option.some.inj H
        try go_wp2
        have n0_ := Aside0.mk (below_drew1 HB.out)
        clear HB
        have HB := n0_
        clear n0_
        have p1308 : 0 ≤ (x5_1 : Int) := oa
        have q1308 : x5_1 < (l0.length : Int) := oa
        obtain ⟨ad1308, A1308_2, c1308_2, A1308_5, c1308_5, e1308, hx1308_0, hx1308_1, hx1308_2, hx1308_3, hx1308_4, hx1308_5, hl1308_2, hi1308_2, hl1308_5, hi1308_5⟩ := at_T144 HR0.out x5_1 p1308 q1308
        have hw1308_5 := hx1308_5
        have hw1308_4 := hx1308_4
        have hw1308_3 := hx1308_3
        have hw1308_2 := hx1308_2
        have hw1308_1 := hx1308_1
        have hw1308_0 := hx1308_0
        cases e1308
        replace hx1308_0 := (HB.out.cell (World.block_lt_of_cell? w _ hx1308_0)).trans hx1308_0
        replace hx1308_1 := (HB.out.cell (World.block_lt_of_cell? w _ hx1308_1)).trans hx1308_1
        replace hx1308_2 := (HB.out.cell (World.block_lt_of_cell? w _ hx1308_2)).trans hx1308_2
        replace hx1308_3 := (HB.out.cell (World.block_lt_of_cell? w _ hx1308_3)).trans hx1308_3
        replace hx1308_4 := (HB.out.cell (World.block_lt_of_cell? w _ hx1308_4)).trans hx1308_4
        replace hx1308_5 := (HB.out.cell (World.block_lt_of_cell? w _ hx1308_5)).trans hx1308_5
        have HR1308_2 := Aside0.mk hi1308_2
        have HC1308_2 := Aside0.mk hl1308_2
        clear hi1308_2 hl1308_2
        have HR1308_5 := Aside0.mk hi1308_5
        have HC1308_5 := Aside0.mk hl1308_5
        clear hi1308_5 hl1308_5
        replace p1308 := eq_true p1308
        replace q1308 := eq_true q1308
        have p1309 : 0 ≤ (x5_1 : Int) := oa
        have q1309 : x5_1 < (l1.length : Int) := oa
        obtain ⟨ad1309, A1309_2, c1309_2, A1309_5, c1309_5, e1309, hx1309_0, hx1309_1, hx1309_2, hx1309_3, hx1309_4, hx1309_5, hl1309_2, hi1309_2, hl1309_5, hi1309_5⟩ := at_T144 HR1.out x5_1 p1309 q1309
        have hw1309_5 := hx1309_5
        have hw1309_4 := hx1309_4
        have hw1309_3 := hx1309_3
        have hw1309_2 := hx1309_2
        have hw1309_1 := hx1309_1
        have hw1309_0 := hx1309_0
        cases e1309
        replace hx1309_0 := (HB.out.cell (World.block_lt_of_cell? w _ hx1309_0)).trans hx1309_0
        replace hx1309_1 := (HB.out.cell (World.block_lt_of_cell? w _ hx1309_1)).trans hx1309_1
        replace hx1309_2 := (HB.out.cell (World.block_lt_of_cell? w _ hx1309_2)).trans hx1309_2
        replace hx1309_3 := (HB.out.cell (World.block_lt_of_cell? w _ hx1309_3)).trans hx1309_3
        replace hx1309_4 := (HB.out.cell (World.block_lt_of_cell? w _ hx1309_4)).trans hx1309_4
        replace hx1309_5 := (HB.out.cell (World.block_lt_of_cell? w _ hx1309_5)).trans hx1309_5
        have HR1309_2 := Aside0.mk hi1309_2
        have HC1309_2 := Aside0.mk hl1309_2
        clear hi1309_2 hl1309_2
        have HR1309_5 := Aside0.mk hi1309_5
        have HC1309_5 := Aside0.mk hl1309_5
        clear hi1309_5 hl1309_5
        replace p1309 := eq_true p1309
        replace q1309 := eq_true q1309
        refine start_ (n := 10) (S := fun w' => w'.cell? (ad1308.add ((x5_1).toNat * 6)) = some (.int .i64 ((rd_T144 l0 x5_1).f0)) ∧ w'.cell? ⟨(ad1308.add ((x5_1).toNat * 6)).block, (ad1308.add ((x5_1).toNat * 6)).off + 1, none⟩ = some (.int .i64 ((rd_T144 l0 x5_1).f1)) ∧ w'.cell? ⟨(ad1308.add ((x5_1).toNat * 6)).block, (ad1308.add ((x5_1).toNat * 6)).off + 2, none⟩ = some (.slice A1308_2 ((rd_T144 l0 x5_1).f2).length c1308_2) ∧ w'.cell? ⟨(ad1308.add ((x5_1).toNat * 6)).block, (ad1308.add ((x5_1).toNat * 6)).off + 3, none⟩ = some (.int .i64 ((rd_T144 l0 x5_1).f3)) ∧ w'.cell? ⟨(ad1308.add ((x5_1).toNat * 6)).block, (ad1308.add ((x5_1).toNat * 6)).off + 4, none⟩ = some (.int .i64 ((rd_T144 l0 x5_1).f4)) ∧ w'.cell? ⟨(ad1308.add ((x5_1).toNat * 6)).block, (ad1308.add ((x5_1).toNat * 6)).off + 5, none⟩ = some (.slice A1308_5 ((rd_T144 l0 x5_1).f5).length c1308_5) ∧ w'.cell? (ad1309.add ((x5_1).toNat * 6)) = some (.int .i64 ((rd_T144 l1 x5_1).f0)) ∧ w'.cell? ⟨(ad1309.add ((x5_1).toNat * 6)).block, (ad1309.add ((x5_1).toNat * 6)).off + 1, none⟩ = some (.int .i64 ((rd_T144 l1 x5_1).f1)) ∧ w'.cell? ⟨(ad1309.add ((x5_1).toNat * 6)).block, (ad1309.add ((x5_1).toNat * 6)).off + 2, none⟩ = some (.slice A1309_2 ((rd_T144 l1 x5_1).f2).length c1309_2) ∧ w'.cell? ⟨(ad1309.add ((x5_1).toNat * 6)).block, (ad1309.add ((x5_1).toNat * 6)).off + 3, none⟩ = some (.int .i64 ((rd_T144 l1 x5_1).f3)) ∧ w'.cell? ⟨(ad1309.add ((x5_1).toNat * 6)).block, (ad1309.add ((x5_1).toNat * 6)).off + 4, none⟩ = some (.int .i64 ((rd_T144 l1 x5_1).f4)) ∧ w'.cell? ⟨(ad1309.add ((x5_1).toNat * 6)).block, (ad1309.add ((x5_1).toNat * 6)).off + 5, none⟩ = some (.slice A1309_5 ((rd_T144 l1 x5_1).f5).length c1309_5)) (ds := []) #[O,O,O,O,O,O,O,O,O,O] (by kernel_rfl) rfl rfl ⟨((HB.out.cell (World.block_lt_of_cell? w _ hw1308_0)).trans hw1308_0), ((HB.out.cell (World.block_lt_of_cell? w _ hw1308_1)).trans hw1308_1), ((HB.out.cell (World.block_lt_of_cell? w _ hw1308_2)).trans hw1308_2), ((HB.out.cell (World.block_lt_of_cell? w _ hw1308_3)).trans hw1308_3), ((HB.out.cell (World.block_lt_of_cell? w _ hw1308_4)).trans hw1308_4), ((HB.out.cell (World.block_lt_of_cell? w _ hw1308_5)).trans hw1308_5), ((HB.out.cell (World.block_lt_of_cell? w _ hw1309_0)).trans hw1309_0), ((HB.out.cell (World.block_lt_of_cell? w _ hw1309_1)).trans hw1309_1), ((HB.out.cell (World.block_lt_of_cell? w _ hw1309_2)).trans hw1309_2), ((HB.out.cell (World.block_lt_of_cell? w _ hw1309_3)).trans hw1309_3), ((HB.out.cell (World.block_lt_of_cell? w _ hw1309_4)).trans hw1309_4), ((HB.out.cell (World.block_lt_of_cell? w _ hw1309_5)).trans hw1309_5)⟩ (fun hHeld => ?_); refine with_tabW laws_eqStepS.tab6 laws_eqStepS.bits6 (fun HT_ HW_ => ?_)
        generalize wr.drew = w11 at HB HR1308_2 HR1308_5 HR1309_2 HR1309_5 hx1308_0 hx1308_1 hx1308_2 hx1308_3 hx1308_4 hx1308_5 hx1309_0 hx1309_1 hx1309_2 hx1309_3 hx1309_4 hx1309_5 hHeld ⊢
        refine pure_ (i := 0) (N := some 17) (v := ?_) (a' := ?_) #[Y,O,O,O,O,O,O,O,O,O] rfl rfl zx (fun _ _ _ h => h) (Or.inl ⟨by rfl, ?_⟩) ?_ ?_
        rotate_left; (intro w'; go_simp; with_reducible rfl); rotate_left; (simp only [Act.put,qa,qb,qc,i64_w,i32_w]; rfl)
        refine pure_ (i := 1) (N := some 18) (v := ?_) (a' := ?_) #[Y,Y,O,O,O,O,O,O,O,O] rfl rfl zx (fun _ _ _ h => h) (Or.inl ⟨by rfl, ?_⟩) ?_ ?_
        rotate_left; (intro w'; go_simp; with_reducible rfl); rotate_left; (simp only [Act.put,qa,qb,qc,i64_w,i32_w]; rfl)
        refine pure_ (i := 2) (N := some 19) (v := ?_) (a' := ?_) #[Y,Y,Y,O,O,O,O,O,O,O] rfl rfl zx (fun _ _ _ h => h) (Or.inl ⟨by rfl, ?_⟩) ?_ ?_
        rotate_left; (intro w'; go_simp; with_reducible rfl); rotate_left; (simp only [Act.put,qa,qb,qc,i64_w,i32_w]; rfl)
        refine pure_ (i := 4) (N := some 21) (v := ?_) (a' := ?_) #[Y,Y,Y,O,Y,O,O,O,O,O] rfl rfl zx (fun _ _ _ h => h) (Or.inl ⟨by rfl, ?_⟩) ?_ ?_
        rotate_left; (intro w'; go_simp; with_reducible rfl); rotate_left; (simp only [Act.put,qa,qb,qc,i64_w,i32_w]; rfl)
        refine pure_ (i := 5) (N := some 22) (v := ?_) (a' := ?_) #[Y,Y,Y,O,Y,Y,O,O,O,O] rfl rfl zx (fun _ _ _ h => h) (Or.inl ⟨by rfl, ?_⟩) ?_ ?_
        rotate_left; (intro w'; go_simp; with_reducible rfl); rotate_left; (simp only [Act.put,qa,qb,qc,i64_w,i32_w]; rfl)
        refine pure_ (i := 6) (N := some 23) (v := ?_) (a' := ?_) #[Y,Y,Y,O,Y,Y,Y,O,O,O] rfl rfl zx (fun _ _ _ h => h) (Or.inl ⟨by rfl, ?_⟩) ?_ ?_
        rotate_left; (intro w'; go_simp; with_reducible rfl); rotate_left; (simp only [Act.put,qa,qb,qc,i64_w,i32_w]; rfl)
        refine take_ (i := 3) (N := some 20) (v := ?_) (a' := ?_) #[Y,Y,Y,Y,Y,Y,Y,O,O,O] rfl rfl (take_ofW HT_.out HW_.out (by kernel_rfl)) (fun _ _ _ h => h) (Or.inl ⟨by rfl, ?_⟩) hHeld ?_ ?_
        rotate_left; (rintro w' ⟨s0, s1, s2, s3, s4, s5, s6, s7, s8, s9, s10, s11⟩; go_simp; with_reducible rfl); rotate_left; (simp only [Act.put,qa,qb,qc,i64_w,i32_w]; rfl)
        refine take_ (i := 7) (N := some 24) (v := ?_) (a' := ?_) #[Y,Y,Y,Y,Y,Y,Y,Y,O,O] rfl rfl (take_ofW HT_.out HW_.out (by kernel_rfl)) (fun _ _ _ h => h) (Or.inl ⟨by rfl, ?_⟩) hHeld ?_ ?_
        rotate_left; (rintro w' ⟨s0, s1, s2, s3, s4, s5, s6, s7, s8, s9, s10, s11⟩; go_simp; with_reducible rfl); rotate_left; (simp only [Act.put,qa,qb,qc,i64_w,i32_w]; rfl)
        refine one_ (i := 8) (N := some 25) #[Y,Y,Y,Y,Y,Y,Y,Y,Y,O] rfl rfl (one_of HT_.out (by kernel_rfl)) (by decide) (fun K hK => ?_)
        refine goes_ Try.func133 (by kernel_rfl) rfl #[.agg #[.int .i64 ((rd_T144 l0 x5_1).f0), .int .i64 ((rd_T144 l0 x5_1).f1), .slice A1308_2 ((rd_T144 l0 x5_1).f2).length c1308_2, .int .i64 ((rd_T144 l0 x5_1).f3), .int .i64 ((rd_T144 l0 x5_1).f4), .slice A1308_5 ((rd_T144 l0 x5_1).f5).length c1308_5], .agg #[.int .i64 ((rd_T144 l1 x5_1).f0), .int .i64 ((rd_T144 l1 x5_1).f1), .slice A1309_2 ((rd_T144 l1 x5_1).f2).length c1309_2, .int .i64 ((rd_T144 l1 x5_1).f3), .int .i64 ((rd_T144 l1 x5_1).f4), .slice A1309_5 ((rd_T144 l1 x5_1).f5).length c1309_5]] (by rfl) rfl rfl zm ?_
        with_reducible refine (laws_eqStep.calls k1 ((rd_T144 l0 x5_1).f0) ((rd_T144 l0 x5_1).f1) _ _ ((rd_T144 l0 x5_1).f2) ((rd_T144 l0 x5_1).f3) ((rd_T144 l0 x5_1).f4) _ _ ((rd_T144 l0 x5_1).f5) ((rd_T144 l1 x5_1).f0) ((rd_T144 l1 x5_1).f1) _ _ ((rd_T144 l1 x5_1).f2) ((rd_T144 l1 x5_1).f3) ((rd_T144 l1 x5_1).f4) _ _ ((rd_T144 l1 x5_1).f5) false _ ?side1 ?side2 ?side3 ?side4 ?side5 ?side6 ?side7 ?side8 A7.out).mono ?_
        (case side1 => exact zq (Kd.C_below HR1308_2.out HB.out))
        (case side2 => exact HC1308_2.out)
        (case side3 => exact zq (Kd.C_below HR1308_5.out HB.out))
        (case side4 => exact HC1308_5.out)
        (case side5 => exact zq (Kd.C_below HR1309_2.out HB.out))
        (case side6 => exact HC1309_2.out)
        (case side7 => exact zq (Kd.C_below HR1309_5.out HB.out))
        (case side8 => exact HC1309_5.out)
        rintro e w12 ⟨rfl, hb⟩
        refine ⟨_, rfl, ?_⟩
        have n0_ := Aside0.mk (below_step zb hb)
        clear HB
        have HB := n0_
        clear n0_
        (try clear hb)
        (try clear hb2)
        (try clear hk)
        (try clear hi)
        refine hK.out _ _ ⟨((HB.out.cell (World.block_lt_of_cell? w _ hw1308_0)).trans hw1308_0), ((HB.out.cell (World.block_lt_of_cell? w _ hw1308_1)).trans hw1308_1), ((HB.out.cell (World.block_lt_of_cell? w _ hw1308_2)).trans hw1308_2), ((HB.out.cell (World.block_lt_of_cell? w _ hw1308_3)).trans hw1308_3), ((HB.out.cell (World.block_lt_of_cell? w _ hw1308_4)).trans hw1308_4), ((HB.out.cell (World.block_lt_of_cell? w _ hw1308_5)).trans hw1308_5), ((HB.out.cell (World.block_lt_of_cell? w _ hw1309_0)).trans hw1309_0), ((HB.out.cell (World.block_lt_of_cell? w _ hw1309_1)).trans hw1309_1), ((HB.out.cell (World.block_lt_of_cell? w _ hw1309_2)).trans hw1309_2), ((HB.out.cell (World.block_lt_of_cell? w _ hw1309_3)).trans hw1309_3), ((HB.out.cell (World.block_lt_of_cell? w _ hw1309_4)).trans hw1309_4), ((HB.out.cell (World.block_lt_of_cell? w _ hw1309_5)).trans hw1309_5)⟩ (fun hHeld => ?_)
        clear hK K
        refine norm_ (a' := ?_) ?_ ?_
        rotate_left
        ·show Act.put _ (some 25) _ = _
         simp only [Act.put,qa,qb,qc,i64_w,i32_w]
         rfl
        refine pure_ (i := 9) (N := some 26) (v := ?_) (a' := ?_) #[Y,Y,Y,Y,Y,Y,Y,Y,Y,Y] rfl rfl zx (fun _ _ _ h => h) (Or.inl ⟨by rfl, ?_⟩) ?_ ?_
        rotate_left; (intro w'; go_simp; with_reducible rfl); rotate_left; (simp only [Act.put,qa,qb,qc,i64_w,i32_w]; rfl)
        refine done_ (done_of HT_.out (by kernel_rfl)) ?_
        try go_wp2
        go_ret
        exact ⟨by first | rfl | (simp [errW_none, errW_some] <;> rfl) | (simp [*, errW_none, errW_some] <;> rfl), by repeat (first | (with_reducible first | exact HB.out | apply below_alloc | apply pw_below_drewN | apply below_drew1) | exact HB.out)⟩
      ·rw [if_neg c6] at H
       exact absurd H (by simp)
     ·rw [if_neg c5] at H
      exact absurd H (by simp)
    ·rw [if_neg c4] at H
     have c4b0 : decide (x5_1 < (l0.length : Int)) = false := decide_eq_false c4
     clear c4
     obtain rfl := Option.some.inj H
     go_wp2
     go_ret
     exact ⟨by first | rfl | (simp [errW_none, errW_some] <;> rfl) | (simp [*, errW_none, errW_some] <;> rfl), by repeat (first | (with_reducible first | exact HB.out | apply below_alloc | apply pw_below_drewN | apply below_drew1) | exact HB.out)⟩
 ·rw [if_neg c3] at H
  have c3b0 : ((l0.length : Int) == (l1.length : Int)) = false := beq_eq_false_iff_ne.mpr c3
  have c3b1 : ((l0.length : Int) != (l1.length : Int)) = true := bne_iff_ne.mpr c3
  have c3b2 : (l0.length == l1.length) = false := by first | simpa using c3 | (simp at c3 ⊢; omega)
  obtain rfl := Option.some.inj H
  go_enter Try.func65, Try.ntmps65
  go_wp2
  go_ret
  exact ⟨by first | rfl | (simp [errW_none, errW_some] <;> rfl) | (simp [*, errW_none, errW_some] <;> rfl), by repeat (first | (with_reducible first | exact HB.out | apply below_alloc | apply pw_below_drewN | apply below_drew1) | exact HB.out)⟩

end Go.Proofs.Ytcefenlblnediaa.My

/- Written by this session's program (wip/gen): a plain function with the same answers as the Go function, and the proof that the Go code comes to them. Asked: that the plain function has an answer. -/
namespace Go.Proofs.Ytcefenlblnediaa.My
open Go.RowKit Go.Proofs.YtcefenlblnediaaW.PrintWords Go.Proofs.YtcefenlblnediaaW.PrintLast Go.Proofs.YtcefenlblnediaaW.PrintMore
attribute [local go_sem] max2_int min2_int max_two min_two max_three min_three max_four min_four
set_option linter.unusedVariables false
set_option linter.unusedSimpArgs false

/-! ### laws_markText: function 98 -/
def laws_markText.l0 : Nat → Int → ByteArray → Option (ByteArray)
 | 0, _, _ => none
 | k + 1, x0, x3 => if x0 > 0 then ((some (([(wrap64 (48 + (Int.tmod x0 10))) % 256] : List Int) : List Int)).bind fun y549 => (if (strOfNums y549).size + x3.size ≤ 9223372036854775807 then (laws_markText.l0 k (wrap64 (Int.tdiv x0 10)) ((strOfNums y549) ++ x3)) else (none))) else (if 1 + x3.size ≤ 9223372036854775807 then (some ((⟨#[109]⟩ : ByteArray) ++ x3)) else (none))
def laws_markText.f (k : Nat) (a0 : Int) : Option (ByteArray) := if a0 ≤ 0 then (some (⟨#[109, 48]⟩ : ByteArray)) else (laws_markText.l0 k a0 (⟨#[]⟩ : ByteArray))
set_option maxHeartbeats 8000000 in
set_option maxRecDepth 100000 in
theorem laws_markText.calls (k : Nat) (a0 : Int) (r : ByteArray) (w : World) (h : laws_markText.f k a0 = some r) :
  Calls Try.prog 98 #[.int .i64 a0] w fun e w' => e = .returned (.string r) ∧ Below w.heap.size w w' := by
 have HB := Aside0.mk (Below.refl w.heap.size w)
 have H : (if a0 ≤ 0 then (some (⟨#[109, 48]⟩ : ByteArray)) else (laws_markText.l0 k a0 (⟨#[]⟩ : ByteArray))) = some r := h
 clear h
 by_cases c2 : a0 ≤ 0
 ·rw [if_pos c2] at H
  have c2b0 : decide (a0 ≤ 0) = true := decide_eq_true c2
  clear c2
  obtain rfl := Option.some.inj H
  go_enter Try.func98, Try.ntmps98
  go_wp2
  go_ret
  exact ⟨by first | rfl | (simp [errW_none, errW_some] <;> rfl) | (simp [*, errW_none, errW_some] <;> rfl), by repeat (first | (with_reducible first | exact HB.out | apply below_alloc | apply pw_below_drewN | apply below_drew1) | exact HB.out)⟩
 ·rw [if_neg c2] at H
  have c2b0 : decide (a0 ≤ 0) = false := decide_eq_false c2
  clear c2
  have H' := Aside0.mk H
  clear H
  go_enter Try.func98, Try.ntmps98
  go_wp2
  go_loopg [0, 3] k (fun kq v0 v3 w' => ∃ (x0_1 : Int) (x3_1 : ByteArray), v0 = .int .i64 x0_1 ∧ v3 = .string x3_1 ∧ Aside0 (laws_markText.l0 kq x0_1 x3_1 = some r) ∧ Aside0 (kq ≤ k) ∧ Aside0 (Below w.heap.size w w'))
  case atStart => exact ⟨(a0), ((⟨#[]⟩ : ByteArray)), zf, zf, H', ⟨Nat.le_refl _⟩, ⟨by repeat (first | (with_reducible first | exact HB.out | apply below_alloc | apply pw_below_drewN | apply below_drew1) | exact HB.out)⟩⟩
  case round =>
   clear H'
   try clear c2
   try clear c2b0
   try clear p2
   obtain ⟨x0_1, x3_1, rfl, rfl, HA, HK1, HB⟩ := hrel
   cases gk with
   | zero => exact absurd HA.out (by simp [laws_markText.l0])
   | succ k1 =>
    have H := HA.out
    clear HA
    simp only [laws_markText.l0] at H
    by_cases c3 : x0_1 > 0
    ·rw [if_pos c3] at H
     have c3b0 : decide (0 < x0_1) = true := decide_eq_true c3
     clear c3
     obtain ⟨y549, hy549⟩ : ∃ y_ : List Int, y_ = (([(wrap64 (48 + (Int.tmod x0_1 10))) % 256] : List Int)) := ⟨_, rfl⟩
     replace H : (if (strOfNums y549).size + x3_1.size ≤ 9223372036854775807 then (laws_markText.l0 k1 (wrap64 (Int.tdiv x0_1 10)) ((strOfNums y549) ++ x3_1)) else (none)) = some r := by first | (rw [hy549]; with_reducible exact H) | (have H2_ := (Option.bind_some _ _).symm.trans H; rw [hy549]; with_reducible exact H2_) | (have H2_ := (Option.bind_some _ _).symm.trans H; with_reducible exact H2_) | with_reducible exact H | (rw [hy549]; exact H) | exact H
     have Ny549 := Aside0.mk hy549
     clear hy549
     by_cases c4 : (strOfNums y549).size + x3_1.size ≤ 9223372036854775807
     ·rw [if_pos c4] at H
      have c4b0 := eq_true c4
      have c4b1 : decide ((strOfNums y549).size + x3_1.size ≤ 9223372036854775807) = true := decide_eq_true c4
      try have c4b2 : (9223372036854775807 < (strOfNums y549).size + x3_1.size) = False := eq_false (Nat.not_lt.2 c4)
      have H' := Aside0.mk H
      clear H
      go_wp2_with (first | ((with_reducible refine gate_dst (N := 12) rfl ?_); refine Kd.R_lit (Kd.int .u8) _ 5 ?hg (N := 12) ?hd (xs := ([(wrap64 (48 + (Int.tmod x0_1 10))) % 256] : List Int)) (inner := [.int .u8 ((wrap64 (48 + (Int.tmod x0_1 10))) % 256)]) (ok := fun _ => True) (okp := fun _ => True) ?hr ?hp (fun _ hk => hk) trivial (Below.refl _ _) (Nat.le_refl _) (by simp) ?_; (case hd => rfl); (case hg => rfl); (case hr => first | (go_simp; done) | (go_simp; rfl)); (case hp => exact (Reps.one (show Kd.M (Kd.int .u8) _ _ _ ((wrap64 (48 + (Int.tmod x0_1 10))) % 256) [.int .u8 ((wrap64 (48 + (Int.tmod x0_1 10))) % 256)] from rfl) (Reps.none _ _))); intro v550 w5 ho6 hb hg_ hnew_; clear hg_ hnew_; (first | rw [← Ny549.out] at ho6 | (simp only [Int.reduceToNat] at ho6; rw [← Ny549.out] at ho6)); have n0_ := Aside0.mk (Kd.R_lower ho6 (below_size zb)); have n1_ := Aside0.mk (below_step zb hb); clear HB; have HO551 := n0_; have HB := n1_; clear n0_ n1_; clear hb ho6; have hcv7 := own_string (P := Try.prog) Try.underlying46 Try.underlying5 Try.underlying9 (Kd.own_of_R HO551.out)))
      go_roundg k1
      case measure => have := HK1.out; omega
      case rel => exact ⟨(wrap64 (Int.tdiv x0_1 10)), ((strOfNums y549) ++ x3_1), zf, zf, H', ⟨by have := HK1.out; omega⟩, ⟨by repeat (first | (with_reducible first | exact HB.out | apply below_alloc | apply pw_below_drewN | apply below_drew1) | exact HB.out)⟩⟩
     ·rw [if_neg c4] at H
      exact absurd H (by simp)
    ·rw [if_neg c3] at H
     have c3b0 : decide (0 < x0_1) = false := decide_eq_false c3
     clear c3
     by_cases c8 : 1 + x3_1.size ≤ 9223372036854775807
     ·rw [if_pos c8] at H
      have c8b0 := eq_true c8
      have c8b1 : decide (1 + x3_1.size ≤ 9223372036854775807) = true := decide_eq_true c8
      try have c8b2 : (9223372036854775807 < 1 + x3_1.size) = False := eq_false (Nat.not_lt.2 c8)
      obtain rfl := Option.some.inj H
      go_wp2
      go_ret
      exact ⟨by first | rfl | (simp [errW_none, errW_some] <;> rfl) | (simp [*, errW_none, errW_some] <;> rfl), by repeat (first | (with_reducible first | exact HB.out | apply below_alloc | apply pw_below_drewN | apply below_drew1) | exact HB.out)⟩
     ·rw [if_neg c8] at H
      exact absurd H (by simp)

end Go.Proofs.Ytcefenlblnediaa.My

/- Written by this session's program (wip/gen): a plain function with the same answers as the Go function, and the proof that the Go code comes to them. Asked: that the plain function has an answer. -/
namespace Go.Proofs.Ytcefenlblnediaa.My
open Go.RowKit Go.Proofs.YtcefenlblnediaaW.PrintWords Go.Proofs.YtcefenlblnediaaW.PrintLast Go.Proofs.YtcefenlblnediaaW.PrintMore
attribute [local go_sem] max2_int min2_int max_two min_two max_three min_three max_four min_four
set_option linter.unusedVariables false
set_option linter.unusedSimpArgs false

/-! ### laws_heldStringS: function 69 -/
def laws_heldStringS.l0 : Nat → List ByteArray → Int → Int → Option (Int)
 | 0, _, _, _ => none
 | k + 1, x0, x1, x5 => if x5 < (x0.length : Int) then (if 0 ≤ x5 then ((laws_markText.f k x1).bind fun t555 => (if (rdOf ByteArray.empty x0 x5).toList = t555.toList then (laws_heldStringS.l0 k x0 (wrap64 (x1 + 1)) (wrap64 (x5 + 1))) else (some (-1)))) else (none)) else (some x1)
def laws_heldStringS.f (k : Nat) (l0 : List ByteArray) (a1 : Int) : Option (Int) := laws_heldStringS.l0 k l0 a1 0
set_option maxHeartbeats 8000000 in
set_option maxRecDepth 100000 in
theorem laws_heldStringS.calls (k : Nat) (A0 : Option Addr) (c0 : Nat) (l0 : List ByteArray) (a1 : Int) (r : Int) (w : World) (hr0 : Kd.C Kd.string w A0 l0.length l0) (hc0 : l0.length ≤ c0) (h : laws_heldStringS.f k l0 a1 = some r) :
  Calls Try.prog 69 #[.slice A0 l0.length c0, .int .i64 a1] w fun e w' => e = .returned (.int .i64 r) ∧ Below w.heap.size w w' := by
 have HR0 := Aside0.mk hr0
 have HC0 := Aside0.mk hc0
 clear hr0 hc0
 have HB := Aside0.mk (Below.refl w.heap.size w)
 have H : (laws_heldStringS.l0 k l0 a1 0) = some r := h
 clear h
 have H' := Aside0.mk H
 clear H
 go_enter Try.func69, Try.ntmps69
 go_wp2
 go_loopg [1, 5] k (fun kq v1 v5 w' => ∃ (x1_1 : Int) (x5_1 : Int), v1 = .int .i64 x1_1 ∧ v5 = .int .i64 x5_1 ∧ Aside0 (laws_heldStringS.l0 kq l0 x1_1 x5_1 = some r) ∧ Aside0 (kq ≤ k) ∧ Aside0 (Below w.heap.size w w'))
 case atStart => exact ⟨(a1), (0), zf, zf, H', ⟨Nat.le_refl _⟩, ⟨by repeat (first | (with_reducible first | exact HB.out | apply below_alloc | apply pw_below_drewN | apply below_drew1) | exact HB.out)⟩⟩
 case round =>
  clear H'
  try clear p2
  obtain ⟨x1_1, x5_1, rfl, rfl, HA, HK1, HB⟩ := hrel
  cases gk with
  | zero => exact absurd HA.out (by simp [laws_heldStringS.l0])
  | succ k1 =>
   have H := HA.out
   clear HA
   simp only [laws_heldStringS.l0] at H
   by_cases c3 : x5_1 < (l0.length : Int)
   ·rw [if_pos c3] at H
    have c3b0 : decide (x5_1 < (l0.length : Int)) = true := decide_eq_true c3
    clear c3
    by_cases c4 : 0 ≤ x5_1
    ·rw [if_pos c4] at H
     have c4b0 : decide (0 ≤ x5_1) = true := decide_eq_true c4
     clear c4
     replace H := Option.bind_eq_some_iff.mp H
     obtain ⟨t555, A50, H⟩ := H
     replace H : (if (rdOf ByteArray.empty l0 x5_1).toList = t555.toList then (laws_heldStringS.l0 k1 l0 (wrap64 (x1_1 + 1)) (wrap64 (x5_1 + 1))) else (some (-1))) = some r := H
     have A5 := Aside0.mk A50
     clear A50
     by_cases c6 : (rdOf ByteArray.empty l0 x5_1).toList = t555.toList
     ·rw [if_pos c6] at H
      have c6b0 : ((rdOf ByteArray.empty l0 x5_1).toList == t555.toList) = true := beq_iff_eq.mpr c6
      have c6b1 : ((rdOf ByteArray.empty l0 x5_1).toList != t555.toList) = false := bne_eq_false_iff_eq.mpr c6
      clear c6
      have H' := Aside0.mk H
      clear H
      try go_wp2
      have n0_ := Aside0.mk (below_drew1 HB.out)
      clear HB
      have HB := n0_
      clear n0_
      have p554 : 0 ≤ (x5_1 : Int) := oa
      have q554 : x5_1 < (l0.length : Int) := oa
      obtain ⟨ad554, e554, hx554_0⟩ := Kd.at_string HR0.out x5_1 p554 q554
      have hw554_0 := hx554_0
      cases e554
      replace hx554_0 := (HB.out.cell (World.block_lt_of_cell? w _ hx554_0)).trans hx554_0
      replace p554 := eq_true p554
      replace q554 := eq_true q554
      refine start_ (n := 7) (S := fun w' => w'.cell? (ad554.add (x5_1).toNat) = some (.string (rdOf ByteArray.empty l0 x5_1))) (ds := []) #[O,O,O,O,O,O,O] (by kernel_rfl) rfl rfl (((HB.out.cell (World.block_lt_of_cell? w _ hw554_0)).trans hw554_0)) (fun hHeld => ?_)
      generalize wr.drew = w7 at HB hx554_0 hHeld ⊢
      refine pure_ (i := 0) (N := some 12) (v := ?_) (a' := ?_) #[Y,O,O,O,O,O,O] rfl rfl (by kernel_rfl) (fun _ _ _ h => h) (Or.inl ⟨by rfl, ?_⟩) ?_ ?_
      rotate_left; (intro w'; go_simp; with_reducible rfl); rotate_left; (simp only [Act.put,qa,qb,qc,i64_w,i32_w]; rfl)
      refine pure_ (i := 1) (N := some 13) (v := ?_) (a' := ?_) #[Y,Y,O,O,O,O,O] rfl rfl (by kernel_rfl) (fun _ _ _ h => h) (Or.inl ⟨by rfl, ?_⟩) ?_ ?_
      rotate_left; (intro w'; go_simp; with_reducible rfl); rotate_left; (simp only [Act.put,qa,qb,qc,i64_w,i32_w]; rfl)
      refine pure_ (i := 2) (N := some 14) (v := ?_) (a' := ?_) #[Y,Y,Y,O,O,O,O] rfl rfl (by kernel_rfl) (fun _ _ _ h => h) (Or.inl ⟨by rfl, ?_⟩) ?_ ?_
      rotate_left; (intro w'; go_simp; with_reducible rfl); rotate_left; (simp only [Act.put,qa,qb,qc,i64_w,i32_w]; rfl)
      refine pure_ (i := 4) (N := some 16) (v := ?_) (a' := ?_) #[Y,Y,Y,O,Y,O,O] rfl rfl (by kernel_rfl) (fun _ _ _ h => h) (Or.inl ⟨by rfl, ?_⟩) ?_ ?_
      rotate_left; (intro w'; go_simp; with_reducible rfl); rotate_left; (simp only [Act.put,qa,qb,qc,i64_w,i32_w]; rfl)
      refine take_ (i := 3) (N := some 15) (v := ?_) (a' := ?_) #[Y,Y,Y,Y,Y,O,O] rfl rfl (by kernel_rfl) (fun _ _ _ h => h) (Or.inl ⟨by rfl, ?_⟩) hHeld ?_ ?_
      rotate_left
      ·intro w' s0
       go_simp
       with_reducible rfl
      rotate_left
      ·simp only [Act.put,qa,qb,qc,i64_w,i32_w]
       rfl
      refine one_ (i := 5) (N := some 17) #[Y,Y,Y,Y,Y,Y,O] rfl rfl (by kernel_rfl) (by decide) (fun K hK => ?_)
      refine goes_ Try.func98 (by kernel_rfl) rfl #[.int .i64 x1_1] (by rfl) rfl rfl zm ?_
      with_reducible refine (laws_markText.calls k1 x1_1 t555 _ A5.out).mono ?_
      rintro e w8 ⟨rfl, hb⟩
      refine ⟨_, rfl, ?_⟩
      have n0_ := Aside0.mk (below_step zb hb)
      clear HB
      have HB := n0_
      clear n0_
      (try clear hb)
      (try clear hb2)
      (try clear hk)
      (try clear hi)
      refine hK.out _ _ (((HB.out.cell (World.block_lt_of_cell? w _ hw554_0)).trans hw554_0)) (fun hHeld => ?_)
      clear hK K
      refine norm_ (a' := ?_) ?_ ?_
      rotate_left
      ·show Act.put _ (some 17) _ = _
       simp only [Act.put,qa,qb,qc,i64_w,i32_w]
       rfl
      refine pure_ (i := 6) (N := some 18) (v := ?_) (a' := ?_) #[Y,Y,Y,Y,Y,Y,Y] rfl rfl (by kernel_rfl) (fun _ _ _ h => h) (Or.inl ⟨by rfl, ?_⟩) ?_ ?_
      rotate_left; (intro w'; go_simp; with_reducible rfl); rotate_left; (simp only [Act.put,qa,qb,qc,i64_w,i32_w]; rfl)
      refine done_ (by kernel_rfl) ?_
      try go_wp2
      go_roundg k1
      case measure => have := HK1.out; omega
      case rel => exact ⟨(wrap64 (x1_1 + 1)), (wrap64 (x5_1 + 1)), zf, zf, H', ⟨by have := HK1.out; omega⟩, ⟨by repeat (first | (with_reducible first | exact HB.out | apply below_alloc | apply pw_below_drewN | apply below_drew1) | exact HB.out)⟩⟩
     ·rw [if_neg c6] at H
      have c6b0 : ((rdOf ByteArray.empty l0 x5_1).toList == t555.toList) = false := beq_eq_false_iff_ne.mpr c6
      have c6b1 : ((rdOf ByteArray.empty l0 x5_1).toList != t555.toList) = true := bne_iff_ne.mpr c6
      obtain rfl := Option.some.inj H
      try go_wp2
      have n0_ := Aside0.mk (below_drew1 HB.out)
      clear HB
      have HB := n0_
      clear n0_
      have p554 : 0 ≤ (x5_1 : Int) := oa
      have q554 : x5_1 < (l0.length : Int) := oa
      obtain ⟨ad554, e554, hx554_0⟩ := Kd.at_string HR0.out x5_1 p554 q554
      have hw554_0 := hx554_0
      cases e554
      replace hx554_0 := (HB.out.cell (World.block_lt_of_cell? w _ hx554_0)).trans hx554_0
      replace p554 := eq_true p554
      replace q554 := eq_true q554
      refine start_ (n := 7) (S := fun w' => w'.cell? (ad554.add (x5_1).toNat) = some (.string (rdOf ByteArray.empty l0 x5_1))) (ds := []) #[O,O,O,O,O,O,O] (by kernel_rfl) rfl rfl (((HB.out.cell (World.block_lt_of_cell? w _ hw554_0)).trans hw554_0)) (fun hHeld => ?_)
      generalize wr.drew = w9 at HB hx554_0 hHeld ⊢
      refine pure_ (i := 0) (N := some 12) (v := ?_) (a' := ?_) #[Y,O,O,O,O,O,O] rfl rfl (by kernel_rfl) (fun _ _ _ h => h) (Or.inl ⟨by rfl, ?_⟩) ?_ ?_
      rotate_left; (intro w'; go_simp; with_reducible rfl); rotate_left; (simp only [Act.put,qa,qb,qc,i64_w,i32_w]; rfl)
      refine pure_ (i := 1) (N := some 13) (v := ?_) (a' := ?_) #[Y,Y,O,O,O,O,O] rfl rfl (by kernel_rfl) (fun _ _ _ h => h) (Or.inl ⟨by rfl, ?_⟩) ?_ ?_
      rotate_left; (intro w'; go_simp; with_reducible rfl); rotate_left; (simp only [Act.put,qa,qb,qc,i64_w,i32_w]; rfl)
      refine pure_ (i := 2) (N := some 14) (v := ?_) (a' := ?_) #[Y,Y,Y,O,O,O,O] rfl rfl (by kernel_rfl) (fun _ _ _ h => h) (Or.inl ⟨by rfl, ?_⟩) ?_ ?_
      rotate_left; (intro w'; go_simp; with_reducible rfl); rotate_left; (simp only [Act.put,qa,qb,qc,i64_w,i32_w]; rfl)
      refine pure_ (i := 4) (N := some 16) (v := ?_) (a' := ?_) #[Y,Y,Y,O,Y,O,O] rfl rfl (by kernel_rfl) (fun _ _ _ h => h) (Or.inl ⟨by rfl, ?_⟩) ?_ ?_
      rotate_left; (intro w'; go_simp; with_reducible rfl); rotate_left; (simp only [Act.put,qa,qb,qc,i64_w,i32_w]; rfl)
      refine take_ (i := 3) (N := some 15) (v := ?_) (a' := ?_) #[Y,Y,Y,Y,Y,O,O] rfl rfl (by kernel_rfl) (fun _ _ _ h => h) (Or.inl ⟨by rfl, ?_⟩) hHeld ?_ ?_
      rotate_left
      ·intro w' s0
       go_simp
       with_reducible rfl
      rotate_left
      ·simp only [Act.put,qa,qb,qc,i64_w,i32_w]
       rfl
      refine one_ (i := 5) (N := some 17) #[Y,Y,Y,Y,Y,Y,O] rfl rfl (by kernel_rfl) (by decide) (fun K hK => ?_)
      refine goes_ Try.func98 (by kernel_rfl) rfl #[.int .i64 x1_1] (by rfl) rfl rfl zm ?_
      with_reducible refine (laws_markText.calls k1 x1_1 t555 _ A5.out).mono ?_
      rintro e w10 ⟨rfl, hb⟩
      refine ⟨_, rfl, ?_⟩
      have n0_ := Aside0.mk (below_step zb hb)
      clear HB
      have HB := n0_
      clear n0_
      (try clear hb)
      (try clear hb2)
      (try clear hk)
      (try clear hi)
      refine hK.out _ _ (((HB.out.cell (World.block_lt_of_cell? w _ hw554_0)).trans hw554_0)) (fun hHeld => ?_)
      clear hK K
      refine norm_ (a' := ?_) ?_ ?_
      rotate_left
      ·show Act.put _ (some 17) _ = _
       simp only [Act.put,qa,qb,qc,i64_w,i32_w]
       rfl
      refine pure_ (i := 6) (N := some 18) (v := ?_) (a' := ?_) #[Y,Y,Y,Y,Y,Y,Y] rfl rfl (by kernel_rfl) (fun _ _ _ h => h) (Or.inl ⟨by rfl, ?_⟩) ?_ ?_
      rotate_left; (intro w'; go_simp; with_reducible rfl); rotate_left; (simp only [Act.put,qa,qb,qc,i64_w,i32_w]; rfl)
      refine done_ (by kernel_rfl) ?_
      try go_wp2
      go_ret
      exact ⟨by first | rfl | (simp [errW_none, errW_some] <;> rfl) | (simp [*, errW_none, errW_some] <;> rfl), by repeat (first | (with_reducible first | exact HB.out | apply below_alloc | apply pw_below_drewN | apply below_drew1) | exact HB.out)⟩
    ·rw [if_neg c4] at H
     exact absurd H (by simp)
   ·rw [if_neg c3] at H
    have c3b0 : decide (x5_1 < (l0.length : Int)) = false := decide_eq_false c3
    clear c3
    obtain rfl := Option.some.inj H
    go_wp2
    go_ret
    exact ⟨by first | rfl | (simp [errW_none, errW_some] <;> rfl) | (simp [*, errW_none, errW_some] <;> rfl), by repeat (first | (with_reducible first | exact HB.out | apply below_alloc | apply pw_below_drewN | apply below_drew1) | exact HB.out)⟩

end Go.Proofs.Ytcefenlblnediaa.My

/- Written by this session's program (wip/gen): a plain function with the same answers as the Go function, and the proof that the Go code comes to them. Asked: that the plain function has an answer. -/
namespace Go.Proofs.Ytcefenlblnediaa.My
open Go.RowKit Go.Proofs.YtcefenlblnediaaW.PrintWords Go.Proofs.YtcefenlblnediaaW.PrintLast Go.Proofs.YtcefenlblnediaaW.PrintMore
attribute [local go_sem] max2_int min2_int max_two min_two max_three min_three max_four min_four
set_option linter.unusedVariables false
set_option linter.unusedSimpArgs false

/-! ### laws_markStringS: function 29 -/
def laws_markStringS.l0 : Nat → List ByteArray → Int → Int → Option (Int × List ByteArray)
 | 0, _, _, _ => none
 | k + 1, x0, x1, x5 => if x5 < (x0.length : Int) then ((laws_markText.f k x1).bind fun t552 => (if 0 ≤ x5 then (laws_markStringS.l0 k (x0.set (x5 : Int).toNat t552) (wrap64 (x1 + 1)) (wrap64 (x5 + 1))) else (none))) else (some (x1, x0))
def laws_markStringS.f (k : Nat) (l0 : List ByteArray) (a1 : Int) : Option (Int × List ByteArray) := laws_markStringS.l0 k l0 a1 0
set_option maxHeartbeats 8000000 in
set_option maxRecDepth 100000 in
theorem laws_markStringS.calls (k : Nat) (P0_ : Nat → Prop) (u9000_ : Value) (l0 : List ByteArray) (a1 : Int) (r1 : Int) (r2 : List ByteArray) (w0 w : World) (hB : Below w0.heap.size w0 w) (ho0 : Kd.R Kd.string 9 w w0.heap.size P0_ u9000_ l0) (h : laws_markStringS.f k l0 a1 = some (r1, r2)) :
  Calls Try.prog 29 #[u9000_, .int .i64 a1] w fun e w' => e = .returned (.int .i64 r1) ∧ Kd.R Kd.string 9 w' w0.heap.size (fun k_ => (P0_ k_ ∨ w.heap.size ≤ k_)) u9000_ r2 ∧ Below w0.heap.size w0 w' ∧ Kept w w' (fun k_ => P0_ k_) := by
 have HO0 := Aside0.mk (show Kd.R Kd.string 9 w w0.heap.size (fun k_ => (P0_ k_ ∨ w.heap.size ≤ k_)) u9000_ l0 from Kd.R_mono ho0 (fun k_ hk => (.inl hk)))
 have HK := Aside0.mk (Kept.refl w (fun k_ => P0_ k_))
 have HW0 := Aside0.mk hB.size
 have HB := Aside0.mk hB
 clear hB
 have H : (laws_markStringS.l0 k l0 a1 0) = some (r1, r2) := h
 clear h
 have H' := Aside0.mk H
 clear H
 go_enter Try.func29, Try.ntmps29
 go_wp2
 go_loopg [1, 5] k (fun kq v1 v5 w' => ∃ (x0_1 : List ByteArray) (x1_1 : Int) (x5_1 : Int), v1 = .int .i64 x1_1 ∧ v5 = .int .i64 x5_1 ∧ Aside0 (laws_markStringS.l0 kq x0_1 x1_1 x5_1 = some (r1, r2)) ∧ Aside0 (kq ≤ k) ∧ Aside0 (Kd.R Kd.string 9 w' w0.heap.size (fun k_ => (P0_ k_ ∨ w.heap.size ≤ k_)) u9000_ x0_1) ∧ Aside0 (Kept w w' (fun k_ => P0_ k_)) ∧ Aside0 (Below w0.heap.size w0 w'))
 case atStart => exact ⟨(l0), (a1), (0), zf, zf, H', ⟨Nat.le_refl _⟩, ⟨by (with_reducible repeat (first | apply Kd.R_alloc | apply Kd.R_drewN | apply Kd.R_drew)); exact HO0.out⟩, ⟨by repeat (first | (with_reducible first | exact HK.out | apply Kept.alloc | apply Kept.drewN | apply Kept.drew) | exact HK.out)⟩, ⟨by repeat (first | (with_reducible first | exact HB.out | apply below_alloc | apply pw_below_drewN | apply below_drew1) | exact HB.out)⟩⟩
 case round =>
  clear H'
  try clear c2
  try clear p2
  obtain ⟨x0_1, x1_1, x5_1, rfl, rfl, HA, HK1, HO_0, HK, HB⟩ := hrel
  cases gk with
  | zero => exact absurd HA.out (by simp [laws_markStringS.l0])
  | succ k1 =>
   have H := HA.out
   clear HA
   simp only [laws_markStringS.l0] at H
   by_cases c3 : x5_1 < (x0_1.length : Int)
   ·rw [if_pos c3] at H
    have c3b0 : decide (x5_1 < (x0_1.length : Int)) = true := decide_eq_true c3
    clear c3
    replace H := Option.bind_eq_some_iff.mp H
    obtain ⟨t552, A40, H⟩ := H
    replace H : (if 0 ≤ x5_1 then (laws_markStringS.l0 k1 (x0_1.set (x5_1 : Int).toNat t552) (wrap64 (x1_1 + 1)) (wrap64 (x5_1 + 1))) else (none)) = some (r1, r2) := H
    have A4 := Aside0.mk A40
    clear A40
    by_cases c5 : 0 ≤ x5_1
    ·rw [if_pos c5] at H
     have c5b0 : decide (0 ≤ x5_1) = true := decide_eq_true c5
     clear c5
     obtain ⟨y553, hy553⟩ : ∃ y_ : List ByteArray, y_ = (x0_1.set (x5_1 : Int).toNat t552) := ⟨_, rfl⟩
     replace H : (laws_markStringS.l0 k1 y553 (wrap64 (x1_1 + 1)) (wrap64 (x5_1 + 1))) = some (r1, r2) := by first | (rw [hy553]; with_reducible exact H) | (have H2_ := (Option.bind_some _ _).symm.trans H; rw [hy553]; with_reducible exact H2_) | (have H2_ := (Option.bind_some _ _).symm.trans H; with_reducible exact H2_) | with_reducible exact H | (rw [hy553]; exact H) | exact H
     have Ny553 := Aside0.mk hy553
     clear hy553
     have H' := Aside0.mk H
     clear H
     obtain ⟨Ao7, co7, eo7⟩ := Kd.R_slice HO_0.out
     subst eo7
     go_wp2_with (first | ((with_reducible refine gateC (f := 98) rfl ?_); refine goesL_ (some 15) rfl rfl Try.func98 (by kernel_rfl) rfl #[.int .i64 x1_1] rfl zm ?_; (with_reducible refine (laws_markText.calls k1 x1_1 t552 _ A4.out).mono ?_); rintro e w8 ⟨rfl, hb⟩; refine ⟨_, rfl, ?_⟩; have n0_ := Aside0.mk (Kd.R_below (zr HO_0.out) hb); have n1_ := Aside0.mk (Kept.below (S := (fun k_ => P0_ k_)) (by repeat (first | (with_reducible first | exact HK.out | apply Kept.alloc | apply Kept.drewN | apply Kept.drew) | exact HK.out)) hb); have n2_ := Aside0.mk (below_step zb hb); clear HO_0; clear HK; clear HB; have HO_0 := n0_; have HK := n1_; have HB := n2_; clear n0_ n1_ n2_; (try clear hb); (try clear hb2); (try clear hk); (try clear hi); have p6 : 0 ≤ (x5_1 : Int) := oa; have q6 : (x5_1 : Int) < ((x0_1.length : Int) : Int) := oa; obtain ⟨go6, co6, eo6, gb6, gl6, cl6, HG6⟩ := Kd.R_form HO_0.out (by omega); (first | cases eo6 | (injection eo6 with ea_ en_ ec_; (first | subst ea_ | (injection ea_ with ea_; subst ea_)); subst ec_; clear en_)); have GB6 := Aside0.mk gb6; have GG6 := Aside0.mk HG6; clear gb6 gl6 HG6; have HMgo6 := Aside0.mk (show (P0_ go6 ∨ w.heap.size ≤ go6) from (HO_0.out.1 _ rfl)); obtain ⟨hx6_0, hf6_0⟩ := Kd.R_celln (⟨#[]⟩ : ByteArray) HO_0.out (x5_1 : Int) p6 q6; replace p6 := eq_true p6; replace q6 := eq_true q6; obtain ⟨hy9_, hz9_⟩ := Kd.R_celln (⟨#[]⟩ : ByteArray) HO_0.out (x5_1 : Int) oa oa; have HP9 := Kd.R_putg HO_0.out (x5_1 : Int) t552) | ((with_reducible refine gate_store (t := 9) (p := 16) rfl ?_); refine store_event (t := 9) (p := 16) (v := ?vo_w10) (w1 := (w8.setCell ⟨go6, (x5_1 : Int).toNat, none⟩ (.string t552))) ?hg ?ho ?hn ?hr ?_; (case ho => rfl); (case hg => rfl); (case hn => rfl); (case hr => first | (go_simp; done) | (go_simp; rfl)); intro w10 hw; have hg : w8.grownBy w10 (some go6) := (by rw [hw]; exact HP9.2); have hp_ : Kd.R Kd.string 9 w10 w0.heap.size (fun k_ => (P0_ k_ ∨ w.heap.size ≤ k_)) (.slice (some ⟨go6, 0, none⟩) x0_1.length co7) y553 := (by rw [hw, Ny553.out]; exact HP9.1); clear HP9; have n0_ := Aside0.mk (hp_); have n1_ := Aside0.mk ((by rw [hw]; exact below_set (HB.out) GB6.out : Below w0.heap.size w0 w10)); have n2_ := Aside0.mk (Kept.of_grown (S := (fun k_ => P0_ k_)) hg (by repeat (first | (with_reducible first | exact HK.out | apply Kept.alloc | apply Kept.drewN | apply Kept.drew) | exact HK.out)) (fun k_ e_ => (HO_0.out.1 k_ e_))); clear HO_0; clear HB; clear HK; have HO_0 := n0_; have HB := n1_; have HK := n2_; clear n0_ n1_ n2_; clear hg hw hp_))
     go_roundg k1
     case measure => have := HK1.out; omega
     case rel => exact ⟨(y553), (wrap64 (x1_1 + 1)), (wrap64 (x5_1 + 1)), zf, zf, H', ⟨by have := HK1.out; omega⟩, ⟨by (with_reducible repeat (first | apply Kd.R_alloc | apply Kd.R_drewN | apply Kd.R_drew)); exact HO_0.out⟩, ⟨by repeat (first | (with_reducible first | exact HK.out | apply Kept.alloc | apply Kept.drewN | apply Kept.drew) | exact HK.out)⟩, ⟨by repeat (first | (with_reducible first | exact HB.out | apply below_alloc | apply pw_below_drewN | apply below_drew1) | exact HB.out)⟩⟩
    ·rw [if_neg c5] at H
     exact absurd H (by simp)
   ·rw [if_neg c3] at H
    have c3b0 : decide (x5_1 < (x0_1.length : Int)) = false := decide_eq_false c3
    clear c3
    simp only [Option.some.injEq, Prod.mk.injEq] at H
    obtain ⟨rfl, rfl⟩ := H
    obtain ⟨Ao11, co11, eo11⟩ := Kd.R_slice HO_0.out
    subst eo11
    go_wp2
    go_ret
    exact ⟨by first | rfl | (simp [errW_none, errW_some] <;> rfl) | (simp [*, errW_none, errW_some] <;> rfl), by (with_reducible repeat (first | apply Kd.R_alloc | apply Kd.R_drewN | apply Kd.R_drew)); exact HO_0.out, by repeat (first | (with_reducible first | exact HB.out | apply below_alloc | apply pw_below_drewN | apply below_drew1) | exact HB.out), by repeat (first | (with_reducible first | exact HK.out | apply Kept.alloc | apply Kept.drewN | apply Kept.drew) | exact HK.out)⟩

end Go.Proofs.Ytcefenlblnediaa.My

/- Plain Lean, no program in sight: what holds from some number of rounds on, whole numbers that do not wrap, lists by an index. -/
namespace Go.Proofs.Ytcefenlblnediaa.Pl
open Go.RowKit Go.Proofs.YtcefenlblnediaaW.PrintWords Go.Proofs.YtcefenlblnediaaW.PrintLast
set_option linter.unusedVariables false
set_option linter.unusedSimpArgs false

section
variable {α β : Type}
theorem ev_pos {c : Prop} [Decidable c] {g g' : Nat → Option α} {r : α} (hc : c) (h : Ev g r) : Ev (fun k => if c then g k else g' k) r :=
  Ev.congr (fun _ => if_pos hc) h
theorem ev_neg {c : Prop} [Decidable c] {g g' : Nat → Option α} {r : α} (hc : ¬ c) (h : Ev g' r) : Ev (fun k => if c then g k else g' k) r :=
  Ev.congr (fun _ => if_neg hc) h
theorem ev_ite {c : Prop} [Decidable c] {g g' : Nat → Option α} {r : α} (h : c → Ev g r) (h' : ¬ c → Ev g' r) : Ev (fun k => if c then g k else g' k) r := by
  by_cases hc : c
  · exact ev_pos hc (h hc)
  · exact ev_neg hc (h' hc)
theorem ev_some {r r' : α} (h : r = r') : Ev (fun _ => some r) r' := h ▸ Ev.now r
theorem ev_const {o : Option α} {r : α} (h : o = some r) : Ev (fun _ => o) r := ⟨0, fun _ _ => h⟩
theorem ev_to {g : Nat → Option α} {r r' : α} (h : Ev g r) (e : r = r') : Ev g r' := e ▸ h
theorem ev_bind {g : Nat → Option α} {f : Nat → α → Option β} {a : α} {r : β} (h : Ev g a) (k : Ev (fun n => f n a) r) : Ev (fun n => (g n).bind fun t => f n t) r := Ev.bind h k
end

theorem wrap64_id {x : Int} (h : -9223372036854775808 ≤ x) (h' : x ≤ 9223372036854775807) : wrap64 x = x := by
  unfold wrap64
  omega
theorem wrap_succ (i : Nat) (h : i < 9223372036854775807) : wrap64 ((i : Int) + 1) = ((i + 1 : Nat) : Int) := by
  rw [wrap64_id (by omega) (by omega)]
  omega
theorem wrap_pred (n : Nat) (h0 : 0 < n) (h : n ≤ 9223372036854775807) : wrap64 ((n : Int) - 1) = ((n - 1 : Nat) : Int) := by
  rw [wrap64_id (by omega) (by omega)]
  omega
theorem wrap_sub (n m : Nat) (h0 : m ≤ n) (h : n ≤ 9223372036854775807) : wrap64 ((n : Int) - (m : Int)) = ((n - m : Nat) : Int) := by
  rw [wrap64_id (by omega) (by omega)]
  omega
theorem wrap_add (n m : Nat) (h : n + m ≤ 9223372036854775807) : wrap64 ((n : Int) + (m : Int)) = ((n + m : Nat) : Int) := by
  rw [wrap64_id (by omega) (by omega)]
  omega

theorem rdOf_nat {α : Type} (d : α) (xs : List α) (i : Nat) : rdOf d xs (i : Int) = xs.getD i d := rfl
theorem rd_nat (xs : List Int) (i : Nat) : rd xs (i : Int) = xs.getD i 0 := rfl
theorem getD_lt {α : Type} (xs : List α) (d : α) (i : Nat) (h : i < xs.length) : xs.getD i d = xs[i] := by
  simp [List.getD_eq_getElem?_getD, List.getElem?_eq_getElem h]
theorem rdOf_lt {α : Type} (d : α) (xs : List α) (i : Nat) (h : i < xs.length) : rdOf d xs (i : Int) = xs[i] := getD_lt xs d i h
theorem ba_ext {a b : ByteArray} (h : a.toList = b.toList) : a = b := by
  rw [Lib.toList_data, Lib.toList_data] at h
  cases a with | mk a => cases b with | mk b =>
  cases a with | mk a => cases b with | mk b =>
  simp_all
theorem ba_iff {a b : ByteArray} : a.toList = b.toList ↔ a = b := ⟨ba_ext, fun h => by rw [h]⟩
theorem drop_cons {α : Type} (xs : List α) (i : Nat) (h : i < xs.length) : xs.drop i = xs[i] :: xs.drop (i + 1) := List.drop_eq_getElem_cons h
theorem bt_nat (s : ByteArray) (i : Nat) (h : i < s.size) : bt s (i : Int) = ((s.data.toList[i]'(by rw [data_length]; exact h)).toNat : Int) := by
  unfold bt
  rw [dif_pos (by simpa using h)]
  simp [ByteArray.getElem_eq_getElem_data]
theorem u8_eq {b c : UInt8} (h : (b.toNat : Int) = (c.toNat : Int)) : b = c := UInt8.toNat_inj.1 (by omega)
theorem u8_ne {b c : UInt8} (h : ¬ (b.toNat : Int) = (c.toNat : Int)) : ¬ c = b := fun e => h (by rw [e])
end Go.Proofs.Ytcefenlblnediaa.Pl

/- Plain Lean: texts that fit. No condition. -/
namespace Go.Proofs.Ytcefenlblnediaa.Pl
open Go.RowKit Go.Proofs.YtcefenlblnediaaW.PrintWords Go.Proofs.YtcefenlblnediaaW.PrintLast
set_option linter.unusedVariables false
set_option linter.unusedSimpArgs false
/-- What came in fits. -/
def FitS (l : List ByteArray) : Prop := l.length ≤ 9223372036854775807 ∧ ∀ s ∈ l, s.size ≤ 9223372036854775807
end Go.Proofs.Ytcefenlblnediaa.Pl

/- Plain Lean: what the laws' own helpers on lists of strings come to. Conditions: lengths and sizes below 2^63. -/
namespace Go.Proofs.Ytcefenlblnediaa.Pl
open Go.RowKit Go.Proofs.YtcefenlblnediaaW.PrintWords Go.Proofs.YtcefenlblnediaaW.PrintLast Go.Proofs.Ytcefenlblnediaa.My
set_option linter.unusedVariables false
set_option linter.unusedSimpArgs false

def sumS (l : List ByteArray) : Nat := (l.map ByteArray.size).sum
def szS (l : List ByteArray) : Nat := l.length + sumS l

theorem sumS_drop (l : List ByteArray) (i : Nat) (h : i < l.length) : sumS (l.drop i) = l[i].size + sumS (l.drop (i + 1)) := by
  unfold sumS
  rw [List.drop_eq_getElem_cons h, List.map_cons, List.sum_cons]

theorem sumS_mem (l : List ByteArray) (s : ByteArray) (h : s ∈ l) : s.size ≤ sumS l := by
  unfold sumS
  induction l with
  | nil => simp at h
  | cons a l ih =>
    simp only [List.map_cons, List.sum_cons]
    rcases List.mem_cons.1 h with rfl | h
    · omega
    · have := ih h
      omega

theorem fitS_of_sz {l : List ByteArray} (h : szS l ≤ 9223372036854775807) : FitS l := by
  unfold szS at h
  exact ⟨by omega, fun s hs => by have := sumS_mem l s hs; omega⟩

theorem fitS_of_wl {l : List ByteArray} (h : WL Wstr l) : FitS l := by
  unfold WL Wstr maxLen at h
  exact h

/-- What is left of so many letters and values. -/
def leftOf (a : Int) (n : Nat) (r : Int) : Prop := r < 0 ∨ (0 ≤ r ∧ r + n = a)

theorem szStringS_l0 (l : List ByteArray) (hf : FitS l) : ∀ d i (a : Int), i + d = l.length → 0 ≤ a → a ≤ 1048576 → ∃ r, Ev (fun k => laws_szStringS.l0 k l a (i : Int)) r ∧ leftOf a (sumS (l.drop i)) r := by
  intro d
  have hL := hf.1
  induction d with
  | zero =>
    intro i a hi h0 h1
    refine ⟨a, Ev.step (fun k => laws_szStringS.l0.eq_2 ..) (ev_neg (by omega) (ev_some rfl)), .inr ⟨h0, ?_⟩⟩
    rw [List.drop_of_length_le (by omega)]
    simp [sumS]
  | succ d ih =>
    intro i a hi h0 h1
    have hlt : i < l.length := by omega
    have hs := hf.2 _ (List.getElem_mem hlt)
    rw [sumS_drop l i hlt]
    by_cases h : a - (l[i].size : Int) < 0
    · refine ⟨-1, Ev.step (fun k => laws_szStringS.l0.eq_2 ..) (ev_pos (by omega) (ev_pos (by omega) (ev_pos ?_ (ev_some rfl)))), .inl (by omega)⟩
      rw [rdOf_lt _ _ _ hlt, wrap64_id (by omega) (by omega)]
      exact h
    · obtain ⟨r, hr, hl⟩ := ih (i + 1) (a - (l[i].size : Int)) (by omega) (by omega) (by omega)
      refine ⟨r, Ev.step (fun k => laws_szStringS.l0.eq_2 ..) (ev_pos (by omega) (ev_pos (by omega) (ev_neg ?_ ?_))), ?_⟩
      · rw [rdOf_lt _ _ _ hlt, wrap64_id (by omega) (by omega)]
        exact h
      · rw [rdOf_lt _ _ _ hlt, wrap64_id (by omega) (by omega), wrap_succ i (by omega)]
        exact hr
      · rcases hl with hl | hl
        · exact .inl hl
        · exact .inr (by omega)

theorem szStringS_ev (l : List ByteArray) (hf : FitS l) (a : Int) (h0 : 0 ≤ a) (h1 : a ≤ 1048576) : ∃ r, Ev (fun k => laws_szStringS.f k l a) r ∧ leftOf a (szS l) r := by
  have hL := hf.1
  simp only [laws_szStringS.f]
  rw [wrap64_id (by omega) (by omega)]
  by_cases h : a - (l.length : Int) < 0
  · exact ⟨-1, ev_pos h (ev_some rfl), .inl (by omega)⟩
  · obtain ⟨r, hr, hl⟩ := szStringS_l0 l hf l.length 0 (a - (l.length : Int)) (by omega) (by omega) (by omega)
    refine ⟨r, ev_neg h hr, ?_⟩
    rcases hl with hl | hl
    · exact .inl hl
    · rw [List.drop_zero] at hl
      exact .inr (by unfold szS; omega)

theorem toStringS_l0 (l : List ByteArray) (hL : l.length ≤ 17592186044416) : ∀ d i (o : List ByteArray), i + d = l.length → o.length = l.length → o.take i = l.take i → Ev (fun k => laws_toStringS.l0 k l o (i : Int)) l := by
  intro d
  induction d with
  | zero =>
    intro i o hi hl ht
    refine Ev.step (fun k => laws_toStringS.l0.eq_2 ..) (ev_neg (by omega) (ev_some ?_))
    rw [List.take_of_length_le (by omega), List.take_of_length_le (by omega)] at ht
    exact ht
  | succ d ih =>
    intro i o hi hl ht
    have hlt : i < l.length := by omega
    refine Ev.step (fun k => laws_toStringS.l0.eq_2 ..) (ev_pos (by omega) (ev_pos (by omega) (ev_pos (by omega) ?_)))
    rw [wrap_succ i (by omega), Int.toNat_natCast, rdOf_lt _ _ _ hlt]
    refine ih (i + 1) _ (by omega) (by rw [List.length_set]; exact hl) ?_
    rw [List.take_succ_eq_append_getElem (by rw [List.length_set]; omega), List.take_succ_eq_append_getElem hlt, List.getElem_set_self, List.take_set_of_le (Nat.le_refl i), ht]

theorem toStringS_ev (l : List ByteArray) (hL : l.length ≤ 17592186044416) : Ev (fun k => laws_toStringS.f k l) l := by
  simp only [laws_toStringS.f]
  refine ev_pos (by omega) (ev_pos (by omega) ?_)
  exact toStringS_l0 l hL l.length 0 _ (by omega) (by simp) rfl

theorem eqStringS_l0 (a b : List ByteArray) (hab : a.length = b.length) (hL : a.length ≤ 9223372036854775807) : ∀ d i, i + d = a.length → Ev (fun k => laws_eqStringS.l0 k a b (i : Int)) (decide (a.drop i = b.drop i)) := by
  intro d
  induction d with
  | zero =>
    intro i hi
    refine Ev.step (fun k => laws_eqStringS.l0.eq_2 ..) (ev_neg (by omega) (ev_some ?_))
    rw [List.drop_of_length_le (by omega), List.drop_of_length_le (by omega)]
    simp
  | succ d ih =>
    intro i hi
    have h1 : i < a.length := by omega
    have h2 : i < b.length := by omega
    refine Ev.step (fun k => laws_eqStringS.l0.eq_2 ..) (ev_pos (by omega) (ev_pos (by omega) (ev_pos (by omega) ?_)))
    rw [rdOf_lt _ _ _ h1, rdOf_lt _ _ _ h2, drop_cons a i h1, drop_cons b i h2]
    refine ev_ite (fun h => ?_) (fun h => ev_some ?_)
    · rw [wrap_succ i (by omega)]
      refine ev_to (ih (i + 1) (by omega)) ?_
      rw [ba_ext h]
      simp only [List.cons.injEq, true_and]
    · have : ¬ a[i] = b[i] := fun e => h (by rw [e])
      simp only [List.cons.injEq, this, false_and, decide_false]

theorem eqStringS_ev (a b : List ByteArray) (hL : a.length ≤ 9223372036854775807) : Ev (fun k => laws_eqStringS.f k a b) (decide (a = b)) := by
  simp only [laws_eqStringS.f]
  refine ev_ite (fun h => ?_) (fun h => ev_some ?_)
  · exact eqStringS_l0 a b (by omega) hL a.length 0 (by omega)
  · have : ¬ a = b := fun e => h (by rw [e])
    simp [this]
end Go.Proofs.Ytcefenlblnediaa.Pl

/- Plain Lean: the marks by which the laws see whether memory is shared. Conditions: lengths below 2^40. -/
namespace Go.Proofs.Ytcefenlblnediaa.Pl
open Go.RowKit Go.Proofs.YtcefenlblnediaaW.PrintWords Go.Proofs.YtcefenlblnediaaW.PrintLast Go.Proofs.Ytcefenlblnediaa.My
set_option linter.unusedVariables false
set_option linter.unusedSimpArgs false

theorem strOfNums_size (l : List Int) : (strOfNums l).size = l.length := by
  unfold strOfNums
  rw [← data_length]
  simp

theorem tdiv10 (n : Int) (h : 0 ≤ n) : Int.tdiv n 10 = n / 10 := by
  rw [Int.tdiv_eq_ediv_of_nonneg h]

theorem markText_l0 : ∀ (d : Nat) (n : Int) (t : ByteArray), 0 ≤ n → n.toNat ≤ d → n ≤ 4611686018427387904 → t.size + n.toNat ≤ 4611686018427387905 → ∃ r, Ev (fun k => laws_markText.l0 k n t) r := by
  intro d
  induction d with
  | zero =>
    intro n t h0 hd h1 h2
    exact ⟨_, Ev.step (fun k => laws_markText.l0.eq_2 ..) (ev_neg (by omega) (ev_pos (by omega) (ev_some rfl)))⟩
  | succ d ih =>
    intro n t h0 hd h1 h2
    by_cases h : 0 < n
    · have e : wrap64 (Int.tdiv n 10) = n / 10 := by rw [tdiv10 n h0, wrap64_id (by omega) (by omega)]
      obtain ⟨r, hr⟩ := ih (n / 10) (strOfNums [(wrap64 (48 + (Int.tmod n 10))) % 256] ++ t) (by omega) (by omega) (by omega) (by
        rw [ByteArray.size_append, strOfNums_size, List.length_singleton]
        omega)
      refine ⟨r, Ev.step (fun k => laws_markText.l0.eq_2 ..) (ev_pos h ?_)⟩
      simp only [Option.bind_some]
      refine ev_pos ?_ ?_
      · rw [strOfNums_size, List.length_singleton]
        omega
      · rw [e]
        exact hr
    · exact ⟨_, Ev.step (fun k => laws_markText.l0.eq_2 ..) (ev_neg (by omega) (ev_pos (by omega) (ev_some rfl)))⟩

theorem markText_some (n : Int) (h0 : 0 ≤ n) (h1 : n ≤ 4611686018427387904) : ∃ r, Ev (fun k => laws_markText.f k n) r := by
  simp only [laws_markText.f]
  by_cases h : n ≤ 0
  · exact ⟨_, ev_pos h (ev_some rfl)⟩
  · obtain ⟨r, hr⟩ := markText_l0 n.toNat n ⟨#[]⟩ h0 (Nat.le_refl _) h1 (by
      show (0 : Nat) + n.toNat ≤ _
      omega)
    exact ⟨r, ev_neg h hr⟩

/-- The mark of a number. -/
noncomputable def mark (n : Nat) : ByteArray := open Classical in if h : ∃ r, Ev (fun k => laws_markText.f k (n : Int)) r then h.choose else ⟨#[]⟩
theorem mark_ev (n : Nat) (h : n ≤ 4611686018427387904) : Ev (fun k => laws_markText.f k (n : Int)) (mark n) := by
  have hs := markText_some (n : Int) (by omega) (by omega)
  unfold mark
  rw [dif_pos hs]
  exact hs.choose_spec

/-- So many marks from one on. -/
noncomputable def marks (m n : Nat) : List ByteArray := (List.range n).map fun i => mark (m + i)
theorem marks_length (m n : Nat) : (marks m n).length = n := by simp [marks]
theorem marks_get (m n i : Nat) (h : i < n) : (marks m n)[i]'(by rw [marks_length]; exact h) = mark (m + i) := by simp [marks]

theorem markStringS_l0 (n m : Nat) (hn : n ≤ 1099511627776) (hm : m ≤ 1099511627776) : ∀ d i (o : List ByteArray), i + d = n → o.length = n → o.take i = (marks m n).take i →
    Ev (fun k => laws_markStringS.l0 k o ((m + i : Nat) : Int) (i : Int)) (((m + n : Nat) : Int), marks m n) := by
  intro d
  induction d with
  | zero =>
    intro i o hi hl ht
    refine Ev.step (fun k => laws_markStringS.l0.eq_2 ..) (ev_neg (by omega) (ev_some ?_))
    rw [List.take_of_length_le (by omega), List.take_of_length_le (by rw [marks_length]; omega)] at ht
    rw [ht, show i = n from by omega]
  | succ d ih =>
    intro i o hi hl ht
    refine Ev.step (fun k => laws_markStringS.l0.eq_2 ..) (ev_pos (by omega) (ev_bind (mark_ev (m + i) (by omega)) (ev_pos (by omega) ?_)))
    rw [wrap_succ i (by omega), wrap_succ (m + i) (by omega), Int.toNat_natCast]
    refine ih (i + 1) _ (by omega) (by rw [List.length_set]; exact hl) ?_
    rw [List.take_succ_eq_append_getElem (by rw [List.length_set]; omega), List.take_succ_eq_append_getElem (by rw [marks_length]; omega), List.getElem_set_self, List.take_set_of_le (Nat.le_refl i), ht, marks_get m n i (by omega)]

theorem markStringS_ev (l : List ByteArray) (m : Nat) (hn : l.length ≤ 1099511627776) (hm : m ≤ 1099511627776) : Ev (fun k => laws_markStringS.f k l (m : Int)) (((m + l.length : Nat) : Int), marks m l.length) := by
  simp only [laws_markStringS.f]
  exact markStringS_l0 l.length m hn hm l.length 0 l (by omega) rfl rfl

end Go.Proofs.Ytcefenlblnediaa.Pl

/- Plain Lean: what the laws' helpers on steps come to, and whether steps are the same. Conditions: lengths and sizes below 2^63. -/
namespace Go.Proofs.Ytcefenlblnediaa.Pl
open Go.RowKit Go.Proofs.YtcefenlblnediaaW.PrintWords Go.Proofs.YtcefenlblnediaaW.PrintLast Go.Proofs.Ytcefenlblnediaa.My
set_option linter.unusedVariables false
set_option linter.unusedSimpArgs false

abbrev LT := S140
abbrev IT := S144
def toT (x : LT) : IT := ⟨x.f0, x.f1, x.f2, x.f3, x.f4, x.f5⟩
def szOne (x : LT) : Nat := szS x.f2 + szS x.f5
def FitT (l : List LT) : Prop := l.length ≤ 9223372036854775807 ∧ ∀ x ∈ l, Wint x.f0 ∧ Wint x.f1 ∧ FitS x.f2 ∧ Wint x.f3 ∧ Wint x.f4 ∧ FitS x.f5
def szT (l : List LT) : Nat := l.length + (l.map szOne).sum

theorem fitT_of_wl {l : List LT} (h : WL W140 l) : FitT l := by
  refine ⟨h.1, fun x hx => ?_⟩
  obtain ⟨h0, h1, h2, h3, h4, h5⟩ := h.2 x hx
  exact ⟨h0, h1, fitS_of_wl h2, h3, h4, fitS_of_wl h5⟩

theorem sumT_drop (l : List LT) (i : Nat) (h : i < l.length) : ((l.drop i).map szOne).sum = szOne l[i] + ((l.drop (i + 1)).map szOne).sum := by
  rw [List.drop_eq_getElem_cons h, List.map_cons, List.sum_cons]

theorem sumT_mem (l : List LT) (x : LT) (h : x ∈ l) : szOne x ≤ szT l := by
  unfold szT
  induction l with
  | nil => simp at h
  | cons a l ih =>
    simp only [List.map_cons, List.sum_cons, List.length_cons]
    rcases List.mem_cons.1 h with rfl | h
    · omega
    · have := ih h
      omega

theorem rdLT (l : List LT) (i : Nat) (h : i < l.length) : rd_T140 l (i : Int) = l[i] := getD_lt l _ i h
theorem rdIT (l : List IT) (i : Nat) (h : i < l.length) : rd_T144 l (i : Int) = l[i] := getD_lt l _ i h

theorem szStepS_l0 (l : List LT) (hf : FitT l) : ∀ d i (a : Int), i + d = l.length → 0 ≤ a → a ≤ 1048576 → ∃ r, Ev (fun k => laws_szStepS.l0 k l a (i : Int)) r ∧ leftOf a (((l.drop i).map szOne).sum) r := by
  intro d
  have hL := hf.1
  induction d with
  | zero =>
    intro i a hi h0 h1
    refine ⟨a, Ev.step (fun k => laws_szStepS.l0.eq_2 ..) (ev_neg (by omega) (ev_some rfl)), .inr ⟨h0, ?_⟩⟩
    rw [List.drop_of_length_le (by omega)]
    simp
  | succ d ih =>
    intro i a hi h0 h1
    have hlt : i < l.length := by omega
    have hfx := hf.2 _ (List.getElem_mem hlt)
    have hone : ∃ q, Ev (fun k => laws_szStep.f k l[i].f0 l[i].f1 l[i].f2 l[i].f3 l[i].f4 l[i].f5 a) q ∧ leftOf a (szOne l[i]) q := by
      obtain ⟨q, hq, hm⟩ := szStringS_ev l[i].f2 hfx.2.2.1 a h0 h1
      simp only [laws_szStep.f]
      unfold szOne
      by_cases c : q < 0
      · exact ⟨-1, ev_bind hq (ev_pos c (ev_some rfl)), by rcases hm with hm | hm <;> unfold leftOf <;> omega⟩
      · obtain ⟨p, hp, hn⟩ := szStringS_ev l[i].f5 hfx.2.2.2.2.2 q (by omega) (by rcases hm with hm | hm <;> omega)
        by_cases c' : p < 0
        · exact ⟨-1, ev_bind hq (ev_neg c (ev_bind hp (ev_pos c' (ev_some rfl)))), by rcases hm with hm | hm <;> rcases hn with hn | hn <;> unfold leftOf <;> omega⟩
        · exact ⟨p, ev_bind hq (ev_neg c (ev_bind hp (ev_neg c' (ev_some rfl)))), by rcases hm with hm | hm <;> rcases hn with hn | hn <;> unfold leftOf <;> omega⟩
    obtain ⟨q, hq, hm⟩ := hone
    rw [sumT_drop l i hlt]
    have hz : Ev (fun k => laws_szStep.f k (rd_T140 l (i : Int)).f0 (rd_T140 l (i : Int)).f1 (rd_T140 l (i : Int)).f2 (rd_T140 l (i : Int)).f3 (rd_T140 l (i : Int)).f4 (rd_T140 l (i : Int)).f5 a) q := by
      rw [rdLT l i hlt]
      exact hq
    by_cases h : q < 0
    · exact ⟨-1, Ev.step (fun k => laws_szStepS.l0.eq_2 ..) (ev_pos (by omega) (ev_pos (by omega) (ev_bind hz (ev_pos h (ev_some rfl))))), .inl (by rcases hm with hm | hm <;> omega)⟩
    · obtain ⟨r, hr, hl⟩ := ih (i + 1) q (by omega) (by omega) (by rcases hm with hm | hm <;> omega)
      refine ⟨r, Ev.step (fun k => laws_szStepS.l0.eq_2 ..) (ev_pos (by omega) (ev_pos (by omega) (ev_bind hz (ev_neg h ?_)))), ?_⟩
      · rw [wrap_succ i (by omega)]
        exact hr
      · rcases hl with hl | hl
        · exact .inl hl
        · rcases hm with hm | hm
          · omega
          · exact .inr (by omega)

theorem szStepS_ev (l : List LT) (hf : FitT l) (a : Int) (h0 : 0 ≤ a) (h1 : a ≤ 1048576) : ∃ r, Ev (fun k => laws_szStepS.f k l a) r ∧ leftOf a (szT l) r := by
  have hL := hf.1
  simp only [laws_szStepS.f]
  rw [wrap64_id (by omega) (by omega)]
  by_cases h : a - (l.length : Int) < 0
  · exact ⟨-1, ev_pos h (ev_some rfl), .inl (by omega)⟩
  · obtain ⟨r, hr, hl⟩ := szStepS_l0 l hf l.length 0 (a - (l.length : Int)) (by omega) (by omega) (by omega)
    refine ⟨r, ev_neg h hr, ?_⟩
    rcases hl with hl | hl
    · exact .inl hl
    · rw [List.drop_zero] at hl
      exact .inr (by unfold szT; omega)

/-- Small enough to be copied. -/
def SmallT (l : List LT) : Prop := l.length ≤ 1048576 ∧ ∀ x ∈ l, x.f2.length ≤ 1048576 ∧ x.f5.length ≤ 1048576
theorem smallT {l : List LT} (h : szT l ≤ 1048576) : SmallT l := by
  refine ⟨by unfold szT at h; omega, fun x hx => ?_⟩
  have := sumT_mem l x hx
  unfold szOne szS at this
  omega

theorem toStepS_l0 (l : List LT) (hs : SmallT l) : ∀ d i (o : List IT), i + d = l.length → o.length = l.length → o.take i = (l.map toT).take i → Ev (fun k => laws_toStepS.l0 k l o (i : Int)) (l.map toT) := by
  intro d
  have hL := hs.1
  induction d with
  | zero =>
    intro i o hi hl ht
    refine Ev.step (fun k => laws_toStepS.l0.eq_2 ..) (ev_neg (by omega) (ev_some ?_))
    rw [List.take_of_length_le (by omega), List.take_of_length_le (by rw [List.length_map]; omega)] at ht
    exact ht
  | succ d ih =>
    intro i o hi hl ht
    have hlt : i < l.length := by omega
    have hx : Ev (fun k => laws_toStep.f k (rd_T140 l (i : Int)).f0 (rd_T140 l (i : Int)).f1 (rd_T140 l (i : Int)).f2 (rd_T140 l (i : Int)).f3 (rd_T140 l (i : Int)).f4 (rd_T140 l (i : Int)).f5) (l[i].f0, l[i].f1, l[i].f2, l[i].f3, l[i].f4, l[i].f5) := by
      have hs2 := hs.2 _ (List.getElem_mem hlt)
      rw [rdLT l i hlt]
      simp only [laws_toStep.f]
      exact ev_bind (toStringS_ev _ (by omega)) (ev_bind (toStringS_ev _ (by omega)) (ev_some rfl))
    refine Ev.step (fun k => laws_toStepS.l0.eq_2 ..) (ev_pos (by omega) (ev_pos (by omega) (ev_bind hx (ev_pos (by omega) ?_))))
    rw [wrap_succ i (by omega), Int.toNat_natCast]
    refine ih (i + 1) _ (by omega) (by rw [List.length_set]; exact hl) ?_
    rw [List.take_succ_eq_append_getElem (by rw [List.length_set]; omega), List.take_succ_eq_append_getElem (by rw [List.length_map]; exact hlt), List.getElem_set_self, List.take_set_of_le (Nat.le_refl i), ht, List.getElem_map]
    rfl

theorem toStepS_ev (l : List LT) (hs : SmallT l) : Ev (fun k => laws_toStepS.f k l) (l.map toT) := by
  have hL := hs.1
  simp only [laws_toStepS.f]
  refine ev_pos (by omega) (ev_pos (by omega) ?_)
  exact toStepS_l0 l hs l.length 0 _ (by omega) (by simp) rfl

theorem it_ext {x y : IT} (h0 : x.f0 = y.f0) (h1 : x.f1 = y.f1) (h2 : x.f2 = y.f2) (h3 : x.f3 = y.f3) (h4 : x.f4 = y.f4) (h5 : x.f5 = y.f5) : x = y := by
  cases x; cases y; simp_all
/-- Steps' lines fit. -/
def FitIT (l : List IT) : Prop := l.length ≤ 9223372036854775807 ∧ ∀ x ∈ l, FitS x.f2 ∧ FitS x.f5
theorem fitIT_of {l : List LT} (h : FitT l) : FitIT (l.map toT) := by
  refine ⟨by rw [List.length_map]; exact h.1, fun x hx => ?_⟩
  obtain ⟨y, hy, rfl⟩ := List.mem_map.1 hx
  obtain ⟨h0, h1, h2, h3, h4, h5⟩ := h.2 y hy
  exact ⟨h2, h5⟩
instance : DecidableEq IT := fun x y => decidable_of_iff (x.f0 = y.f0 ∧ x.f1 = y.f1 ∧ x.f2 = y.f2 ∧ x.f3 = y.f3 ∧ x.f4 = y.f4 ∧ x.f5 = y.f5) ⟨fun ⟨a, b, c, d, e, f⟩ => it_ext a b c d e f, fun h => by rw [h]; exact ⟨rfl, rfl, rfl, rfl, rfl, rfl⟩⟩
theorem eqStep_ev (x y : IT) (h : FitS x.f2 ∧ FitS x.f5) : Ev (fun k => laws_eqStep.f k x.f0 x.f1 x.f2 x.f3 x.f4 x.f5 y.f0 y.f1 y.f2 y.f3 y.f4 y.f5) (decide (x = y)) := by
  simp only [laws_eqStep.f]
  have no : ¬ x = y → Ev (fun _ => some false) (decide (x = y)) := fun hn => ev_some (by rw [decide_eq_false hn])
  refine ev_ite (fun h0 => ev_ite (fun h1 => ev_bind (eqStringS_ev _ _ h.1.1) (ev_ite (fun h2 => ev_ite (fun h3 => ev_ite (fun h4 => ev_bind (eqStringS_ev _ _ h.2.1) (ev_ite (fun h5 => ev_some ?_) (fun h5 => no ?_))) (fun h4 => no ?_)) (fun h3 => no ?_)) (fun h2 => no ?_))) (fun h1 => no ?_)) (fun h0 => no ?_)
  · rw [decide_eq_true (it_ext h0 h1 (of_decide_eq_true h2) h3 h4 (of_decide_eq_true h5))]
  · exact fun e => h5 (by rw [e]; simp)
  · exact fun e => h4 (by rw [e])
  · exact fun e => h3 (by rw [e])
  · exact fun e => h2 (by rw [e]; simp)
  · exact fun e => h1 (by rw [e])
  · exact fun e => h0 (by rw [e])

theorem eqStepS_l0 (a b : List IT) (hab : a.length = b.length) (hf : FitIT a) : ∀ d i, i + d = a.length → Ev (fun k => laws_eqStepS.l0 k a b (i : Int)) (decide (a.drop i = b.drop i)) := by
  intro d
  have hL := hf.1
  induction d with
  | zero =>
    intro i hi
    refine Ev.step (fun k => laws_eqStepS.l0.eq_2 ..) (ev_neg (by omega) (ev_some ?_))
    rw [List.drop_of_length_le (by omega), List.drop_of_length_le (by omega)]
    simp
  | succ d ih =>
    intro i hi
    have h1 : i < a.length := by omega
    have h2 : i < b.length := by omega
    refine Ev.step (fun k => laws_eqStepS.l0.eq_2 ..) (ev_pos (by omega) (ev_pos (by omega) (ev_pos (by omega) ?_)))
    simp only [rdIT _ _ h1, rdIT _ _ h2, drop_cons a i h1, drop_cons b i h2]
    refine ev_bind (eqStep_ev _ _ (hf.2 _ (List.getElem_mem h1))) (ev_ite (fun h => ?_) (fun h => ev_some ?_))
    · rw [wrap_succ i (by omega)]
      refine ev_to (ih (i + 1) (by omega)) ?_
      rw [of_decide_eq_true h]
      simp only [List.cons.injEq, true_and]
    · have : ¬ a[i] = b[i] := fun e => h (decide_eq_true e)
      simp only [List.cons.injEq, this, false_and, decide_false]

theorem eqStepS_ev (a b : List IT) (hf : FitIT a) : Ev (fun k => laws_eqStepS.f k a b) (decide (a = b)) := by
  simp only [laws_eqStepS.f]
  refine ev_ite (fun h => ?_) (fun h => ev_some ?_)
  · exact eqStepS_l0 a b (by omega) hf a.length 0 (by omega)
  · have : ¬ a = b := fun e => h (by rw [e])
    simp [this]
end Go.Proofs.Ytcefenlblnediaa.Pl

/- The marking of steps: what it writes, and that it writes nothing else. Asked: that the steps are made rows, few enough. -/
namespace Go.Proofs.Ytcefenlblnediaa.My
open Go.RowKit Go.Proofs.YtcefenlblnediaaW.PrintWords Go.Proofs.YtcefenlblnediaaW.PrintLast Go.Proofs.YtcefenlblnediaaW.PrintMore Go.Proofs.Ytcefenlblnediaa.Pl
set_option linter.unusedVariables false
set_option linter.unusedSimpArgs false

noncomputable def mkT (x : IT) (m : Nat) : IT := ⟨(m : Int), wrap64 ((m : Int) + 1), marks (m + 2) x.f2.length, ((m + 2 + x.f2.length : Nat) : Int), wrap64 (((m + 2 + x.f2.length : Nat) : Int) + 1), marks (m + 2 + x.f2.length + 2) x.f5.length⟩
noncomputable def mkTs : List IT → Nat → List IT
  | [], _ => []
  | x :: t, m => mkT x m :: mkTs t (m + 2 + x.f2.length + 2 + x.f5.length)
def endT : List IT → Nat → Nat
  | [], m => m
  | x :: t, m => endT t (m + 2 + x.f2.length + 2 + x.f5.length)
theorem endT_ge : ∀ (l : List IT) (m : Nat), m ≤ endT l m
  | [], _ => Nat.le_refl _
  | x :: t, m => by have := endT_ge t (m + 2 + x.f2.length + 2 + x.f5.length); simp only [endT]; omega
theorem mkT_step {l xs : List IT} {m mm i : Nat} (h : i < xs.length) (h1 : endT (xs.drop i) mm = endT l m) (h2 : xs.take i ++ mkTs (xs.drop i) mm = mkTs l m) :
    mm + 2 + xs[i].f2.length + 2 + xs[i].f5.length ≤ endT l m ∧ endT ((xs.set i (mkT xs[i] mm)).drop (i + 1)) (mm + 2 + xs[i].f2.length + 2 + xs[i].f5.length) = endT l m ∧ (xs.set i (mkT xs[i] mm)).take (i + 1) ++ mkTs ((xs.set i (mkT xs[i] mm)).drop (i + 1)) (mm + 2 + xs[i].f2.length + 2 + xs[i].f5.length) = mkTs l m := by
  rw [List.drop_eq_getElem_cons h] at h1 h2
  simp only [endT, mkTs] at h1 h2
  have := endT_ge (xs.drop (i + 1)) (mm + 2 + xs[i].f2.length + 2 + xs[i].f5.length)
  rw [List.drop_set_of_lt (by omega), List.take_succ_eq_append_getElem (by rw [List.length_set]; exact h), List.getElem_set_self, List.take_set_of_le (Nat.le_refl i), List.append_assoc]
  exact ⟨by omega, h1, h2⟩

/-- At a round's begin. -/
def MkTInv (l : List IT) (m : Nat) (xs : List IT) (x5 : Int) (mm kq : Nat) : Prop := 0 ≤ x5 ∧ x5.toNat + kq = l.length ∧ xs.length = l.length ∧ endT (xs.drop x5.toNat) mm = endT l m ∧ xs.take x5.toNat ++ mkTs (xs.drop x5.toNat) mm = mkTs l m
theorem MkTInv.start (l : List IT) (m : Nat) : MkTInv l m l 0 m l.length := ⟨by omega, by simp, rfl, rfl, rfl⟩
theorem wrT (mm n E : Nat) (h : mm + 2 + n ≤ E) (hE : E ≤ 1099511627776) : wrap64 (wrap64 ((mm : Int) + 1) + 1) = ((mm + 2 : Nat) : Int) := by rw [wrap_succ mm (by omega), wrap_succ (mm + 1) (by omega)]
theorem leT_a (mm n2 n5 E : Nat) (h : mm + 2 + n2 + 2 + n5 ≤ E) (hE : E ≤ 1099511627776) : n2 ≤ 1099511627776 ∧ mm + 2 ≤ 1099511627776 ∧ n5 ≤ 1099511627776 ∧ mm + 2 + n2 + 2 ≤ 1099511627776 ∧ mm + 2 + n2 ≤ E ∧ mm + 2 + n2 + 2 + n5 ≤ E := by omega
theorem MkTInv.step {l xs : List IT} {m mm kq : Nat} {x5 : Int} (h : MkTInv l m xs x5 mm kq) (hm : endT l m ≤ 1099511627776) (hL : l.length ≤ 1099511627776) (hi : x5 < (l.length : Int)) :
    ∃ k1, kq = k1 + 1 ∧ ∃ kk mm2 mm3, laws_markStringS.f kk (xs.getD x5.toNat z144).f2 (wrap64 (wrap64 ((mm : Int) + 1) + 1)) = some (((mm2 : Nat) : Int), marks (mm + 2) (xs.getD x5.toNat z144).f2.length) ∧
      laws_markStringS.f kk (xs.getD x5.toNat z144).f5 (wrap64 (wrap64 ((mm2 : Int) + 1) + 1)) = some (((mm3 : Nat) : Int), marks (mm2 + 2) (xs.getD x5.toNat z144).f5.length) ∧ mm2 = mm + 2 + (xs.getD x5.toNat z144).f2.length ∧
      MkTInv l m (xs.set x5.toNat (mkT (xs.getD x5.toNat z144) mm)) (wrap64 (x5 + 1)) mm3 k1 := by
  obtain ⟨h0, h1, h2, h3, h4⟩ := h
  have hxi : x5.toNat < xs.length := by omega
  have hgx : xs.getD x5.toNat z144 = xs[x5.toNat] := by rw [List.getD_eq_getElem?_getD, List.getElem?_eq_getElem hxi]; rfl
  obtain ⟨q1, q2, q3⟩ := mkT_step hxi h3 h4
  obtain ⟨b1, b2, b3, b4, b5, b6⟩ := leT_a _ _ _ _ q1 hm
  have ew := wrT mm _ _ b5 hm
  have ew2 := wrT (mm + 2 + xs[x5.toNat].f2.length) _ _ b6 hm
  obtain ⟨kk, hkk⟩ := markStringS_ev xs[x5.toNat].f2 (mm + 2) b1 b2
  obtain ⟨kk2, hkk2⟩ := markStringS_ev xs[x5.toNat].f5 (mm + 2 + xs[x5.toNat].f2.length + 2) b3 b4
  rw [hgx, ew]
  refine ⟨kq - 1, by omega, kk + kk2, mm + 2 + xs[x5.toNat].f2.length, mm + 2 + xs[x5.toNat].f2.length + 2 + xs[x5.toNat].f5.length, hkk _ (Nat.le_add_right _ _), ?_, rfl, ?_⟩
  · rw [ew2]
    exact hkk2 _ (Nat.le_add_left _ _)
  have e5 : wrap64 (x5 + 1) = x5 + 1 := wrap64_id (by omega) (by omega)
  have e6 : (x5 + 1).toNat = x5.toNat + 1 := by omega
  rw [e5]
  refine ⟨by omega, by omega, by rw [List.length_set]; exact h2, ?_, ?_⟩
  · rw [e6]; exact q2
  · rw [e6]; exact q3
theorem MkTInv.last {l xs : List IT} {m mm kq : Nat} {x5 : Int} (h : MkTInv l m xs x5 mm kq) (hi : ¬ x5 < (l.length : Int)) : mm = endT l m ∧ xs = mkTs l m := by
  obtain ⟨h0, h1, h2, h3, h4⟩ := h
  rw [List.drop_of_length_le (by omega)] at h3 h4
  rw [List.take_of_length_le (by omega)] at h4
  simp only [mkTs, endT, List.append_nil] at h3 h4
  exact ⟨h3, h4⟩
theorem MkTInv.len {l xs : List IT} {m mm kq : Nat} {x5 : Int} (h : MkTInv l m xs x5 mm kq) : 0 ≤ x5 ∧ xs.length = l.length := ⟨h.1, h.2.2.1⟩

set_option maxHeartbeats 16000000 in
set_option maxRecDepth 100000 in
theorem laws_markStepS_made (P : Nat → Prop) (u : Value) (l : List IT) (m : Nat) (w0 w : World) (hm : endT l m ≤ 1099511627776) (hL : l.length ≤ 1099511627776) (hB : Below w0.heap.size w0 w) (ho : Kd.S k144 144 w w0.heap.size P u l) :
    Calls Try.prog 66 #[u, .int .i64 (m : Int)] w fun e w' => e = .returned (.int .i64 ((endT l m : Nat) : Int)) ∧ Kd.S k144 144 w' w0.heap.size P u (mkTs l m) ∧ Below w0.heap.size w0 w' ∧ Kept w w' P := by
  obtain ⟨A, c, rfl⟩ := Kd.S_slice ho
  have HM := Aside0.mk hm
  have HL := Aside0.mk hL
  have HO := Aside0.mk ho
  have HB := Aside0.mk hB
  clear hm hL ho hB
  go_enter Try.func66, Try.ntmps66
  go_wp2
  go_loopg [1, 5] l.length (fun kq v1 v5 w' => ∃ (xs : List IT) (x5 : Int) (mm : Nat), v1 = .int .i64 (mm : Int) ∧ v5 = .int .i64 x5 ∧ Aside0 (MkTInv l m xs x5 mm kq) ∧ Aside0 (Kd.S k144 144 w' w0.heap.size P (.slice A l.length c) xs) ∧ Aside0 (Kept w w' P) ∧ Aside0 (Below w0.heap.size w0 w'))
  case atStart => exact ⟨l, 0, m, rfl, rfl, ⟨MkTInv.start l m⟩, HO, ⟨Kept.refl _ _⟩, HB⟩
  case round =>
    clear HO HB
    obtain ⟨xs, x5, mm, rfl, rfl, HF, HO, HK, HB⟩ := hrel
    by_cases hi : x5 < (l.length : Int)
    · obtain ⟨k1, rfl, kk, mm2, mm3, hkk, hkk2, hmm2, hnext⟩ := HF.out.step HM.out HL.out hi
      have HN := Aside0.mk hnext
      have HMM := Aside0.mk hmm2
      have hlen := HF.out.len
      clear HF hnext hmm2
      have hc : decide (x5 < (l.length : Int)) = true := decide_eq_true hi
      have hp := hlen.1
      have hxp : 0 < xs.length := by omega
      obtain ⟨g, cap, eg, hgb, hgl, hgc⟩ := Kd.S_form HO.out hxp
      injection eg with ea en ec
      clear en
      subst ea
      subst ec
      obtain ⟨oki, ce, hcl, hM, hcc, hfr, hoki, hH⟩ := Kd.S_elem HO.out z144 x5 hp hi
      obtain ⟨v2, v5, rfl, ge2, ge5, hsep⟩ := k144_openMS hM
      have hx0 := hcc 0 _ rfl
      have hx1 := hcc 1 _ rfl
      have hx2 := hcc 2 _ rfl
      have hf0 := hfr 0
      have hf1 := hfr 1
      simp only [show (k144).sz = 6 from rfl, Nat.add_zero] at hx0 hx1 hx2 hf0 hf1
      have hsg := Aside0.mk (Kd.H_seg hH hp hi (seg := [.int .i64 (mm : Int), .int .i64 (wrap64 ((mm : Int) + 1))]) (j := 0) (show 2 ≤ 6 from by decide) (by intro q hq; simp only [List.mem_cons, List.not_mem_nil, or_false] at hq; rcases hq with rfl | rfl <;> rfl)).1
      have hR2 := Aside0.mk (Kd.R_tight rfl (Kd.R_far (p := ⟨g, x5.toNat * 6 + 1, none⟩) (Kd.R_far (p := ⟨g, x5.toNat * 6, none⟩) ge2 (fun k hk => (hoki k hk).2) (.int .i64 (mm : Int))) (fun k hk => (hoki k hk).2) (.int .i64 (wrap64 ((mm : Int) + 1)))))
      have hR5 := Aside0.mk (Kd.R_tight rfl (Kd.R_far (p := ⟨g, x5.toNat * 6 + 1, none⟩) (Kd.R_far (p := ⟨g, x5.toNat * 6, none⟩) ge5 (fun k hk => (hoki k hk).2) (.int .i64 (mm : Int))) (fun k hk => (hoki k hk).2) (.int .i64 (wrap64 ((mm : Int) + 1)))))
      have hin2 := Aside0.mk (fun k (hk : some k = v2.ownBlock) => ge2.1 k hk.symm)
      have hin5 := Aside0.mk (fun k (hk : some k = v5.ownBlock) => ge5.1 k hk.symm)
      have hPg : P g := (Kd.S_R HO.out).1 g (by simp [Value.ownBlock])
      have HPG := Aside0.mk hPg
      have HGB := Aside0.mk hgb
      have hK2 := Aside0.mk (Kept.setCell (Kept.setCell HK.out (p := ⟨g, x5.toNat * 6, none⟩) (.inl hPg) (.int .i64 (mm : Int))) (p := ⟨g, x5.toNat * 6 + 1, none⟩) (.inl hPg) (.int .i64 (wrap64 ((mm : Int) + 1))))
      have hB2 := Aside0.mk (show Below w0.heap.size w0 ((wr.setCell ⟨g, x5.toNat * 6, none⟩ (.int .i64 (mm : Int))).setCell ⟨g, x5.toNat * 6 + 1, none⟩ (.int .i64 (wrap64 ((mm : Int) + 1)))) from below_set (below_set HB.out hgb) hgb)
      have hOK := Aside0.mk hoki
      have HSEP := Aside0.mk hsep
      have HKK := Aside0.mk hkk
      have HKK2 := Aside0.mk hkk2
      have HP := Aside0.mk hp
      have HI := Aside0.mk hi
      clear hcl hcc hfr hH hM ge2 ge5 hoki hkk hkk2 hlen hgc hPg hsep
      replace hp := eq_true hp
      replace hi := eq_true hi
      go_wp2_with fail
      refine (laws_markStringS.calls kk (fun k => some k = v2.ownBlock) v2 (xs.getD x5.toNat z144).f2 _ _ _ w0 _ hB2.out hR2.out HKK.out).mono ?_
      rintro e w4 ⟨rfl, hR4, hB4, hK4⟩
      have HS4 := Aside0.mk (Kd.H_step hsg.out (fun k hk hn hlt => hK4.2 k hlt (fun h2 => hn (hin2.out k h2))))
      have hR54 := Aside0.mk (Kd.R_kept hR5.out hK4 (fun k hk h2 => HSEP.out k hk.symm h2.symm))
      have HK4 := Aside0.mk (Kept.then_ hK2.out hK4 (fun k hk => .inl (hOK.out k (hin2.out k hk)).1))
      have HB4 := Aside0.mk hB4
      have HR4 := Aside0.mk (Kd.R_tight rfl hR4)
      obtain ⟨hc4, hfr4⟩ := Kd.H_at HS4.out HP.out HI.out
      have hx3 := hc4 3 _ rfl
      have hx4 := hc4 4 _ rfl
      have hx5 := hc4 5 _ rfl
      have hf3 := hfr4 3
      have hf4 := hfr4 4
      simp only [show (k144).sz = 6 from rfl] at hx3 hx4 hx5 hf3 hf4
      have hsg5 := Aside0.mk (Kd.H_seg HS4.out HP.out HI.out (seg := [.int .i64 (mm2 : Int), .int .i64 (wrap64 ((mm2 : Int) + 1))]) (j := 3) (show 3 + 2 ≤ 6 from by decide) (by intro q hq; simp only [List.mem_cons, List.not_mem_nil, or_false] at hq; rcases hq with rfl | rfl <;> rfl)).1
      have hR24 := Aside0.mk (Kd.R_far (p := ⟨g, x5.toNat * 6 + 4, none⟩) (Kd.R_far (p := ⟨g, x5.toNat * 6 + 3, none⟩) HR4.out (fun k hk => (hOK.out k (hin2.out k hk)).2) (.int .i64 (mm2 : Int))) (fun k hk => (hOK.out k (hin2.out k hk)).2) (.int .i64 (wrap64 ((mm2 : Int) + 1))))
      have hR55 := Aside0.mk (Kd.R_far (p := ⟨g, x5.toNat * 6 + 4, none⟩) (Kd.R_far (p := ⟨g, x5.toNat * 6 + 3, none⟩) hR54.out (fun k hk => (hOK.out k (hin5.out k hk)).2) (.int .i64 (mm2 : Int))) (fun k hk => (hOK.out k (hin5.out k hk)).2) (.int .i64 (wrap64 ((mm2 : Int) + 1))))
      have hK5 := Aside0.mk (Kept.setCell (Kept.setCell HK4.out (p := ⟨g, x5.toNat * 6 + 3, none⟩) (.inl HPG.out) (.int .i64 (mm2 : Int))) (p := ⟨g, x5.toNat * 6 + 4, none⟩) (.inl HPG.out) (.int .i64 (wrap64 ((mm2 : Int) + 1))))
      have hB5 := Aside0.mk (show Below w0.heap.size w0 ((w4.setCell ⟨g, x5.toNat * 6 + 3, none⟩ (.int .i64 (mm2 : Int))).setCell ⟨g, x5.toNat * 6 + 4, none⟩ (.int .i64 (wrap64 ((mm2 : Int) + 1)))) from below_set (below_set HB4.out HGB.out) HGB.out)
      clear hx0 hx1 hx2 hf0 hf1 hc4 hfr4 hR4 hB4 hK4 hsg hR2 hR5 hK2 hB2 HR4 hR54 HB4 HK4 HB HK
      go_wp2_with fail
      refine (laws_markStringS.calls kk (fun k => some k = v5.ownBlock) v5 (xs.getD x5.toNat z144).f5 _ _ _ w0 _ hB5.out hR55.out HKK2.out).mono ?_
      rintro e w6 ⟨rfl, hR6, hB6, hK6⟩
      have HS6 := Aside0.mk (show Kd.S k144 144 w6 w0.heap.size P (.slice (some ⟨g, 0, none⟩) l.length c) (xs.set x5.toNat (mkT (xs.getD x5.toNat z144) mm)) from
        Kd.H_back (okp := oki) (Kd.H_step hsg5.out (fun k hk hn hlt => hK6.2 k hlt (fun h2 => hn (hin5.out k h2)))) (by
          have e2 := HMM.out
          rw [e2] at hR6 ⊢
          exact k144_mkM HSEP.out w6 w0.heap.size oki (mkT (xs.getD x5.toNat z144) mm) (Kd.R_mono (Kd.R_kept hR24.out hK6 (fun k hk h2 => HSEP.out k h2.symm hk.symm)) hin2.out) (Kd.R_mono (Kd.R_tight rfl hR6) hin5.out)) (fun _ h => h))
      have HK6 := Aside0.mk (Kept.then_ hK5.out hK6 (fun k hk => .inl (hOK.out k (hin5.out k hk)).1))
      have HB6 := Aside0.mk hB6
      clear hR6 hB6 hK6 hsg5 hR24 hR55 hK5 hB5 HS4 HO hx3 hx4 hx5 hf3 hf4 HMM
      go_wp2
      go_roundg k1
      case measure => omega
      case rel => exact ⟨_, _, mm3, rfl, rfl, HN, HS6, HK6, HB6⟩
    · have hc : decide (x5 < (l.length : Int)) = false := decide_eq_false hi
      obtain ⟨rfl, rfl⟩ := HF.out.last hi
      go_wp2
      go_ret
      exact ⟨rfl, HO.out, HB.out, HK.out⟩
end Go.Proofs.Ytcefenlblnediaa.My

/- Plain Lean: the marks by which the laws see whether memory is shared. Conditions: lengths below 2^40. -/
namespace Go.Proofs.Ytcefenlblnediaa.Pl
open Go.RowKit Go.Proofs.YtcefenlblnediaaW.PrintWords Go.Proofs.YtcefenlblnediaaW.PrintLast Go.Proofs.Ytcefenlblnediaa.My
set_option linter.unusedVariables false
set_option linter.unusedSimpArgs false

theorem heldStringS_l0 (n m : Nat) (hn : n ≤ 1099511627776) (hm : m ≤ 1099511627776) : ∀ d i, i + d = n → Ev (fun k => laws_heldStringS.l0 k (marks m n) ((m + i : Nat) : Int) (i : Int)) ((m + n : Nat) : Int) := by
  intro d
  induction d with
  | zero =>
    intro i hi
    refine Ev.step (fun k => laws_heldStringS.l0.eq_2 ..) (ev_neg (by rw [marks_length]; omega) (ev_some ?_))
    rw [show i = n from by omega]
  | succ d ih =>
    intro i hi
    refine Ev.step (fun k => laws_heldStringS.l0.eq_2 ..) (ev_pos (by rw [marks_length]; omega) (ev_pos (by omega) (ev_bind (mark_ev (m + i) (by omega)) (ev_pos ?_ ?_))))
    · rw [rdOf_lt _ _ _ (by rw [marks_length]; omega), marks_get m n i (by omega)]
    · rw [wrap_succ i (by omega), wrap_succ (m + i) (by omega)]
      exact ih (i + 1) (by omega)

theorem heldStringS_ev (m n : Nat) (hn : n ≤ 1099511627776) (hm : m ≤ 1099511627776) : Ev (fun k => laws_heldStringS.f k (marks m n) (m : Int)) ((m + n : Nat) : Int) := by
  simp only [laws_heldStringS.f]
  exact heldStringS_l0 n m hn hm n 0 (by omega)
end Go.Proofs.Ytcefenlblnediaa.Pl

/- The walk through FnExactApplySteps where the helpers answer as they should, and where a size is too large. Asked: their answers. -/
namespace Go.Proofs.Ytcefenlblnediaa.My
open Go.RowKit Go.Proofs.YtcefenlblnediaaW.PrintWords Go.Proofs.YtcefenlblnediaaW.PrintLast Go.Proofs.YtcefenlblnediaaW.PrintMore Go.Proofs.Ytcefenlblnediaa.Pl
set_option linter.unusedVariables false
set_option linter.unusedSimpArgs false

set_option maxHeartbeats 4000000 in
set_option maxRecDepth 100000 in
theorem laws_FnExactApplySteps_early0 (k : Nat) (A0 : Option Addr) (c0 : Nat) (l0 : List ByteArray) (A1 : Option Addr) (c1 : Nat) (l1 : List LT) (w : World) (hr0 : Kd.C Kd.string w A0 l0.length l0) (hc0 : l0.length ≤ c0) (hr1 : Kd.C k140 w A1 l1.length l1) (hc1 : l1.length ≤ c1)
    (s0 : Int) (es0 : laws_szStringS.f k l0 1048576 = some s0) (ns0 : s0 < 0) :
    Calls Try.prog 11 #[.slice A0 l0.length c0, .slice A1 l1.length c1] w fun e w' => e = .returned (.bool true) ∧ Below w.heap.size w w' := by
 have hr0_ := Aside0.mk hr0
 clear hr0
 have hr0 := hr0_
 clear hr0_
 have hc0_ := Aside0.mk hc0
 clear hc0
 have hc0 := hc0_
 clear hc0_
 have hr1_ := Aside0.mk hr1
 clear hr1
 have hr1 := hr1_
 clear hr1_
 have hc1_ := Aside0.mk hc1
 clear hc1
 have hc1 := hc1_
 clear hc1_
 have n0 : decide (s0 < 0) = true := decide_eq_true ns0
 clear ns0
 have es0_ := Aside0.mk es0
 clear es0
 have es0 := es0_
 clear es0_
 have HB := Aside0.mk (Below.refl w.heap.size w)
 go_enter Try.func11, Try.ntmps11
 go_wp2_with fail
 refine (laws_szStringS.calls k A0 c0 l0 1048576 s0 _ (Kd.C_below hr0.out HB.out) hc0.out es0.out).mono ?_
 rintro e w1 ⟨rfl, hb0⟩
 have hb : Below w.heap.size w w1 := by first | exact hb0 | (obtain ⟨nd_, e_⟩ := hb0; rw [e_]; exact pw_below_drewN (Below.refl _ _) nd_)
 clear hb0
 have HB_ := Aside0.mk (below_step HB.out hb)
 have Zw1 := Aside0.mk hb.size
 clear HB hb
 have HB := HB_
 clear HB_
 go_wp2
 go_ret
 exact ⟨rfl, HB.out⟩

set_option maxHeartbeats 4000000 in
set_option maxRecDepth 100000 in
theorem laws_FnExactApplySteps_early1 (k : Nat) (A0 : Option Addr) (c0 : Nat) (l0 : List ByteArray) (A1 : Option Addr) (c1 : Nat) (l1 : List LT) (w : World) (hr0 : Kd.C Kd.string w A0 l0.length l0) (hc0 : l0.length ≤ c0) (hr1 : Kd.C k140 w A1 l1.length l1) (hc1 : l1.length ≤ c1)
    (s0 : Int) (es0 : laws_szStringS.f k l0 1048576 = some s0) (ns0 : ¬ s0 < 0)
    (s1 : Int) (es1 : laws_szStepS.f k l1 s0 = some s1) (ns1 : s1 < 0) :
    Calls Try.prog 11 #[.slice A0 l0.length c0, .slice A1 l1.length c1] w fun e w' => e = .returned (.bool true) ∧ Below w.heap.size w w' := by
 have hr0_ := Aside0.mk hr0
 clear hr0
 have hr0 := hr0_
 clear hr0_
 have hc0_ := Aside0.mk hc0
 clear hc0
 have hc0 := hc0_
 clear hc0_
 have hr1_ := Aside0.mk hr1
 clear hr1
 have hr1 := hr1_
 clear hr1_
 have hc1_ := Aside0.mk hc1
 clear hc1
 have hc1 := hc1_
 clear hc1_
 have n0 : decide (s0 < 0) = false := decide_eq_false ns0
 clear ns0
 have es0_ := Aside0.mk es0
 clear es0
 have es0 := es0_
 clear es0_
 have n1 : decide (s1 < 0) = true := decide_eq_true ns1
 clear ns1
 have es1_ := Aside0.mk es1
 clear es1
 have es1 := es1_
 clear es1_
 have HB := Aside0.mk (Below.refl w.heap.size w)
 go_enter Try.func11, Try.ntmps11
 go_wp2_with fail
 refine (laws_szStringS.calls k A0 c0 l0 1048576 s0 _ (Kd.C_below hr0.out HB.out) hc0.out es0.out).mono ?_
 rintro e w1 ⟨rfl, hb0⟩
 have hb : Below w.heap.size w w1 := by first | exact hb0 | (obtain ⟨nd_, e_⟩ := hb0; rw [e_]; exact pw_below_drewN (Below.refl _ _) nd_)
 clear hb0
 have HB_ := Aside0.mk (below_step HB.out hb)
 have Zw1 := Aside0.mk hb.size
 clear HB hb
 have HB := HB_
 clear HB_
 go_wp2_with fail
 refine (laws_szStepS.calls k A1 c1 l1 s0 s1 _ (Kd.C_below hr1.out HB.out) hc1.out es1.out).mono ?_
 rintro e w2 ⟨rfl, hb0⟩
 have hb : Below w1.heap.size w1 w2 := by first | exact hb0 | (obtain ⟨nd_, e_⟩ := hb0; rw [e_]; exact pw_below_drewN (Below.refl _ _) nd_)
 clear hb0
 have HB_ := Aside0.mk (below_step HB.out hb)
 have Zw2 := Aside0.mk hb.size
 clear HB hb
 have HB := HB_
 clear HB_
 go_wp2
 go_ret
 exact ⟨rfl, HB.out⟩

set_option maxHeartbeats 16000000 in
set_option maxRecDepth 100000 in
theorem laws_FnExactApplySteps_true (k : Nat) (A0 : Option Addr) (c0 : Nat) (l0 : List ByteArray) (A1 : Option Addr) (c1 : Nat) (l1 : List LT) (w : World) (hr0 : Kd.C Kd.string w A0 l0.length l0) (hc0 : l0.length ≤ c0) (hr1 : Kd.C k140 w A1 l1.length l1) (hc1 : l1.length ≤ c1)
    (s0 : Int) (es0 : laws_szStringS.f k l0 1048576 = some s0) (ns0 : ¬ s0 < 0)
    (s1 : Int) (es1 : laws_szStepS.f k l1 s0 = some s1) (ns1 : ¬ s1 < 0)
    (x0 : List ByteArray) (et0 : laws_toStringS.f k l0 = some x0) (ee0 : laws_eqStringS.f k x0 x0 = some true)
    (x1 : List IT) (et1 : laws_toStepS.f k l1 = some x1) (ee1 : laws_eqStepS.f k x1 x1 = some true)
    (v : List ByteArray) (r0 : Int) (r1 : Bool) (esp : spec_ApplySteps.f k x0 x1 = some (v, r0, r1)) (eim : impl_ApplySteps.f k x0 x1 = some (v, r0, r1)) (eev : laws_eqStringS.f k v v = some true)
    (em0 : laws_markStringS.f k x0 ((1 : Nat) : Int) = some ((((1 + x0.length) : Nat) : Int), marks 1 x0.length))
    (hm1 : (endT x1 (1 + x0.length)) ≤ 1099511627776) (hL1 : x1.length ≤ 1099511627776)
    (emv : laws_markStringS.f k v ((1 : Nat) : Int) = some ((((1 + v.length) : Nat) : Int), (marks 1 v.length))) (ehv : laws_heldStringS.f k (marks 1 v.length) 1 = some (((1 + v.length) : Nat) : Int)) :
    Calls Try.prog 11 #[.slice A0 l0.length c0, .slice A1 l1.length c1] w fun e w' => e = .returned (.bool true) ∧ Below w.heap.size w w' := by
 have n0 : decide (s0 < 0) = false := decide_eq_false ns0
 clear ns0
 have hr0_ := Aside0.mk hr0
 clear hr0
 have hr0 := hr0_
 clear hr0_
 have hc0_ := Aside0.mk hc0
 clear hc0
 have hc0 := hc0_
 clear hc0_
 have es0_ := Aside0.mk es0
 clear es0
 have es0 := es0_
 clear es0_
 have et0_ := Aside0.mk et0
 clear et0
 have et0 := et0_
 clear et0_
 have ee0_ := Aside0.mk ee0
 clear ee0
 have ee0 := ee0_
 clear ee0_
 have em0_ := Aside0.mk em0
 clear em0
 have em0 := em0_
 clear em0_
 have n1 : decide (s1 < 0) = false := decide_eq_false ns1
 clear ns1
 have hr1_ := Aside0.mk hr1
 clear hr1
 have hr1 := hr1_
 clear hr1_
 have hc1_ := Aside0.mk hc1
 clear hc1
 have hc1 := hc1_
 clear hc1_
 have es1_ := Aside0.mk es1
 clear es1
 have es1 := es1_
 clear es1_
 have et1_ := Aside0.mk et1
 clear et1
 have et1 := et1_
 clear et1_
 have ee1_ := Aside0.mk ee1
 clear ee1
 have ee1 := ee1_
 clear ee1_
 have hm1_ := Aside0.mk hm1
 clear hm1
 have hm1 := hm1_
 clear hm1_
 have hL1_ := Aside0.mk hL1
 clear hL1
 have hL1 := hL1_
 clear hL1_
 have esp_ := Aside0.mk esp
 clear esp
 have esp := esp_
 clear esp_
 have eim_ := Aside0.mk eim
 clear eim
 have eim := eim_
 clear eim_
 have eev_ := Aside0.mk eev
 clear eev
 have eev := eev_
 clear eev_
 have ehv_ := Aside0.mk ehv
 clear ehv
 have ehv := ehv_
 clear ehv_
 have emv_ := Aside0.mk emv
 clear emv
 have emv := emv_
 clear emv_
 have nm0 : decide (((((1 + x0.length) : Nat) : Int)) < 0) = false := decide_eq_false (Int.not_lt.2 (Int.natCast_nonneg _))
 have nm1 : decide (((((endT x1 (1 + x0.length)) : Nat) : Int)) < 0) = false := decide_eq_false (Int.not_lt.2 (Int.natCast_nonneg _))
 have nv : decide (((((1 + v.length) : Nat) : Int)) < 0) = false := decide_eq_false (Int.not_lt.2 (Int.natCast_nonneg _))
 have HB := Aside0.mk (Below.refl w.heap.size w)
 go_enter Try.func11, Try.ntmps11
 go_wp2_with fail
 refine (laws_szStringS.calls k A0 c0 l0 1048576 s0 _ (Kd.C_below hr0.out HB.out) hc0.out es0.out).mono ?_
 rintro e w1 ⟨rfl, hb0⟩
 have hb : Below w.heap.size w w1 := by first | exact hb0 | (obtain ⟨nd_, e_⟩ := hb0; rw [e_]; exact pw_below_drewN (Below.refl _ _) nd_)
 clear hb0
 have HB_ := Aside0.mk (below_step HB.out hb)
 have Zw1 := Aside0.mk hb.size
 clear HB hb
 have HB := HB_
 clear HB_
 go_wp2_with fail
 refine (laws_szStepS.calls k A1 c1 l1 s0 s1 _ (Kd.C_below hr1.out HB.out) hc1.out es1.out).mono ?_
 rintro e w2 ⟨rfl, hb0⟩
 have hb : Below w1.heap.size w1 w2 := by first | exact hb0 | (obtain ⟨nd_, e_⟩ := hb0; rw [e_]; exact pw_below_drewN (Below.refl _ _) nd_)
 clear hb0
 have HB_ := Aside0.mk (below_step HB.out hb)
 have Zw2 := Aside0.mk hb.size
 clear HB hb
 have HB := HB_
 clear HB_
 go_wp2_with fail
 refine (laws_toStringS.calls k A0 c0 l0 x0 _ (Kd.C_below hr0.out HB.out) hc0.out et0.out).mono ?_
 rintro e w3 ⟨vv, rfl, ho, hb⟩
 obtain ⟨AY0, cY0, rfl⟩ := Kd.R_slice ho
 have Y0 := Aside0.mk (Kd.R_mono (ok' := fun k_ => w2.heap.size ≤ k_ ∧ k_ < w3.heap.size) (Kd.R_lower (Kd.R_bound ho) HB.out.size) (fun k_ h_ => ⟨h_.2.1, h_.2.2.1⟩))
 clear ho
 have HB_ := Aside0.mk (below_step HB.out hb)
 have Zw3 := Aside0.mk hb.size
 clear HB hb
 have HB := HB_
 clear HB_
 go_wp2_with fail
 refine (laws_toStepS.calls k A1 c1 l1 x1 _ (Kd.C_below hr1.out HB.out) hc1.out et1.out).mono ?_
 rintro e w4 ⟨vv, rfl, ho, hb⟩
 obtain ⟨AY1, cY1, rfl⟩ := Kd.S_slice ho
 have Y0_ := Aside0.mk (Kd.R_below Y0.out hb)
 clear Y0
 have Y0 := Y0_
 clear Y0_
 have Y1 := Aside0.mk (Kd.S_mono (ok' := fun k_ => w3.heap.size ≤ k_ ∧ k_ < w4.heap.size) (Kd.S_lower (Kd.S_bound ho) HB.out.size) (fun k_ h_ => ⟨h_.2.1, h_.2.2.1⟩))
 clear ho
 have HB_ := Aside0.mk (below_step HB.out hb)
 have Zw4 := Aside0.mk hb.size
 clear HB hb
 have HB := HB_
 clear HB_
 go_wp2_with fail
 refine (spec_ApplySteps.calls k AY0 cY0 x0 AY1 cY1 x1 v r0 r1 _ (Kd.R_reads' Y0.out).2.2 (Kd.R_reads' Y0.out).2.1 (Kd.S_reads' Y1.out).2.2 (Kd.S_reads' Y1.out).2.1 esp.out).mono ?_
 rintro e w5 ⟨vv, rfl, ho, hb⟩
 obtain ⟨AVW, cVW, rfl⟩ := Kd.R_slice ho
 have Y0_ := Aside0.mk (Kd.R_below Y0.out hb)
 clear Y0
 have Y0 := Y0_
 clear Y0_
 have Y1_ := Aside0.mk (Kd.S_below Y1.out hb)
 clear Y1
 have Y1 := Y1_
 clear Y1_
 have VW := Aside0.mk (Kd.R_mono (ok' := fun k_ => w4.heap.size ≤ k_ ∧ k_ < w5.heap.size) (Kd.R_lower (Kd.R_bound ho) HB.out.size) (fun k_ h_ => ⟨h_.2.1, h_.2.2.1⟩))
 clear ho
 have HB_ := Aside0.mk (below_step HB.out hb)
 have Zw5 := Aside0.mk hb.size
 clear HB hb
 have HB := HB_
 clear HB_
 clear Y0
 clear Y1
 go_wp2_with fail
 refine (laws_toStringS.calls k A0 c0 l0 x0 _ (Kd.C_below hr0.out HB.out) hc0.out et0.out).mono ?_
 rintro e w6 ⟨vv, rfl, ho, hb⟩
 obtain ⟨AX0, cX0, rfl⟩ := Kd.R_slice ho
 have VW_ := Aside0.mk (Kd.R_below VW.out hb)
 clear VW
 have VW := VW_
 clear VW_
 have X0 := Aside0.mk (Kd.R_mono (ok' := fun k_ => w5.heap.size ≤ k_ ∧ k_ < w6.heap.size) (Kd.R_lower (Kd.R_bound ho) HB.out.size) (fun k_ h_ => ⟨h_.2.1, h_.2.2.1⟩))
 clear ho
 have HB_ := Aside0.mk (below_step HB.out hb)
 have Zw6 := Aside0.mk hb.size
 clear HB hb
 have HB := HB_
 clear HB_
 go_wp2_with fail
 refine (laws_toStepS.calls k A1 c1 l1 x1 _ (Kd.C_below hr1.out HB.out) hc1.out et1.out).mono ?_
 rintro e w7 ⟨vv, rfl, ho, hb⟩
 obtain ⟨AX1, cX1, rfl⟩ := Kd.S_slice ho
 have VW_ := Aside0.mk (Kd.R_below VW.out hb)
 clear VW
 have VW := VW_
 clear VW_
 have X0_ := Aside0.mk (Kd.R_below X0.out hb)
 clear X0
 have X0 := X0_
 clear X0_
 have X1 := Aside0.mk (Kd.S_mono (ok' := fun k_ => w6.heap.size ≤ k_ ∧ k_ < w7.heap.size) (Kd.S_lower (Kd.S_bound ho) HB.out.size) (fun k_ h_ => ⟨h_.2.1, h_.2.2.1⟩))
 clear ho
 have HB_ := Aside0.mk (below_step HB.out hb)
 have Zw7 := Aside0.mk hb.size
 clear HB hb
 have HB := HB_
 clear HB_
 go_wp2_with fail
 refine (impl_ApplySteps.calls k AX0 cX0 x0 AX1 cX1 x1 v r0 r1 _ (Kd.R_reads' X0.out).2.2 (Kd.R_reads' X0.out).2.1 (Kd.S_reads' X1.out).2.2 (Kd.S_reads' X1.out).2.1 eim.out).mono ?_
 rintro e w8 ⟨vv, rfl, ho, hb⟩
 obtain ⟨AVG, cVG, rfl⟩ := Kd.R_slice ho
 have VW_ := Aside0.mk (Kd.R_below VW.out hb)
 clear VW
 have VW := VW_
 clear VW_
 have X0_ := Aside0.mk (Kd.R_below X0.out hb)
 clear X0
 have X0 := X0_
 clear X0_
 have X1_ := Aside0.mk (Kd.S_below X1.out hb)
 clear X1
 have X1 := X1_
 clear X1_
 have VG := Aside0.mk (Kd.R_mono (ok' := fun k_ => w7.heap.size ≤ k_ ∧ k_ < w8.heap.size) (Kd.R_lower (Kd.R_bound ho) HB.out.size) (fun k_ h_ => ⟨h_.2.1, h_.2.2.1⟩))
 clear ho
 have HB_ := Aside0.mk (below_step HB.out hb)
 have Zw8 := Aside0.mk hb.size
 clear HB hb
 have HB := HB_
 clear HB_
 go_wp2_with fail
 refine (laws_eqStringS.calls k AVG cVG v AVW cVW v true _ (Kd.R_reads' VG.out).2.2 (Kd.R_reads' VG.out).2.1 (Kd.R_reads' VW.out).2.2 (Kd.R_reads' VW.out).2.1 eev.out).mono ?_
 rintro e w9 ⟨rfl, hb0⟩
 have hb : Below w8.heap.size w8 w9 := by first | exact hb0 | (obtain ⟨nd_, e_⟩ := hb0; rw [e_]; exact pw_below_drewN (Below.refl _ _) nd_)
 clear hb0
 have VW_ := Aside0.mk (Kd.R_below VW.out hb)
 clear VW
 have VW := VW_
 clear VW_
 have X0_ := Aside0.mk (Kd.R_below X0.out hb)
 clear X0
 have X0 := X0_
 clear X0_
 have X1_ := Aside0.mk (Kd.S_below X1.out hb)
 clear X1
 have X1 := X1_
 clear X1_
 have VG_ := Aside0.mk (Kd.R_below VG.out hb)
 clear VG
 have VG := VG_
 clear VG_
 have HB_ := Aside0.mk (below_step HB.out hb)
 have Zw9 := Aside0.mk hb.size
 clear HB hb
 have HB := HB_
 clear HB_
 go_wp2_with fail
 refine (laws_toStringS.calls k A0 c0 l0 x0 _ (Kd.C_below hr0.out HB.out) hc0.out et0.out).mono ?_
 rintro e w10 ⟨vv, rfl, ho, hb⟩
 obtain ⟨AQ0, cQ0, rfl⟩ := Kd.R_slice ho
 have VW_ := Aside0.mk (Kd.R_below VW.out hb)
 clear VW
 have VW := VW_
 clear VW_
 have X0_ := Aside0.mk (Kd.R_below X0.out hb)
 clear X0
 have X0 := X0_
 clear X0_
 have X1_ := Aside0.mk (Kd.S_below X1.out hb)
 clear X1
 have X1 := X1_
 clear X1_
 have VG_ := Aside0.mk (Kd.R_below VG.out hb)
 clear VG
 have VG := VG_
 clear VG_
 have Q0 := Aside0.mk (Kd.R_mono (ok' := fun k_ => w9.heap.size ≤ k_ ∧ k_ < w10.heap.size) (Kd.R_lower (Kd.R_bound ho) HB.out.size) (fun k_ h_ => ⟨h_.2.1, h_.2.2.1⟩))
 clear ho
 have HB_ := Aside0.mk (below_step HB.out hb)
 have Zw10 := Aside0.mk hb.size
 clear HB hb
 have HB := HB_
 clear HB_
 go_wp2_with fail
 refine (laws_eqStringS.calls k AX0 cX0 x0 AQ0 cQ0 x0 true _ (Kd.R_reads' X0.out).2.2 (Kd.R_reads' X0.out).2.1 (Kd.R_reads' Q0.out).2.2 (Kd.R_reads' Q0.out).2.1 ee0.out).mono ?_
 rintro e w11 ⟨rfl, hb0⟩
 have hb : Below w10.heap.size w10 w11 := by first | exact hb0 | (obtain ⟨nd_, e_⟩ := hb0; rw [e_]; exact pw_below_drewN (Below.refl _ _) nd_)
 clear hb0
 have VW_ := Aside0.mk (Kd.R_below VW.out hb)
 clear VW
 have VW := VW_
 clear VW_
 have X0_ := Aside0.mk (Kd.R_below X0.out hb)
 clear X0
 have X0 := X0_
 clear X0_
 have X1_ := Aside0.mk (Kd.S_below X1.out hb)
 clear X1
 have X1 := X1_
 clear X1_
 have VG_ := Aside0.mk (Kd.R_below VG.out hb)
 clear VG
 have VG := VG_
 clear VG_
 have Q0_ := Aside0.mk (Kd.R_below Q0.out hb)
 clear Q0
 have Q0 := Q0_
 clear Q0_
 have HB_ := Aside0.mk (below_step HB.out hb)
 have Zw11 := Aside0.mk hb.size
 clear HB hb
 have HB := HB_
 clear HB_
 clear Q0
 go_wp2_with fail
 refine (laws_toStepS.calls k A1 c1 l1 x1 _ (Kd.C_below hr1.out HB.out) hc1.out et1.out).mono ?_
 rintro e w12 ⟨vv, rfl, ho, hb⟩
 obtain ⟨AQ1, cQ1, rfl⟩ := Kd.S_slice ho
 have VW_ := Aside0.mk (Kd.R_below VW.out hb)
 clear VW
 have VW := VW_
 clear VW_
 have X0_ := Aside0.mk (Kd.R_below X0.out hb)
 clear X0
 have X0 := X0_
 clear X0_
 have X1_ := Aside0.mk (Kd.S_below X1.out hb)
 clear X1
 have X1 := X1_
 clear X1_
 have VG_ := Aside0.mk (Kd.R_below VG.out hb)
 clear VG
 have VG := VG_
 clear VG_
 have Q1 := Aside0.mk (Kd.S_mono (ok' := fun k_ => w11.heap.size ≤ k_ ∧ k_ < w12.heap.size) (Kd.S_lower (Kd.S_bound ho) HB.out.size) (fun k_ h_ => ⟨h_.2.1, h_.2.2.1⟩))
 clear ho
 have HB_ := Aside0.mk (below_step HB.out hb)
 have Zw12 := Aside0.mk hb.size
 clear HB hb
 have HB := HB_
 clear HB_
 go_wp2_with fail
 refine (laws_eqStepS.calls k AX1 cX1 x1 AQ1 cQ1 x1 true _ (Kd.S_reads' X1.out).2.2 (Kd.S_reads' X1.out).2.1 (Kd.S_reads' Q1.out).2.2 (Kd.S_reads' Q1.out).2.1 ee1.out).mono ?_
 rintro e w13 ⟨rfl, hb0⟩
 have hb : Below w12.heap.size w12 w13 := by first | exact hb0 | (obtain ⟨nd_, e_⟩ := hb0; rw [e_]; exact pw_below_drewN (Below.refl _ _) nd_)
 clear hb0
 have VW_ := Aside0.mk (Kd.R_below VW.out hb)
 clear VW
 have VW := VW_
 clear VW_
 have X0_ := Aside0.mk (Kd.R_below X0.out hb)
 clear X0
 have X0 := X0_
 clear X0_
 have X1_ := Aside0.mk (Kd.S_below X1.out hb)
 clear X1
 have X1 := X1_
 clear X1_
 have VG_ := Aside0.mk (Kd.R_below VG.out hb)
 clear VG
 have VG := VG_
 clear VG_
 have Q1_ := Aside0.mk (Kd.S_below Q1.out hb)
 clear Q1
 have Q1 := Q1_
 clear Q1_
 have HB_ := Aside0.mk (below_step HB.out hb)
 have Zw13 := Aside0.mk hb.size
 clear HB hb
 have HB := HB_
 clear HB_
 clear Q1
 go_wp2_with fail
 refine (laws_markStringS.calls k (fun k_ => w5.heap.size ≤ k_ ∧ k_ < w6.heap.size) _ x0 _ _ _ w _ HB.out X0.out em0.out).mono ?_
 rintro e w14 ⟨rfl, hR, hb, hk⟩
 have VW_ := Aside0.mk (Kd.R_kept VW.out hk (fun k_ h1_ h2_ => Nat.lt_irrefl k_ (Nat.lt_of_lt_of_le h1_.2 (Nat.le_trans (Nat.le_refl _) h2_.1))))
 clear VW
 have VW := VW_
 clear VW_
 have X1_ := Aside0.mk (Kd.S_kept X1.out hk (fun k_ h1_ h2_ => Nat.lt_irrefl k_ (Nat.lt_of_lt_of_le h2_.2 (Nat.le_trans (Nat.le_refl _) h1_.1))))
 clear X1
 have X1 := X1_
 clear X1_
 have VG_ := Aside0.mk (Kd.R_kept VG.out hk (fun k_ h1_ h2_ => Nat.lt_irrefl k_ (Nat.lt_of_lt_of_le h2_.2 (Nat.le_trans (Nat.le_trans (Nat.le_refl _) Zw7.out) h1_.1))))
 clear VG
 have VG := VG_
 clear VG_
 clear X0 hR
 have Zw14 := Aside0.mk hk.1
 clear hk HB
 have HB := Aside0.mk hb
 clear hb
 go_wp2_with fail
 refine (laws_markStepS_made (fun k_ => w6.heap.size ≤ k_ ∧ k_ < w7.heap.size) _ x1 (1 + x0.length) w _ hm1.out hL1.out HB.out X1.out).mono ?_
 rintro e w15 ⟨rfl, hR, hb, hk⟩
 have VW_ := Aside0.mk (Kd.R_kept VW.out hk (fun k_ h1_ h2_ => Nat.lt_irrefl k_ (Nat.lt_of_lt_of_le h1_.2 (Nat.le_trans (Nat.le_trans (Nat.le_refl _) Zw6.out) h2_.1))))
 clear VW
 have VW := VW_
 clear VW_
 have VG_ := Aside0.mk (Kd.R_kept VG.out hk (fun k_ h1_ h2_ => Nat.lt_irrefl k_ (Nat.lt_of_lt_of_le h2_.2 (Nat.le_trans (Nat.le_refl _) h1_.1))))
 clear VG
 have VG := VG_
 clear VG_
 clear X1 hR
 have Zw15 := Aside0.mk hk.1
 clear hk HB
 have HB := Aside0.mk hb
 clear hb
 go_wp2_with fail
 refine (laws_eqStringS.calls k AVG cVG v AVW cVW v true _ (Kd.R_reads' VG.out).2.2 (Kd.R_reads' VG.out).2.1 (Kd.R_reads' VW.out).2.2 (Kd.R_reads' VW.out).2.1 eev.out).mono ?_
 rintro e w16 ⟨rfl, hb0⟩
 have hb : Below w15.heap.size w15 w16 := by first | exact hb0 | (obtain ⟨nd_, e_⟩ := hb0; rw [e_]; exact pw_below_drewN (Below.refl _ _) nd_)
 clear hb0
 have VW_ := Aside0.mk (Kd.R_below VW.out hb)
 clear VW
 have VW := VW_
 clear VW_
 have VG_ := Aside0.mk (Kd.R_below VG.out hb)
 clear VG
 have VG := VG_
 clear VG_
 have HB_ := Aside0.mk (below_step HB.out hb)
 have Zw16 := Aside0.mk hb.size
 clear HB hb
 have HB := HB_
 clear HB_
 go_wp2_with fail
 refine (laws_markStringS.calls k (fun k_ => w7.heap.size ≤ k_ ∧ k_ < w8.heap.size) _ v _ _ _ w _ HB.out VG.out emv.out).mono ?_
 rintro e w17 ⟨rfl, hR, hb, hk⟩
 have VW_ := Aside0.mk (Kd.R_kept VW.out hk (fun k_ h1_ h2_ => Nat.lt_irrefl k_ (Nat.lt_of_lt_of_le h1_.2 (Nat.le_trans (Nat.le_trans (Nat.le_trans (Nat.le_refl _) Zw6.out) Zw7.out) h2_.1))))
 clear VW
 have VW := VW_
 clear VW_
 have VG_ := Aside0.mk (Kd.R_flat (ok' := fun k_ => w7.heap.size ≤ k_ ∧ k_ < w8.heap.size) (fun h => h) hR (fun k_ hk_ _ => VG.out.1 k_ hk_))
 clear VG hR
 have VG := VG_
 clear VG_
 have Zw17 := Aside0.mk hk.1
 clear hk HB
 have HB := Aside0.mk hb
 clear hb
 go_wp2_with fail
 have eLen := (Kd.R_reads' VG.out).1
 refine calls_of_args (args' := #[.slice AVG ((marks 1 v.length) : List ByteArray).length cVG, .int .i64 1]) (by rw [← eLen]) ?_
 refine (laws_heldStringS.calls k AVG cVG (marks 1 v.length) 1 _ _ (Kd.R_reads' VG.out).2.2 (by rw [← eLen]; exact (Kd.R_reads' VG.out).2.1) ehv.out).mono ?_
 rintro e w18 ⟨rfl, hb0⟩
 clear eLen
 have hb : Below w17.heap.size w17 w18 := by first | exact hb0 | (obtain ⟨nd_, e_⟩ := hb0; rw [e_]; exact pw_below_drewN (Below.refl _ _) nd_)
 clear hb0
 have VW_ := Aside0.mk (Kd.R_below VW.out hb)
 clear VW
 have VW := VW_
 clear VW_
 have VG_ := Aside0.mk (Kd.R_below VG.out hb)
 clear VG
 have VG := VG_
 clear VG_
 have HB_ := Aside0.mk (below_step HB.out hb)
 have Zw18 := Aside0.mk hb.size
 clear HB hb
 have HB := HB_
 clear HB_
 go_wp2_with fail
 refine (laws_toStringS.calls k A0 c0 l0 x0 _ (Kd.C_below hr0.out HB.out) hc0.out et0.out).mono ?_
 rintro e w19 ⟨vv, rfl, ho, hb⟩
 obtain ⟨AY0, cY0, rfl⟩ := Kd.R_slice ho
 have VW_ := Aside0.mk (Kd.R_below VW.out hb)
 clear VW
 have VW := VW_
 clear VW_
 have VG_ := Aside0.mk (Kd.R_below VG.out hb)
 clear VG
 have VG := VG_
 clear VG_
 have Y0 := Aside0.mk (Kd.R_mono (ok' := fun k_ => w18.heap.size ≤ k_ ∧ k_ < w19.heap.size) (Kd.R_lower (Kd.R_bound ho) HB.out.size) (fun k_ h_ => ⟨h_.2.1, h_.2.2.1⟩))
 clear ho
 have HB_ := Aside0.mk (below_step HB.out hb)
 have Zw19 := Aside0.mk hb.size
 clear HB hb
 have HB := HB_
 clear HB_
 go_wp2_with fail
 refine (laws_toStepS.calls k A1 c1 l1 x1 _ (Kd.C_below hr1.out HB.out) hc1.out et1.out).mono ?_
 rintro e w20 ⟨vv, rfl, ho, hb⟩
 obtain ⟨AY1, cY1, rfl⟩ := Kd.S_slice ho
 have VW_ := Aside0.mk (Kd.R_below VW.out hb)
 clear VW
 have VW := VW_
 clear VW_
 have VG_ := Aside0.mk (Kd.R_below VG.out hb)
 clear VG
 have VG := VG_
 clear VG_
 have Y0_ := Aside0.mk (Kd.R_below Y0.out hb)
 clear Y0
 have Y0 := Y0_
 clear Y0_
 have Y1 := Aside0.mk (Kd.S_mono (ok' := fun k_ => w19.heap.size ≤ k_ ∧ k_ < w20.heap.size) (Kd.S_lower (Kd.S_bound ho) HB.out.size) (fun k_ h_ => ⟨h_.2.1, h_.2.2.1⟩))
 clear ho
 have HB_ := Aside0.mk (below_step HB.out hb)
 have Zw20 := Aside0.mk hb.size
 clear HB hb
 have HB := HB_
 clear HB_
 go_wp2_with fail
 refine (impl_ApplySteps.calls k AY0 cY0 x0 AY1 cY1 x1 v r0 r1 _ (Kd.R_reads' Y0.out).2.2 (Kd.R_reads' Y0.out).2.1 (Kd.S_reads' Y1.out).2.2 (Kd.S_reads' Y1.out).2.1 eim.out).mono ?_
 rintro e w21 ⟨vv, rfl, ho, hb⟩
 obtain ⟨AVH, cVH, rfl⟩ := Kd.R_slice ho
 have VW_ := Aside0.mk (Kd.R_below VW.out hb)
 clear VW
 have VW := VW_
 clear VW_
 have VG_ := Aside0.mk (Kd.R_below VG.out hb)
 clear VG
 have VG := VG_
 clear VG_
 have Y0_ := Aside0.mk (Kd.R_below Y0.out hb)
 clear Y0
 have Y0 := Y0_
 clear Y0_
 have Y1_ := Aside0.mk (Kd.S_below Y1.out hb)
 clear Y1
 have Y1 := Y1_
 clear Y1_
 have VH := Aside0.mk (Kd.R_mono (ok' := fun k_ => w20.heap.size ≤ k_ ∧ k_ < w21.heap.size) (Kd.R_lower (Kd.R_bound ho) HB.out.size) (fun k_ h_ => ⟨h_.2.1, h_.2.2.1⟩))
 clear ho
 have HB_ := Aside0.mk (below_step HB.out hb)
 have Zw21 := Aside0.mk hb.size
 clear HB hb
 have HB := HB_
 clear HB_
 clear Y0
 clear Y1
 go_wp2_with fail
 refine (laws_eqStringS.calls k AVH cVH v AVW cVW v true _ (Kd.R_reads' VH.out).2.2 (Kd.R_reads' VH.out).2.1 (Kd.R_reads' VW.out).2.2 (Kd.R_reads' VW.out).2.1 eev.out).mono ?_
 rintro e w22 ⟨rfl, hb0⟩
 have hb : Below w21.heap.size w21 w22 := by first | exact hb0 | (obtain ⟨nd_, e_⟩ := hb0; rw [e_]; exact pw_below_drewN (Below.refl _ _) nd_)
 clear hb0
 have VW_ := Aside0.mk (Kd.R_below VW.out hb)
 clear VW
 have VW := VW_
 clear VW_
 have VG_ := Aside0.mk (Kd.R_below VG.out hb)
 clear VG
 have VG := VG_
 clear VG_
 have VH_ := Aside0.mk (Kd.R_below VH.out hb)
 clear VH
 have VH := VH_
 clear VH_
 have HB_ := Aside0.mk (below_step HB.out hb)
 have Zw22 := Aside0.mk hb.size
 clear HB hb
 have HB := HB_
 clear HB_
 clear VH VW
 go_wp2_with fail
 have eLen := (Kd.R_reads' VG.out).1
 refine calls_of_args (args' := #[.slice AVG ((marks 1 v.length) : List ByteArray).length cVG, .int .i64 1]) (by rw [← eLen]) ?_
 refine (laws_heldStringS.calls k AVG cVG (marks 1 v.length) 1 _ _ (Kd.R_reads' VG.out).2.2 (by rw [← eLen]; exact (Kd.R_reads' VG.out).2.1) ehv.out).mono ?_
 rintro e w23 ⟨rfl, hb0⟩
 clear eLen
 have hb : Below w22.heap.size w22 w23 := by first | exact hb0 | (obtain ⟨nd_, e_⟩ := hb0; rw [e_]; exact pw_below_drewN (Below.refl _ _) nd_)
 clear hb0
 have VG_ := Aside0.mk (Kd.R_below VG.out hb)
 clear VG
 have VG := VG_
 clear VG_
 have HB_ := Aside0.mk (below_step HB.out hb)
 have Zw23 := Aside0.mk hb.size
 clear HB hb
 have HB := HB_
 clear HB_
 go_wp2
 go_ret
 exact ⟨rfl, HB.out⟩
end Go.Proofs.Ytcefenlblnediaa.My

/- Plain Lean: whether a number lies between two. No condition. -/
namespace Go.Proofs.Ytcefenlblnediaa.Pl
open Go.RowKit Go.Proofs.YtcefenlblnediaaW.PrintWords Go.Proofs.YtcefenlblnediaaW.PrintLast Go.Proofs.Ytcefenlblnediaa.My
set_option linter.unusedVariables false
set_option linter.unusedSimpArgs false

def inB (n lo hi : Int) : Bool := decide (lo ≤ n) && decide (n ≤ hi)
theorem inB_iff (a b c : Int) : inB a b c = true ↔ b ≤ a ∧ a ≤ c := by
  unfold inB
  rw [Bool.and_eq_true, decide_eq_true_eq, decide_eq_true_eq]
theorem impl_in_eq (a b c : Int) : impl_in.f a b c = some (inB a b c) := by
  unfold impl_in.f inB
  by_cases h : b ≤ a
  · rw [if_pos h]; simp [h]
  · rw [if_neg (by omega)]; simp [h]
theorem spec_l1In_eq (a b c : Int) : spec_l1In.f a b c = some (inB a b c) := by
  unfold spec_l1In.f inB
  by_cases h : b ≤ a
  · rw [if_pos h]; simp [h]
  · rw [if_neg (by omega)]; simp [h]
end Go.Proofs.Ytcefenlblnediaa.Pl

/- Plain Lean: chapter 1: what a line and good lines are, for the program and the reference. Conditions: lengths and sizes below 2^63. -/
namespace Go.Proofs.Ytcefenlblnediaa.Pl
open Go.RowKit Go.Proofs.YtcefenlblnediaaW.PrintWords Go.Proofs.YtcefenlblnediaaW.PrintLast Go.Proofs.Ytcefenlblnediaa.My
set_option linter.unusedVariables false
set_option linter.unusedSimpArgs false

/-- A line. -/
def isLn (s : ByteArray) : Bool := !(s.data.toList.dropLast.contains 10) && inB s.size 1 30
/-- Its last byte is 10. -/
def ends (s : ByteArray) : Bool := s.data.toList.getLast? == some 10
def good (l : List ByteArray) : Bool := decide (l.length ≤ 40) && (l.all isLn && l.dropLast.all ends)

theorem toList_one (c : UInt8) : (⟨#[c]⟩ : ByteArray).toList = [c] := by rw [Lib.toList_data]
theorem size_one (c : UInt8) : (⟨#[c]⟩ : ByteArray).size = 1 := rfl
theorem bt_one (c : UInt8) : bt ⟨#[c]⟩ 0 = (c.toNat : Int) := rfl

theorem index_ev (s : ByteArray) (c : UInt8) : Ev (fun k => strings_Index.f k s ⟨#[c]⟩) (Lib.indexByte s.data.toList c) := by
  have hj : ∀ b : Bool, (b = true → Lib.indexByte s.data.toList c = 0) → Ev (fun k => stringslite_Index.j0 k s ⟨#[c]⟩ 1 b) (Lib.indexByte s.data.toList c) := by
    intro b hb
    refine Ev.step (fun k => stringslite_Index.j0.eq_2 ..) ?_
    refine ev_ite (fun h => ev_some (hb h).symm) (fun _ => ?_)
    refine ev_pos rfl (ev_pos (by rw [size_one]; decide) ?_)
    refine ev_const ?_
    rw [bt_one]
    simp [stringslite_IndexByte.f]
  have h2 : Ev (fun k => stringslite_Index.f k s ⟨#[c]⟩) (Lib.indexByte s.data.toList c) := by
    simp only [stringslite_Index.f]
    refine ev_neg (by rw [size_one]; decide) ?_
    refine hj _ (fun h => ?_)
    have e : s.data.toList = [c] := by
      have := beq_iff_eq.1 h
      rw [toList_one, Lib.toList_data] at this
      exact this.symm
    rw [e]
    simp [Lib.indexByte]
  simp only [strings_Index.f]
  exact ev_bind h2 (ev_some rfl)

theorem indexByte_nonneg (l : List UInt8) (c : UInt8) : decide (Lib.indexByte l c ≥ 0) = l.contains c := by
  induction l with
  | nil => simp [Lib.indexByte]
  | cons b l ih =>
    have hge := Lib.indexByte_ge l c
    unfold Lib.indexByte
    by_cases h : (b == c) = true
    · have : b = c := beq_iff_eq.1 h
      simp [this]
    · have hb : (b == c) = false := by simpa using h
      have hne : ¬ c = b := fun e => h (by simp [e])
      rw [List.contains_cons, ← ih]
      simp only [hb]
      by_cases h2 : Lib.indexByte l c = -1
      · simp [h2, hne]
      · have h3 : (Lib.indexByte l c == -1) = false := by simpa using h2
        simp only [h3]
        have : Lib.indexByte l c ≥ 0 := by omega
        simp [hne, this]
        omega

theorem contains_ev (s : ByteArray) (c : UInt8) : Ev (fun k => strings_Contains.f k s ⟨#[c]⟩) (s.data.toList.contains c) := by
  simp only [strings_Contains.f]
  exact ev_bind (index_ev s c) (ev_some (indexByte_nonneg _ _))

theorem extract_data (s : ByteArray) (a b : Nat) : (s.extract a b).data.toList = (s.data.toList.take b).drop a := by
  rw [ByteArray.data_extract, Array.toList_extract, List.extract_eq_take_drop, ← List.drop_take]

theorem isLine_ev (s : ByteArray) (hs : s.size ≤ 9223372036854775807) : Ev (fun k => impl_isLine.f k s) (isLn s) := by
  simp only [impl_isLine.f, impl_in_eq, Option.bind_some]
  refine ev_ite (fun h => ?_) (fun h => ev_some (by unfold isLn; simp at h; simp [h]))
  have h1 : 1 ≤ s.size ∧ s.size ≤ 30 := by
    simp [inB] at h
    omega
  rw [wrap_pred s.size (by omega) hs]
  refine ev_pos (by omega) (ev_pos (by omega) ?_)
  refine ev_bind (contains_ev _ 10) (ev_some ?_)
  rw [Int.toNat_natCast, extract_data, List.drop_zero, ← data_length, ← List.dropLast_eq_take]
  unfold isLn
  rw [h]
  simp

theorem l1Line_l0 (s : ByteArray) (hs : s.size ≤ 9223372036854775807) : ∀ d i, i + d = s.size - 1 → Ev (fun k => spec_l1Line.l0 k s (i : Int)) (!((s.data.toList.dropLast.drop i).contains 10) && inB s.size 1 30) := by
  intro d
  have hl : s.data.toList.length = s.size := data_length s
  induction d with
  | zero =>
    intro i hi
    refine Ev.step (fun k => spec_l1Line.l0.eq_2 ..) ?_
    refine ev_neg (by rw [wrap64_id (by omega) (by omega)]; omega) ?_
    refine ev_const ?_
    rw [spec_l1In_eq, List.drop_of_length_le (by rw [List.length_dropLast]; omega)]
    rfl
  | succ d ih =>
    intro i hi
    refine Ev.step (fun k => spec_l1Line.l0.eq_2 ..) ?_
    refine ev_pos (by rw [wrap64_id (by omega) (by omega)]; omega) (ev_pos (by omega) (ev_pos (by omega) ?_))
    have hd : s.data.toList.dropLast.drop i = s.data.toList[i] :: s.data.toList.dropLast.drop (i + 1) := by
      rw [List.drop_eq_getElem_cons (by rw [List.length_dropLast]; omega), List.getElem_dropLast]
    rw [hd, List.contains_cons, bt_nat s i (by omega)]
    refine ev_ite (fun h => ev_some ?_) (fun h => ?_)
    · have : s.data.toList[i] = 10 := u8_eq h
      rw [this]
      simp
    · rw [wrap_succ i (by omega)]
      refine ev_to (ih (i + 1) (by omega)) ?_
      have : ((10 : UInt8) == s.data.toList[i]) = false := by
        rw [beq_eq_false_iff_ne]
        exact u8_ne h
      rw [this, Bool.false_or]

theorem l1Line_ev (s : ByteArray) (hs : s.size ≤ 9223372036854775807) : Ev (fun k => spec_l1Line.f k s) (isLn s) := by
  simp only [spec_l1Line.f]
  exact l1Line_l0 s hs (s.size - 1) 0 (by omega)

theorem isLn_size {s : ByteArray} (h : isLn s = true) : 1 ≤ s.size ∧ s.size ≤ 30 := by
  simp [isLn, inB] at h
  omega

theorem ends_last {s : ByteArray} (h : 1 ≤ s.size) : ends s = (bt s ((s.size - 1 : Nat) : Int) == 10) := by
  have hl : s.data.toList.length = s.size := data_length s
  have hq : s.data.toList.getLast? = some (s.data.toList[s.size - 1]'(by omega)) := by
    rw [List.getLast?_eq_getElem?, List.getElem?_eq_getElem (by omega)]
    simp only [hl]
  unfold ends
  rw [bt_nat s _ (by omega), hq]
  rw [Bool.eq_iff_iff]
  simp only [beq_iff_eq, Option.some.injEq]
  constructor
  · intro e; rw [e]; rfl
  · intro e; exact u8_eq e

theorem l1Ends_eq (s : ByteArray) (h : 1 ≤ s.size) (hs : s.size ≤ 9223372036854775807) : spec_l1Ends.f s = some (ends s) := by
  unfold spec_l1Ends.f
  rw [wrap_pred s.size (by omega) hs, if_pos (by omega), if_pos (by omega), ends_last h]

theorem hasSuffix_eq (s : ByteArray) (c : UInt8) (hs : s.size ≤ 9223372036854775807) : strings_HasSuffix.f s ⟨#[c]⟩ = some (s.data.toList.getLast? == some c) := by
  have hl : s.data.toList.length = s.size := data_length s
  unfold strings_HasSuffix.f stringslite_HasSuffix.f
  rw [size_one]
  by_cases h : 1 ≤ s.size
  · rw [if_pos (by omega), show ((1 : Nat) : Int) = 1 from rfl, wrap_pred s.size (by omega) hs, if_pos (by omega), if_pos (by omega), Option.bind_some, toList_one, Lib.toList_data, Int.toNat_natCast, extract_data, ← hl, List.take_length]
    have e : s.data.toList.drop (s.data.toList.length - 1) = [s.data.toList[s.data.toList.length - 1]'(by omega)] := by
      rw [List.drop_eq_getElem_cons (by omega), List.drop_of_length_le (by omega)]
    rw [e, List.getLast?_eq_getElem?, List.getElem?_eq_getElem (by omega)]
    congr 1
    rw [Bool.eq_iff_iff]
    simp
  · rw [if_neg (by omega), Option.bind_some]
    have : s.data.toList = [] := List.eq_nil_of_length_eq_zero (by omega)
    simp [this]

theorem isEnded_eq (s : ByteArray) (hs : s.size ≤ 9223372036854775807) : impl_isEnded.f s = some (ends s) := by
  unfold impl_isEnded.f
  rw [hasSuffix_eq s 10 hs]
  rfl

theorem areLines_l0 (l : List ByteArray) (hf : FitS l) : ∀ d i, i + d = l.length → ∃ j : Int, Ev (fun k => slices_IndexFunc_string_string__impl_areLines_1.l0 k l (l.length : Int) (i : Int)) j ∧ decide (j ≥ 0) = !((l.drop i).all isLn) := by
  intro d
  induction d with
  | zero =>
    intro i hi
    refine ⟨-1, Ev.step (fun k => slices_IndexFunc_string_string__impl_areLines_1.l0.eq_2 ..) (ev_neg (by omega) (ev_some rfl)), ?_⟩
    rw [List.drop_of_length_le (by omega)]
    rfl
  | succ d ih =>
    intro i hi
    have hlt : i < l.length := by omega
    have hev : Ev (fun k => impl_areLines_1.f k (rdOf ByteArray.empty l (i : Int))) (!isLn l[i]) := by
      rw [rdOf_lt _ _ _ hlt]
      simp only [impl_areLines_1.f]
      exact ev_bind (isLine_ev _ (hf.2 _ (List.getElem_mem _))) (ev_some rfl)
    obtain ⟨j, hj, hjj⟩ := ih (i + 1) (by omega)
    rw [drop_cons l i hlt, List.all_cons]
    by_cases h : isLn l[i] = true
    · refine ⟨j, Ev.step (fun k => slices_IndexFunc_string_string__impl_areLines_1.l0.eq_2 ..) (ev_pos (by omega) (ev_pos (by omega) (ev_pos (by omega) (ev_bind hev (ev_neg (by simp [h]) ?_))))), by rw [hjj, h]; simp⟩
      rw [wrap_succ i (by have := hf.1; omega)]
      exact hj
    · refine ⟨(i : Int), Ev.step (fun k => slices_IndexFunc_string_string__impl_areLines_1.l0.eq_2 ..) (ev_pos (by omega) (ev_pos (by omega) (ev_pos (by omega) (ev_bind hev (ev_pos (by simp [h]) (ev_some rfl)))))), ?_⟩
      simp [h]

theorem areLines_ev (l : List ByteArray) (hf : FitS l) : Ev (fun k => impl_areLines.f k l) (decide (l.length ≤ 40) && l.all isLn) := by
  simp only [impl_areLines.f]
  refine ev_ite (fun h => ?_) (fun h => ev_some ?_)
  · obtain ⟨j, hj, hjj⟩ := areLines_l0 l hf l.length 0 (by omega)
    simp only [slices_ContainsFunc_string_string__impl_areLines_1.f, slices_IndexFunc_string_string__impl_areLines_1.f]
    refine ev_bind (ev_bind hj (ev_some rfl)) (ev_some ?_)
    have : l.length ≤ 40 := by omega
    rw [hjj]
    simp [this]
  · have : ¬ l.length ≤ 40 := by omega
    simp [this]

theorem goodLines_l0 (l : List ByteArray) (hf : FitS l) : ∀ d i, i + d = l.length → Ev (fun k => impl_goodLines.l0 k l l (l.length : Int) (i : Int)) ((l.dropLast.drop i).all ends) := by
  intro d
  have hL := hf.1
  induction d with
  | zero =>
    intro i hi
    refine Ev.step (fun k => impl_goodLines.l0.eq_2 ..) (ev_neg (by omega) (ev_some ?_))
    rw [List.drop_of_length_le (by rw [List.length_dropLast]; omega)]
    rfl
  | succ d ih =>
    intro i hi
    have hlt : i < l.length := by omega
    refine Ev.step (fun k => impl_goodLines.l0.eq_2 ..) (ev_pos (by omega) (ev_pos (by omega) (ev_pos (by omega) ?_)))
    rw [wrap_pred l.length (by omega) hL, rdOf_lt _ _ _ hlt, isEnded_eq _ (hf.2 _ (List.getElem_mem _)), wrap_succ i (by omega)]
    simp only [Option.bind_some]
    refine ev_ite (fun h => ?_) (fun h => ?_)
    · have hd : l.dropLast.drop i = l[i] :: l.dropLast.drop (i + 1) := by
        rw [List.drop_eq_getElem_cons (by rw [List.length_dropLast]; omega), List.getElem_dropLast]
      rw [hd, List.all_cons]
      refine ev_ite (fun h => ?_) (fun h => ev_some (by simp [h]))
      rw [h, Bool.true_and]
      exact ih (i + 1) (by omega)
    · have e1 : l.dropLast.drop i = [] := List.drop_of_length_le (by rw [List.length_dropLast]; omega)
      have e2 : l.dropLast.drop (i + 1) = [] := List.drop_of_length_le (by rw [List.length_dropLast]; omega)
      have := ih (i + 1) (by omega)
      rw [e2] at this
      rw [e1]
      exact this

theorem goodLines_ev (l : List ByteArray) (hf : FitS l) : Ev (fun k => impl_goodLines.f k l) (good l) := by
  simp only [impl_goodLines.f]
  refine ev_bind (areLines_ev l hf) (ev_ite (fun h => ?_) (fun h => ev_some ?_))
  · refine ev_to (goodLines_l0 l hf l.length 0 (by omega)) ?_
    rw [List.drop_zero]
    unfold good
    rw [← Bool.and_assoc, h, Bool.true_and]
  · unfold good
    rw [← Bool.and_assoc]
    simp at h
    simp
    intro h1 h2
    exact absurd (h h1) (by simpa using h2)

theorem l1Good_l0 (l : List ByteArray) (hf : FitS l) : ∀ d i, i + d = l.length → Ev (fun k => spec_l1Good.l0 k l l (l.length : Int) (i : Int)) ((l.drop i).all isLn && (l.dropLast.drop i).all ends && decide (l.length ≤ 40)) := by
  intro d
  have hL := hf.1
  induction d with
  | zero =>
    intro i hi
    refine Ev.step (fun k => spec_l1Good.l0.eq_2 ..) (ev_neg (by omega) (ev_some ?_))
    rw [List.drop_of_length_le (by omega), List.drop_of_length_le (by rw [List.length_dropLast]; omega)]
    simp
    omega
  | succ d ih =>
    intro i hi
    have hlt : i < l.length := by omega
    refine Ev.step (fun k => spec_l1Good.l0.eq_2 ..) (ev_pos (by omega) (ev_pos (by omega) (ev_pos (by omega) ?_)))
    simp only [rdOf_lt _ _ _ hlt]
    rw [wrap_pred l.length (by omega) hL, wrap_succ i (by omega), drop_cons l i hlt, List.all_cons]
    refine ev_bind (l1Line_ev _ (hf.2 _ (List.getElem_mem _))) (ev_ite (fun h => ?_) (fun h => ev_some (by simp [h])))
    rw [h, Bool.true_and, l1Ends_eq _ (isLn_size h).1 (hf.2 _ (List.getElem_mem _))]
    simp only [Option.bind_some]
    refine ev_ite (fun h => ?_) (fun h => ?_)
    · have hd : l.dropLast.drop i = l[i] :: l.dropLast.drop (i + 1) := by
        rw [List.drop_eq_getElem_cons (by rw [List.length_dropLast]; omega), List.getElem_dropLast]
      rw [hd, List.all_cons]
      refine ev_ite (fun h => ?_) (fun h => ev_some (by simp [h]))
      rw [h, Bool.true_and]
      exact ih (i + 1) (by omega)
    · have e1 : l.dropLast.drop i = [] := List.drop_of_length_le (by rw [List.length_dropLast]; omega)
      have e2 : l.dropLast.drop (i + 1) = [] := List.drop_of_length_le (by rw [List.length_dropLast]; omega)
      have := ih (i + 1) (by omega)
      rw [e2] at this
      rw [e1]
      exact this

theorem l1Good_ev (l : List ByteArray) (hf : FitS l) : Ev (fun k => spec_l1Good.f k l) (good l) := by
  simp only [spec_l1Good.f]
  refine ev_to (l1Good_l0 l hf l.length 0 (by omega)) ?_
  rw [List.drop_zero, List.drop_zero]
  unfold good
  rw [Bool.and_comm]
end Go.Proofs.Ytcefenlblnediaa.Pl

/- Plain Lean: hunks that fit. No condition. -/
namespace Go.Proofs.Ytcefenlblnediaa.Pl
open Go.RowKit Go.Proofs.YtcefenlblnediaaW.PrintWords Go.Proofs.YtcefenlblnediaaW.PrintLast Go.Proofs.Ytcefenlblnediaa.My
set_option linter.unusedVariables false
set_option linter.unusedSimpArgs false
abbrev IH := S111
theorem rdIH (l : List IH) (i : Nat) (h : i < l.length) : rd_T111 l (i : Int) = l[i] := getD_lt l _ i h

theorem ih_ext {x y : IH} (h0 : x.f0 = y.f0) (h1 : x.f1 = y.f1) (h2 : x.f2 = y.f2) : x = y := by
  cases x; cases y; simp_all

/-- Hunks that came in fit. -/
def FitI (l : List IH) : Prop := l.length ≤ 9223372036854775807 ∧ ∀ x ∈ l, (-9223372036854775808 ≤ x.f0 ∧ x.f0 ≤ 9223372036854775807) ∧ (-9223372036854775808 ≤ x.f1 ∧ x.f1 ≤ 9223372036854775807) ∧ FitS x.f2

instance : DecidableEq IH := fun x y => decidable_of_iff (x.f0 = y.f0 ∧ x.f1 = y.f1 ∧ x.f2 = y.f2) ⟨fun ⟨a, b, c⟩ => ih_ext a b c, fun h => by rw [h]; exact ⟨rfl, rfl, rfl⟩⟩

end Go.Proofs.Ytcefenlblnediaa.Pl

/- Plain Lean: chapter 2: when hunks are good, for the program and the reference. Conditions: lengths and sizes below 2^63. -/
namespace Go.Proofs.Ytcefenlblnediaa.Pl
open Go.RowKit Go.Proofs.YtcefenlblnediaaW.PrintWords Go.Proofs.YtcefenlblnediaaW.PrintLast Go.Proofs.Ytcefenlblnediaa.My
set_option linter.unusedVariables false
set_option linter.unusedSimpArgs false

/-- What one hunk must be, the last one having ended at p. -/
def hNum (n p : Int) (x : IH) : Prop := 0 ≤ x.f0 ∧ 0 ≤ x.f1 ∧ x.f0 + x.f1 ≤ n ∧ ¬ (x.f1 = 0 ∧ x.f2.length = 0) ∧ x.f2.length ≤ 40 ∧ p < x.f0
instance (n p : Int) (x : IH) : Decidable (hNum n p x) := by unfold hNum; infer_instance
def hOK (n p : Int) (x : IH) : Bool := decide (hNum n p x) && x.f2.all isLn
/-- Each starts past the last one's end. -/
def chain (n : Int) : Int → List IH → Bool
  | _, [] => true
  | p, x :: t => hOK n p x && chain n (x.f0 + x.f1) t
def goodH (n : Int) (h : List IH) : Bool := inB n 0 40 && (decide (h.length ≤ 20) && chain n (-1) h)

/-- Where the last one before place i ended. -/
def before (n : Int) (h : List IH) (i : Nat) (p : Int) : Prop := (i = 0 ∧ p = -1) ∨ ∃ (j : Nat) (hj : j < h.length), i = j + 1 ∧ p = h[j].f0 + h[j].f1 ∧ 0 ≤ h[j].f0 ∧ 0 ≤ h[j].f1 ∧ p ≤ n

theorem chain_cons (n p : Int) (h : List IH) (i : Nat) (hi : i < h.length) : chain n p (h.drop i) = (hOK n p h[i] && chain n (h[i].f0 + h[i].f1) (h.drop (i + 1))) := by
  rw [List.drop_eq_getElem_cons hi]
  rfl

theorem goodHunks_l0 (n : Int) (h : List IH) (hf : FitI h) (h0 : 0 ≤ n) (h1 : n ≤ 40) : ∀ d i p, i + d = h.length → before n h i p → Ev (fun k => impl_goodHunks.l0 k n h h (h.length : Int) (i : Int)) (chain n p (h.drop i)) := by
  intro d
  have hL := hf.1
  induction d with
  | zero =>
    intro i p hi hp
    refine Ev.step (fun k => impl_goodHunks.l0.eq_2 ..) (ev_neg (by omega) (ev_some ?_))
    rw [List.drop_of_length_le (by omega)]
    rfl
  | succ d ih =>
    intro i p hi hp
    have hlt : i < h.length := by omega
    obtain ⟨b0, b1, b2⟩ := hf.2 _ (List.getElem_mem hlt)
    refine Ev.step (fun k => impl_goodHunks.l0.eq_2 ..) ?_
    simp only [rdIH h i hlt, impl_in_eq, Option.bind_some, chain_cons n p h i hlt]
    generalize hx : h[i] = x at *
    have bad : ¬ (hNum n (-1) x ∧ x.f2.all isLn = true) → Ev (fun k => impl_goodHunks.j2 k n h (i : Int) h (h.length : Int) (i : Int) true x.f0 x.f1 x.f2) (hOK n p x && chain n (x.f0 + x.f1) (h.drop (i + 1))) := by
      intro hb
      refine Ev.step (fun k => impl_goodHunks.j2.eq_2 ..) (ev_pos rfl (ev_some ?_))
      have : hOK n p x = false := by
        rw [Bool.eq_false_iff]
        intro ht
        unfold hOK at ht
        rw [Bool.and_eq_true, decide_eq_true_eq] at ht
        obtain ⟨⟨q0, q1, q2, q3, q4, q5⟩, q6⟩ := ht
        exact hb ⟨⟨q0, q1, q2, q3, q4, by omega⟩, q6⟩
      rw [this]
      rfl
    have ok : hNum n (-1) x → x.f2.all isLn = true → Ev (fun k => impl_goodHunks.j2 k n h (i : Int) h (h.length : Int) (i : Int) false x.f0 x.f1 x.f2) (hOK n p x && chain n (x.f0 + x.f1) (h.drop (i + 1))) := by
      intro hb hl
      obtain ⟨q0, q1, q2, q3, q4, q5⟩ := hb
      have nx : before n h (i + 1) (x.f0 + x.f1) := .inr ⟨i, hlt, rfl, by rw [hx], by rw [hx]; exact q0, by rw [hx]; exact q1, q2⟩
      have go : p < x.f0 → Ev (fun k => impl_goodHunks.l0 k n h h (h.length : Int) (wrap64 ((i : Int) + 1))) (hOK n p x && chain n (x.f0 + x.f1) (h.drop (i + 1))) := by
        intro hp
        rw [wrap_succ i (by omega)]
        refine ev_to (ih (i + 1) _ (by omega) nx) ?_
        have : hOK n p x = true := by
          unfold hOK
          rw [Bool.and_eq_true, decide_eq_true_eq]
          exact ⟨⟨q0, q1, q2, q3, q4, hp⟩, hl⟩
        rw [this, Bool.true_and]
      refine Ev.step (fun k => impl_goodHunks.j2.eq_2 ..) (ev_neg (by simp) (ev_ite (fun hi0 => ?_) (fun hi0 => go ?_)))
      · rcases hp with ⟨e, _⟩ | ⟨j, hj, rfl, rfl, r0, r1, r2⟩
        · omega
        · have ew : wrap64 (((j + 1 : Nat) : Int) - 1) = (j : Int) := by rw [wrap64_id (by omega) (by omega)]; omega
          simp only [ew, rdIH h j hj]
          rw [wrap64_id (by omega) (by omega)]
          refine ev_pos (by omega) (ev_pos (by omega) (ev_ite (fun hc => ev_some ?_) (fun hc => go (by omega))))
          have : hOK n (h[j].f0 + h[j].f1) x = false := by
            rw [Bool.eq_false_iff]
            intro ht
            unfold hOK at ht
            rw [Bool.and_eq_true, decide_eq_true_eq] at ht
            have := ht.1.2.2.2.2.2
            omega
          rw [this]
          rfl
      · rcases hp with ⟨_, e⟩ | ⟨j, hj, e, _⟩ <;> omega
    refine ev_pos (by omega) (ev_pos (by omega) (ev_pos (by omega) (ev_ite (fun c0 => ?_) (fun c0 => bad (fun hb => c0 ?_)))))
    · rw [inB_iff] at c0
      rw [wrap64_id (by omega) (by omega)]
      refine ev_ite (fun c1 => ?_) (fun c1 => bad (fun hb => c1 ?_))
      · rw [inB_iff] at c1
        refine ev_bind (areLines_ev x.f2 b2) (ev_ite (fun c2 => ?_) (fun c2 => bad (fun hb => c2 ?_)))
        · rw [Bool.and_eq_true, decide_eq_true_eq] at c2
          refine ev_ite (fun c3 => ?_) (fun c3 => ok ⟨c0.1, c1.1, by omega, fun e => c3 e.1, c2.1, by omega⟩ c2.2)
          by_cases c4 : x.f2.length = 0
          · rw [show (((x.f2.length : Int) == 0) = true) from by rw [c4]; rfl]
            exact bad (fun hb => hb.1.2.2.2.1 ⟨c3, c4⟩)
          · rw [show (((x.f2.length : Int) == 0) = false) from by rw [beq_eq_false_iff_ne]; omega]
            exact ok ⟨c0.1, c1.1, by omega, fun e => c4 e.2, c2.1, by omega⟩ c2.2
        · rw [Bool.and_eq_true, decide_eq_true_eq]
          exact ⟨hb.1.2.2.2.2.1, hb.2⟩
      · rw [inB_iff]
        obtain ⟨⟨q0, q1, q2, q3, q4, q5⟩, q6⟩ := hb
        omega
    · rw [inB_iff]
      obtain ⟨⟨q0, q1, q2, q3, q4, q5⟩, q6⟩ := hb
      omega

theorem goodHunks_ev (n : Int) (h : List IH) (hf : FitI h) : Ev (fun k => impl_goodHunks.f k n h) (goodH n h) := by
  simp only [impl_goodHunks.f, impl_in_eq, Option.bind_some]
  unfold goodH
  refine ev_ite (fun c => ?_) (fun c => ?_)
  · rw [c, Bool.true_and]
    rw [inB_iff] at c
    refine Ev.step (fun k => impl_goodHunks.j0.eq_2 ..) (ev_ite (fun e => ev_some ?_) (fun e => ?_))
    · rw [decide_eq_true_eq] at e
      rw [decide_eq_false (by omega), Bool.false_and]
    · rw [decide_eq_true_eq] at e
      rw [decide_eq_true (by omega), Bool.true_and]
      exact goodHunks_l0 n h hf c.1 c.2 h.length 0 (-1) (by omega) (.inl ⟨rfl, rfl⟩)
  · refine Ev.step (fun k => impl_goodHunks.j0.eq_2 ..) (ev_pos rfl (ev_some ?_))
    rw [Bool.not_eq_true] at c
    rw [c, Bool.false_and]
end Go.Proofs.Ytcefenlblnediaa.Pl
