/- Part 4 of 6 of a proof of this sentence: The Go function loop.example/g00825/laws.FnJoined returns true for every input, and each argument reads afterwards as it read before. No condition. -/
import Derived.Test.YtcefenlblnediaaCFnJoined3
/- Written by this session's program (wip/gen): a plain function with the same answers as the Go function, and the proof that the Go code comes to them. Asked: that the plain function has an answer. -/
namespace Go.Proofs.Ytcefenlblnediaa.My
open Go.RowKit Go.Proofs.YtcefenlblnediaaW.PrintWords Go.Proofs.YtcefenlblnediaaW.PrintLast Go.Proofs.YtcefenlblnediaaW.PrintMore
attribute [local go_sem] max2_int min2_int max_two min_two max_three min_three max_four min_four
set_option linter.unusedVariables false
set_option linter.unusedSimpArgs false

/-! ### laws_big: function 32 -/
def laws_big.f (l0 : List Int) (l1 : List Int) : Option (Bool) := if (l0.length : Int) > 1048576 then (some true) else (some (decide ((l1.length : Int) > (wrap64 (1048576 - (l0.length : Int))))))
set_option maxHeartbeats 8000000 in
set_option maxRecDepth 100000 in
theorem laws_big.calls (A0 : Option Addr) (c0 : Nat) (l0 : List Int) (A1 : Option Addr) (c1 : Nat) (l1 : List Int) (r : Bool) (w : World) (hr0 : Kd.C (Kd.int .u8) w A0 l0.length l0) (hc0 : l0.length ≤ c0) (hr1 : Kd.C (Kd.int .u8) w A1 l1.length l1) (hc1 : l1.length ≤ c1) (h : laws_big.f l0 l1 = some r) :
  Calls Try.prog 32 #[.slice A0 l0.length c0, .slice A1 l1.length c1] w fun e w' => e = .returned (.bool r) ∧ Drawn0 w w' := by
 have HR0 := Aside0.mk hr0
 have HC0 := Aside0.mk hc0
 clear hr0 hc0
 have HR1 := Aside0.mk hr1
 have HC1 := Aside0.mk hc1
 clear hr1 hc1
 have H : (if (l0.length : Int) > 1048576 then (some true) else (some (decide ((l1.length : Int) > (wrap64 (1048576 - (l0.length : Int))))))) = some r := h
 clear h
 by_cases c3 : (l0.length : Int) > 1048576
 ·rw [if_pos c3] at H
  have c3b0 : decide (1048576 < (l0.length : Int)) = true := decide_eq_true c3
  have c3b1 : decide (1048576 < l0.length) = true := decide_eq_true (by omega)
  clear c3
  obtain rfl := Option.some.inj H
  go_enter Try.func32, Try.ntmps32
  go_wp2
  go_ret
  exact ⟨by first | rfl | (simp; done) | (simp [*]; done), by repeat (first | exact Drawn0.refl _ | apply Drawn0.step)⟩
 ·rw [if_neg c3] at H
  have c3b0 : decide (1048576 < (l0.length : Int)) = false := decide_eq_false c3
  have c3b1 : decide (1048576 < l0.length) = false := decide_eq_false (by omega)
  clear c3
  obtain rfl := Option.some.inj H
  go_enter Try.func32, Try.ntmps32
  go_wp2
  go_ret
  exact ⟨by first | rfl | (simp; done) | (simp [*]; done), by repeat (first | exact Drawn0.refl _ | apply Drawn0.step)⟩

end Go.Proofs.Ytcefenlblnediaa.My

/- Written by this session's program (wip/gen): a plain function with the same answers as the Go function, and the proof that the Go code comes to them. Asked: that the plain function has an answer. -/
namespace Go.Proofs.Ytcefenlblnediaa.My
open Go.RowKit Go.Proofs.YtcefenlblnediaaW.PrintWords Go.Proofs.YtcefenlblnediaaW.PrintLast Go.Proofs.YtcefenlblnediaaW.PrintMore
attribute [local go_sem] max2_int min2_int max_two min_two max_three min_three max_four min_four
set_option linter.unusedVariables false
set_option linter.unusedSimpArgs false

/-! ### laws_sameTexts: function 36 -/
def laws_sameTexts.l0 : Nat → List ByteArray → List ByteArray → Int → Int → Option (Bool)
 | 0, _, _, _, _ => none
 | k + 1, x0, x1, x12, x13 => if x13 < x12 then (if 0 ≤ x13 then (if x13 < (x0.length : Int) then (if x13 < (x1.length : Int) then (if (rdOf ByteArray.empty x0 x13).toList = (rdOf ByteArray.empty x1 x13).toList then (laws_sameTexts.l0 k x0 x1 x12 (wrap64 (x13 + 1))) else (some false)) else (none)) else (none)) else (none)) else (some true)
def laws_sameTexts.f (k : Nat) (l0 : List ByteArray) (l1 : List ByteArray) : Option (Bool) := if (l0.length : Int) = (l1.length : Int) then (laws_sameTexts.l0 k l0 l1 (l0.length : Int) 0) else (some false)
set_option maxHeartbeats 8000000 in
set_option maxRecDepth 100000 in
theorem laws_sameTexts.calls (k : Nat) (A0 : Option Addr) (c0 : Nat) (l0 : List ByteArray) (A1 : Option Addr) (c1 : Nat) (l1 : List ByteArray) (r : Bool) (w : World) (hr0 : Kd.C Kd.string w A0 l0.length l0) (hc0 : l0.length ≤ c0) (hr1 : Kd.C Kd.string w A1 l1.length l1) (hc1 : l1.length ≤ c1) (h : laws_sameTexts.f k l0 l1 = some r) :
  Calls Try.prog 36 #[.slice A0 l0.length c0, .slice A1 l1.length c1] w fun e w' => e = .returned (.bool r) ∧ Drawn0 w w' := by
 have HR0 := Aside0.mk hr0
 have HC0 := Aside0.mk hc0
 clear hr0 hc0
 have HR1 := Aside0.mk hr1
 have HC1 := Aside0.mk hc1
 clear hr1 hc1
 have H : (if (l0.length : Int) = (l1.length : Int) then (laws_sameTexts.l0 k l0 l1 (l0.length : Int) 0) else (some false)) = some r := h
 clear h
 by_cases c3 : (l0.length : Int) = (l1.length : Int)
 ·rw [if_pos c3] at H
  have c3b0 : ((l0.length : Int) == (l1.length : Int)) = true := beq_iff_eq.mpr c3
  have c3b1 : ((l0.length : Int) != (l1.length : Int)) = false := bne_eq_false_iff_eq.mpr c3
  have c3b2 : (l0.length == l1.length) = true := by first | simpa using c3 | (simp at c3 ⊢; omega)
  clear c3
  have H' := Aside0.mk H
  clear H
  go_enter Try.func36, Try.ntmps36
  go_wp2
  repeat (go_quiet (fail); try go_wp2)
  go_loopg [13] k (fun kq v13 w' => ∃ (x13_1 : Int), v13 = .int .i64 x13_1 ∧ Aside0 (laws_sameTexts.l0 kq l0 l1 (l0.length : Int) x13_1 = some r) ∧ Aside0 (kq ≤ k) ∧ Drawn0 w w')
  case atStart => exact ⟨(0), zf, H', ⟨Nat.le_refl _⟩, by repeat (first | exact Drawn0.refl _ | apply Drawn0.step)⟩
  case round =>
   clear H'
   try clear c1
   try clear p2
   try clear c3
   try clear c3b0
   try clear c3b1
   try clear c3b2
   obtain ⟨x13_1, rfl, HA, HK1, ⟨m1, rfl⟩⟩ := hrel
   cases gk with
   | zero => exact absurd HA.out (by simp [laws_sameTexts.l0])
   | succ k1 =>
    have H := HA.out
    clear HA
    simp only [laws_sameTexts.l0] at H
    by_cases c4 : x13_1 < (l0.length : Int)
    ·rw [if_pos c4] at H
     have c4b0 : decide (x13_1 < (l0.length : Int)) = true := decide_eq_true c4
     clear c4
     by_cases c5 : 0 ≤ x13_1
     ·rw [if_pos c5] at H
      have c5b0 : decide (0 ≤ x13_1) = true := decide_eq_true c5
      clear c5
      by_cases c6 : x13_1 < (l0.length : Int)
      ·rw [if_pos c6] at H
       have c6b0 : decide (x13_1 < (l0.length : Int)) = true := decide_eq_true c6
       clear c6
       by_cases c7 : x13_1 < (l1.length : Int)
       ·rw [if_pos c7] at H
        have c7b0 : decide (x13_1 < (l1.length : Int)) = true := decide_eq_true c7
        clear c7
        by_cases c8 : (rdOf ByteArray.empty l0 x13_1).toList = (rdOf ByteArray.empty l1 x13_1).toList
        ·rw [if_pos c8] at H
         have c8b0 : ((rdOf ByteArray.empty l0 x13_1).toList == (rdOf ByteArray.empty l1 x13_1).toList) = true := beq_iff_eq.mpr c8
         have c8b1 : ((rdOf ByteArray.empty l0 x13_1).toList != (rdOf ByteArray.empty l1 x13_1).toList) = false := bne_eq_false_iff_eq.mpr c8
         clear c8
         have H' := Aside0.mk H
         clear H
         have p763 : 0 ≤ (x13_1 : Int) := oa
         have q763 : x13_1 < (l0.length : Int) := oa
         obtain ⟨ad763, e763, hx763_0⟩ := Kd.at_string HR0.out x13_1 p763 q763
         cases e763
         replace p763 := eq_true p763
         replace q763 := eq_true q763
         have p764 : 0 ≤ (x13_1 : Int) := oa
         have q764 : x13_1 < (l1.length : Int) := oa
         obtain ⟨ad764, e764, hx764_0⟩ := Kd.at_string HR1.out x13_1 p764 q764
         cases e764
         replace p764 := eq_true p764
         replace q764 := eq_true q764
         go_wp2
         repeat (go_quiet (fail); try go_wp2)
         go_roundg k1
         case measure => have := HK1.out; omega
         case rel => exact ⟨(wrap64 (x13_1 + 1)), zf, H', ⟨by have := HK1.out; omega⟩, by repeat (first | exact Drawn0.refl _ | apply Drawn0.step)⟩
        ·rw [if_neg c8] at H
         have c8b0 : ((rdOf ByteArray.empty l0 x13_1).toList == (rdOf ByteArray.empty l1 x13_1).toList) = false := beq_eq_false_iff_ne.mpr c8
         have c8b1 : ((rdOf ByteArray.empty l0 x13_1).toList != (rdOf ByteArray.empty l1 x13_1).toList) = true := bne_iff_ne.mpr c8
         obtain rfl := Option.some.inj H
         have p763 : 0 ≤ (x13_1 : Int) := oa
         have q763 : x13_1 < (l0.length : Int) := oa
         obtain ⟨ad763, e763, hx763_0⟩ := Kd.at_string HR0.out x13_1 p763 q763
         cases e763
         replace p763 := eq_true p763
         replace q763 := eq_true q763
         have p764 : 0 ≤ (x13_1 : Int) := oa
         have q764 : x13_1 < (l1.length : Int) := oa
         obtain ⟨ad764, e764, hx764_0⟩ := Kd.at_string HR1.out x13_1 p764 q764
         cases e764
         replace p764 := eq_true p764
         replace q764 := eq_true q764
         go_wp2
         repeat (go_quiet (fail); try go_wp2)
         go_ret
         exact ⟨by first | rfl | (simp; done) | (simp [*]; done), by repeat (first | exact Drawn0.refl _ | apply Drawn0.step)⟩
       ·rw [if_neg c7] at H
        exact absurd H (by simp)
      ·rw [if_neg c6] at H
       exact absurd H (by simp)
     ·rw [if_neg c5] at H
      exact absurd H (by simp)
    ·rw [if_neg c4] at H
     have c4b0 : decide (x13_1 < (l0.length : Int)) = false := decide_eq_false c4
     clear c4
     obtain rfl := Option.some.inj H
     go_wp2
     repeat (go_quiet (fail); try go_wp2)
     go_ret
     exact ⟨by first | rfl | (simp; done) | (simp [*]; done), by repeat (first | exact Drawn0.refl _ | apply Drawn0.step)⟩
 ·rw [if_neg c3] at H
  have c3b0 : ((l0.length : Int) == (l1.length : Int)) = false := beq_eq_false_iff_ne.mpr c3
  have c3b1 : ((l0.length : Int) != (l1.length : Int)) = true := bne_iff_ne.mpr c3
  have c3b2 : (l0.length == l1.length) = false := by first | simpa using c3 | (simp at c3 ⊢; omega)
  obtain rfl := Option.some.inj H
  go_enter Try.func36, Try.ntmps36
  go_wp2
  repeat (go_quiet (fail); try go_wp2)
  go_ret
  exact ⟨by first | rfl | (simp; done) | (simp [*]; done), by repeat (first | exact Drawn0.refl _ | apply Drawn0.step)⟩

end Go.Proofs.Ytcefenlblnediaa.My

/- Written by this session's program (wip/gen): a plain function with the same answers as the Go function, and the proof that the Go code comes to them. Asked: that the plain function has an answer. -/
namespace Go.Proofs.Ytcefenlblnediaa.My
open Go.RowKit Go.Proofs.YtcefenlblnediaaW.PrintWords Go.Proofs.YtcefenlblnediaaW.PrintLast Go.Proofs.YtcefenlblnediaaW.PrintMore
attribute [local go_sem] max2_int min2_int max_two min_two max_three min_three max_four min_four
set_option linter.unusedVariables false
set_option linter.unusedSimpArgs false

/-! ### laws_sameHunks: function 34 -/
def laws_sameHunks.l0 : Nat → List (S111) → List (S111) → Int → Int → Option (Bool)
 | 0, _, _, _, _ => none
 | k + 1, x1, x12, x13, x14 => if x14 < x13 then (if 0 ≤ x14 then (if x14 < (x12.length : Int) then (if x14 < (x1.length : Int) then (if ((rd_T111 x12 x14).f0) = ((rd_T111 x1 x14).f0) then (if ((rd_T111 x12 x14).f1) = ((rd_T111 x1 x14).f1) then ((laws_sameTexts.f k ((rd_T111 x12 x14).f2) ((rd_T111 x1 x14).f2)).bind fun t770 => (if t770 = true then (laws_sameHunks.l0 k x1 x12 x13 (wrap64 (x14 + 1))) else (some false))) else (some false)) else (some false)) else (none)) else (none)) else (none)) else (some true)
def laws_sameHunks.f (k : Nat) (l0 : List (S111)) (l1 : List (S111)) : Option (Bool) := if (l0.length : Int) = (l1.length : Int) then (laws_sameHunks.l0 k l1 l0 (l0.length : Int) 0) else (some false)
set_option maxHeartbeats 8000000 in
set_option maxRecDepth 100000 in
theorem laws_sameHunks.calls (k : Nat) (A0 : Option Addr) (c0 : Nat) (l0 : List (S111)) (A1 : Option Addr) (c1 : Nat) (l1 : List (S111)) (r : Bool) (w : World) (hr0 : Kd.C k111 w A0 l0.length l0) (hc0 : l0.length ≤ c0) (hr1 : Kd.C k111 w A1 l1.length l1) (hc1 : l1.length ≤ c1) (h : laws_sameHunks.f k l0 l1 = some r) :
  Calls Try.prog 34 #[.slice A0 l0.length c0, .slice A1 l1.length c1] w fun e w' => e = .returned (.bool r) ∧ Below w.heap.size w w' := by
 have hu111 := Try.underlying111
 have HR0 := Aside0.mk hr0
 have HC0 := Aside0.mk hc0
 clear hr0 hc0
 have HR1 := Aside0.mk hr1
 have HC1 := Aside0.mk hc1
 clear hr1 hc1
 have HB := Aside0.mk (Below.refl w.heap.size w)
 have H : (if (l0.length : Int) = (l1.length : Int) then (laws_sameHunks.l0 k l1 l0 (l0.length : Int) 0) else (some false)) = some r := h
 clear h
 by_cases c3 : (l0.length : Int) = (l1.length : Int)
 ·rw [if_pos c3] at H
  have c3b0 : ((l0.length : Int) == (l1.length : Int)) = true := beq_iff_eq.mpr c3
  have c3b1 : ((l0.length : Int) != (l1.length : Int)) = false := bne_eq_false_iff_eq.mpr c3
  have c3b2 : (l0.length == l1.length) = true := by first | simpa using c3 | (simp at c3 ⊢; omega)
  clear c3
  have H' := Aside0.mk H
  clear H
  go_enter Try.func34, Try.ntmps34
  go_wp2
  repeat (go_quiet (fail); try go_wp2)
  go_loopg [14] k (fun kq v14 w' => ∃ (x14_1 : Int), v14 = .int .i64 x14_1 ∧ Aside0 (laws_sameHunks.l0 kq l1 l0 (l0.length : Int) x14_1 = some r) ∧ Aside0 (kq ≤ k) ∧ Aside0 (Below w.heap.size w w'))
  case atStart => exact ⟨(0), zf, H', ⟨Nat.le_refl _⟩, ⟨by repeat (first | (with_reducible first | exact HB.out | apply below_alloc | apply pw_below_drewN | apply below_drew1) | exact HB.out)⟩⟩
  case round =>
   clear H'
   try clear c1
   try clear p2
   try clear c3
   try clear c3b0
   try clear c3b1
   try clear c3b2
   obtain ⟨x14_1, rfl, HA, HK1, HB⟩ := hrel
   cases gk with
   | zero => exact absurd HA.out (by simp [laws_sameHunks.l0])
   | succ k1 =>
    have H := HA.out
    clear HA
    simp only [laws_sameHunks.l0] at H
    by_cases c4 : x14_1 < (l0.length : Int)
    ·rw [if_pos c4] at H
     have c4b0 : decide (x14_1 < (l0.length : Int)) = true := decide_eq_true c4
     clear c4
     by_cases c5 : 0 ≤ x14_1
     ·rw [if_pos c5] at H
      have c5b0 : decide (0 ≤ x14_1) = true := decide_eq_true c5
      clear c5
      by_cases c6 : x14_1 < (l0.length : Int)
      ·rw [if_pos c6] at H
       have c6b0 : decide (x14_1 < (l0.length : Int)) = true := decide_eq_true c6
       clear c6
       by_cases c7 : x14_1 < (l1.length : Int)
       ·rw [if_pos c7] at H
        have c7b0 : decide (x14_1 < (l1.length : Int)) = true := decide_eq_true c7
        clear c7
        by_cases c8 : ((rd_T111 l0 x14_1).f0) = ((rd_T111 l1 x14_1).f0)
        ·rw [if_pos c8] at H
         have c8b0 : (((rd_T111 l0 x14_1).f0) == ((rd_T111 l1 x14_1).f0)) = true := beq_iff_eq.mpr c8
         have c8b1 : (((rd_T111 l0 x14_1).f0) != ((rd_T111 l1 x14_1).f0)) = false := bne_eq_false_iff_eq.mpr c8
         clear c8
         by_cases c9 : ((rd_T111 l0 x14_1).f1) = ((rd_T111 l1 x14_1).f1)
         ·rw [if_pos c9] at H
          have c9b0 : (((rd_T111 l0 x14_1).f1) == ((rd_T111 l1 x14_1).f1)) = true := beq_iff_eq.mpr c9
          have c9b1 : (((rd_T111 l0 x14_1).f1) != ((rd_T111 l1 x14_1).f1)) = false := bne_eq_false_iff_eq.mpr c9
          clear c9
          replace H := Option.bind_eq_some_iff.mp H
          obtain ⟨t770, A100, H⟩ := H
          replace H : (if t770 = true then (laws_sameHunks.l0 k1 l1 l0 (l0.length : Int) (wrap64 (x14_1 + 1))) else (some false)) = some r := H
          have A10 := Aside0.mk A100
          clear A100
          by_cases c11 : t770 = true
          ·subst c11
           have H1 : (laws_sameHunks.l0 k1 l1 l0 (l0.length : Int) (wrap64 (x14_1 + 1))) = some r := by rw [if_pos rfl] at H; exact H
           clear H
           have H := H1
           clear H1
           have H' := Aside0.mk H
           clear H
           have p765 : 0 ≤ (x14_1 : Int) := oa
           have q765 : x14_1 < (l0.length : Int) := oa
           obtain ⟨ad765, A765_2, c765_2, e765, hx765_0, hx765_1, hx765_2, hl765_2, hi765_2⟩ := at_T111 HR0.out x14_1 p765 q765
           cases e765
           replace hx765_0 := (HB.out.cell (World.block_lt_of_cell? w _ hx765_0)).trans hx765_0
           replace hx765_1 := (HB.out.cell (World.block_lt_of_cell? w _ hx765_1)).trans hx765_1
           replace hx765_2 := (HB.out.cell (World.block_lt_of_cell? w _ hx765_2)).trans hx765_2
           have HR765_2 := Aside0.mk hi765_2
           have HC765_2 := Aside0.mk hl765_2
           clear hi765_2 hl765_2
           replace p765 := eq_true p765
           replace q765 := eq_true q765
           go_wp2_with (first | ((with_reducible refine gate_dst (N := 6) rfl ?_); refine box_event ?hg (N := 6) ?hd (cs := #[.int .i64 0, .int .i64 0, .slice none 0 0]) (t := 111) ?hr ?_; (case hd => rfl); (case hg => rfl); (case hr => first | (go_simp; done) | (go_simp; rfl)); intro gb766 hg w12 hbox hb; have n0_ := Aside0.mk (below_step zb hb); have n1_ := Aside0.mk (hbox); have n2_ := Aside0.mk ((by rw [hg]; exact (below_size zb) : w.heap.size ≤ gb766)); have n3_ := Aside0.mk ((by rw [hg]; exact (below_size zb) : w.heap.size ≤ gb766)); clear HB; have HB := n0_; have BK766 := n1_; have GW766 := n2_; have GE766 := n3_; clear n0_ n1_ n2_ n3_; clear hb hbox hg; have hcz13_0 : w12.cell? ⟨gb766, 0, none⟩ = some (.int .i64 0) := (blk_cell BK766.out 0).trans rfl; have hcz13_1 : w12.cell? ⟨gb766, 1, none⟩ = some (.int .i64 0) := (blk_cell BK766.out 1).trans rfl; have hcz13_2 : w12.cell? ⟨gb766, 2, none⟩ = some (.slice none 0 0) := (blk_cell BK766.out 2).trans rfl; have hfz13_0 := blk_frozen BK766.out 0; have hfz13_1 := blk_frozen BK766.out 1; have hfz13_2 := blk_frozen BK766.out 2; have p767 : 0 ≤ (x14_1 : Int) := oa; have q767 : x14_1 < (l1.length : Int) := oa; obtain ⟨ad767, A767_2, c767_2, e767, hx767_0, hx767_1, hx767_2, hl767_2, hi767_2⟩ := at_T111 HR1.out x14_1 p767 q767; cases e767; have hn767_0 : ad767.block ≠ gb766 := Nat.ne_of_lt (Nat.lt_of_lt_of_le (zl hx767_0) GW766.out); have hn767_1 : ad767.block ≠ gb766 := Nat.ne_of_lt (Nat.lt_of_lt_of_le (zl hx767_0) GW766.out); have hn767_2 : ad767.block ≠ gb766 := Nat.ne_of_lt (Nat.lt_of_lt_of_le (zl hx767_0) GW766.out); replace hx767_0 := (HB.out.cell (World.block_lt_of_cell? w _ hx767_0)).trans hx767_0; replace hx767_1 := (HB.out.cell (World.block_lt_of_cell? w _ hx767_1)).trans hx767_1; replace hx767_2 := (HB.out.cell (World.block_lt_of_cell? w _ hx767_2)).trans hx767_2; have HR767_2 := Aside0.mk hi767_2; have HC767_2 := Aside0.mk hl767_2; clear hi767_2 hl767_2; replace hx767_0 := (cell_far (p := ⟨gb766, 0, none⟩) (zn hn767_0) (.int .i64 ((rd_T111 l0 x14_1).f0))).trans hx767_0; replace hx767_1 := (cell_far (p := ⟨gb766, 0, none⟩) (zn hn767_0) (.int .i64 ((rd_T111 l0 x14_1).f0))).trans hx767_1; replace hx767_2 := (cell_far (p := ⟨gb766, 0, none⟩) (zn hn767_0) (.int .i64 ((rd_T111 l0 x14_1).f0))).trans hx767_2; replace hx767_0 := (cell_far (p := ⟨gb766, 1, none⟩) (zn hn767_1) (.int .i64 ((rd_T111 l0 x14_1).f1))).trans hx767_0; replace hx767_1 := (cell_far (p := ⟨gb766, 1, none⟩) (zn hn767_1) (.int .i64 ((rd_T111 l0 x14_1).f1))).trans hx767_1; replace hx767_2 := (cell_far (p := ⟨gb766, 1, none⟩) (zn hn767_1) (.int .i64 ((rd_T111 l0 x14_1).f1))).trans hx767_2; replace hx767_0 := (cell_far (p := ⟨gb766, 2, none⟩) (zn hn767_2) (.slice A765_2 ((rd_T111 l0 x14_1).f2).length c765_2)).trans hx767_0; replace hx767_1 := (cell_far (p := ⟨gb766, 2, none⟩) (zn hn767_2) (.slice A765_2 ((rd_T111 l0 x14_1).f2).length c765_2)).trans hx767_1; replace hx767_2 := (cell_far (p := ⟨gb766, 2, none⟩) (zn hn767_2) (.slice A765_2 ((rd_T111 l0 x14_1).f2).length c765_2)).trans hx767_2; (try have hy767_0 := fun (n_ : Nat) => (show (((((w12.drewN n_).setCell ⟨gb766, 0, none⟩ (.int .i64 ((rd_T111 l0 x14_1).f0))).setCell ⟨gb766, 1, none⟩ (.int .i64 ((rd_T111 l0 x14_1).f1))).setCell ⟨gb766, 2, none⟩ (.slice A765_2 ((rd_T111 l0 x14_1).f2).length c765_2))).cell? _ = some _ from hx767_0)); (try have hy767_1 := fun (n_ : Nat) => (show (((((w12.drewN n_).setCell ⟨gb766, 0, none⟩ (.int .i64 ((rd_T111 l0 x14_1).f0))).setCell ⟨gb766, 1, none⟩ (.int .i64 ((rd_T111 l0 x14_1).f1))).setCell ⟨gb766, 2, none⟩ (.slice A765_2 ((rd_T111 l0 x14_1).f2).length c765_2))).cell? _ = some _ from hx767_1)); (try have hy767_2 := fun (n_ : Nat) => (show (((((w12.drewN n_).setCell ⟨gb766, 0, none⟩ (.int .i64 ((rd_T111 l0 x14_1).f0))).setCell ⟨gb766, 1, none⟩ (.int .i64 ((rd_T111 l0 x14_1).f1))).setCell ⟨gb766, 2, none⟩ (.slice A765_2 ((rd_T111 l0 x14_1).f2).length c765_2))).cell? _ = some _ from hx767_2)); clear hn767_0; clear hn767_1; clear hn767_2; replace p767 := eq_true p767; replace q767 := eq_true q767; have p768 : 0 ≤ (x14_1 : Int) := oa; have q768 : x14_1 < (l1.length : Int) := oa; obtain ⟨ad768, A768_2, c768_2, e768, hx768_0, hx768_1, hx768_2, hl768_2, hi768_2⟩ := at_T111 HR1.out x14_1 p768 q768; obtain rfl : ad767 = ad768 := (by injection e768); have hn768_0 : ad767.block ≠ gb766 := Nat.ne_of_lt (Nat.lt_of_lt_of_le (zl hx768_0) GW766.out); have hn768_1 : ad767.block ≠ gb766 := Nat.ne_of_lt (Nat.lt_of_lt_of_le (zl hx768_0) GW766.out); have hn768_2 : ad767.block ≠ gb766 := Nat.ne_of_lt (Nat.lt_of_lt_of_le (zl hx768_0) GW766.out); replace hx768_0 := (HB.out.cell (World.block_lt_of_cell? w _ hx768_0)).trans hx768_0; replace hx768_1 := (HB.out.cell (World.block_lt_of_cell? w _ hx768_1)).trans hx768_1; replace hx768_2 := (HB.out.cell (World.block_lt_of_cell? w _ hx768_2)).trans hx768_2; have HR768_2 := Aside0.mk hi768_2; have HC768_2 := Aside0.mk hl768_2; clear hi768_2 hl768_2; replace hx768_0 := (cell_far (p := ⟨gb766, 0, none⟩) (zn hn768_0) (.int .i64 ((rd_T111 l0 x14_1).f0))).trans hx768_0; replace hx768_1 := (cell_far (p := ⟨gb766, 0, none⟩) (zn hn768_0) (.int .i64 ((rd_T111 l0 x14_1).f0))).trans hx768_1; replace hx768_2 := (cell_far (p := ⟨gb766, 0, none⟩) (zn hn768_0) (.int .i64 ((rd_T111 l0 x14_1).f0))).trans hx768_2; replace hx768_0 := (cell_far (p := ⟨gb766, 1, none⟩) (zn hn768_1) (.int .i64 ((rd_T111 l0 x14_1).f1))).trans hx768_0; replace hx768_1 := (cell_far (p := ⟨gb766, 1, none⟩) (zn hn768_1) (.int .i64 ((rd_T111 l0 x14_1).f1))).trans hx768_1; replace hx768_2 := (cell_far (p := ⟨gb766, 1, none⟩) (zn hn768_1) (.int .i64 ((rd_T111 l0 x14_1).f1))).trans hx768_2; replace hx768_0 := (cell_far (p := ⟨gb766, 2, none⟩) (zn hn768_2) (.slice A765_2 ((rd_T111 l0 x14_1).f2).length c765_2)).trans hx768_0; replace hx768_1 := (cell_far (p := ⟨gb766, 2, none⟩) (zn hn768_2) (.slice A765_2 ((rd_T111 l0 x14_1).f2).length c765_2)).trans hx768_1; replace hx768_2 := (cell_far (p := ⟨gb766, 2, none⟩) (zn hn768_2) (.slice A765_2 ((rd_T111 l0 x14_1).f2).length c765_2)).trans hx768_2; (try have hy768_0 := fun (n_ : Nat) => (show (((((w12.drewN n_).setCell ⟨gb766, 0, none⟩ (.int .i64 ((rd_T111 l0 x14_1).f0))).setCell ⟨gb766, 1, none⟩ (.int .i64 ((rd_T111 l0 x14_1).f1))).setCell ⟨gb766, 2, none⟩ (.slice A765_2 ((rd_T111 l0 x14_1).f2).length c765_2))).cell? _ = some _ from hx768_0)); (try have hy768_1 := fun (n_ : Nat) => (show (((((w12.drewN n_).setCell ⟨gb766, 0, none⟩ (.int .i64 ((rd_T111 l0 x14_1).f0))).setCell ⟨gb766, 1, none⟩ (.int .i64 ((rd_T111 l0 x14_1).f1))).setCell ⟨gb766, 2, none⟩ (.slice A765_2 ((rd_T111 l0 x14_1).f2).length c765_2))).cell? _ = some _ from hx768_1)); (try have hy768_2 := fun (n_ : Nat) => (show (((((w12.drewN n_).setCell ⟨gb766, 0, none⟩ (.int .i64 ((rd_T111 l0 x14_1).f0))).setCell ⟨gb766, 1, none⟩ (.int .i64 ((rd_T111 l0 x14_1).f1))).setCell ⟨gb766, 2, none⟩ (.slice A765_2 ((rd_T111 l0 x14_1).f2).length c765_2))).cell? _ = some _ from hx768_2)); clear hn768_0; clear hn768_1; clear hn768_2; replace p768 := eq_true p768; replace q768 := eq_true q768; have p769 : 0 ≤ (x14_1 : Int) := oa; have q769 : x14_1 < (l1.length : Int) := oa; obtain ⟨ad769, A769_2, c769_2, e769, hx769_0, hx769_1, hx769_2, hl769_2, hi769_2⟩ := at_T111 HR1.out x14_1 p769 q769; obtain rfl : ad767 = ad769 := (by injection e769); have hn769_0 : ad767.block ≠ gb766 := Nat.ne_of_lt (Nat.lt_of_lt_of_le (zl hx769_0) GW766.out); have hn769_1 : ad767.block ≠ gb766 := Nat.ne_of_lt (Nat.lt_of_lt_of_le (zl hx769_0) GW766.out); have hn769_2 : ad767.block ≠ gb766 := Nat.ne_of_lt (Nat.lt_of_lt_of_le (zl hx769_0) GW766.out); replace hx769_0 := (HB.out.cell (World.block_lt_of_cell? w _ hx769_0)).trans hx769_0; replace hx769_1 := (HB.out.cell (World.block_lt_of_cell? w _ hx769_1)).trans hx769_1; replace hx769_2 := (HB.out.cell (World.block_lt_of_cell? w _ hx769_2)).trans hx769_2; have HR769_2 := Aside0.mk hi769_2; have HC769_2 := Aside0.mk hl769_2; clear hi769_2 hl769_2; replace hx769_0 := (cell_far (p := ⟨gb766, 0, none⟩) (zn hn769_0) (.int .i64 ((rd_T111 l0 x14_1).f0))).trans hx769_0; replace hx769_1 := (cell_far (p := ⟨gb766, 0, none⟩) (zn hn769_0) (.int .i64 ((rd_T111 l0 x14_1).f0))).trans hx769_1; replace hx769_2 := (cell_far (p := ⟨gb766, 0, none⟩) (zn hn769_0) (.int .i64 ((rd_T111 l0 x14_1).f0))).trans hx769_2; replace hx769_0 := (cell_far (p := ⟨gb766, 1, none⟩) (zn hn769_1) (.int .i64 ((rd_T111 l0 x14_1).f1))).trans hx769_0; replace hx769_1 := (cell_far (p := ⟨gb766, 1, none⟩) (zn hn769_1) (.int .i64 ((rd_T111 l0 x14_1).f1))).trans hx769_1; replace hx769_2 := (cell_far (p := ⟨gb766, 1, none⟩) (zn hn769_1) (.int .i64 ((rd_T111 l0 x14_1).f1))).trans hx769_2; replace hx769_0 := (cell_far (p := ⟨gb766, 2, none⟩) (zn hn769_2) (.slice A765_2 ((rd_T111 l0 x14_1).f2).length c765_2)).trans hx769_0; replace hx769_1 := (cell_far (p := ⟨gb766, 2, none⟩) (zn hn769_2) (.slice A765_2 ((rd_T111 l0 x14_1).f2).length c765_2)).trans hx769_1; replace hx769_2 := (cell_far (p := ⟨gb766, 2, none⟩) (zn hn769_2) (.slice A765_2 ((rd_T111 l0 x14_1).f2).length c765_2)).trans hx769_2; (try have hy769_0 := fun (n_ : Nat) => (show (((((w12.drewN n_).setCell ⟨gb766, 0, none⟩ (.int .i64 ((rd_T111 l0 x14_1).f0))).setCell ⟨gb766, 1, none⟩ (.int .i64 ((rd_T111 l0 x14_1).f1))).setCell ⟨gb766, 2, none⟩ (.slice A765_2 ((rd_T111 l0 x14_1).f2).length c765_2))).cell? _ = some _ from hx769_0)); (try have hy769_1 := fun (n_ : Nat) => (show (((((w12.drewN n_).setCell ⟨gb766, 0, none⟩ (.int .i64 ((rd_T111 l0 x14_1).f0))).setCell ⟨gb766, 1, none⟩ (.int .i64 ((rd_T111 l0 x14_1).f1))).setCell ⟨gb766, 2, none⟩ (.slice A765_2 ((rd_T111 l0 x14_1).f2).length c765_2))).cell? _ = some _ from hx769_1)); (try have hy769_2 := fun (n_ : Nat) => (show (((((w12.drewN n_).setCell ⟨gb766, 0, none⟩ (.int .i64 ((rd_T111 l0 x14_1).f0))).setCell ⟨gb766, 1, none⟩ (.int .i64 ((rd_T111 l0 x14_1).f1))).setCell ⟨gb766, 2, none⟩ (.slice A765_2 ((rd_T111 l0 x14_1).f2).length c765_2))).cell? _ = some _ from hx769_2)); clear hn769_0; clear hn769_1; clear hn769_2; replace p769 := eq_true p769; replace q769 := eq_true q769))
           repeat (go_quiet (first | (go_at_call 36; (with_reducible refine (laws_sameTexts.calls k1 _ _ ((rd_T111 l0 x14_1).f2) _ _ ((rd_T111 l1 x14_1).f2) true _ ?side1 ?side2 ?side3 ?side4 A10.out).mono ?_); (case side1 => exact Kd.C_below HR765_2.out (by repeat (first | (with_reducible first | exact HB.out | apply below_alloc | apply pw_below_drewN | apply below_drew1 | refine below_set ?_ GE766.out) | exact HB.out))); (case side2 => exact HC765_2.out); (case side3 => exact Kd.C_below HR767_2.out (by repeat (first | (with_reducible first | exact HB.out | apply below_alloc | apply pw_below_drewN | apply below_drew1 | refine below_set ?_ GE766.out) | exact HB.out))); (case side4 => exact HC767_2.out); rintro e w' ⟨rfl, ⟨nd, rfl⟩⟩; (try exact zd))); try go_wp2)
           go_roundg k1
           case measure => have := HK1.out; omega
           case rel => exact ⟨(wrap64 (x14_1 + 1)), zf, H', ⟨by have := HK1.out; omega⟩, ⟨by repeat (first | (with_reducible first | exact HB.out | apply below_alloc | apply pw_below_drewN | apply below_drew1 | refine below_set ?_ GE766.out) | exact HB.out)⟩⟩
          ·replace c11 := Bool.eq_false_iff.mpr c11
           subst c11
           have H1 : (some false) = some r := by rw [if_neg (show ¬ (false = true) by decide)] at H; exact H
           clear H
           have H := H1
           clear H1
           obtain rfl := Option.some.inj H
           have p765 : 0 ≤ (x14_1 : Int) := oa
           have q765 : x14_1 < (l0.length : Int) := oa
           obtain ⟨ad765, A765_2, c765_2, e765, hx765_0, hx765_1, hx765_2, hl765_2, hi765_2⟩ := at_T111 HR0.out x14_1 p765 q765
           cases e765
           replace hx765_0 := (HB.out.cell (World.block_lt_of_cell? w _ hx765_0)).trans hx765_0
           replace hx765_1 := (HB.out.cell (World.block_lt_of_cell? w _ hx765_1)).trans hx765_1
           replace hx765_2 := (HB.out.cell (World.block_lt_of_cell? w _ hx765_2)).trans hx765_2
           have HR765_2 := Aside0.mk hi765_2
           have HC765_2 := Aside0.mk hl765_2
           clear hi765_2 hl765_2
           replace p765 := eq_true p765
           replace q765 := eq_true q765
           go_wp2_with (first | ((with_reducible refine gate_dst (N := 6) rfl ?_); refine box_event ?hg (N := 6) ?hd (cs := #[.int .i64 0, .int .i64 0, .slice none 0 0]) (t := 111) ?hr ?_; (case hd => rfl); (case hg => rfl); (case hr => first | (go_simp; done) | (go_simp; rfl)); intro gb766 hg w14 hbox hb; have n0_ := Aside0.mk (below_step zb hb); have n1_ := Aside0.mk (hbox); have n2_ := Aside0.mk ((by rw [hg]; exact (below_size zb) : w.heap.size ≤ gb766)); have n3_ := Aside0.mk ((by rw [hg]; exact (below_size zb) : w.heap.size ≤ gb766)); clear HB; have HB := n0_; have BK766 := n1_; have GW766 := n2_; have GE766 := n3_; clear n0_ n1_ n2_ n3_; clear hb hbox hg; have hcz15_0 : w14.cell? ⟨gb766, 0, none⟩ = some (.int .i64 0) := (blk_cell BK766.out 0).trans rfl; have hcz15_1 : w14.cell? ⟨gb766, 1, none⟩ = some (.int .i64 0) := (blk_cell BK766.out 1).trans rfl; have hcz15_2 : w14.cell? ⟨gb766, 2, none⟩ = some (.slice none 0 0) := (blk_cell BK766.out 2).trans rfl; have hfz15_0 := blk_frozen BK766.out 0; have hfz15_1 := blk_frozen BK766.out 1; have hfz15_2 := blk_frozen BK766.out 2; have p767 : 0 ≤ (x14_1 : Int) := oa; have q767 : x14_1 < (l1.length : Int) := oa; obtain ⟨ad767, A767_2, c767_2, e767, hx767_0, hx767_1, hx767_2, hl767_2, hi767_2⟩ := at_T111 HR1.out x14_1 p767 q767; cases e767; have hn767_0 : ad767.block ≠ gb766 := Nat.ne_of_lt (Nat.lt_of_lt_of_le (zl hx767_0) GW766.out); have hn767_1 : ad767.block ≠ gb766 := Nat.ne_of_lt (Nat.lt_of_lt_of_le (zl hx767_0) GW766.out); have hn767_2 : ad767.block ≠ gb766 := Nat.ne_of_lt (Nat.lt_of_lt_of_le (zl hx767_0) GW766.out); replace hx767_0 := (HB.out.cell (World.block_lt_of_cell? w _ hx767_0)).trans hx767_0; replace hx767_1 := (HB.out.cell (World.block_lt_of_cell? w _ hx767_1)).trans hx767_1; replace hx767_2 := (HB.out.cell (World.block_lt_of_cell? w _ hx767_2)).trans hx767_2; have HR767_2 := Aside0.mk hi767_2; have HC767_2 := Aside0.mk hl767_2; clear hi767_2 hl767_2; replace hx767_0 := (cell_far (p := ⟨gb766, 0, none⟩) (zn hn767_0) (.int .i64 ((rd_T111 l0 x14_1).f0))).trans hx767_0; replace hx767_1 := (cell_far (p := ⟨gb766, 0, none⟩) (zn hn767_0) (.int .i64 ((rd_T111 l0 x14_1).f0))).trans hx767_1; replace hx767_2 := (cell_far (p := ⟨gb766, 0, none⟩) (zn hn767_0) (.int .i64 ((rd_T111 l0 x14_1).f0))).trans hx767_2; replace hx767_0 := (cell_far (p := ⟨gb766, 1, none⟩) (zn hn767_1) (.int .i64 ((rd_T111 l0 x14_1).f1))).trans hx767_0; replace hx767_1 := (cell_far (p := ⟨gb766, 1, none⟩) (zn hn767_1) (.int .i64 ((rd_T111 l0 x14_1).f1))).trans hx767_1; replace hx767_2 := (cell_far (p := ⟨gb766, 1, none⟩) (zn hn767_1) (.int .i64 ((rd_T111 l0 x14_1).f1))).trans hx767_2; replace hx767_0 := (cell_far (p := ⟨gb766, 2, none⟩) (zn hn767_2) (.slice A765_2 ((rd_T111 l0 x14_1).f2).length c765_2)).trans hx767_0; replace hx767_1 := (cell_far (p := ⟨gb766, 2, none⟩) (zn hn767_2) (.slice A765_2 ((rd_T111 l0 x14_1).f2).length c765_2)).trans hx767_1; replace hx767_2 := (cell_far (p := ⟨gb766, 2, none⟩) (zn hn767_2) (.slice A765_2 ((rd_T111 l0 x14_1).f2).length c765_2)).trans hx767_2; (try have hy767_0 := fun (n_ : Nat) => (show (((((w14.drewN n_).setCell ⟨gb766, 0, none⟩ (.int .i64 ((rd_T111 l0 x14_1).f0))).setCell ⟨gb766, 1, none⟩ (.int .i64 ((rd_T111 l0 x14_1).f1))).setCell ⟨gb766, 2, none⟩ (.slice A765_2 ((rd_T111 l0 x14_1).f2).length c765_2))).cell? _ = some _ from hx767_0)); (try have hy767_1 := fun (n_ : Nat) => (show (((((w14.drewN n_).setCell ⟨gb766, 0, none⟩ (.int .i64 ((rd_T111 l0 x14_1).f0))).setCell ⟨gb766, 1, none⟩ (.int .i64 ((rd_T111 l0 x14_1).f1))).setCell ⟨gb766, 2, none⟩ (.slice A765_2 ((rd_T111 l0 x14_1).f2).length c765_2))).cell? _ = some _ from hx767_1)); (try have hy767_2 := fun (n_ : Nat) => (show (((((w14.drewN n_).setCell ⟨gb766, 0, none⟩ (.int .i64 ((rd_T111 l0 x14_1).f0))).setCell ⟨gb766, 1, none⟩ (.int .i64 ((rd_T111 l0 x14_1).f1))).setCell ⟨gb766, 2, none⟩ (.slice A765_2 ((rd_T111 l0 x14_1).f2).length c765_2))).cell? _ = some _ from hx767_2)); clear hn767_0; clear hn767_1; clear hn767_2; replace p767 := eq_true p767; replace q767 := eq_true q767; have p768 : 0 ≤ (x14_1 : Int) := oa; have q768 : x14_1 < (l1.length : Int) := oa; obtain ⟨ad768, A768_2, c768_2, e768, hx768_0, hx768_1, hx768_2, hl768_2, hi768_2⟩ := at_T111 HR1.out x14_1 p768 q768; obtain rfl : ad767 = ad768 := (by injection e768); have hn768_0 : ad767.block ≠ gb766 := Nat.ne_of_lt (Nat.lt_of_lt_of_le (zl hx768_0) GW766.out); have hn768_1 : ad767.block ≠ gb766 := Nat.ne_of_lt (Nat.lt_of_lt_of_le (zl hx768_0) GW766.out); have hn768_2 : ad767.block ≠ gb766 := Nat.ne_of_lt (Nat.lt_of_lt_of_le (zl hx768_0) GW766.out); replace hx768_0 := (HB.out.cell (World.block_lt_of_cell? w _ hx768_0)).trans hx768_0; replace hx768_1 := (HB.out.cell (World.block_lt_of_cell? w _ hx768_1)).trans hx768_1; replace hx768_2 := (HB.out.cell (World.block_lt_of_cell? w _ hx768_2)).trans hx768_2; have HR768_2 := Aside0.mk hi768_2; have HC768_2 := Aside0.mk hl768_2; clear hi768_2 hl768_2; replace hx768_0 := (cell_far (p := ⟨gb766, 0, none⟩) (zn hn768_0) (.int .i64 ((rd_T111 l0 x14_1).f0))).trans hx768_0; replace hx768_1 := (cell_far (p := ⟨gb766, 0, none⟩) (zn hn768_0) (.int .i64 ((rd_T111 l0 x14_1).f0))).trans hx768_1; replace hx768_2 := (cell_far (p := ⟨gb766, 0, none⟩) (zn hn768_0) (.int .i64 ((rd_T111 l0 x14_1).f0))).trans hx768_2; replace hx768_0 := (cell_far (p := ⟨gb766, 1, none⟩) (zn hn768_1) (.int .i64 ((rd_T111 l0 x14_1).f1))).trans hx768_0; replace hx768_1 := (cell_far (p := ⟨gb766, 1, none⟩) (zn hn768_1) (.int .i64 ((rd_T111 l0 x14_1).f1))).trans hx768_1; replace hx768_2 := (cell_far (p := ⟨gb766, 1, none⟩) (zn hn768_1) (.int .i64 ((rd_T111 l0 x14_1).f1))).trans hx768_2; replace hx768_0 := (cell_far (p := ⟨gb766, 2, none⟩) (zn hn768_2) (.slice A765_2 ((rd_T111 l0 x14_1).f2).length c765_2)).trans hx768_0; replace hx768_1 := (cell_far (p := ⟨gb766, 2, none⟩) (zn hn768_2) (.slice A765_2 ((rd_T111 l0 x14_1).f2).length c765_2)).trans hx768_1; replace hx768_2 := (cell_far (p := ⟨gb766, 2, none⟩) (zn hn768_2) (.slice A765_2 ((rd_T111 l0 x14_1).f2).length c765_2)).trans hx768_2; (try have hy768_0 := fun (n_ : Nat) => (show (((((w14.drewN n_).setCell ⟨gb766, 0, none⟩ (.int .i64 ((rd_T111 l0 x14_1).f0))).setCell ⟨gb766, 1, none⟩ (.int .i64 ((rd_T111 l0 x14_1).f1))).setCell ⟨gb766, 2, none⟩ (.slice A765_2 ((rd_T111 l0 x14_1).f2).length c765_2))).cell? _ = some _ from hx768_0)); (try have hy768_1 := fun (n_ : Nat) => (show (((((w14.drewN n_).setCell ⟨gb766, 0, none⟩ (.int .i64 ((rd_T111 l0 x14_1).f0))).setCell ⟨gb766, 1, none⟩ (.int .i64 ((rd_T111 l0 x14_1).f1))).setCell ⟨gb766, 2, none⟩ (.slice A765_2 ((rd_T111 l0 x14_1).f2).length c765_2))).cell? _ = some _ from hx768_1)); (try have hy768_2 := fun (n_ : Nat) => (show (((((w14.drewN n_).setCell ⟨gb766, 0, none⟩ (.int .i64 ((rd_T111 l0 x14_1).f0))).setCell ⟨gb766, 1, none⟩ (.int .i64 ((rd_T111 l0 x14_1).f1))).setCell ⟨gb766, 2, none⟩ (.slice A765_2 ((rd_T111 l0 x14_1).f2).length c765_2))).cell? _ = some _ from hx768_2)); clear hn768_0; clear hn768_1; clear hn768_2; replace p768 := eq_true p768; replace q768 := eq_true q768; have p769 : 0 ≤ (x14_1 : Int) := oa; have q769 : x14_1 < (l1.length : Int) := oa; obtain ⟨ad769, A769_2, c769_2, e769, hx769_0, hx769_1, hx769_2, hl769_2, hi769_2⟩ := at_T111 HR1.out x14_1 p769 q769; obtain rfl : ad767 = ad769 := (by injection e769); have hn769_0 : ad767.block ≠ gb766 := Nat.ne_of_lt (Nat.lt_of_lt_of_le (zl hx769_0) GW766.out); have hn769_1 : ad767.block ≠ gb766 := Nat.ne_of_lt (Nat.lt_of_lt_of_le (zl hx769_0) GW766.out); have hn769_2 : ad767.block ≠ gb766 := Nat.ne_of_lt (Nat.lt_of_lt_of_le (zl hx769_0) GW766.out); replace hx769_0 := (HB.out.cell (World.block_lt_of_cell? w _ hx769_0)).trans hx769_0; replace hx769_1 := (HB.out.cell (World.block_lt_of_cell? w _ hx769_1)).trans hx769_1; replace hx769_2 := (HB.out.cell (World.block_lt_of_cell? w _ hx769_2)).trans hx769_2; have HR769_2 := Aside0.mk hi769_2; have HC769_2 := Aside0.mk hl769_2; clear hi769_2 hl769_2; replace hx769_0 := (cell_far (p := ⟨gb766, 0, none⟩) (zn hn769_0) (.int .i64 ((rd_T111 l0 x14_1).f0))).trans hx769_0; replace hx769_1 := (cell_far (p := ⟨gb766, 0, none⟩) (zn hn769_0) (.int .i64 ((rd_T111 l0 x14_1).f0))).trans hx769_1; replace hx769_2 := (cell_far (p := ⟨gb766, 0, none⟩) (zn hn769_0) (.int .i64 ((rd_T111 l0 x14_1).f0))).trans hx769_2; replace hx769_0 := (cell_far (p := ⟨gb766, 1, none⟩) (zn hn769_1) (.int .i64 ((rd_T111 l0 x14_1).f1))).trans hx769_0; replace hx769_1 := (cell_far (p := ⟨gb766, 1, none⟩) (zn hn769_1) (.int .i64 ((rd_T111 l0 x14_1).f1))).trans hx769_1; replace hx769_2 := (cell_far (p := ⟨gb766, 1, none⟩) (zn hn769_1) (.int .i64 ((rd_T111 l0 x14_1).f1))).trans hx769_2; replace hx769_0 := (cell_far (p := ⟨gb766, 2, none⟩) (zn hn769_2) (.slice A765_2 ((rd_T111 l0 x14_1).f2).length c765_2)).trans hx769_0; replace hx769_1 := (cell_far (p := ⟨gb766, 2, none⟩) (zn hn769_2) (.slice A765_2 ((rd_T111 l0 x14_1).f2).length c765_2)).trans hx769_1; replace hx769_2 := (cell_far (p := ⟨gb766, 2, none⟩) (zn hn769_2) (.slice A765_2 ((rd_T111 l0 x14_1).f2).length c765_2)).trans hx769_2; (try have hy769_0 := fun (n_ : Nat) => (show (((((w14.drewN n_).setCell ⟨gb766, 0, none⟩ (.int .i64 ((rd_T111 l0 x14_1).f0))).setCell ⟨gb766, 1, none⟩ (.int .i64 ((rd_T111 l0 x14_1).f1))).setCell ⟨gb766, 2, none⟩ (.slice A765_2 ((rd_T111 l0 x14_1).f2).length c765_2))).cell? _ = some _ from hx769_0)); (try have hy769_1 := fun (n_ : Nat) => (show (((((w14.drewN n_).setCell ⟨gb766, 0, none⟩ (.int .i64 ((rd_T111 l0 x14_1).f0))).setCell ⟨gb766, 1, none⟩ (.int .i64 ((rd_T111 l0 x14_1).f1))).setCell ⟨gb766, 2, none⟩ (.slice A765_2 ((rd_T111 l0 x14_1).f2).length c765_2))).cell? _ = some _ from hx769_1)); (try have hy769_2 := fun (n_ : Nat) => (show (((((w14.drewN n_).setCell ⟨gb766, 0, none⟩ (.int .i64 ((rd_T111 l0 x14_1).f0))).setCell ⟨gb766, 1, none⟩ (.int .i64 ((rd_T111 l0 x14_1).f1))).setCell ⟨gb766, 2, none⟩ (.slice A765_2 ((rd_T111 l0 x14_1).f2).length c765_2))).cell? _ = some _ from hx769_2)); clear hn769_0; clear hn769_1; clear hn769_2; replace p769 := eq_true p769; replace q769 := eq_true q769))
           repeat (go_quiet (first | (go_at_call 36; (with_reducible refine (laws_sameTexts.calls k1 _ _ ((rd_T111 l0 x14_1).f2) _ _ ((rd_T111 l1 x14_1).f2) false _ ?side1 ?side2 ?side3 ?side4 A10.out).mono ?_); (case side1 => exact Kd.C_below HR765_2.out (by repeat (first | (with_reducible first | exact HB.out | apply below_alloc | apply pw_below_drewN | apply below_drew1 | refine below_set ?_ GE766.out) | exact HB.out))); (case side2 => exact HC765_2.out); (case side3 => exact Kd.C_below HR767_2.out (by repeat (first | (with_reducible first | exact HB.out | apply below_alloc | apply pw_below_drewN | apply below_drew1 | refine below_set ?_ GE766.out) | exact HB.out))); (case side4 => exact HC767_2.out); rintro e w' ⟨rfl, ⟨nd, rfl⟩⟩; (try exact zd))); try go_wp2)
           go_ret
           exact ⟨by first | rfl | (simp [errW_none, errW_some] <;> rfl) | (simp [*, errW_none, errW_some] <;> rfl), by repeat (first | (with_reducible first | exact HB.out | apply below_alloc | apply pw_below_drewN | apply below_drew1 | refine below_set ?_ GE766.out) | exact HB.out)⟩
         ·rw [if_neg c9] at H
          have c9b0 : (((rd_T111 l0 x14_1).f1) == ((rd_T111 l1 x14_1).f1)) = false := beq_eq_false_iff_ne.mpr c9
          have c9b1 : (((rd_T111 l0 x14_1).f1) != ((rd_T111 l1 x14_1).f1)) = true := bne_iff_ne.mpr c9
          obtain rfl := Option.some.inj H
          have p765 : 0 ≤ (x14_1 : Int) := oa
          have q765 : x14_1 < (l0.length : Int) := oa
          obtain ⟨ad765, A765_2, c765_2, e765, hx765_0, hx765_1, hx765_2, hl765_2, hi765_2⟩ := at_T111 HR0.out x14_1 p765 q765
          cases e765
          replace hx765_0 := (HB.out.cell (World.block_lt_of_cell? w _ hx765_0)).trans hx765_0
          replace hx765_1 := (HB.out.cell (World.block_lt_of_cell? w _ hx765_1)).trans hx765_1
          replace hx765_2 := (HB.out.cell (World.block_lt_of_cell? w _ hx765_2)).trans hx765_2
          have HR765_2 := Aside0.mk hi765_2
          have HC765_2 := Aside0.mk hl765_2
          clear hi765_2 hl765_2
          replace p765 := eq_true p765
          replace q765 := eq_true q765
          go_wp2_with (first | ((with_reducible refine gate_dst (N := 6) rfl ?_); refine box_event ?hg (N := 6) ?hd (cs := #[.int .i64 0, .int .i64 0, .slice none 0 0]) (t := 111) ?hr ?_; (case hd => rfl); (case hg => rfl); (case hr => first | (go_simp; done) | (go_simp; rfl)); intro gb766 hg w16 hbox hb; have n0_ := Aside0.mk (below_step zb hb); have n1_ := Aside0.mk (hbox); have n2_ := Aside0.mk ((by rw [hg]; exact (below_size zb) : w.heap.size ≤ gb766)); have n3_ := Aside0.mk ((by rw [hg]; exact (below_size zb) : w.heap.size ≤ gb766)); clear HB; have HB := n0_; have BK766 := n1_; have GW766 := n2_; have GE766 := n3_; clear n0_ n1_ n2_ n3_; clear hb hbox hg; have hcz17_0 : w16.cell? ⟨gb766, 0, none⟩ = some (.int .i64 0) := (blk_cell BK766.out 0).trans rfl; have hcz17_1 : w16.cell? ⟨gb766, 1, none⟩ = some (.int .i64 0) := (blk_cell BK766.out 1).trans rfl; have hcz17_2 : w16.cell? ⟨gb766, 2, none⟩ = some (.slice none 0 0) := (blk_cell BK766.out 2).trans rfl; have hfz17_0 := blk_frozen BK766.out 0; have hfz17_1 := blk_frozen BK766.out 1; have hfz17_2 := blk_frozen BK766.out 2; have p767 : 0 ≤ (x14_1 : Int) := oa; have q767 : x14_1 < (l1.length : Int) := oa; obtain ⟨ad767, A767_2, c767_2, e767, hx767_0, hx767_1, hx767_2, hl767_2, hi767_2⟩ := at_T111 HR1.out x14_1 p767 q767; cases e767; have hn767_0 : ad767.block ≠ gb766 := Nat.ne_of_lt (Nat.lt_of_lt_of_le (zl hx767_0) GW766.out); have hn767_1 : ad767.block ≠ gb766 := Nat.ne_of_lt (Nat.lt_of_lt_of_le (zl hx767_0) GW766.out); have hn767_2 : ad767.block ≠ gb766 := Nat.ne_of_lt (Nat.lt_of_lt_of_le (zl hx767_0) GW766.out); replace hx767_0 := (HB.out.cell (World.block_lt_of_cell? w _ hx767_0)).trans hx767_0; replace hx767_1 := (HB.out.cell (World.block_lt_of_cell? w _ hx767_1)).trans hx767_1; replace hx767_2 := (HB.out.cell (World.block_lt_of_cell? w _ hx767_2)).trans hx767_2; have HR767_2 := Aside0.mk hi767_2; have HC767_2 := Aside0.mk hl767_2; clear hi767_2 hl767_2; replace hx767_0 := (cell_far (p := ⟨gb766, 0, none⟩) (zn hn767_0) (.int .i64 ((rd_T111 l0 x14_1).f0))).trans hx767_0; replace hx767_1 := (cell_far (p := ⟨gb766, 0, none⟩) (zn hn767_0) (.int .i64 ((rd_T111 l0 x14_1).f0))).trans hx767_1; replace hx767_2 := (cell_far (p := ⟨gb766, 0, none⟩) (zn hn767_0) (.int .i64 ((rd_T111 l0 x14_1).f0))).trans hx767_2; replace hx767_0 := (cell_far (p := ⟨gb766, 1, none⟩) (zn hn767_1) (.int .i64 ((rd_T111 l0 x14_1).f1))).trans hx767_0; replace hx767_1 := (cell_far (p := ⟨gb766, 1, none⟩) (zn hn767_1) (.int .i64 ((rd_T111 l0 x14_1).f1))).trans hx767_1; replace hx767_2 := (cell_far (p := ⟨gb766, 1, none⟩) (zn hn767_1) (.int .i64 ((rd_T111 l0 x14_1).f1))).trans hx767_2; replace hx767_0 := (cell_far (p := ⟨gb766, 2, none⟩) (zn hn767_2) (.slice A765_2 ((rd_T111 l0 x14_1).f2).length c765_2)).trans hx767_0; replace hx767_1 := (cell_far (p := ⟨gb766, 2, none⟩) (zn hn767_2) (.slice A765_2 ((rd_T111 l0 x14_1).f2).length c765_2)).trans hx767_1; replace hx767_2 := (cell_far (p := ⟨gb766, 2, none⟩) (zn hn767_2) (.slice A765_2 ((rd_T111 l0 x14_1).f2).length c765_2)).trans hx767_2; (try have hy767_0 := fun (n_ : Nat) => (show (((((w16.drewN n_).setCell ⟨gb766, 0, none⟩ (.int .i64 ((rd_T111 l0 x14_1).f0))).setCell ⟨gb766, 1, none⟩ (.int .i64 ((rd_T111 l0 x14_1).f1))).setCell ⟨gb766, 2, none⟩ (.slice A765_2 ((rd_T111 l0 x14_1).f2).length c765_2))).cell? _ = some _ from hx767_0)); (try have hy767_1 := fun (n_ : Nat) => (show (((((w16.drewN n_).setCell ⟨gb766, 0, none⟩ (.int .i64 ((rd_T111 l0 x14_1).f0))).setCell ⟨gb766, 1, none⟩ (.int .i64 ((rd_T111 l0 x14_1).f1))).setCell ⟨gb766, 2, none⟩ (.slice A765_2 ((rd_T111 l0 x14_1).f2).length c765_2))).cell? _ = some _ from hx767_1)); (try have hy767_2 := fun (n_ : Nat) => (show (((((w16.drewN n_).setCell ⟨gb766, 0, none⟩ (.int .i64 ((rd_T111 l0 x14_1).f0))).setCell ⟨gb766, 1, none⟩ (.int .i64 ((rd_T111 l0 x14_1).f1))).setCell ⟨gb766, 2, none⟩ (.slice A765_2 ((rd_T111 l0 x14_1).f2).length c765_2))).cell? _ = some _ from hx767_2)); clear hn767_0; clear hn767_1; clear hn767_2; replace p767 := eq_true p767; replace q767 := eq_true q767; have p768 : 0 ≤ (x14_1 : Int) := oa; have q768 : x14_1 < (l1.length : Int) := oa; obtain ⟨ad768, A768_2, c768_2, e768, hx768_0, hx768_1, hx768_2, hl768_2, hi768_2⟩ := at_T111 HR1.out x14_1 p768 q768; obtain rfl : ad767 = ad768 := (by injection e768); have hn768_0 : ad767.block ≠ gb766 := Nat.ne_of_lt (Nat.lt_of_lt_of_le (zl hx768_0) GW766.out); have hn768_1 : ad767.block ≠ gb766 := Nat.ne_of_lt (Nat.lt_of_lt_of_le (zl hx768_0) GW766.out); have hn768_2 : ad767.block ≠ gb766 := Nat.ne_of_lt (Nat.lt_of_lt_of_le (zl hx768_0) GW766.out); replace hx768_0 := (HB.out.cell (World.block_lt_of_cell? w _ hx768_0)).trans hx768_0; replace hx768_1 := (HB.out.cell (World.block_lt_of_cell? w _ hx768_1)).trans hx768_1; replace hx768_2 := (HB.out.cell (World.block_lt_of_cell? w _ hx768_2)).trans hx768_2; have HR768_2 := Aside0.mk hi768_2; have HC768_2 := Aside0.mk hl768_2; clear hi768_2 hl768_2; replace hx768_0 := (cell_far (p := ⟨gb766, 0, none⟩) (zn hn768_0) (.int .i64 ((rd_T111 l0 x14_1).f0))).trans hx768_0; replace hx768_1 := (cell_far (p := ⟨gb766, 0, none⟩) (zn hn768_0) (.int .i64 ((rd_T111 l0 x14_1).f0))).trans hx768_1; replace hx768_2 := (cell_far (p := ⟨gb766, 0, none⟩) (zn hn768_0) (.int .i64 ((rd_T111 l0 x14_1).f0))).trans hx768_2; replace hx768_0 := (cell_far (p := ⟨gb766, 1, none⟩) (zn hn768_1) (.int .i64 ((rd_T111 l0 x14_1).f1))).trans hx768_0; replace hx768_1 := (cell_far (p := ⟨gb766, 1, none⟩) (zn hn768_1) (.int .i64 ((rd_T111 l0 x14_1).f1))).trans hx768_1; replace hx768_2 := (cell_far (p := ⟨gb766, 1, none⟩) (zn hn768_1) (.int .i64 ((rd_T111 l0 x14_1).f1))).trans hx768_2; replace hx768_0 := (cell_far (p := ⟨gb766, 2, none⟩) (zn hn768_2) (.slice A765_2 ((rd_T111 l0 x14_1).f2).length c765_2)).trans hx768_0; replace hx768_1 := (cell_far (p := ⟨gb766, 2, none⟩) (zn hn768_2) (.slice A765_2 ((rd_T111 l0 x14_1).f2).length c765_2)).trans hx768_1; replace hx768_2 := (cell_far (p := ⟨gb766, 2, none⟩) (zn hn768_2) (.slice A765_2 ((rd_T111 l0 x14_1).f2).length c765_2)).trans hx768_2; (try have hy768_0 := fun (n_ : Nat) => (show (((((w16.drewN n_).setCell ⟨gb766, 0, none⟩ (.int .i64 ((rd_T111 l0 x14_1).f0))).setCell ⟨gb766, 1, none⟩ (.int .i64 ((rd_T111 l0 x14_1).f1))).setCell ⟨gb766, 2, none⟩ (.slice A765_2 ((rd_T111 l0 x14_1).f2).length c765_2))).cell? _ = some _ from hx768_0)); (try have hy768_1 := fun (n_ : Nat) => (show (((((w16.drewN n_).setCell ⟨gb766, 0, none⟩ (.int .i64 ((rd_T111 l0 x14_1).f0))).setCell ⟨gb766, 1, none⟩ (.int .i64 ((rd_T111 l0 x14_1).f1))).setCell ⟨gb766, 2, none⟩ (.slice A765_2 ((rd_T111 l0 x14_1).f2).length c765_2))).cell? _ = some _ from hx768_1)); (try have hy768_2 := fun (n_ : Nat) => (show (((((w16.drewN n_).setCell ⟨gb766, 0, none⟩ (.int .i64 ((rd_T111 l0 x14_1).f0))).setCell ⟨gb766, 1, none⟩ (.int .i64 ((rd_T111 l0 x14_1).f1))).setCell ⟨gb766, 2, none⟩ (.slice A765_2 ((rd_T111 l0 x14_1).f2).length c765_2))).cell? _ = some _ from hx768_2)); clear hn768_0; clear hn768_1; clear hn768_2; replace p768 := eq_true p768; replace q768 := eq_true q768))
          repeat (go_quiet (first | ((with_reducible refine gate_dst (N := 6) rfl ?_); refine box_event ?hg (N := 6) ?hd (cs := #[.int .i64 0, .int .i64 0, .slice none 0 0]) (t := 111) ?hr ?_; (case hd => rfl); (case hg => rfl); (case hr => first | (go_simp; done) | (go_simp; rfl)); intro gb766 hg w16 hbox hb; have n0_ := Aside0.mk (below_step zb hb); have n1_ := Aside0.mk (hbox); have n2_ := Aside0.mk ((by rw [hg]; exact (below_size zb) : w.heap.size ≤ gb766)); have n3_ := Aside0.mk ((by rw [hg]; exact (below_size zb) : w.heap.size ≤ gb766)); clear HB; have HB := n0_; have BK766 := n1_; have GW766 := n2_; have GE766 := n3_; clear n0_ n1_ n2_ n3_; clear hb hbox hg; have hcz17_0 : w16.cell? ⟨gb766, 0, none⟩ = some (.int .i64 0) := (blk_cell BK766.out 0).trans rfl; have hcz17_1 : w16.cell? ⟨gb766, 1, none⟩ = some (.int .i64 0) := (blk_cell BK766.out 1).trans rfl; have hcz17_2 : w16.cell? ⟨gb766, 2, none⟩ = some (.slice none 0 0) := (blk_cell BK766.out 2).trans rfl; have hfz17_0 := blk_frozen BK766.out 0; have hfz17_1 := blk_frozen BK766.out 1; have hfz17_2 := blk_frozen BK766.out 2; have p767 : 0 ≤ (x14_1 : Int) := oa; have q767 : x14_1 < (l1.length : Int) := oa; obtain ⟨ad767, A767_2, c767_2, e767, hx767_0, hx767_1, hx767_2, hl767_2, hi767_2⟩ := at_T111 HR1.out x14_1 p767 q767; cases e767; have hn767_0 : ad767.block ≠ gb766 := Nat.ne_of_lt (Nat.lt_of_lt_of_le (zl hx767_0) GW766.out); have hn767_1 : ad767.block ≠ gb766 := Nat.ne_of_lt (Nat.lt_of_lt_of_le (zl hx767_0) GW766.out); have hn767_2 : ad767.block ≠ gb766 := Nat.ne_of_lt (Nat.lt_of_lt_of_le (zl hx767_0) GW766.out); replace hx767_0 := (HB.out.cell (World.block_lt_of_cell? w _ hx767_0)).trans hx767_0; replace hx767_1 := (HB.out.cell (World.block_lt_of_cell? w _ hx767_1)).trans hx767_1; replace hx767_2 := (HB.out.cell (World.block_lt_of_cell? w _ hx767_2)).trans hx767_2; have HR767_2 := Aside0.mk hi767_2; have HC767_2 := Aside0.mk hl767_2; clear hi767_2 hl767_2; replace hx767_0 := (cell_far (p := ⟨gb766, 0, none⟩) (zn hn767_0) (.int .i64 ((rd_T111 l0 x14_1).f0))).trans hx767_0; replace hx767_1 := (cell_far (p := ⟨gb766, 0, none⟩) (zn hn767_0) (.int .i64 ((rd_T111 l0 x14_1).f0))).trans hx767_1; replace hx767_2 := (cell_far (p := ⟨gb766, 0, none⟩) (zn hn767_0) (.int .i64 ((rd_T111 l0 x14_1).f0))).trans hx767_2; replace hx767_0 := (cell_far (p := ⟨gb766, 1, none⟩) (zn hn767_1) (.int .i64 ((rd_T111 l0 x14_1).f1))).trans hx767_0; replace hx767_1 := (cell_far (p := ⟨gb766, 1, none⟩) (zn hn767_1) (.int .i64 ((rd_T111 l0 x14_1).f1))).trans hx767_1; replace hx767_2 := (cell_far (p := ⟨gb766, 1, none⟩) (zn hn767_1) (.int .i64 ((rd_T111 l0 x14_1).f1))).trans hx767_2; replace hx767_0 := (cell_far (p := ⟨gb766, 2, none⟩) (zn hn767_2) (.slice A765_2 ((rd_T111 l0 x14_1).f2).length c765_2)).trans hx767_0; replace hx767_1 := (cell_far (p := ⟨gb766, 2, none⟩) (zn hn767_2) (.slice A765_2 ((rd_T111 l0 x14_1).f2).length c765_2)).trans hx767_1; replace hx767_2 := (cell_far (p := ⟨gb766, 2, none⟩) (zn hn767_2) (.slice A765_2 ((rd_T111 l0 x14_1).f2).length c765_2)).trans hx767_2; (try have hy767_0 := fun (n_ : Nat) => (show (((((w16.drewN n_).setCell ⟨gb766, 0, none⟩ (.int .i64 ((rd_T111 l0 x14_1).f0))).setCell ⟨gb766, 1, none⟩ (.int .i64 ((rd_T111 l0 x14_1).f1))).setCell ⟨gb766, 2, none⟩ (.slice A765_2 ((rd_T111 l0 x14_1).f2).length c765_2))).cell? _ = some _ from hx767_0)); (try have hy767_1 := fun (n_ : Nat) => (show (((((w16.drewN n_).setCell ⟨gb766, 0, none⟩ (.int .i64 ((rd_T111 l0 x14_1).f0))).setCell ⟨gb766, 1, none⟩ (.int .i64 ((rd_T111 l0 x14_1).f1))).setCell ⟨gb766, 2, none⟩ (.slice A765_2 ((rd_T111 l0 x14_1).f2).length c765_2))).cell? _ = some _ from hx767_1)); (try have hy767_2 := fun (n_ : Nat) => (show (((((w16.drewN n_).setCell ⟨gb766, 0, none⟩ (.int .i64 ((rd_T111 l0 x14_1).f0))).setCell ⟨gb766, 1, none⟩ (.int .i64 ((rd_T111 l0 x14_1).f1))).setCell ⟨gb766, 2, none⟩ (.slice A765_2 ((rd_T111 l0 x14_1).f2).length c765_2))).cell? _ = some _ from hx767_2)); clear hn767_0; clear hn767_1; clear hn767_2; replace p767 := eq_true p767; replace q767 := eq_true q767; have p768 : 0 ≤ (x14_1 : Int) := oa; have q768 : x14_1 < (l1.length : Int) := oa; obtain ⟨ad768, A768_2, c768_2, e768, hx768_0, hx768_1, hx768_2, hl768_2, hi768_2⟩ := at_T111 HR1.out x14_1 p768 q768; obtain rfl : ad767 = ad768 := (by injection e768); have hn768_0 : ad767.block ≠ gb766 := Nat.ne_of_lt (Nat.lt_of_lt_of_le (zl hx768_0) GW766.out); have hn768_1 : ad767.block ≠ gb766 := Nat.ne_of_lt (Nat.lt_of_lt_of_le (zl hx768_0) GW766.out); have hn768_2 : ad767.block ≠ gb766 := Nat.ne_of_lt (Nat.lt_of_lt_of_le (zl hx768_0) GW766.out); replace hx768_0 := (HB.out.cell (World.block_lt_of_cell? w _ hx768_0)).trans hx768_0; replace hx768_1 := (HB.out.cell (World.block_lt_of_cell? w _ hx768_1)).trans hx768_1; replace hx768_2 := (HB.out.cell (World.block_lt_of_cell? w _ hx768_2)).trans hx768_2; have HR768_2 := Aside0.mk hi768_2; have HC768_2 := Aside0.mk hl768_2; clear hi768_2 hl768_2; replace hx768_0 := (cell_far (p := ⟨gb766, 0, none⟩) (zn hn768_0) (.int .i64 ((rd_T111 l0 x14_1).f0))).trans hx768_0; replace hx768_1 := (cell_far (p := ⟨gb766, 0, none⟩) (zn hn768_0) (.int .i64 ((rd_T111 l0 x14_1).f0))).trans hx768_1; replace hx768_2 := (cell_far (p := ⟨gb766, 0, none⟩) (zn hn768_0) (.int .i64 ((rd_T111 l0 x14_1).f0))).trans hx768_2; replace hx768_0 := (cell_far (p := ⟨gb766, 1, none⟩) (zn hn768_1) (.int .i64 ((rd_T111 l0 x14_1).f1))).trans hx768_0; replace hx768_1 := (cell_far (p := ⟨gb766, 1, none⟩) (zn hn768_1) (.int .i64 ((rd_T111 l0 x14_1).f1))).trans hx768_1; replace hx768_2 := (cell_far (p := ⟨gb766, 1, none⟩) (zn hn768_1) (.int .i64 ((rd_T111 l0 x14_1).f1))).trans hx768_2; replace hx768_0 := (cell_far (p := ⟨gb766, 2, none⟩) (zn hn768_2) (.slice A765_2 ((rd_T111 l0 x14_1).f2).length c765_2)).trans hx768_0; replace hx768_1 := (cell_far (p := ⟨gb766, 2, none⟩) (zn hn768_2) (.slice A765_2 ((rd_T111 l0 x14_1).f2).length c765_2)).trans hx768_1; replace hx768_2 := (cell_far (p := ⟨gb766, 2, none⟩) (zn hn768_2) (.slice A765_2 ((rd_T111 l0 x14_1).f2).length c765_2)).trans hx768_2; (try have hy768_0 := fun (n_ : Nat) => (show (((((w16.drewN n_).setCell ⟨gb766, 0, none⟩ (.int .i64 ((rd_T111 l0 x14_1).f0))).setCell ⟨gb766, 1, none⟩ (.int .i64 ((rd_T111 l0 x14_1).f1))).setCell ⟨gb766, 2, none⟩ (.slice A765_2 ((rd_T111 l0 x14_1).f2).length c765_2))).cell? _ = some _ from hx768_0)); (try have hy768_1 := fun (n_ : Nat) => (show (((((w16.drewN n_).setCell ⟨gb766, 0, none⟩ (.int .i64 ((rd_T111 l0 x14_1).f0))).setCell ⟨gb766, 1, none⟩ (.int .i64 ((rd_T111 l0 x14_1).f1))).setCell ⟨gb766, 2, none⟩ (.slice A765_2 ((rd_T111 l0 x14_1).f2).length c765_2))).cell? _ = some _ from hx768_1)); (try have hy768_2 := fun (n_ : Nat) => (show (((((w16.drewN n_).setCell ⟨gb766, 0, none⟩ (.int .i64 ((rd_T111 l0 x14_1).f0))).setCell ⟨gb766, 1, none⟩ (.int .i64 ((rd_T111 l0 x14_1).f1))).setCell ⟨gb766, 2, none⟩ (.slice A765_2 ((rd_T111 l0 x14_1).f2).length c765_2))).cell? _ = some _ from hx768_2)); clear hn768_0; clear hn768_1; clear hn768_2; replace p768 := eq_true p768; replace q768 := eq_true q768)); try go_wp2_with (first | ((with_reducible refine gate_dst (N := 6) rfl ?_); refine box_event ?hg (N := 6) ?hd (cs := #[.int .i64 0, .int .i64 0, .slice none 0 0]) (t := 111) ?hr ?_; (case hd => rfl); (case hg => rfl); (case hr => first | (go_simp; done) | (go_simp; rfl)); intro gb766 hg w16 hbox hb; have n0_ := Aside0.mk (below_step zb hb); have n1_ := Aside0.mk (hbox); have n2_ := Aside0.mk ((by rw [hg]; exact (below_size zb) : w.heap.size ≤ gb766)); have n3_ := Aside0.mk ((by rw [hg]; exact (below_size zb) : w.heap.size ≤ gb766)); clear HB; have HB := n0_; have BK766 := n1_; have GW766 := n2_; have GE766 := n3_; clear n0_ n1_ n2_ n3_; clear hb hbox hg; have hcz17_0 : w16.cell? ⟨gb766, 0, none⟩ = some (.int .i64 0) := (blk_cell BK766.out 0).trans rfl; have hcz17_1 : w16.cell? ⟨gb766, 1, none⟩ = some (.int .i64 0) := (blk_cell BK766.out 1).trans rfl; have hcz17_2 : w16.cell? ⟨gb766, 2, none⟩ = some (.slice none 0 0) := (blk_cell BK766.out 2).trans rfl; have hfz17_0 := blk_frozen BK766.out 0; have hfz17_1 := blk_frozen BK766.out 1; have hfz17_2 := blk_frozen BK766.out 2; have p767 : 0 ≤ (x14_1 : Int) := oa; have q767 : x14_1 < (l1.length : Int) := oa; obtain ⟨ad767, A767_2, c767_2, e767, hx767_0, hx767_1, hx767_2, hl767_2, hi767_2⟩ := at_T111 HR1.out x14_1 p767 q767; cases e767; have hn767_0 : ad767.block ≠ gb766 := Nat.ne_of_lt (Nat.lt_of_lt_of_le (zl hx767_0) GW766.out); have hn767_1 : ad767.block ≠ gb766 := Nat.ne_of_lt (Nat.lt_of_lt_of_le (zl hx767_0) GW766.out); have hn767_2 : ad767.block ≠ gb766 := Nat.ne_of_lt (Nat.lt_of_lt_of_le (zl hx767_0) GW766.out); replace hx767_0 := (HB.out.cell (World.block_lt_of_cell? w _ hx767_0)).trans hx767_0; replace hx767_1 := (HB.out.cell (World.block_lt_of_cell? w _ hx767_1)).trans hx767_1; replace hx767_2 := (HB.out.cell (World.block_lt_of_cell? w _ hx767_2)).trans hx767_2; have HR767_2 := Aside0.mk hi767_2; have HC767_2 := Aside0.mk hl767_2; clear hi767_2 hl767_2; replace hx767_0 := (cell_far (p := ⟨gb766, 0, none⟩) (zn hn767_0) (.int .i64 ((rd_T111 l0 x14_1).f0))).trans hx767_0; replace hx767_1 := (cell_far (p := ⟨gb766, 0, none⟩) (zn hn767_0) (.int .i64 ((rd_T111 l0 x14_1).f0))).trans hx767_1; replace hx767_2 := (cell_far (p := ⟨gb766, 0, none⟩) (zn hn767_0) (.int .i64 ((rd_T111 l0 x14_1).f0))).trans hx767_2; replace hx767_0 := (cell_far (p := ⟨gb766, 1, none⟩) (zn hn767_1) (.int .i64 ((rd_T111 l0 x14_1).f1))).trans hx767_0; replace hx767_1 := (cell_far (p := ⟨gb766, 1, none⟩) (zn hn767_1) (.int .i64 ((rd_T111 l0 x14_1).f1))).trans hx767_1; replace hx767_2 := (cell_far (p := ⟨gb766, 1, none⟩) (zn hn767_1) (.int .i64 ((rd_T111 l0 x14_1).f1))).trans hx767_2; replace hx767_0 := (cell_far (p := ⟨gb766, 2, none⟩) (zn hn767_2) (.slice A765_2 ((rd_T111 l0 x14_1).f2).length c765_2)).trans hx767_0; replace hx767_1 := (cell_far (p := ⟨gb766, 2, none⟩) (zn hn767_2) (.slice A765_2 ((rd_T111 l0 x14_1).f2).length c765_2)).trans hx767_1; replace hx767_2 := (cell_far (p := ⟨gb766, 2, none⟩) (zn hn767_2) (.slice A765_2 ((rd_T111 l0 x14_1).f2).length c765_2)).trans hx767_2; (try have hy767_0 := fun (n_ : Nat) => (show (((((w16.drewN n_).setCell ⟨gb766, 0, none⟩ (.int .i64 ((rd_T111 l0 x14_1).f0))).setCell ⟨gb766, 1, none⟩ (.int .i64 ((rd_T111 l0 x14_1).f1))).setCell ⟨gb766, 2, none⟩ (.slice A765_2 ((rd_T111 l0 x14_1).f2).length c765_2))).cell? _ = some _ from hx767_0)); (try have hy767_1 := fun (n_ : Nat) => (show (((((w16.drewN n_).setCell ⟨gb766, 0, none⟩ (.int .i64 ((rd_T111 l0 x14_1).f0))).setCell ⟨gb766, 1, none⟩ (.int .i64 ((rd_T111 l0 x14_1).f1))).setCell ⟨gb766, 2, none⟩ (.slice A765_2 ((rd_T111 l0 x14_1).f2).length c765_2))).cell? _ = some _ from hx767_1)); (try have hy767_2 := fun (n_ : Nat) => (show (((((w16.drewN n_).setCell ⟨gb766, 0, none⟩ (.int .i64 ((rd_T111 l0 x14_1).f0))).setCell ⟨gb766, 1, none⟩ (.int .i64 ((rd_T111 l0 x14_1).f1))).setCell ⟨gb766, 2, none⟩ (.slice A765_2 ((rd_T111 l0 x14_1).f2).length c765_2))).cell? _ = some _ from hx767_2)); clear hn767_0; clear hn767_1; clear hn767_2; replace p767 := eq_true p767; replace q767 := eq_true q767; have p768 : 0 ≤ (x14_1 : Int) := oa; have q768 : x14_1 < (l1.length : Int) := oa; obtain ⟨ad768, A768_2, c768_2, e768, hx768_0, hx768_1, hx768_2, hl768_2, hi768_2⟩ := at_T111 HR1.out x14_1 p768 q768; obtain rfl : ad767 = ad768 := (by injection e768); have hn768_0 : ad767.block ≠ gb766 := Nat.ne_of_lt (Nat.lt_of_lt_of_le (zl hx768_0) GW766.out); have hn768_1 : ad767.block ≠ gb766 := Nat.ne_of_lt (Nat.lt_of_lt_of_le (zl hx768_0) GW766.out); have hn768_2 : ad767.block ≠ gb766 := Nat.ne_of_lt (Nat.lt_of_lt_of_le (zl hx768_0) GW766.out); replace hx768_0 := (HB.out.cell (World.block_lt_of_cell? w _ hx768_0)).trans hx768_0; replace hx768_1 := (HB.out.cell (World.block_lt_of_cell? w _ hx768_1)).trans hx768_1; replace hx768_2 := (HB.out.cell (World.block_lt_of_cell? w _ hx768_2)).trans hx768_2; have HR768_2 := Aside0.mk hi768_2; have HC768_2 := Aside0.mk hl768_2; clear hi768_2 hl768_2; replace hx768_0 := (cell_far (p := ⟨gb766, 0, none⟩) (zn hn768_0) (.int .i64 ((rd_T111 l0 x14_1).f0))).trans hx768_0; replace hx768_1 := (cell_far (p := ⟨gb766, 0, none⟩) (zn hn768_0) (.int .i64 ((rd_T111 l0 x14_1).f0))).trans hx768_1; replace hx768_2 := (cell_far (p := ⟨gb766, 0, none⟩) (zn hn768_0) (.int .i64 ((rd_T111 l0 x14_1).f0))).trans hx768_2; replace hx768_0 := (cell_far (p := ⟨gb766, 1, none⟩) (zn hn768_1) (.int .i64 ((rd_T111 l0 x14_1).f1))).trans hx768_0; replace hx768_1 := (cell_far (p := ⟨gb766, 1, none⟩) (zn hn768_1) (.int .i64 ((rd_T111 l0 x14_1).f1))).trans hx768_1; replace hx768_2 := (cell_far (p := ⟨gb766, 1, none⟩) (zn hn768_1) (.int .i64 ((rd_T111 l0 x14_1).f1))).trans hx768_2; replace hx768_0 := (cell_far (p := ⟨gb766, 2, none⟩) (zn hn768_2) (.slice A765_2 ((rd_T111 l0 x14_1).f2).length c765_2)).trans hx768_0; replace hx768_1 := (cell_far (p := ⟨gb766, 2, none⟩) (zn hn768_2) (.slice A765_2 ((rd_T111 l0 x14_1).f2).length c765_2)).trans hx768_1; replace hx768_2 := (cell_far (p := ⟨gb766, 2, none⟩) (zn hn768_2) (.slice A765_2 ((rd_T111 l0 x14_1).f2).length c765_2)).trans hx768_2; (try have hy768_0 := fun (n_ : Nat) => (show (((((w16.drewN n_).setCell ⟨gb766, 0, none⟩ (.int .i64 ((rd_T111 l0 x14_1).f0))).setCell ⟨gb766, 1, none⟩ (.int .i64 ((rd_T111 l0 x14_1).f1))).setCell ⟨gb766, 2, none⟩ (.slice A765_2 ((rd_T111 l0 x14_1).f2).length c765_2))).cell? _ = some _ from hx768_0)); (try have hy768_1 := fun (n_ : Nat) => (show (((((w16.drewN n_).setCell ⟨gb766, 0, none⟩ (.int .i64 ((rd_T111 l0 x14_1).f0))).setCell ⟨gb766, 1, none⟩ (.int .i64 ((rd_T111 l0 x14_1).f1))).setCell ⟨gb766, 2, none⟩ (.slice A765_2 ((rd_T111 l0 x14_1).f2).length c765_2))).cell? _ = some _ from hx768_1)); (try have hy768_2 := fun (n_ : Nat) => (show (((((w16.drewN n_).setCell ⟨gb766, 0, none⟩ (.int .i64 ((rd_T111 l0 x14_1).f0))).setCell ⟨gb766, 1, none⟩ (.int .i64 ((rd_T111 l0 x14_1).f1))).setCell ⟨gb766, 2, none⟩ (.slice A765_2 ((rd_T111 l0 x14_1).f2).length c765_2))).cell? _ = some _ from hx768_2)); clear hn768_0; clear hn768_1; clear hn768_2; replace p768 := eq_true p768; replace q768 := eq_true q768)))
          go_ret
          exact ⟨by first | rfl | (simp [errW_none, errW_some] <;> rfl) | (simp [*, errW_none, errW_some] <;> rfl), by repeat (first | (with_reducible first | exact HB.out | apply below_alloc | apply pw_below_drewN | apply below_drew1 | refine below_set ?_ GE766.out) | exact HB.out)⟩
        ·rw [if_neg c8] at H
         have c8b0 : (((rd_T111 l0 x14_1).f0) == ((rd_T111 l1 x14_1).f0)) = false := beq_eq_false_iff_ne.mpr c8
         have c8b1 : (((rd_T111 l0 x14_1).f0) != ((rd_T111 l1 x14_1).f0)) = true := bne_iff_ne.mpr c8
         obtain rfl := Option.some.inj H
         have p765 : 0 ≤ (x14_1 : Int) := oa
         have q765 : x14_1 < (l0.length : Int) := oa
         obtain ⟨ad765, A765_2, c765_2, e765, hx765_0, hx765_1, hx765_2, hl765_2, hi765_2⟩ := at_T111 HR0.out x14_1 p765 q765
         cases e765
         replace hx765_0 := (HB.out.cell (World.block_lt_of_cell? w _ hx765_0)).trans hx765_0
         replace hx765_1 := (HB.out.cell (World.block_lt_of_cell? w _ hx765_1)).trans hx765_1
         replace hx765_2 := (HB.out.cell (World.block_lt_of_cell? w _ hx765_2)).trans hx765_2
         have HR765_2 := Aside0.mk hi765_2
         have HC765_2 := Aside0.mk hl765_2
         clear hi765_2 hl765_2
         replace p765 := eq_true p765
         replace q765 := eq_true q765
         go_wp2_with (first | ((with_reducible refine gate_dst (N := 6) rfl ?_); refine box_event ?hg (N := 6) ?hd (cs := #[.int .i64 0, .int .i64 0, .slice none 0 0]) (t := 111) ?hr ?_; (case hd => rfl); (case hg => rfl); (case hr => first | (go_simp; done) | (go_simp; rfl)); intro gb766 hg w18 hbox hb; have n0_ := Aside0.mk (below_step zb hb); have n1_ := Aside0.mk (hbox); have n2_ := Aside0.mk ((by rw [hg]; exact (below_size zb) : w.heap.size ≤ gb766)); have n3_ := Aside0.mk ((by rw [hg]; exact (below_size zb) : w.heap.size ≤ gb766)); clear HB; have HB := n0_; have BK766 := n1_; have GW766 := n2_; have GE766 := n3_; clear n0_ n1_ n2_ n3_; clear hb hbox hg; have hcz19_0 : w18.cell? ⟨gb766, 0, none⟩ = some (.int .i64 0) := (blk_cell BK766.out 0).trans rfl; have hcz19_1 : w18.cell? ⟨gb766, 1, none⟩ = some (.int .i64 0) := (blk_cell BK766.out 1).trans rfl; have hcz19_2 : w18.cell? ⟨gb766, 2, none⟩ = some (.slice none 0 0) := (blk_cell BK766.out 2).trans rfl; have hfz19_0 := blk_frozen BK766.out 0; have hfz19_1 := blk_frozen BK766.out 1; have hfz19_2 := blk_frozen BK766.out 2; have p767 : 0 ≤ (x14_1 : Int) := oa; have q767 : x14_1 < (l1.length : Int) := oa; obtain ⟨ad767, A767_2, c767_2, e767, hx767_0, hx767_1, hx767_2, hl767_2, hi767_2⟩ := at_T111 HR1.out x14_1 p767 q767; cases e767; have hn767_0 : ad767.block ≠ gb766 := Nat.ne_of_lt (Nat.lt_of_lt_of_le (zl hx767_0) GW766.out); have hn767_1 : ad767.block ≠ gb766 := Nat.ne_of_lt (Nat.lt_of_lt_of_le (zl hx767_0) GW766.out); have hn767_2 : ad767.block ≠ gb766 := Nat.ne_of_lt (Nat.lt_of_lt_of_le (zl hx767_0) GW766.out); replace hx767_0 := (HB.out.cell (World.block_lt_of_cell? w _ hx767_0)).trans hx767_0; replace hx767_1 := (HB.out.cell (World.block_lt_of_cell? w _ hx767_1)).trans hx767_1; replace hx767_2 := (HB.out.cell (World.block_lt_of_cell? w _ hx767_2)).trans hx767_2; have HR767_2 := Aside0.mk hi767_2; have HC767_2 := Aside0.mk hl767_2; clear hi767_2 hl767_2; replace hx767_0 := (cell_far (p := ⟨gb766, 0, none⟩) (zn hn767_0) (.int .i64 ((rd_T111 l0 x14_1).f0))).trans hx767_0; replace hx767_1 := (cell_far (p := ⟨gb766, 0, none⟩) (zn hn767_0) (.int .i64 ((rd_T111 l0 x14_1).f0))).trans hx767_1; replace hx767_2 := (cell_far (p := ⟨gb766, 0, none⟩) (zn hn767_0) (.int .i64 ((rd_T111 l0 x14_1).f0))).trans hx767_2; replace hx767_0 := (cell_far (p := ⟨gb766, 1, none⟩) (zn hn767_1) (.int .i64 ((rd_T111 l0 x14_1).f1))).trans hx767_0; replace hx767_1 := (cell_far (p := ⟨gb766, 1, none⟩) (zn hn767_1) (.int .i64 ((rd_T111 l0 x14_1).f1))).trans hx767_1; replace hx767_2 := (cell_far (p := ⟨gb766, 1, none⟩) (zn hn767_1) (.int .i64 ((rd_T111 l0 x14_1).f1))).trans hx767_2; replace hx767_0 := (cell_far (p := ⟨gb766, 2, none⟩) (zn hn767_2) (.slice A765_2 ((rd_T111 l0 x14_1).f2).length c765_2)).trans hx767_0; replace hx767_1 := (cell_far (p := ⟨gb766, 2, none⟩) (zn hn767_2) (.slice A765_2 ((rd_T111 l0 x14_1).f2).length c765_2)).trans hx767_1; replace hx767_2 := (cell_far (p := ⟨gb766, 2, none⟩) (zn hn767_2) (.slice A765_2 ((rd_T111 l0 x14_1).f2).length c765_2)).trans hx767_2; (try have hy767_0 := fun (n_ : Nat) => (show (((((w18.drewN n_).setCell ⟨gb766, 0, none⟩ (.int .i64 ((rd_T111 l0 x14_1).f0))).setCell ⟨gb766, 1, none⟩ (.int .i64 ((rd_T111 l0 x14_1).f1))).setCell ⟨gb766, 2, none⟩ (.slice A765_2 ((rd_T111 l0 x14_1).f2).length c765_2))).cell? _ = some _ from hx767_0)); (try have hy767_1 := fun (n_ : Nat) => (show (((((w18.drewN n_).setCell ⟨gb766, 0, none⟩ (.int .i64 ((rd_T111 l0 x14_1).f0))).setCell ⟨gb766, 1, none⟩ (.int .i64 ((rd_T111 l0 x14_1).f1))).setCell ⟨gb766, 2, none⟩ (.slice A765_2 ((rd_T111 l0 x14_1).f2).length c765_2))).cell? _ = some _ from hx767_1)); (try have hy767_2 := fun (n_ : Nat) => (show (((((w18.drewN n_).setCell ⟨gb766, 0, none⟩ (.int .i64 ((rd_T111 l0 x14_1).f0))).setCell ⟨gb766, 1, none⟩ (.int .i64 ((rd_T111 l0 x14_1).f1))).setCell ⟨gb766, 2, none⟩ (.slice A765_2 ((rd_T111 l0 x14_1).f2).length c765_2))).cell? _ = some _ from hx767_2)); clear hn767_0; clear hn767_1; clear hn767_2; replace p767 := eq_true p767; replace q767 := eq_true q767))
         repeat (go_quiet (first | ((with_reducible refine gate_dst (N := 6) rfl ?_); refine box_event ?hg (N := 6) ?hd (cs := #[.int .i64 0, .int .i64 0, .slice none 0 0]) (t := 111) ?hr ?_; (case hd => rfl); (case hg => rfl); (case hr => first | (go_simp; done) | (go_simp; rfl)); intro gb766 hg w18 hbox hb; have n0_ := Aside0.mk (below_step zb hb); have n1_ := Aside0.mk (hbox); have n2_ := Aside0.mk ((by rw [hg]; exact (below_size zb) : w.heap.size ≤ gb766)); have n3_ := Aside0.mk ((by rw [hg]; exact (below_size zb) : w.heap.size ≤ gb766)); clear HB; have HB := n0_; have BK766 := n1_; have GW766 := n2_; have GE766 := n3_; clear n0_ n1_ n2_ n3_; clear hb hbox hg; have hcz19_0 : w18.cell? ⟨gb766, 0, none⟩ = some (.int .i64 0) := (blk_cell BK766.out 0).trans rfl; have hcz19_1 : w18.cell? ⟨gb766, 1, none⟩ = some (.int .i64 0) := (blk_cell BK766.out 1).trans rfl; have hcz19_2 : w18.cell? ⟨gb766, 2, none⟩ = some (.slice none 0 0) := (blk_cell BK766.out 2).trans rfl; have hfz19_0 := blk_frozen BK766.out 0; have hfz19_1 := blk_frozen BK766.out 1; have hfz19_2 := blk_frozen BK766.out 2; have p767 : 0 ≤ (x14_1 : Int) := oa; have q767 : x14_1 < (l1.length : Int) := oa; obtain ⟨ad767, A767_2, c767_2, e767, hx767_0, hx767_1, hx767_2, hl767_2, hi767_2⟩ := at_T111 HR1.out x14_1 p767 q767; cases e767; have hn767_0 : ad767.block ≠ gb766 := Nat.ne_of_lt (Nat.lt_of_lt_of_le (zl hx767_0) GW766.out); have hn767_1 : ad767.block ≠ gb766 := Nat.ne_of_lt (Nat.lt_of_lt_of_le (zl hx767_0) GW766.out); have hn767_2 : ad767.block ≠ gb766 := Nat.ne_of_lt (Nat.lt_of_lt_of_le (zl hx767_0) GW766.out); replace hx767_0 := (HB.out.cell (World.block_lt_of_cell? w _ hx767_0)).trans hx767_0; replace hx767_1 := (HB.out.cell (World.block_lt_of_cell? w _ hx767_1)).trans hx767_1; replace hx767_2 := (HB.out.cell (World.block_lt_of_cell? w _ hx767_2)).trans hx767_2; have HR767_2 := Aside0.mk hi767_2; have HC767_2 := Aside0.mk hl767_2; clear hi767_2 hl767_2; replace hx767_0 := (cell_far (p := ⟨gb766, 0, none⟩) (zn hn767_0) (.int .i64 ((rd_T111 l0 x14_1).f0))).trans hx767_0; replace hx767_1 := (cell_far (p := ⟨gb766, 0, none⟩) (zn hn767_0) (.int .i64 ((rd_T111 l0 x14_1).f0))).trans hx767_1; replace hx767_2 := (cell_far (p := ⟨gb766, 0, none⟩) (zn hn767_0) (.int .i64 ((rd_T111 l0 x14_1).f0))).trans hx767_2; replace hx767_0 := (cell_far (p := ⟨gb766, 1, none⟩) (zn hn767_1) (.int .i64 ((rd_T111 l0 x14_1).f1))).trans hx767_0; replace hx767_1 := (cell_far (p := ⟨gb766, 1, none⟩) (zn hn767_1) (.int .i64 ((rd_T111 l0 x14_1).f1))).trans hx767_1; replace hx767_2 := (cell_far (p := ⟨gb766, 1, none⟩) (zn hn767_1) (.int .i64 ((rd_T111 l0 x14_1).f1))).trans hx767_2; replace hx767_0 := (cell_far (p := ⟨gb766, 2, none⟩) (zn hn767_2) (.slice A765_2 ((rd_T111 l0 x14_1).f2).length c765_2)).trans hx767_0; replace hx767_1 := (cell_far (p := ⟨gb766, 2, none⟩) (zn hn767_2) (.slice A765_2 ((rd_T111 l0 x14_1).f2).length c765_2)).trans hx767_1; replace hx767_2 := (cell_far (p := ⟨gb766, 2, none⟩) (zn hn767_2) (.slice A765_2 ((rd_T111 l0 x14_1).f2).length c765_2)).trans hx767_2; (try have hy767_0 := fun (n_ : Nat) => (show (((((w18.drewN n_).setCell ⟨gb766, 0, none⟩ (.int .i64 ((rd_T111 l0 x14_1).f0))).setCell ⟨gb766, 1, none⟩ (.int .i64 ((rd_T111 l0 x14_1).f1))).setCell ⟨gb766, 2, none⟩ (.slice A765_2 ((rd_T111 l0 x14_1).f2).length c765_2))).cell? _ = some _ from hx767_0)); (try have hy767_1 := fun (n_ : Nat) => (show (((((w18.drewN n_).setCell ⟨gb766, 0, none⟩ (.int .i64 ((rd_T111 l0 x14_1).f0))).setCell ⟨gb766, 1, none⟩ (.int .i64 ((rd_T111 l0 x14_1).f1))).setCell ⟨gb766, 2, none⟩ (.slice A765_2 ((rd_T111 l0 x14_1).f2).length c765_2))).cell? _ = some _ from hx767_1)); (try have hy767_2 := fun (n_ : Nat) => (show (((((w18.drewN n_).setCell ⟨gb766, 0, none⟩ (.int .i64 ((rd_T111 l0 x14_1).f0))).setCell ⟨gb766, 1, none⟩ (.int .i64 ((rd_T111 l0 x14_1).f1))).setCell ⟨gb766, 2, none⟩ (.slice A765_2 ((rd_T111 l0 x14_1).f2).length c765_2))).cell? _ = some _ from hx767_2)); clear hn767_0; clear hn767_1; clear hn767_2; replace p767 := eq_true p767; replace q767 := eq_true q767)); try go_wp2_with (first | ((with_reducible refine gate_dst (N := 6) rfl ?_); refine box_event ?hg (N := 6) ?hd (cs := #[.int .i64 0, .int .i64 0, .slice none 0 0]) (t := 111) ?hr ?_; (case hd => rfl); (case hg => rfl); (case hr => first | (go_simp; done) | (go_simp; rfl)); intro gb766 hg w18 hbox hb; have n0_ := Aside0.mk (below_step zb hb); have n1_ := Aside0.mk (hbox); have n2_ := Aside0.mk ((by rw [hg]; exact (below_size zb) : w.heap.size ≤ gb766)); have n3_ := Aside0.mk ((by rw [hg]; exact (below_size zb) : w.heap.size ≤ gb766)); clear HB; have HB := n0_; have BK766 := n1_; have GW766 := n2_; have GE766 := n3_; clear n0_ n1_ n2_ n3_; clear hb hbox hg; have hcz19_0 : w18.cell? ⟨gb766, 0, none⟩ = some (.int .i64 0) := (blk_cell BK766.out 0).trans rfl; have hcz19_1 : w18.cell? ⟨gb766, 1, none⟩ = some (.int .i64 0) := (blk_cell BK766.out 1).trans rfl; have hcz19_2 : w18.cell? ⟨gb766, 2, none⟩ = some (.slice none 0 0) := (blk_cell BK766.out 2).trans rfl; have hfz19_0 := blk_frozen BK766.out 0; have hfz19_1 := blk_frozen BK766.out 1; have hfz19_2 := blk_frozen BK766.out 2; have p767 : 0 ≤ (x14_1 : Int) := oa; have q767 : x14_1 < (l1.length : Int) := oa; obtain ⟨ad767, A767_2, c767_2, e767, hx767_0, hx767_1, hx767_2, hl767_2, hi767_2⟩ := at_T111 HR1.out x14_1 p767 q767; cases e767; have hn767_0 : ad767.block ≠ gb766 := Nat.ne_of_lt (Nat.lt_of_lt_of_le (zl hx767_0) GW766.out); have hn767_1 : ad767.block ≠ gb766 := Nat.ne_of_lt (Nat.lt_of_lt_of_le (zl hx767_0) GW766.out); have hn767_2 : ad767.block ≠ gb766 := Nat.ne_of_lt (Nat.lt_of_lt_of_le (zl hx767_0) GW766.out); replace hx767_0 := (HB.out.cell (World.block_lt_of_cell? w _ hx767_0)).trans hx767_0; replace hx767_1 := (HB.out.cell (World.block_lt_of_cell? w _ hx767_1)).trans hx767_1; replace hx767_2 := (HB.out.cell (World.block_lt_of_cell? w _ hx767_2)).trans hx767_2; have HR767_2 := Aside0.mk hi767_2; have HC767_2 := Aside0.mk hl767_2; clear hi767_2 hl767_2; replace hx767_0 := (cell_far (p := ⟨gb766, 0, none⟩) (zn hn767_0) (.int .i64 ((rd_T111 l0 x14_1).f0))).trans hx767_0; replace hx767_1 := (cell_far (p := ⟨gb766, 0, none⟩) (zn hn767_0) (.int .i64 ((rd_T111 l0 x14_1).f0))).trans hx767_1; replace hx767_2 := (cell_far (p := ⟨gb766, 0, none⟩) (zn hn767_0) (.int .i64 ((rd_T111 l0 x14_1).f0))).trans hx767_2; replace hx767_0 := (cell_far (p := ⟨gb766, 1, none⟩) (zn hn767_1) (.int .i64 ((rd_T111 l0 x14_1).f1))).trans hx767_0; replace hx767_1 := (cell_far (p := ⟨gb766, 1, none⟩) (zn hn767_1) (.int .i64 ((rd_T111 l0 x14_1).f1))).trans hx767_1; replace hx767_2 := (cell_far (p := ⟨gb766, 1, none⟩) (zn hn767_1) (.int .i64 ((rd_T111 l0 x14_1).f1))).trans hx767_2; replace hx767_0 := (cell_far (p := ⟨gb766, 2, none⟩) (zn hn767_2) (.slice A765_2 ((rd_T111 l0 x14_1).f2).length c765_2)).trans hx767_0; replace hx767_1 := (cell_far (p := ⟨gb766, 2, none⟩) (zn hn767_2) (.slice A765_2 ((rd_T111 l0 x14_1).f2).length c765_2)).trans hx767_1; replace hx767_2 := (cell_far (p := ⟨gb766, 2, none⟩) (zn hn767_2) (.slice A765_2 ((rd_T111 l0 x14_1).f2).length c765_2)).trans hx767_2; (try have hy767_0 := fun (n_ : Nat) => (show (((((w18.drewN n_).setCell ⟨gb766, 0, none⟩ (.int .i64 ((rd_T111 l0 x14_1).f0))).setCell ⟨gb766, 1, none⟩ (.int .i64 ((rd_T111 l0 x14_1).f1))).setCell ⟨gb766, 2, none⟩ (.slice A765_2 ((rd_T111 l0 x14_1).f2).length c765_2))).cell? _ = some _ from hx767_0)); (try have hy767_1 := fun (n_ : Nat) => (show (((((w18.drewN n_).setCell ⟨gb766, 0, none⟩ (.int .i64 ((rd_T111 l0 x14_1).f0))).setCell ⟨gb766, 1, none⟩ (.int .i64 ((rd_T111 l0 x14_1).f1))).setCell ⟨gb766, 2, none⟩ (.slice A765_2 ((rd_T111 l0 x14_1).f2).length c765_2))).cell? _ = some _ from hx767_1)); (try have hy767_2 := fun (n_ : Nat) => (show (((((w18.drewN n_).setCell ⟨gb766, 0, none⟩ (.int .i64 ((rd_T111 l0 x14_1).f0))).setCell ⟨gb766, 1, none⟩ (.int .i64 ((rd_T111 l0 x14_1).f1))).setCell ⟨gb766, 2, none⟩ (.slice A765_2 ((rd_T111 l0 x14_1).f2).length c765_2))).cell? _ = some _ from hx767_2)); clear hn767_0; clear hn767_1; clear hn767_2; replace p767 := eq_true p767; replace q767 := eq_true q767)))
         go_ret
         exact ⟨by first | rfl | (simp [errW_none, errW_some] <;> rfl) | (simp [*, errW_none, errW_some] <;> rfl), by repeat (first | (with_reducible first | exact HB.out | apply below_alloc | apply pw_below_drewN | apply below_drew1 | refine below_set ?_ GE766.out) | exact HB.out)⟩
       ·rw [if_neg c7] at H
        exact absurd H (by simp)
      ·rw [if_neg c6] at H
       exact absurd H (by simp)
     ·rw [if_neg c5] at H
      exact absurd H (by simp)
    ·rw [if_neg c4] at H
     have c4b0 : decide (x14_1 < (l0.length : Int)) = false := decide_eq_false c4
     clear c4
     obtain rfl := Option.some.inj H
     go_wp2
     repeat (go_quiet (fail); try go_wp2)
     go_ret
     exact ⟨by first | rfl | (simp [errW_none, errW_some] <;> rfl) | (simp [*, errW_none, errW_some] <;> rfl), by repeat (first | (with_reducible first | exact HB.out | apply below_alloc | apply pw_below_drewN | apply below_drew1) | exact HB.out)⟩
 ·rw [if_neg c3] at H
  have c3b0 : ((l0.length : Int) == (l1.length : Int)) = false := beq_eq_false_iff_ne.mpr c3
  have c3b1 : ((l0.length : Int) != (l1.length : Int)) = true := bne_iff_ne.mpr c3
  have c3b2 : (l0.length == l1.length) = false := by first | simpa using c3 | (simp at c3 ⊢; omega)
  obtain rfl := Option.some.inj H
  go_enter Try.func34, Try.ntmps34
  go_wp2
  repeat (go_quiet (fail); try go_wp2)
  go_ret
  exact ⟨by first | rfl | (simp [errW_none, errW_some] <;> rfl) | (simp [*, errW_none, errW_some] <;> rfl), by repeat (first | (with_reducible first | exact HB.out | apply below_alloc | apply pw_below_drewN | apply below_drew1) | exact HB.out)⟩

end Go.Proofs.Ytcefenlblnediaa.My

/- Written by this session's program (wip/gen): a plain function with the same answers as the Go function, and the proof that the Go code comes to them. Asked: that the plain function has an answer. -/
namespace Go.Proofs.Ytcefenlblnediaa.My
open Go.RowKit Go.Proofs.YtcefenlblnediaaW.PrintWords Go.Proofs.YtcefenlblnediaaW.PrintLast Go.Proofs.YtcefenlblnediaaW.PrintMore
attribute [local go_sem] max2_int min2_int max_two min_two max_three min_three max_four min_four
set_option linter.unusedVariables false
set_option linter.unusedSimpArgs false

/-! ### spec_l2Asked: function 103 -/
def spec_l2Asked.f (k : Nat) (l0 : List ByteArray) (l1 : List (S111)) : Option (Bool) := (spec_l1Good.f k l0).bind fun t347 => (if t347 = true then ((spec_l2Hunks.f k (l0.length : Int) l1).bind fun t348 => (some t348)) else (some false))
set_option maxHeartbeats 8000000 in
set_option maxRecDepth 100000 in
theorem spec_l2Asked.calls (k : Nat) (A0 : Option Addr) (c0 : Nat) (l0 : List ByteArray) (A1 : Option Addr) (c1 : Nat) (l1 : List (S111)) (r : Bool) (w : World) (hr0 : Kd.C Kd.string w A0 l0.length l0) (hc0 : l0.length ≤ c0) (hr1 : Kd.C k111 w A1 l1.length l1) (hc1 : l1.length ≤ c1) (h : spec_l2Asked.f k l0 l1 = some r) :
  Calls Try.prog 103 #[.slice A0 l0.length c0, .slice A1 l1.length c1] w fun e w' => e = .returned (.bool r) ∧ Below w.heap.size w w' := by
 have HR0 := Aside0.mk hr0
 have HC0 := Aside0.mk hc0
 clear hr0 hc0
 have HR1 := Aside0.mk hr1
 have HC1 := Aside0.mk hc1
 clear hr1 hc1
 have HB := Aside0.mk (Below.refl w.heap.size w)
 have H : ((spec_l1Good.f k l0).bind fun t347 => (if t347 = true then ((spec_l2Hunks.f k (l0.length : Int) l1).bind fun t348 => (some t348)) else (some false))) = some r := h
 clear h
 replace H := Option.bind_eq_some_iff.mp H
 obtain ⟨t347, A30, H⟩ := H
 replace H : (if t347 = true then ((spec_l2Hunks.f k (l0.length : Int) l1).bind fun t348 => (some t348)) else (some false)) = some r := H
 have A3 := Aside0.mk A30
 clear A30
 by_cases c4 : t347 = true
 ·subst c4
  have H1 : ((spec_l2Hunks.f k (l0.length : Int) l1).bind fun t348 => (some t348)) = some r := by rw [if_pos rfl] at H; exact H
  clear H
  have H := H1
  clear H1
  replace H := Option.bind_eq_some_iff.mp H
  obtain ⟨t348, A50, H⟩ := H
  replace H : (some t348) = some r := H
  have A5 := Aside0.mk A50
  clear A50
  obtain rfl := Option.some.inj H
  go_enter Try.func103, Try.ntmps103
  go_wp2_with (first | ((with_reducible refine gateC (f := 78) rfl ?_); refine goesL_ (some 6) rfl rfl Try.func78 (by kernel_rfl) rfl #[.slice A0 l0.length c0] rfl zm ?_; (with_reducible refine (spec_l1Good.calls k _ _ l0 true _ ?side1 ?side2 A3.out).mono ?_); (case side1 => exact zq HR0.out); (case side2 => exact HC0.out); rintro e w' ⟨rfl, ⟨nd, rfl⟩⟩; refine ⟨_, rfl, ?_⟩) | (go_at_call 92; (with_reducible refine (spec_l2Hunks.calls k (l0.length : Int) _ _ l1 t348 _ ?side1 ?side2 A5.out).mono ?_); (case side1 => exact zq HR1.out); (case side2 => exact HC1.out); rintro e w6 ⟨rfl, hb⟩; have n0_ := Aside0.mk (below_step zb hb); clear HB; have HB := n0_; clear n0_; (try clear hb); (try clear hb2); (try clear hk); (try clear hi)))
  go_ret
  exact ⟨by first | rfl | (simp [errW_none, errW_some] <;> rfl) | (simp [*, errW_none, errW_some] <;> rfl), by repeat (first | (with_reducible first | exact HB.out | apply below_alloc | apply pw_below_drewN | apply below_drew1) | exact HB.out)⟩
 ·replace c4 := Bool.eq_false_iff.mpr c4
  subst c4
  have H1 : (some false) = some r := by rw [if_neg (show ¬ (false = true) by decide)] at H; exact H
  clear H
  have H := H1
  clear H1
  obtain rfl := Option.some.inj H
  go_enter Try.func103, Try.ntmps103
  go_wp2_with (first | ((with_reducible refine gateC (f := 78) rfl ?_); refine goesL_ (some 6) rfl rfl Try.func78 (by kernel_rfl) rfl #[.slice A0 l0.length c0] rfl zm ?_; (with_reducible refine (spec_l1Good.calls k _ _ l0 false _ ?side1 ?side2 A3.out).mono ?_); (case side1 => exact zq HR0.out); (case side2 => exact HC0.out); rintro e w' ⟨rfl, ⟨nd, rfl⟩⟩; refine ⟨_, rfl, ?_⟩))
  go_ret
  exact ⟨by first | rfl | (simp [errW_none, errW_some] <;> rfl) | (simp [*, errW_none, errW_some] <;> rfl), by repeat (first | (with_reducible first | exact HB.out | apply below_alloc | apply pw_below_drewN | apply below_drew1) | exact HB.out)⟩

end Go.Proofs.Ytcefenlblnediaa.My

/- Written by this session's program (wip/gen): a plain function with the same answers as the Go function, and the proof that the Go code comes to them. Asked: that the plain function has an answer. -/
namespace Go.Proofs.Ytcefenlblnediaa.My
open Go.RowKit Go.Proofs.YtcefenlblnediaaW.PrintWords Go.Proofs.YtcefenlblnediaaW.PrintLast Go.Proofs.YtcefenlblnediaaW.PrintMore
attribute [local go_sem] max2_int min2_int max_two min_two max_three min_three max_four min_four
set_option linter.unusedVariables false
set_option linter.unusedSimpArgs false

/-! ### spec_l2Patch: function 104 -/
def spec_l2Patch.l0 : Nat → List ByteArray → List ByteArray → Int → List (S111) → Int → Int → Option (List ByteArray)
 | 0, _, _, _, _, _, _ => none
 | k + 1, x0, x5, x6, x9, x10, x11 => if x11 < x10 then (if 0 ≤ x11 then (if x11 < (x9.length : Int) then (if 0 ≤ x6 then (if x6 ≤ ((rd_T111 x9 x11).f0) then (if ((rd_T111 x9 x11).f0) ≤ (x0.length : Int) then (if x5.length + ((x0.take (((rd_T111 x9 x11).f0) : Int).toNat).drop (x6 : Int).toNat).length < 8796093022208 then ((some (x5 ++ ((x0.take (((rd_T111 x9 x11).f0) : Int).toNat).drop (x6 : Int).toNat) : List ByteArray)).bind fun y352 => (if y352.length + ((rd_T111 x9 x11).f2).length < 8796093022208 then (spec_l2Patch.l0 k x0 (y352 ++ ((rd_T111 x9 x11).f2)) (wrap64 (((rd_T111 x9 x11).f0) + ((rd_T111 x9 x11).f1))) x9 x10 (wrap64 (x11 + 1))) else (none))) else (none)) else (none)) else (none)) else (none)) else (none)) else (none)) else (if 0 ≤ x6 then (if x6 ≤ (x0.length : Int) then (if x5.length + (x0.drop (x6 : Int).toNat).length < 8796093022208 then (some (x5 ++ (x0.drop (x6 : Int).toNat))) else (none)) else (none)) else (none))
def spec_l2Patch.f (k : Nat) (l0 : List ByteArray) (l1 : List (S111)) : Option (List ByteArray) := spec_l2Patch.l0 k l0 ([] : List ByteArray) 0 l1 (l1.length : Int) 0
set_option maxHeartbeats 8000000 in
set_option maxRecDepth 100000 in
theorem spec_l2Patch.calls (k : Nat) (A0 : Option Addr) (c0 : Nat) (l0 : List ByteArray) (A1 : Option Addr) (c1 : Nat) (l1 : List (S111)) (r : List ByteArray) (w : World) (hr0 : Kd.C Kd.string w A0 l0.length l0) (hc0 : l0.length ≤ c0) (hr1 : Kd.C k111 w A1 l1.length l1) (hc1 : l1.length ≤ c1) (h : spec_l2Patch.f k l0 l1 = some r) :
  Calls Try.prog 104 #[.slice A0 l0.length c0, .slice A1 l1.length c1] w fun e w' => ∃ v0_ : Value, e = .returned (v0_) ∧ Kd.R Kd.string 9 w' w.heap.size (fun _ => True) v0_ r ∧ Below w.heap.size w w' := by
 have hu111 := Try.underlying111
 have HR0 := Aside0.mk hr0
 have HC0 := Aside0.mk hc0
 clear hr0 hc0
 have HR1 := Aside0.mk hr1
 have HC1 := Aside0.mk hc1
 clear hr1 hc1
 have HB := Aside0.mk (Below.refl w.heap.size w)
 have H : (spec_l2Patch.l0 k l0 ([] : List ByteArray) 0 l1 (l1.length : Int) 0) = some r := h
 clear h
 have H' := Aside0.mk H
 clear H
 go_enter Try.func104, Try.ntmps104
 go_wp2
 go_loopg [5, 6, 11] k (fun kq v5 v6 v11 w' => ∃ (x5_1 : List ByteArray) (x6_1 : Int) (x11_1 : Int), v6 = .int .i64 x6_1 ∧ v11 = .int .i64 x11_1 ∧ Aside0 (spec_l2Patch.l0 kq l0 x5_1 x6_1 l1 (l1.length : Int) x11_1 = some r) ∧ Aside0 (kq ≤ k) ∧ Aside0 (Kd.R Kd.string 9 w' w.heap.size (fun _ => True) v5 x5_1) ∧ Aside0 (Below w.heap.size w w'))
 case atStart => exact ⟨(([] : List ByteArray)), (0), (0), zf, zf, H', ⟨Nat.le_refl _⟩, ⟨by first | exact Kd.R_nil _ _ _ _ _ | exact Kd.Q_nil _ _ _ _ _ | exact Kd.S_nil _ _ _ _ _⟩, ⟨by repeat (first | (with_reducible first | exact HB.out | apply below_alloc | apply pw_below_drewN | apply below_drew1) | exact HB.out)⟩⟩
 case round =>
  clear H'
  try clear c1
  try clear p2
  obtain ⟨x5_1, x6_1, x11_1, rfl, rfl, HA, HK1, HO_5, HB⟩ := hrel
  cases gk with
  | zero => exact absurd HA.out (by simp [spec_l2Patch.l0])
  | succ k1 =>
   have H := HA.out
   clear HA
   simp only [spec_l2Patch.l0] at H
   by_cases c3 : x11_1 < (l1.length : Int)
   ·rw [if_pos c3] at H
    have c3b0 : decide (x11_1 < (l1.length : Int)) = true := decide_eq_true c3
    clear c3
    by_cases c4 : 0 ≤ x11_1
    ·rw [if_pos c4] at H
     have c4b0 : decide (0 ≤ x11_1) = true := decide_eq_true c4
     clear c4
     by_cases c5 : x11_1 < (l1.length : Int)
     ·rw [if_pos c5] at H
      have c5b0 : decide (x11_1 < (l1.length : Int)) = true := decide_eq_true c5
      clear c5
      by_cases c6 : 0 ≤ x6_1
      ·rw [if_pos c6] at H
       have c6b0 := eq_true c6
       have c6b1 : decide (0 ≤ x6_1) = true := decide_eq_true c6
       clear c6
       by_cases c7 : x6_1 ≤ ((rd_T111 l1 x11_1).f0)
       ·rw [if_pos c7] at H
        have c7b0 := eq_true c7
        have c7b1 : decide (x6_1 ≤ ((rd_T111 l1 x11_1).f0)) = true := decide_eq_true c7
        clear c7
        by_cases c8 : ((rd_T111 l1 x11_1).f0) ≤ (l0.length : Int)
        ·rw [if_pos c8] at H
         have c8b0 := eq_true c8
         have c8b1 : decide (((rd_T111 l1 x11_1).f0) ≤ (l0.length : Int)) = true := decide_eq_true c8
         clear c8
         by_cases c9 : x5_1.length + ((l0.take (((rd_T111 l1 x11_1).f0) : Int).toNat).drop (x6_1 : Int).toNat).length < 8796093022208
         ·rw [if_pos c9] at H
          have LMc9 := Aside0.mk c9
          clear c9
          obtain ⟨y352, hy352⟩ : ∃ y_ : List ByteArray, y_ = (x5_1 ++ ((l0.take (((rd_T111 l1 x11_1).f0) : Int).toNat).drop (x6_1 : Int).toNat)) := ⟨_, rfl⟩
          replace H : (if y352.length + ((rd_T111 l1 x11_1).f2).length < 8796093022208 then (spec_l2Patch.l0 k1 l0 (y352 ++ ((rd_T111 l1 x11_1).f2)) (wrap64 (((rd_T111 l1 x11_1).f0) + ((rd_T111 l1 x11_1).f1))) l1 (l1.length : Int) (wrap64 (x11_1 + 1))) else (none)) = some r := by first | (rw [hy352]; with_reducible exact H) | (have H2_ := (Option.bind_some _ _).symm.trans H; rw [hy352]; with_reducible exact H2_) | (have H2_ := (Option.bind_some _ _).symm.trans H; with_reducible exact H2_) | with_reducible exact H | (rw [hy352]; exact H) | exact H
          have Ny352 := Aside0.mk hy352
          clear hy352
          by_cases c10 : y352.length + ((rd_T111 l1 x11_1).f2).length < 8796093022208
          ·rw [if_pos c10] at H
           have LMc10 := Aside0.mk c10
           clear c10
           obtain ⟨y355, hy355⟩ : ∃ y_ : List ByteArray, y_ = (y352 ++ ((rd_T111 l1 x11_1).f2)) := ⟨_, rfl⟩
           replace H : (spec_l2Patch.l0 k1 l0 y355 (wrap64 (((rd_T111 l1 x11_1).f0) + ((rd_T111 l1 x11_1).f1))) l1 (l1.length : Int) (wrap64 (x11_1 + 1))) = some r := by first | (rw [hy355]; with_reducible exact H) | (have H2_ := (Option.bind_some _ _).symm.trans H; rw [hy355]; with_reducible exact H2_) | (have H2_ := (Option.bind_some _ _).symm.trans H; with_reducible exact H2_) | with_reducible exact H | (rw [hy355]; exact H) | exact H
           have Ny355 := Aside0.mk hy355
           clear hy355
           have H' := Aside0.mk H
           clear H
           have p349 : 0 ≤ (x11_1 : Int) := oa
           have q349 : x11_1 < (l1.length : Int) := oa
           obtain ⟨ad349, A349_2, c349_2, e349, hx349_0, hx349_1, hx349_2, hl349_2, hi349_2⟩ := at_T111 HR1.out x11_1 p349 q349
           cases e349
           replace hx349_0 := (HB.out.cell (World.block_lt_of_cell? w _ hx349_0)).trans hx349_0
           replace hx349_1 := (HB.out.cell (World.block_lt_of_cell? w _ hx349_1)).trans hx349_1
           replace hx349_2 := (HB.out.cell (World.block_lt_of_cell? w _ hx349_2)).trans hx349_2
           have HR349_2 := Aside0.mk hi349_2
           have HC349_2 := Aside0.mk hl349_2
           clear hi349_2 hl349_2
           replace p349 := eq_true p349
           replace q349 := eq_true q349
           go_wp2_with (first | ((with_reducible refine gate_dst (N := 8) rfl ?_); refine box_event ?hg (N := 8) ?hd (cs := #[.int .i64 0, .int .i64 0, .slice none 0 0]) (t := 111) ?hr ?_; (case hd => rfl); (case hg => rfl); (case hr => first | (go_simp; done) | (go_simp; rfl)); intro gb350 hg w11 hbox hb; have n0_ := Aside0.mk (Kd.R_below (zr HO_5.out) hb); have n1_ := Aside0.mk (below_step zb hb); have n2_ := Aside0.mk (hbox); have n3_ := Aside0.mk ((by rw [hg]; exact (below_size zb) : w.heap.size ≤ gb350)); have n4_ := Aside0.mk ((by rw [hg]; exact (below_size zb) : w.heap.size ≤ gb350)); clear HO_5; clear HB; have HO_5 := n0_; have HB := n1_; have BK350 := n2_; have GW350 := n3_; have GE350 := n4_; clear n0_ n1_ n2_ n3_ n4_; clear hb hbox hg; have hcz12_0 : w11.cell? ⟨gb350, 0, none⟩ = some (.int .i64 0) := (blk_cell BK350.out 0).trans rfl; have hcz12_1 : w11.cell? ⟨gb350, 1, none⟩ = some (.int .i64 0) := (blk_cell BK350.out 1).trans rfl; have hcz12_2 : w11.cell? ⟨gb350, 2, none⟩ = some (.slice none 0 0) := (blk_cell BK350.out 2).trans rfl; have hfz12_0 := blk_frozen BK350.out 0; have hfz12_1 := blk_frozen BK350.out 1; have hfz12_2 := blk_frozen BK350.out 2; obtain ⟨i013, hi013, _, hsz13, _⟩ := info_parts info9; obtain ⟨A13, hcut13, hA13, hC13⟩ := print_mid_of (P := Try.prog) Value.string (⟨#[]⟩ : ByteArray) 22 9 .i64 .i64 Try.underlying22 hi013 hsz13 A0 c0 l0 x6_1 ((rd_T111 l1 x11_1).f0) oa (by first | omega | exact oa) oa HC0.out; have HR351 := Aside0.mk (Kd.C_of_reads (h1 := fun _ => rfl) (hA13 _ (Kd.reads_of_C HR0.out))); have HC351 := Aside0.mk hC13; clear hA13 hC13 hi013 hsz13) | ((with_reducible refine gateB (b := .append) (xs := #[.tmp 15, .tmp 20]) rfl ?_); at_builtin; refine Kd.R_append_rows Kd.string (w0 := w) w.heap.size rfl (.tmp 15) (.tmp 20) 22 9 (.string ⟨#[]⟩) 16 rfl Try.underlying22 info9 rfl (by decide) (by omega) u5 x5_1 ((l0.take (((rd_T111 l1 x11_1).f0) : Int).toNat).drop (x6_1 : Int).toNat) _ _ _ (fun _ => True) (fun _ => False) rfl rfl ?aO ?aR (fun _ _ h => h) (fun _ h => h.elim) ?aF ?aB ?aS ?aL ?_; (case aR => first | (rw [← show ((l0.take (((rd_T111 l1 x11_1).f0) : Int).toNat).drop (x6_1 : Int).toNat).length = (((rd_T111 l1 x11_1).f0).toNat - x6_1.toNat) from (by rw [List.length_drop, List.length_take]; have h_ : (((rd_T111 l1 x11_1).f0) : Int) ≤ (l0.length : Int) := oa; omega)]; exact Kd.C_below HR351.out (by repeat (first | (with_reducible first | exact HB.out | apply below_alloc | apply pw_below_drewN | apply below_drew1 | refine below_set ?_ GE350.out) | exact HB.out))) | (exact Kd.C_below HR351.out (by repeat (first | (with_reducible first | exact HB.out | apply below_alloc | apply pw_below_drewN | apply below_drew1 | refine below_set ?_ GE350.out) | exact HB.out)))); (case aB => exact (by repeat (first | (with_reducible first | exact HB.out | apply below_alloc | apply pw_below_drewN | apply below_drew1 | refine below_set ?_ GE350.out) | exact HB.out))); (case aF => exact (fun _ _ => trivial)); (case aO => exact (by (with_reducible repeat (first | apply Kd.R_alloc | apply Kd.R_drewN | apply Kd.R_drew)); exact Kd.R_mono (Kd.R_far (p := ⟨gb350, 2, none⟩) (Kd.R_far (p := ⟨gb350, 1, none⟩) (Kd.R_far (p := ⟨gb350, 0, none⟩) (Kd.R_types HO_5.out BK350.out (by decide)) (fun _ hk => hk.2) (.int .i64 ((rd_T111 l1 x11_1).f0))) (fun _ hk => hk.2) (.int .i64 ((rd_T111 l1 x11_1).f1))) (fun _ hk => hk.2) (.slice A349_2 ((rd_T111 l1 x11_1).f2).length c349_2)) (fun _ hk => trivial))); (case aS => exact (below_size (by repeat (first | (with_reducible first | exact HB.out | apply below_alloc | apply pw_below_drewN | apply below_drew1 | refine below_set ?_ GE350.out) | exact HB.out)))); (case aL => have := LMc9.out; have hlx_ := (show ((l0.take (((rd_T111 l1 x11_1).f0) : Int).toNat).drop (x6_1 : Int).toNat).length = (((rd_T111 l1 x11_1).f0).toNat - x6_1.toNat) from (by rw [List.length_drop, List.length_take]; have h_ : (((rd_T111 l1 x11_1).f0) : Int) ≤ (l0.length : Int) := oa; omega)); omega); intro v353 w14 ho hb hg hat; rw [← Ny352.out] at ho; have n0_ := Aside0.mk (blk_grown (g := gb350) (o := .cells #[.int .i64 ((rd_T111 l1 x11_1).f0), .int .i64 ((rd_T111 l1 x11_1).f1), .slice A349_2 ((rd_T111 l1 x11_1).f2).length c349_2] 111 (0, 0)) (by (with_reducible repeat (first | refine blk_drewN ?_ _ | refine blk_drew ?_ | refine blk_alloc ?_ _)); refine blk_put (cs := #[.int .i64 ((rd_T111 l1 x11_1).f0), .int .i64 ((rd_T111 l1 x11_1).f1), .slice none 0 0]) ?_ 2 _ rfl; (with_reducible repeat (first | refine blk_drewN ?_ _ | refine blk_drew ?_ | refine blk_alloc ?_ _)); refine blk_put (cs := #[.int .i64 ((rd_T111 l1 x11_1).f0), .int .i64 0, .slice none 0 0]) ?_ 1 _ rfl; (with_reducible repeat (first | refine blk_drewN ?_ _ | refine blk_drew ?_ | refine blk_alloc ?_ _)); refine blk_put (cs := #[.int .i64 0, .int .i64 0, .slice none 0 0]) ?_ 0 _ rfl; (with_reducible repeat (first | refine blk_drewN ?_ _ | refine blk_drew ?_ | refine blk_alloc ?_ _)); exact BK350.out) hg (Kd.R_ne HO_5.out BK350.out (by decide))); have n1_ := Aside0.mk (hb); have n2_ := Aside0.mk (ho); clear BK350; clear HB; clear HO_5; have BK350 := n0_; have HB := n1_; have HO354 := n2_; clear n0_ n1_ n2_; clear ho hb hg hat; have hcz15_0 : w14.cell? ⟨gb350, 0, none⟩ = some (.int .i64 ((rd_T111 l1 x11_1).f0)) := (blk_cell BK350.out 0).trans rfl; have hcz15_1 : w14.cell? ⟨gb350, 1, none⟩ = some (.int .i64 ((rd_T111 l1 x11_1).f1)) := (blk_cell BK350.out 1).trans rfl; have hcz15_2 : w14.cell? ⟨gb350, 2, none⟩ = some (.slice A349_2 ((rd_T111 l1 x11_1).f2).length c349_2) := (blk_cell BK350.out 2).trans rfl; have hfz15_0 := blk_frozen BK350.out 0; have hfz15_1 := blk_frozen BK350.out 1; have hfz15_2 := blk_frozen BK350.out 2) | ((with_reducible refine gateB (b := .append) (xs := #[.tmp 22, .tmp 24]) rfl ?_); at_builtin; refine Kd.R_append_rows Kd.string (w0 := w) w.heap.size rfl (.tmp 22) (.tmp 24) 22 9 (.string ⟨#[]⟩) 16 rfl Try.underlying22 info9 rfl (by decide) (by omega) v353 y352 ((rd_T111 l1 x11_1).f2) _ _ _ (fun _ => True) (fun _ => False) rfl rfl ?aO ?aR (fun _ _ h => h) (fun _ h => h.elim) ?aF ?aB ?aS ?aL ?_; (case aR => exact zq (Kd.C_below HR349_2.out HB.out)); (case aB => exact (by repeat (first | (with_reducible first | exact HB.out | apply below_alloc | apply pw_below_drewN | apply below_drew1 | refine below_set ?_ GE350.out) | exact HB.out))); (case aF => exact (fun _ _ => trivial)); (case aO => exact (zr HO354.out)); (case aS => exact (below_size (by repeat (first | (with_reducible first | exact HB.out | apply below_alloc | apply pw_below_drewN | apply below_drew1 | refine below_set ?_ GE350.out) | exact HB.out)))); (case aL => have := LMc10.out; omega); intro v356 w16 ho hb hg hat; rw [← Ny355.out] at ho; have n0_ := Aside0.mk (blk_grown (g := gb350) (o := .cells #[.int .i64 ((rd_T111 l1 x11_1).f0), .int .i64 ((rd_T111 l1 x11_1).f1), .slice A349_2 ((rd_T111 l1 x11_1).f2).length c349_2] 111 (0, 0)) (zk BK350.out) hg (Kd.R_ne HO354.out BK350.out (by decide))); have n1_ := Aside0.mk (hb); have n2_ := Aside0.mk (ho); clear BK350; clear HB; clear HO354; have BK350 := n0_; have HB := n1_; have HO357 := n2_; clear n0_ n1_ n2_; clear ho hb hg hat; have hcz17_0 : w16.cell? ⟨gb350, 0, none⟩ = some (.int .i64 ((rd_T111 l1 x11_1).f0)) := (blk_cell BK350.out 0).trans rfl; have hcz17_1 : w16.cell? ⟨gb350, 1, none⟩ = some (.int .i64 ((rd_T111 l1 x11_1).f1)) := (blk_cell BK350.out 1).trans rfl; have hcz17_2 : w16.cell? ⟨gb350, 2, none⟩ = some (.slice A349_2 ((rd_T111 l1 x11_1).f2).length c349_2) := (blk_cell BK350.out 2).trans rfl; have hfz17_0 := blk_frozen BK350.out 0; have hfz17_1 := blk_frozen BK350.out 1; have hfz17_2 := blk_frozen BK350.out 2))
           go_roundg k1
           case measure => have := HK1.out; omega
           case rel => exact ⟨(y355), (wrap64 (((rd_T111 l1 x11_1).f0) + ((rd_T111 l1 x11_1).f1))), (wrap64 (x11_1 + 1)), zf, zf, H', ⟨by have := HK1.out; omega⟩, ⟨by (with_reducible repeat (first | apply Kd.R_alloc | apply Kd.R_drewN | apply Kd.R_drew)); exact HO357.out⟩, ⟨by repeat (first | (with_reducible first | exact HB.out | apply below_alloc | apply pw_below_drewN | apply below_drew1 | refine below_set ?_ GE350.out) | exact HB.out)⟩⟩
          ·rw [if_neg c10] at H
           exact absurd H (by simp)
         ·rw [if_neg c9] at H
          exact absurd H (by simp)
        ·rw [if_neg c8] at H
         exact absurd H (by simp)
       ·rw [if_neg c7] at H
        exact absurd H (by simp)
      ·rw [if_neg c6] at H
       exact absurd H (by simp)
     ·rw [if_neg c5] at H
      exact absurd H (by simp)
    ·rw [if_neg c4] at H
     exact absurd H (by simp)
   ·rw [if_neg c3] at H
    have c3b0 : decide (x11_1 < (l1.length : Int)) = false := decide_eq_false c3
    clear c3
    by_cases c18 : 0 ≤ x6_1
    ·rw [if_pos c18] at H
     have c18b0 := eq_true c18
     have c18b1 : decide (0 ≤ x6_1) = true := decide_eq_true c18
     clear c18
     by_cases c19 : x6_1 ≤ (l0.length : Int)
     ·rw [if_pos c19] at H
      have c19b0 := eq_true c19
      have c19b1 : decide (x6_1 ≤ (l0.length : Int)) = true := decide_eq_true c19
      clear c19
      by_cases c20 : x5_1.length + (l0.drop (x6_1 : Int).toNat).length < 8796093022208
      ·rw [if_pos c20] at H
       have LMc20 := Aside0.mk c20
       clear c20
       obtain ⟨y359, hy359⟩ : ∃ y_ : List ByteArray, y_ = (x5_1 ++ (l0.drop (x6_1 : Int).toNat)) := ⟨_, rfl⟩
       replace H : (some y359) = some r := by first | (rw [hy359]; with_reducible exact H) | (have H2_ := (Option.bind_some _ _).symm.trans H; rw [hy359]; with_reducible exact H2_) | (have H2_ := (Option.bind_some _ _).symm.trans H; with_reducible exact H2_) | with_reducible exact H | (rw [hy359]; exact H) | exact H
       have Ny359 := Aside0.mk hy359
       clear hy359
       obtain rfl := Option.some.inj H
       obtain ⟨i021, hi021, _, hsz21, _⟩ := info_parts info9
       obtain ⟨A21, hcut21, hA21, hC21⟩ := print_drop_of (P := Try.prog) Value.string (⟨#[]⟩ : ByteArray) 22 9 .i64 Try.underlying22 hi021 hsz21 A0 c0 l0 x6_1 oa oa HC0.out
       have HR358 := Aside0.mk (Kd.C_of_reads (h1 := fun _ => rfl) (hA21 _ (Kd.reads_of_C HR0.out)))
       have HC358 := Aside0.mk hC21
       clear hA21 hC21 hi021 hsz21
       go_wp2_with (first | ((with_reducible refine gateB (b := .append) (xs := #[.tmp 32, .tmp 35]) rfl ?_); at_builtin; refine Kd.R_append_rows Kd.string (w0 := w) w.heap.size rfl (.tmp 32) (.tmp 35) 22 9 (.string ⟨#[]⟩) 16 rfl Try.underlying22 info9 rfl (by decide) (by omega) u5 x5_1 (l0.drop (x6_1 : Int).toNat) _ _ _ (fun _ => True) (fun _ => False) rfl rfl ?aO ?aR (fun _ _ h => h) (fun _ h => h.elim) ?aF ?aB ?aS ?aL ?_; (case aR => first | (rw [← show (l0.drop (x6_1 : Int).toNat).length = (l0.length - x6_1.toNat) from List.length_drop]; exact zq (Kd.C_below HR358.out HB.out)) | (exact zq (Kd.C_below HR358.out HB.out))); (case aB => exact zb); (case aF => exact (fun _ _ => trivial)); (case aO => exact (zr HO_5.out)); (case aS => exact (below_size zb)); (case aL => have := LMc20.out; have hlx_ := (show (l0.drop (x6_1 : Int).toNat).length = (l0.length - x6_1.toNat) from List.length_drop); omega); intro v360 w22 ho hb hg hat; rw [← Ny359.out] at ho; have n0_ := Aside0.mk (hb); have n1_ := Aside0.mk (ho); clear HB; clear HO_5; have HB := n0_; have HO361 := n1_; clear n0_ n1_; clear ho hb hg hat))
       go_ret
       exact ⟨_, by first | rfl | (simp [errW_none, errW_some] <;> rfl) | (simp [*, errW_none, errW_some] <;> rfl), by (with_reducible repeat (first | apply Kd.R_alloc | apply Kd.R_drewN | apply Kd.R_drew)); exact HO361.out, by repeat (first | (with_reducible first | exact HB.out | apply below_alloc | apply pw_below_drewN | apply below_drew1) | exact HB.out)⟩
      ·rw [if_neg c20] at H
       exact absurd H (by simp)
     ·rw [if_neg c19] at H
      exact absurd H (by simp)
    ·rw [if_neg c18] at H
     exact absurd H (by simp)

end Go.Proofs.Ytcefenlblnediaa.My

/- Written by this session's program (wip/gen): a plain function with the same answers as the Go function, and the proof that the Go code comes to them. Asked: that the plain function has an answer. -/
namespace Go.Proofs.Ytcefenlblnediaa.My
open Go.RowKit Go.Proofs.YtcefenlblnediaaW.PrintWords Go.Proofs.YtcefenlblnediaaW.PrintLast Go.Proofs.YtcefenlblnediaaW.PrintMore
attribute [local go_sem] max2_int min2_int max_two min_two max_three min_three max_four min_four
set_option linter.unusedVariables false
set_option linter.unusedSimpArgs false

/-! ### spec_Patch: function 39 -/
def spec_Patch.f (k : Nat) (l0 : List ByteArray) (l1 : List (S111)) : Option (List ByteArray × Bool) := (spec_l2Asked.f k l0 l1).bind fun t362 => (if t362 = true then ((spec_l2Patch.f k l0 l1).bind fun t363 => ((spec_l1Good.f k t363).bind fun t366 => (if t366 = true then (some (t363, true)) else (some (([] : List ByteArray), false))))) else (some (([] : List ByteArray), false)))
set_option maxHeartbeats 8000000 in
set_option maxRecDepth 100000 in
theorem spec_Patch.calls (k : Nat) (A0 : Option Addr) (c0 : Nat) (l0 : List ByteArray) (A1 : Option Addr) (c1 : Nat) (l1 : List (S111)) (r1 : List ByteArray) (r2 : Bool) (w : World) (hr0 : Kd.C Kd.string w A0 l0.length l0) (hc0 : l0.length ≤ c0) (hr1 : Kd.C k111 w A1 l1.length l1) (hc1 : l1.length ≤ c1) (h : spec_Patch.f k l0 l1 = some (r1, r2)) :
  Calls Try.prog 39 #[.slice A0 l0.length c0, .slice A1 l1.length c1] w fun e w' => ∃ v0_ : Value, e = .returned (.tuple #[v0_, .bool r2]) ∧ Kd.R Kd.string 9 w' w.heap.size (fun _ => True) v0_ r1 ∧ Below w.heap.size w w' := by
 have HR0 := Aside0.mk hr0
 have HC0 := Aside0.mk hc0
 clear hr0 hc0
 have HR1 := Aside0.mk hr1
 have HC1 := Aside0.mk hc1
 clear hr1 hc1
 have HB := Aside0.mk (Below.refl w.heap.size w)
 have H : ((spec_l2Asked.f k l0 l1).bind fun t362 => (if t362 = true then ((spec_l2Patch.f k l0 l1).bind fun t363 => ((spec_l1Good.f k t363).bind fun t366 => (if t366 = true then (some (t363, true)) else (some (([] : List ByteArray), false))))) else (some (([] : List ByteArray), false)))) = some (r1, r2) := h
 clear h
 replace H := Option.bind_eq_some_iff.mp H
 obtain ⟨t362, A30, H⟩ := H
 replace H : (if t362 = true then ((spec_l2Patch.f k l0 l1).bind fun t363 => ((spec_l1Good.f k t363).bind fun t366 => (if t366 = true then (some (t363, true)) else (some (([] : List ByteArray), false))))) else (some (([] : List ByteArray), false))) = some (r1, r2) := H
 have A3 := Aside0.mk A30
 clear A30
 by_cases c4 : t362 = true
 ·subst c4
  have H1 : ((spec_l2Patch.f k l0 l1).bind fun t363 => ((spec_l1Good.f k t363).bind fun t366 => (if t366 = true then (some (t363, true)) else (some (([] : List ByteArray), false))))) = some (r1, r2) := by rw [if_pos rfl] at H; exact H
  clear H
  have H := H1
  clear H1
  replace H := Option.bind_eq_some_iff.mp H
  obtain ⟨t363, A50, H⟩ := H
  replace H : ((spec_l1Good.f k t363).bind fun t366 => (if t366 = true then (some (t363, true)) else (some (([] : List ByteArray), false)))) = some (r1, r2) := H
  have A5 := Aside0.mk A50
  clear A50
  replace H := Option.bind_eq_some_iff.mp H
  obtain ⟨t366, A60, H⟩ := H
  replace H : (if t366 = true then (some (t363, true)) else (some (([] : List ByteArray), false))) = some (r1, r2) := H
  have A6 := Aside0.mk A60
  clear A60
  by_cases c7 : t366 = true
  ·subst c7
   have H1 : (some (t363, true)) = some (r1, r2) := by rw [if_pos rfl] at H; exact H
   clear H
   have H := H1
   clear H1
   simp only [Option.some.injEq, Prod.mk.injEq] at H
   obtain ⟨rfl, rfl⟩ := H
   go_enter Try.func39, Try.ntmps39
   go_wp2_with (first | ((with_reducible refine gateC (f := 103) rfl ?_); refine goesL_ (some 9) rfl rfl Try.func103 (by kernel_rfl) rfl #[.slice A0 l0.length c0, .slice A1 l1.length c1] rfl zm ?_; (with_reducible refine (spec_l2Asked.calls k _ _ l0 _ _ l1 true _ ?side1 ?side2 ?side3 ?side4 A3.out).mono ?_); (case side1 => exact zq HR0.out); (case side2 => exact HC0.out); (case side3 => exact zq HR1.out); (case side4 => exact HC1.out); rintro e w8 ⟨rfl, hb⟩; refine ⟨_, rfl, ?_⟩; have n0_ := Aside0.mk (below_step zb hb); clear HB; have HB := n0_; clear n0_; (try clear hb); (try clear hb2); (try clear hk); (try clear hi)) | ((with_reducible refine gateC (f := 104) rfl ?_); refine goesL_ (some 13) rfl rfl Try.func104 (by kernel_rfl) rfl #[.slice A0 l0.length c0, .slice A1 l1.length c1] rfl zm ?_; (with_reducible refine (spec_l2Patch.calls k _ _ l0 _ _ l1 t363 _ ?side1 ?side2 ?side3 ?side4 A5.out).mono ?_); (case side1 => exact zq (Kd.C_below HR0.out HB.out)); (case side2 => exact HC0.out); (case side3 => exact zq (Kd.C_below HR1.out HB.out)); (case side4 => exact HC1.out); rintro e w9 ⟨v364, rfl, ho0, hb⟩; refine ⟨_, rfl, ?_⟩; have n0_ := Aside0.mk (Kd.R_lower ho0 (below_size zb)); have n1_ := Aside0.mk (below_step zb hb); clear HB; have HO365 := n0_; have HB := n1_; clear n0_ n1_; (try clear hb); (try clear hb2); (try clear hk); (try clear hi); (try clear ho0); obtain ⟨Ao10, co10, eo10⟩ := Kd.R_slice HO365.out; subst eo10) | ((with_reducible refine gateC (f := 78) rfl ?_); refine goesL_ (some 15) rfl rfl Try.func78 (by kernel_rfl) rfl #[.slice Ao10 t363.length co10] rfl zm ?_; (with_reducible refine (spec_l1Good.calls k _ _ t363 true _ ?side1 ?side2 A6.out).mono ?_); (case side1 => repeat (first | exact (Kd.R_reads' HO365.out).2.2 | (with_reducible refine Kd.C_alloc ?_ _) | (with_reducible refine Kd.C_drewN ?_ _) | (with_reducible refine Kd.C_drew ?_))); (case side2 => exact (Kd.R_reads' HO365.out).2.1); rintro e w' ⟨rfl, ⟨nd, rfl⟩⟩; refine ⟨_, rfl, ?_⟩))
   go_ret2
   exact ⟨_, by first | rfl | (simp [errW_none, errW_some] <;> rfl) | (simp [*, errW_none, errW_some] <;> rfl), by (with_reducible repeat (first | apply Kd.R_alloc | apply Kd.R_drewN | apply Kd.R_drew)); exact HO365.out, by repeat (first | (with_reducible first | exact HB.out | apply below_alloc | apply pw_below_drewN | apply below_drew1) | exact HB.out)⟩
  ·replace c7 := Bool.eq_false_iff.mpr c7
   subst c7
   have H1 : (some (([] : List ByteArray), false)) = some (r1, r2) := by rw [if_neg (show ¬ (false = true) by decide)] at H; exact H
   clear H
   have H := H1
   clear H1
   simp only [Option.some.injEq, Prod.mk.injEq] at H
   obtain ⟨rfl, rfl⟩ := H
   go_enter Try.func39, Try.ntmps39
   go_wp2_with (first | ((with_reducible refine gateC (f := 103) rfl ?_); refine goesL_ (some 9) rfl rfl Try.func103 (by kernel_rfl) rfl #[.slice A0 l0.length c0, .slice A1 l1.length c1] rfl zm ?_; (with_reducible refine (spec_l2Asked.calls k _ _ l0 _ _ l1 true _ ?side1 ?side2 ?side3 ?side4 A3.out).mono ?_); (case side1 => exact zq HR0.out); (case side2 => exact HC0.out); (case side3 => exact zq HR1.out); (case side4 => exact HC1.out); rintro e w11 ⟨rfl, hb⟩; refine ⟨_, rfl, ?_⟩; have n0_ := Aside0.mk (below_step zb hb); clear HB; have HB := n0_; clear n0_; (try clear hb); (try clear hb2); (try clear hk); (try clear hi)) | ((with_reducible refine gateC (f := 104) rfl ?_); refine goesL_ (some 13) rfl rfl Try.func104 (by kernel_rfl) rfl #[.slice A0 l0.length c0, .slice A1 l1.length c1] rfl zm ?_; (with_reducible refine (spec_l2Patch.calls k _ _ l0 _ _ l1 t363 _ ?side1 ?side2 ?side3 ?side4 A5.out).mono ?_); (case side1 => exact zq (Kd.C_below HR0.out HB.out)); (case side2 => exact HC0.out); (case side3 => exact zq (Kd.C_below HR1.out HB.out)); (case side4 => exact HC1.out); rintro e w12 ⟨v364, rfl, ho0, hb⟩; refine ⟨_, rfl, ?_⟩; have n0_ := Aside0.mk (Kd.R_lower ho0 (below_size zb)); have n1_ := Aside0.mk (below_step zb hb); clear HB; have HO365 := n0_; have HB := n1_; clear n0_ n1_; (try clear hb); (try clear hb2); (try clear hk); (try clear hi); (try clear ho0); obtain ⟨Ao13, co13, eo13⟩ := Kd.R_slice HO365.out; subst eo13) | ((with_reducible refine gateC (f := 78) rfl ?_); refine goesL_ (some 15) rfl rfl Try.func78 (by kernel_rfl) rfl #[.slice Ao13 t363.length co13] rfl zm ?_; (with_reducible refine (spec_l1Good.calls k _ _ t363 false _ ?side1 ?side2 A6.out).mono ?_); (case side1 => repeat (first | exact (Kd.R_reads' HO365.out).2.2 | (with_reducible refine Kd.C_alloc ?_ _) | (with_reducible refine Kd.C_drewN ?_ _) | (with_reducible refine Kd.C_drew ?_))); (case side2 => exact (Kd.R_reads' HO365.out).2.1); rintro e w' ⟨rfl, ⟨nd, rfl⟩⟩; refine ⟨_, rfl, ?_⟩))
   go_ret2
   exact ⟨_, by first | rfl | (simp [errW_none, errW_some] <;> rfl) | (simp [*, errW_none, errW_some] <;> rfl), by first | exact Kd.R_nil _ _ _ _ _ | exact Kd.Q_nil _ _ _ _ _ | exact Kd.S_nil _ _ _ _ _, by repeat (first | (with_reducible first | exact HB.out | apply below_alloc | apply pw_below_drewN | apply below_drew1) | exact HB.out)⟩
 ·replace c4 := Bool.eq_false_iff.mpr c4
  subst c4
  have H1 : (some (([] : List ByteArray), false)) = some (r1, r2) := by rw [if_neg (show ¬ (false = true) by decide)] at H; exact H
  clear H
  have H := H1
  clear H1
  simp only [Option.some.injEq, Prod.mk.injEq] at H
  obtain ⟨rfl, rfl⟩ := H
  go_enter Try.func39, Try.ntmps39
  go_wp2_with (first | ((with_reducible refine gateC (f := 103) rfl ?_); refine goesL_ (some 9) rfl rfl Try.func103 (by kernel_rfl) rfl #[.slice A0 l0.length c0, .slice A1 l1.length c1] rfl zm ?_; (with_reducible refine (spec_l2Asked.calls k _ _ l0 _ _ l1 false _ ?side1 ?side2 ?side3 ?side4 A3.out).mono ?_); (case side1 => exact zq HR0.out); (case side2 => exact HC0.out); (case side3 => exact zq HR1.out); (case side4 => exact HC1.out); rintro e w14 ⟨rfl, hb⟩; refine ⟨_, rfl, ?_⟩; have n0_ := Aside0.mk (below_step zb hb); clear HB; have HB := n0_; clear n0_; (try clear hb); (try clear hb2); (try clear hk); (try clear hi)))
  go_ret2
  exact ⟨_, by first | rfl | (simp [errW_none, errW_some] <;> rfl) | (simp [*, errW_none, errW_some] <;> rfl), by first | exact Kd.R_nil _ _ _ _ _ | exact Kd.Q_nil _ _ _ _ _ | exact Kd.S_nil _ _ _ _ _, by repeat (first | (with_reducible first | exact HB.out | apply below_alloc | apply pw_below_drewN | apply below_drew1) | exact HB.out)⟩

end Go.Proofs.Ytcefenlblnediaa.My

/- Written by this session's program (wip/gen): a plain function with the same answers as the Go function, and the proof that the Go code comes to them. Asked: that the plain function has an answer. -/
namespace Go.Proofs.Ytcefenlblnediaa.My
open Go.RowKit Go.Proofs.YtcefenlblnediaaW.PrintWords Go.Proofs.YtcefenlblnediaaW.PrintLast Go.Proofs.YtcefenlblnediaaW.PrintMore
attribute [local go_sem] max2_int min2_int max_two min_two max_three min_three max_four min_four
set_option linter.unusedVariables false
set_option linter.unusedSimpArgs false

/-- A state of type 122 at block g of W; what its slices lead to came in by w0. -/
def IsS122 (w0 W : World) (g : Nat) (f0 : List Int) (f1 : Int) (f2 : Int) : Prop := ∃ A0 c0, W.heap[g]? = some (.cells #[.slice A0 f0.length c0, .int .i64 f1, .int .u64 f2] 122 (0, 0)) ∧ w0.heap.size ≤ g ∧ Kd.C (Kd.int .u8) w0 A0 f0.length f0
theorem IsS122.grown {w0 W : World} {g : Nat} {f0 : List Int} {f1 : Int} {f2 : Int} {W1 : World} {row : Option Nat} (h : IsS122 w0 W g f0 f1 f2) (hw : W.grownBy W1 row) (hne : some g ≠ row) : IsS122 w0 W1 g f0 f1 f2 := by
 obtain ⟨A0, c0, hb, hg, hr0⟩ := h
 exact ⟨A0, c0, blk_grown hb hw hne, hg, hr0⟩
theorem IsS122.own_neN {w0 W : World} {g : Nat} {f0 : List Int} {f1 : Int} {f2 : Int} {α : Type} {d : Kd α} {e : Nat} {base : Nat} {ok : Nat → Prop} {v : Value} {xs : List α} (h : IsS122 w0 W g f0 f1 f2) (ho : Kd.N d e W base ok v xs) (ht : e ≠ 122) : some g ≠ v.ownBlock := by
 obtain ⟨A0, c0, hb, hg, hr0⟩ := h
 exact Kd.N_ne ho hb ht
theorem IsS122.fresh {w0 W : World} {g : Nat} {f0 : List Int} {f1 : Int} {f2 : Int} (h : IsS122 w0 W g f0 f1 f2) : ∀ k, W.heap.size ≤ k → k ≠ g := by
 obtain ⟨A0, c0, hb, hg, hr0⟩ := h
 exact Kd.freshB hb
theorem IsS122.kept {w0 W : World} {g : Nat} {f0 : List Int} {f1 : Int} {f2 : Int} {W1 : World} {S : Nat → Prop} (h : IsS122 w0 W g f0 f1 f2) (hk : Kept W W1 S) (hne : ¬ S g) : IsS122 w0 W1 g f0 f1 f2 := by
 obtain ⟨A0, c0, hb, hg, hr0⟩ := h
 exact ⟨A0, c0, blk_kept hb hk hne, hg, hr0⟩
theorem IsS122.below {w0 W : World} {g : Nat} {f0 : List Int} {f1 : Int} {f2 : Int} {W1 : World} (h : IsS122 w0 W g f0 f1 f2) (hw : Below W.heap.size W W1) : IsS122 w0 W1 g f0 f1 f2 := h.grown (grown_of_below hw none) (by simp)
theorem IsS122.alloc {w0 W : World} {g : Nat} {f0 : List Int} {f1 : Int} {f2 : Int} (h : IsS122 w0 W g f0 f1 f2) (o : Obj) : IsS122 w0 (W.alloc o) g f0 f1 f2 := h.below (below_alloc (Below.refl _ _) o)
theorem IsS122.drewN {w0 W : World} {g : Nat} {f0 : List Int} {f1 : Int} {f2 : Int} (h : IsS122 w0 W g f0 f1 f2) (m : Nat) : IsS122 w0 (W.drewN m) g f0 f1 f2 := h
theorem IsS122.drew {w0 W : World} {g : Nat} {f0 : List Int} {f1 : Int} {f2 : Int} (h : IsS122 w0 W g f0 f1 f2) : IsS122 w0 W.drew g f0 f1 f2 := h
theorem IsS122.at_ {w0 W : World} {g : Nat} {f0 : List Int} {f1 : Int} {f2 : Int} {w' : World} {m : Nat} (hq : W.drewN m = w') (h : IsS122 w0 W g f0 f1 f2) : IsS122 w0 w' g f0 f1 f2 := by subst hq; exact IsS122.drewN h m
theorem IsS122.apart {w0 W : World} {g : Nat} {f0 : List Int} {f1 : Int} {f2 : Int} {α : Type} {d : Kd α} {e : Nat} {base : Nat} {ok : Nat → Prop} {v : Value} {xs : List α} (h : IsS122 w0 W g f0 f1 f2) (ho : d.R e W base ok v xs) (ht : ∀ q, q ∈ e :: d.E → q ≠ 122) : d.R e W base (fun k => ok k ∧ k ≠ g) v xs := by
 obtain ⟨A0, c0, hb, hg, hr0⟩ := h
 exact Kd.R_types ho hb ht
theorem IsS122.own_ne {w0 W : World} {g : Nat} {f0 : List Int} {f1 : Int} {f2 : Int} {α : Type} {d : Kd α} {e : Nat} {base : Nat} {ok : Nat → Prop} {v : Value} {xs : List α} (h : IsS122 w0 W g f0 f1 f2) (ho : d.R e W base ok v xs) (ht : e ≠ 122) : some g ≠ v.ownBlock := by
 obtain ⟨A0, c0, hb, hg, hr0⟩ := h
 exact Kd.R_ne ho hb ht
theorem IsS122.apartQ {w0 W : World} {g : Nat} {f0 : List Int} {f1 : Int} {f2 : Int} {α : Type} {d : Kd α} {e : Nat} {base : Nat} {ok : Nat → Prop} {v : Value} {xs : List α} (h : IsS122 w0 W g f0 f1 f2) (ho : d.Q e W base ok v xs) (ht : ∀ q, q ∈ e :: d.E → q ≠ 122) : d.Q e W base (fun k => ok k ∧ k ≠ g) v xs := by
 obtain ⟨A0, c0, hb, hg, hr0⟩ := h
 exact Kd.Q_types ho hb ht
theorem IsS122.own_neQ {w0 W : World} {g : Nat} {f0 : List Int} {f1 : Int} {f2 : Int} {α : Type} {d : Kd α} {e : Nat} {base : Nat} {ok : Nat → Prop} {v : Value} {xs : List α} (h : IsS122 w0 W g f0 f1 f2) (ho : d.Q e W base ok v xs) (ht : e ≠ 122) : some g ≠ v.ownBlock := by
 obtain ⟨A0, c0, hb, hg, hr0⟩ := h
 exact Kd.Q_ne ho hb ht
theorem IsS122.apartS {w0 W : World} {g : Nat} {f0 : List Int} {f1 : Int} {f2 : Int} {α : Type} {d : Kd α} {e : Nat} {base : Nat} {ok : Nat → Prop} {v : Value} {xs : List α} (h : IsS122 w0 W g f0 f1 f2) (ho : d.S e W base ok v xs) (ht : ∀ q, q ∈ e :: d.E → q ≠ 122) : d.S e W base (fun k => ok k ∧ k ≠ g) v xs := by
 obtain ⟨A0, c0, hb, hg, hr0⟩ := h
 exact Kd.S_types ho hb ht
theorem IsS122.own_neS {w0 W : World} {g : Nat} {f0 : List Int} {f1 : Int} {f2 : Int} {α : Type} {d : Kd α} {e : Nat} {base : Nat} {ok : Nat → Prop} {v : Value} {xs : List α} (h : IsS122 w0 W g f0 f1 f2) (ho : d.S e W base ok v xs) (ht : e ≠ 122) : some g ≠ v.ownBlock := by
 obtain ⟨A0, c0, hb, hg, hr0⟩ := h
 exact Kd.S_ne ho hb ht
theorem IsS122.lt {w0 W : World} {g : Nat} {f0 : List Int} {f1 : Int} {f2 : Int} (h : IsS122 w0 W g f0 f1 f2) : g < W.heap.size := by
 obtain ⟨A0, c0, hb, hg, hr0⟩ := h
 exact blk_lt hb
theorem IsS122.ge {w0 W : World} {g : Nat} {f0 : List Int} {f1 : Int} {f2 : Int} (h : IsS122 w0 W g f0 f1 f2) : w0.heap.size ≤ g := by
 obtain ⟨A0, c0, hb, hg, hr0⟩ := h
 exact hg
theorem IsS122.ne_blk {w0 W : World} {g : Nat} {f0 : List Int} {f1 : Int} {f2 : Int} {a : Nat} {cs : Array Value} {t : TypeId} {fr : Nat × Nat} (h : IsS122 w0 W g f0 f1 f2) (hb2 : W.heap[a]? = some (.cells cs t fr)) (ht : t ≠ 122) : g ≠ a := by
 obtain ⟨A0, c0, hb, hg, hr0⟩ := h
 rintro rfl
 rw [hb] at hb2
 injection hb2 with hb2
 injection hb2 with _ ht2
 exact ht ht2.symm
theorem IsS122.far {w0 W : World} {g : Nat} {f0 : List Int} {f1 : Int} {f2 : Int} {p : Addr} (h : IsS122 w0 W g f0 f1 f2) (hne : g ≠ p.block) (u : Value) : IsS122 w0 (W.setCell p u) g f0 f1 f2 := by
 obtain ⟨A0, c0, hb, hg, hr0⟩ := h
 exact ⟨A0, c0, blk_far hb hne u, hg, hr0⟩
theorem cellS122_0 {W : World} {g : Nat} {A0 : Option Addr} {c0 : Nat} {f0 : List Int} {f1 : Int} {f2 : Int} (h : W.heap[g]? = some (.cells #[.slice A0 f0.length c0, .int .i64 f1, .int .u64 f2] 122 (0, 0))) : W.cell? ⟨g, 0, none⟩ = some (.slice A0 f0.length c0) := (blk_cell h 0).trans rfl
theorem cellS122_1 {W : World} {g : Nat} {A0 : Option Addr} {c0 : Nat} {f0 : List Int} {f1 : Int} {f2 : Int} (h : W.heap[g]? = some (.cells #[.slice A0 f0.length c0, .int .i64 f1, .int .u64 f2] 122 (0, 0))) : W.cell? ⟨g, 1, none⟩ = some (.int .i64 f1) := (blk_cell h 1).trans rfl
theorem IsS122.set_1 {w0 W : World} {g : Nat} {f0 : List Int} {f1 : Int} {f2 : Int} (h : IsS122 w0 W g f0 f1 f2) (x : Int) : IsS122 w0 (W.setCell ⟨g, 1, none⟩ (.int .i64 x)) g f0 x f2 := by
 obtain ⟨A0, c0, hb, hg, hr0⟩ := h
 exact ⟨A0, c0, by simpa using blk_set hb 1 (.int .i64 x), hg, hr0⟩
theorem cellS122_2 {W : World} {g : Nat} {A0 : Option Addr} {c0 : Nat} {f0 : List Int} {f1 : Int} {f2 : Int} (h : W.heap[g]? = some (.cells #[.slice A0 f0.length c0, .int .i64 f1, .int .u64 f2] 122 (0, 0))) : W.cell? ⟨g, 2, none⟩ = some (.int .u64 f2) := (blk_cell h 2).trans rfl
theorem IsS122.set_2 {w0 W : World} {g : Nat} {f0 : List Int} {f1 : Int} {f2 : Int} (h : IsS122 w0 W g f0 f1 f2) (x : Int) : IsS122 w0 (W.setCell ⟨g, 2, none⟩ (.int .u64 x)) g f0 f1 x := by
 obtain ⟨A0, c0, hb, hg, hr0⟩ := h
 exact ⟨A0, c0, by simpa using blk_set hb 2 (.int .u64 x), hg, hr0⟩
theorem IsS122.new (w0 W : World) (A0 : Option Addr) (c0 : Nat) (f0 : List Int) (f1 : Int) (f2 : Int) (hB : Below w0.heap.size w0 W) (hr0 : Kd.C (Kd.int .u8) w0 A0 f0.length f0) : IsS122 w0 (W.alloc (.cells #[.slice A0 f0.length c0, .int .i64 f1, .int .u64 f2] 122)) W.heap.size f0 f1 f2 := ⟨A0, c0, by simpa using heap_alloc_new W _, hB.size, hr0⟩

/-! ### spec_l1Cur_next: function 164 -/
def spec_l1Cur_next.f (s0_0 : List Int) (s0_1 : Int) (s0_2 : Int) : Option (Int × Int × Int) := if s0_1 < (s0_0.length : Int) then (if 0 ≤ s0_1 then (if (wrap64 (s0_1 + 1)) ≤ (s0_0.length : Int) then (some (wrap64 (rd s0_0 s0_1), wrap64 (s0_1 + 1), IntKind.u64.wrap ((IntKind.u64.wrap ((IntKind.u64.wrap (s0_2 * 6364136223846793005)) + (IntKind.u64.wrap (wrap64 (rd s0_0 s0_1))))) + 1442695040888963407))) else (some (wrap64 (Go.bits .and .u64 ((IntKind.u64.wrap ((IntKind.u64.wrap ((IntKind.u64.wrap (s0_2 * 6364136223846793005)) + (IntKind.u64.wrap (wrap64 (rd s0_0 s0_1))))) + 1442695040888963407)) / 1099511627776) 255), wrap64 (s0_1 + 1), IntKind.u64.wrap ((IntKind.u64.wrap ((IntKind.u64.wrap (s0_2 * 6364136223846793005)) + (IntKind.u64.wrap (wrap64 (rd s0_0 s0_1))))) + 1442695040888963407)))) else (none)) else (if (wrap64 (s0_1 + 1)) ≤ (s0_0.length : Int) then (some (0, wrap64 (s0_1 + 1), IntKind.u64.wrap ((IntKind.u64.wrap ((IntKind.u64.wrap (s0_2 * 6364136223846793005)) + 0)) + 1442695040888963407))) else (some (wrap64 (Go.bits .and .u64 ((IntKind.u64.wrap ((IntKind.u64.wrap ((IntKind.u64.wrap (s0_2 * 6364136223846793005)) + 0)) + 1442695040888963407)) / 1099511627776) 255), wrap64 (s0_1 + 1), IntKind.u64.wrap ((IntKind.u64.wrap ((IntKind.u64.wrap (s0_2 * 6364136223846793005)) + 0)) + 1442695040888963407))))
set_option maxHeartbeats 8000000 in
set_option maxRecDepth 100000 in
theorem spec_l1Cur_next.calls (g : Nat) (s0_0 : List Int) (s0_1 : Int) (s0_2 : Int) (r1 : Int) (r2 : Int) (r3 : Int) (w0 w : World) (hI : IsS122 w0 w g s0_0 s0_1 s0_2) (hB : Below w0.heap.size w0 w) (h : spec_l1Cur_next.f s0_0 s0_1 s0_2 = some (r1, r2, r3)) :
  Calls Try.prog 164 #[.pointer (some ⟨g, 0, none⟩)] w fun e w' => e = .returned (.int .i64 r1) ∧ IsS122 w0 w' g s0_0 r2 r3 ∧ Below w0.heap.size w0 w' ∧ KeepBut w w' g none := by
 have HI0 := Aside0.mk hI
 have HK := Aside0.mk (KeepBut.refl w g none)
 have HL := Aside0.mk hB.size
 clear hI
 have HW0 := Aside0.mk hB.size
 have HB := Aside0.mk hB
 clear hB
 have H : (if s0_1 < (s0_0.length : Int) then (if 0 ≤ s0_1 then (if (wrap64 (s0_1 + 1)) ≤ (s0_0.length : Int) then (some (wrap64 (rd s0_0 s0_1), wrap64 (s0_1 + 1), IntKind.u64.wrap ((IntKind.u64.wrap ((IntKind.u64.wrap (s0_2 * 6364136223846793005)) + (IntKind.u64.wrap (wrap64 (rd s0_0 s0_1))))) + 1442695040888963407))) else (some (wrap64 (Go.bits .and .u64 ((IntKind.u64.wrap ((IntKind.u64.wrap ((IntKind.u64.wrap (s0_2 * 6364136223846793005)) + (IntKind.u64.wrap (wrap64 (rd s0_0 s0_1))))) + 1442695040888963407)) / 1099511627776) 255), wrap64 (s0_1 + 1), IntKind.u64.wrap ((IntKind.u64.wrap ((IntKind.u64.wrap (s0_2 * 6364136223846793005)) + (IntKind.u64.wrap (wrap64 (rd s0_0 s0_1))))) + 1442695040888963407)))) else (none)) else (if (wrap64 (s0_1 + 1)) ≤ (s0_0.length : Int) then (some (0, wrap64 (s0_1 + 1), IntKind.u64.wrap ((IntKind.u64.wrap ((IntKind.u64.wrap (s0_2 * 6364136223846793005)) + 0)) + 1442695040888963407))) else (some (wrap64 (Go.bits .and .u64 ((IntKind.u64.wrap ((IntKind.u64.wrap ((IntKind.u64.wrap (s0_2 * 6364136223846793005)) + 0)) + 1442695040888963407)) / 1099511627776) 255), wrap64 (s0_1 + 1), IntKind.u64.wrap ((IntKind.u64.wrap ((IntKind.u64.wrap (s0_2 * 6364136223846793005)) + 0)) + 1442695040888963407))))) = some (r1, r2, r3) := h
 clear h
 by_cases c2 : s0_1 < (s0_0.length : Int)
 ·rw [if_pos c2] at H
  have c2b0 : decide (s0_1 < (s0_0.length : Int)) = true := decide_eq_true c2
  clear c2
  by_cases c3 : 0 ≤ s0_1
  ·rw [if_pos c3] at H
   have c3b0 : decide (0 ≤ s0_1) = true := decide_eq_true c3
   clear c3
   by_cases c4 : (wrap64 (s0_1 + 1)) ≤ (s0_0.length : Int)
   ·rw [if_pos c4] at H
    have c4b0 : decide ((wrap64 (s0_1 + 1)) ≤ (s0_0.length : Int)) = true := decide_eq_true c4
    clear c4
    simp only [Option.some.injEq, Prod.mk.injEq] at H
    obtain ⟨rfl, rfl, rfl⟩ := H
    obtain ⟨ASz5_0, cSz5_0, HGz5, hgz5, HSz5_0⟩ := HI0.out
    have hcz5_0 := cellS122_0 HGz5
    have hcz5_1 := cellS122_1 HGz5
    have hcz5_2 := cellS122_2 HGz5
    have hfz5_1 := blk_frozen HGz5 1
    have hfz5_2 := blk_frozen HGz5 2
    clear HGz5 hgz5
    have p624 : 0 ≤ (s0_1 : Int) := oa
    have q624 : s0_1 < (s0_0.length : Int) := oa
    obtain ⟨ad624, e624, hx624_0⟩ := Kd.at_int HSz5_0 s0_1 p624 q624
    cases e624
    replace hx624_0 := pw_cell_below HB.out hx624_0
    replace p624 := eq_true p624
    replace q624 := eq_true q624
    go_enter Try.func164, Try.ntmps164
    go_wp2
    repeat (go_quiet (fail); try go_wp2)
    go_ret
    (try simp only [Int.add_zero])
    exact ⟨by first | rfl | (simp [errW_none, errW_some] <;> rfl) | (simp [*, errW_none, errW_some] <;> rfl), zi, zj, zh⟩
   ·rw [if_neg c4] at H
    have c4b0 : decide ((wrap64 (s0_1 + 1)) ≤ (s0_0.length : Int)) = false := decide_eq_false c4
    clear c4
    simp only [Option.some.injEq, Prod.mk.injEq] at H
    obtain ⟨rfl, rfl, rfl⟩ := H
    obtain ⟨ASz6_0, cSz6_0, HGz6, hgz6, HSz6_0⟩ := HI0.out
    have hcz6_0 := cellS122_0 HGz6
    have hcz6_1 := cellS122_1 HGz6
    have hcz6_2 := cellS122_2 HGz6
    have hfz6_1 := blk_frozen HGz6 1
    have hfz6_2 := blk_frozen HGz6 2
    clear HGz6 hgz6
    have p624 : 0 ≤ (s0_1 : Int) := oa
    have q624 : s0_1 < (s0_0.length : Int) := oa
    obtain ⟨ad624, e624, hx624_0⟩ := Kd.at_int HSz6_0 s0_1 p624 q624
    cases e624
    replace hx624_0 := pw_cell_below HB.out hx624_0
    replace p624 := eq_true p624
    replace q624 := eq_true q624
    go_enter Try.func164, Try.ntmps164
    go_wp2
    repeat (go_quiet (fail); try go_wp2)
    go_ret
    (try simp only [Int.add_zero])
    exact ⟨by first | rfl | (simp [errW_none, errW_some] <;> rfl) | (simp [*, errW_none, errW_some] <;> rfl), zi, zj, zh⟩
  ·rw [if_neg c3] at H
   exact absurd H (by simp)
 ·rw [if_neg c2] at H
  have c2b0 : decide (s0_1 < (s0_0.length : Int)) = false := decide_eq_false c2
  clear c2
  by_cases c7 : (wrap64 (s0_1 + 1)) ≤ (s0_0.length : Int)
  ·rw [if_pos c7] at H
   have c7b0 : decide ((wrap64 (s0_1 + 1)) ≤ (s0_0.length : Int)) = true := decide_eq_true c7
   clear c7
   simp only [Option.some.injEq, Prod.mk.injEq] at H
   obtain ⟨rfl, rfl, rfl⟩ := H
   obtain ⟨ASz8_0, cSz8_0, HGz8, hgz8, HSz8_0⟩ := HI0.out
   have hcz8_0 := cellS122_0 HGz8
   have hcz8_1 := cellS122_1 HGz8
   have hcz8_2 := cellS122_2 HGz8
   have hfz8_1 := blk_frozen HGz8 1
   have hfz8_2 := blk_frozen HGz8 2
   clear HGz8 hgz8
   go_enter Try.func164, Try.ntmps164
   go_wp2
   repeat (go_quiet (fail); try go_wp2)
   go_ret
   (try simp only [Int.add_zero])
   exact ⟨by first | rfl | (simp [errW_none, errW_some] <;> rfl) | (simp [*, errW_none, errW_some] <;> rfl), zi, zj, zh⟩
  ·rw [if_neg c7] at H
   have c7b0 : decide ((wrap64 (s0_1 + 1)) ≤ (s0_0.length : Int)) = false := decide_eq_false c7
   clear c7
   simp only [Option.some.injEq, Prod.mk.injEq] at H
   obtain ⟨rfl, rfl, rfl⟩ := H
   obtain ⟨ASz9_0, cSz9_0, HGz9, hgz9, HSz9_0⟩ := HI0.out
   have hcz9_0 := cellS122_0 HGz9
   have hcz9_1 := cellS122_1 HGz9
   have hcz9_2 := cellS122_2 HGz9
   have hfz9_1 := blk_frozen HGz9 1
   have hfz9_2 := blk_frozen HGz9 2
   clear HGz9 hgz9
   go_enter Try.func164, Try.ntmps164
   go_wp2
   repeat (go_quiet (fail); try go_wp2)
   go_ret
   (try simp only [Int.add_zero])
   exact ⟨by first | rfl | (simp [errW_none, errW_some] <;> rfl) | (simp [*, errW_none, errW_some] <;> rfl), zi, zj, zh⟩

end Go.Proofs.Ytcefenlblnediaa.My

/- Written by this session's program (wip/gen): a plain function with the same answers as the Go function, and the proof that the Go code comes to them. Asked: that the plain function has an answer. -/
namespace Go.Proofs.Ytcefenlblnediaa.My
open Go.RowKit Go.Proofs.YtcefenlblnediaaW.PrintWords Go.Proofs.YtcefenlblnediaaW.PrintLast Go.Proofs.YtcefenlblnediaaW.PrintMore
attribute [local go_sem] max2_int min2_int max_two min_two max_three min_three max_four min_four
set_option linter.unusedVariables false
set_option linter.unusedSimpArgs false

/-! ### spec_l1Cur_pick: function 113 -/
def spec_l1Cur_pick.f (s0_0 : List Int) (s0_1 : Int) (s0_2 : Int) (a1 : Int) : Option (Int × Int × Int) := if a1 ≤ 1 then (some (0, s0_1, s0_2)) else ((spec_l1Cur_next.f s0_0 s0_1 s0_2).bind fun bt625 => (if a1 > 200 then ((spec_l1Cur_next.f s0_0 bt625.2.1 bt625.2.2).bind fun bt628 => (if a1 = 0 then (none) else (some (Int.tmod (wrap64 ((wrap64 (bt625.1 * 256)) + bt628.1)) a1, bt628.2.1, bt628.2.2)))) else (if a1 = 0 then (none) else (some (Int.tmod bt625.1 a1, bt625.2.1, bt625.2.2)))))
set_option maxHeartbeats 8000000 in
set_option maxRecDepth 100000 in
theorem spec_l1Cur_pick.calls (g : Nat) (s0_0 : List Int) (s0_1 : Int) (s0_2 : Int) (a1 : Int) (r1 : Int) (r2 : Int) (r3 : Int) (w0 w : World) (hI : IsS122 w0 w g s0_0 s0_1 s0_2) (hB : Below w0.heap.size w0 w) (h : spec_l1Cur_pick.f s0_0 s0_1 s0_2 a1 = some (r1, r2, r3)) :
  Calls Try.prog 113 #[.pointer (some ⟨g, 0, none⟩), .int .i64 a1] w fun e w' => e = .returned (.int .i64 r1) ∧ IsS122 w0 w' g s0_0 r2 r3 ∧ Below w0.heap.size w0 w' ∧ KeepBut w w' g none := by
 have HI0 := Aside0.mk hI
 have HK := Aside0.mk (KeepBut.refl w g none)
 have HL := Aside0.mk hB.size
 clear hI
 have HW0 := Aside0.mk hB.size
 have HB := Aside0.mk hB
 clear hB
 have H : (if a1 ≤ 1 then (some (0, s0_1, s0_2)) else ((spec_l1Cur_next.f s0_0 s0_1 s0_2).bind fun bt625 => (if a1 > 200 then ((spec_l1Cur_next.f s0_0 bt625.2.1 bt625.2.2).bind fun bt628 => (if a1 = 0 then (none) else (some (Int.tmod (wrap64 ((wrap64 (bt625.1 * 256)) + bt628.1)) a1, bt628.2.1, bt628.2.2)))) else (if a1 = 0 then (none) else (some (Int.tmod bt625.1 a1, bt625.2.1, bt625.2.2)))))) = some (r1, r2, r3) := h
 clear h
 by_cases c3 : a1 ≤ 1
 ·rw [if_pos c3] at H
  have c3b0 : decide (a1 ≤ 1) = true := decide_eq_true c3
  clear c3
  simp only [Option.some.injEq, Prod.mk.injEq] at H
  obtain ⟨rfl, rfl, rfl⟩ := H
  go_enter Try.func113, Try.ntmps113
  go_wp2
  go_ret
  exact ⟨by first | rfl | (simp [errW_none, errW_some] <;> rfl) | (simp [*, errW_none, errW_some] <;> rfl), zi, zj, zh⟩
 ·rw [if_neg c3] at H
  have c3b0 : decide (a1 ≤ 1) = false := decide_eq_false c3
  clear c3
  replace H := Option.bind_eq_some_iff.mp H
  obtain ⟨⟨t625, t626, t627⟩, A40, H⟩ := H
  replace H : (if a1 > 200 then ((spec_l1Cur_next.f s0_0 t626 t627).bind fun bt628 => (if a1 = 0 then (none) else (some (Int.tmod (wrap64 ((wrap64 (t625 * 256)) + bt628.1)) a1, bt628.2.1, bt628.2.2)))) else (if a1 = 0 then (none) else (some (Int.tmod t625 a1, t626, t627)))) = some (r1, r2, r3) := H
  have A4 := Aside0.mk A40
  clear A40
  by_cases c5 : a1 > 200
  ·rw [if_pos c5] at H
   have c5b0 : decide (200 < a1) = true := decide_eq_true c5
   clear c5
   replace H := Option.bind_eq_some_iff.mp H
   obtain ⟨⟨t628, t629, t630⟩, A60, H⟩ := H
   replace H : (if a1 = 0 then (none) else (some (Int.tmod (wrap64 ((wrap64 (t625 * 256)) + t628)) a1, t629, t630))) = some (r1, r2, r3) := H
   have A6 := Aside0.mk A60
   clear A60
   by_cases c7 : a1 = 0
   ·rw [if_pos c7] at H
    exact absurd H (by simp)
   ·rw [if_neg c7] at H
    have c7b0 : (a1 == 0) = false := beq_eq_false_iff_ne.mpr c7
    have c7b1 : (a1 != 0) = true := bne_iff_ne.mpr c7
    simp only [Option.some.injEq, Prod.mk.injEq] at H
    obtain ⟨rfl, rfl, rfl⟩ := H
    go_enter Try.func113, Try.ntmps113
    go_wp2_with (first | ((with_reducible refine gateC (f := 164) rfl ?_); refine goesL_ (some 9) rfl rfl Try.func164 (by kernel_rfl) rfl #[.pointer (some ⟨g, 0, none⟩)] rfl zm ?_; (with_reducible refine (spec_l1Cur_next.calls g s0_0 s0_1 s0_2 t625 t626 t627 w0 _ ?side1 ?side2 A4.out).mono ?_); (case side1 => exact zi); (case side2 => exact zj); rintro e w8 ⟨rfl, hi, hb, hk⟩; refine ⟨_, rfl, ?_⟩; have n0_ := Aside0.mk (KeepBut.trans zh hk (.inl rfl)); have n1_ := Aside0.mk (hb); have n2_ := Aside0.mk (hi); clear HK; clear HB; clear HI0; have HK := n0_; have HB := n1_; have HI0 := n2_; clear n0_ n1_ n2_; (try clear hb); (try clear hb2); (try clear hk); (try clear hi)) | ((with_reducible refine gateC (f := 164) rfl ?_); refine goesL_ (some 15) rfl rfl Try.func164 (by kernel_rfl) rfl #[.pointer (some ⟨g, 0, none⟩)] rfl zm ?_; (with_reducible refine (spec_l1Cur_next.calls g s0_0 t626 t627 t628 t629 t630 w0 _ ?side1 ?side2 A6.out).mono ?_); (case side1 => exact zi); (case side2 => exact zj); rintro e w9 ⟨rfl, hi, hb, hk⟩; refine ⟨_, rfl, ?_⟩; have n0_ := Aside0.mk (KeepBut.trans zh hk (.inl rfl)); have n1_ := Aside0.mk (hb); have n2_ := Aside0.mk (hi); clear HK; clear HB; clear HI0; have HK := n0_; have HB := n1_; have HI0 := n2_; clear n0_ n1_ n2_; (try clear hb); (try clear hb2); (try clear hk); (try clear hi)))
    go_ret
    exact ⟨by first | rfl | (simp [errW_none, errW_some] <;> rfl) | (simp [*, errW_none, errW_some] <;> rfl), zi, zj, zh⟩
  ·rw [if_neg c5] at H
   have c5b0 : decide (200 < a1) = false := decide_eq_false c5
   clear c5
   by_cases c10 : a1 = 0
   ·rw [if_pos c10] at H
    exact absurd H (by simp)
   ·rw [if_neg c10] at H
    have c10b0 : (a1 == 0) = false := beq_eq_false_iff_ne.mpr c10
    have c10b1 : (a1 != 0) = true := bne_iff_ne.mpr c10
    simp only [Option.some.injEq, Prod.mk.injEq] at H
    obtain ⟨rfl, rfl, rfl⟩ := H
    go_enter Try.func113, Try.ntmps113
    go_wp2_with (first | ((with_reducible refine gateC (f := 164) rfl ?_); refine goesL_ (some 9) rfl rfl Try.func164 (by kernel_rfl) rfl #[.pointer (some ⟨g, 0, none⟩)] rfl zm ?_; (with_reducible refine (spec_l1Cur_next.calls g s0_0 s0_1 s0_2 t625 t626 t627 w0 _ ?side1 ?side2 A4.out).mono ?_); (case side1 => exact zi); (case side2 => exact zj); rintro e w11 ⟨rfl, hi, hb, hk⟩; refine ⟨_, rfl, ?_⟩; have n0_ := Aside0.mk (KeepBut.trans zh hk (.inl rfl)); have n1_ := Aside0.mk (hb); have n2_ := Aside0.mk (hi); clear HK; clear HB; clear HI0; have HK := n0_; have HB := n1_; have HI0 := n2_; clear n0_ n1_ n2_; (try clear hb); (try clear hb2); (try clear hk); (try clear hi)))
    go_ret
    exact ⟨by first | rfl | (simp [errW_none, errW_some] <;> rfl) | (simp [*, errW_none, errW_some] <;> rfl), zi, zj, zh⟩

end Go.Proofs.Ytcefenlblnediaa.My

/- Written by this session's program (wip/gen): a plain function with the same answers as the Go function, and the proof that the Go code comes to them. Asked: that the plain function has an answer. -/
namespace Go.Proofs.Ytcefenlblnediaa.My
open Go.RowKit Go.Proofs.YtcefenlblnediaaW.PrintWords Go.Proofs.YtcefenlblnediaaW.PrintLast Go.Proofs.YtcefenlblnediaaW.PrintMore
attribute [local go_sem] max2_int min2_int max_two min_two max_three min_three max_four min_four
set_option linter.unusedVariables false
set_option linter.unusedSimpArgs false

/-! ### spec_l1Cur_among: function 160 -/
def spec_l1Cur_among.f (s0_0 : List Int) (s0_1 : Int) (s0_2 : Int) (l1 : List Int) : Option (Int × Int × Int) := (spec_l1Cur_pick.f s0_0 s0_1 s0_2 (l1.length : Int)).bind fun bt685 => (if 0 ≤ bt685.1 then (if bt685.1 < (l1.length : Int) then (some (rd l1 bt685.1, bt685.2.1, bt685.2.2)) else (none)) else (none))
set_option maxHeartbeats 8000000 in
set_option maxRecDepth 100000 in
theorem spec_l1Cur_among.calls (g : Nat) (s0_0 : List Int) (s0_1 : Int) (s0_2 : Int) (A1 : Option Addr) (c1 : Nat) (l1 : List Int) (r1 : Int) (r2 : Int) (r3 : Int) (w0 w : World) (hI : IsS122 w0 w g s0_0 s0_1 s0_2) (hB : Below w0.heap.size w0 w) (hr1 : Kd.C (Kd.int .i64) w A1 l1.length l1) (hc1 : l1.length ≤ c1) (hf1 : ∀ ad, A1 = some ad → 0 < l1.length → ad.block ≠ g) (h : spec_l1Cur_among.f s0_0 s0_1 s0_2 l1 = some (r1, r2, r3)) :
  Calls Try.prog 160 #[.pointer (some ⟨g, 0, none⟩), .slice A1 l1.length c1] w fun e w' => e = .returned (.int .i64 r1) ∧ IsS122 w0 w' g s0_0 r2 r3 ∧ Below w0.heap.size w0 w' ∧ KeepBut w w' g none := by
 have HR1 := Aside0.mk hr1
 have HC1 := Aside0.mk hc1
 clear hr1 hc1
 have HI0 := Aside0.mk hI
 have HK := Aside0.mk (KeepBut.refl w g none)
 have HL := Aside0.mk hB.size
 clear hI
 have HW0 := Aside0.mk hB.size
 have HB := Aside0.mk hB
 clear hB
 have H : ((spec_l1Cur_pick.f s0_0 s0_1 s0_2 (l1.length : Int)).bind fun bt685 => (if 0 ≤ bt685.1 then (if bt685.1 < (l1.length : Int) then (some (rd l1 bt685.1, bt685.2.1, bt685.2.2)) else (none)) else (none))) = some (r1, r2, r3) := h
 clear h
 replace H := Option.bind_eq_some_iff.mp H
 obtain ⟨⟨t685, t686, t687⟩, A30, H⟩ := H
 replace H : (if 0 ≤ t685 then (if t685 < (l1.length : Int) then (some (rd l1 t685, t686, t687)) else (none)) else (none)) = some (r1, r2, r3) := H
 have A3 := Aside0.mk A30
 clear A30
 by_cases c4 : 0 ≤ t685
 ·rw [if_pos c4] at H
  have c4b0 : decide (0 ≤ t685) = true := decide_eq_true c4
  clear c4
  by_cases c5 : t685 < (l1.length : Int)
  ·rw [if_pos c5] at H
   have c5b0 : decide (t685 < (l1.length : Int)) = true := decide_eq_true c5
   clear c5
   simp only [Option.some.injEq, Prod.mk.injEq] at H
   obtain ⟨rfl, rfl, rfl⟩ := H
   go_enter Try.func160, Try.ntmps160
   go_wp2_with (first | ((with_reducible refine gateC (f := 113) rfl ?_); refine goesL_ (some 9) rfl rfl Try.func113 (by kernel_rfl) rfl #[.pointer (some ⟨g, 0, none⟩), .int .i64 (l1.length : Int)] rfl zm ?_; (with_reducible refine (spec_l1Cur_pick.calls g s0_0 s0_1 s0_2 (l1.length : Int) t685 t686 t687 w0 _ ?side1 ?side2 A3.out).mono ?_); (case side1 => exact zi); (case side2 => exact zj); rintro e w6 ⟨rfl, hi, hb, hk⟩; refine ⟨_, rfl, ?_⟩; have n0_ := Aside0.mk (KeepBut.trans zh hk (.inl rfl)); have n1_ := Aside0.mk (hb); have n2_ := Aside0.mk (hi); clear HK; clear HB; clear HI0; have HK := n0_; have HB := n1_; have HI0 := n2_; clear n0_ n1_ n2_; (try clear hb); (try clear hb2); (try clear hk); (try clear hi); have p688 : 0 ≤ (t685 : Int) := oa; have q688 : t685 < (l1.length : Int) := oa; obtain ⟨ad688, e688, hx688_0⟩ := Kd.at_int HR1.out t685 p688 q688; cases e688; replace hx688_0 := keep_cell HK.out hx688_0 (by first | (rw [add_block]; exact hf1 _ rfl (by omega)) | exact hf1 _ rfl (by omega) | exact hf1 ad688 rfl (by omega)); replace p688 := eq_true p688; replace q688 := eq_true q688))
   go_ret
   exact ⟨by first | rfl | (simp [errW_none, errW_some] <;> rfl) | (simp [*, errW_none, errW_some] <;> rfl), zi, zj, zh⟩
  ·rw [if_neg c5] at H
   exact absurd H (by simp)
 ·rw [if_neg c4] at H
  exact absurd H (by simp)

end Go.Proofs.Ytcefenlblnediaa.My

/- Written by this session's program (wip/gen): a plain function with the same answers as the Go function, and the proof that the Go code comes to them. Asked: that the plain function has an answer. -/
namespace Go.Proofs.Ytcefenlblnediaa.My
open Go.RowKit Go.Proofs.YtcefenlblnediaaW.PrintWords Go.Proofs.YtcefenlblnediaaW.PrintLast Go.Proofs.YtcefenlblnediaaW.PrintMore
attribute [local go_sem] max2_int min2_int max_two min_two max_three min_three max_four min_four
set_option linter.unusedVariables false
set_option linter.unusedSimpArgs false

/-! ### spec_l1Cur_of: function 199 -/
def spec_l1Cur_of.f (s0_0 : List Int) (s0_1 : Int) (s0_2 : Int) (l1 : List ByteArray) : Option (ByteArray × Int × Int) := (spec_l1Cur_pick.f s0_0 s0_1 s0_2 (l1.length : Int)).bind fun bt631 => (if 0 ≤ bt631.1 then (if bt631.1 < (l1.length : Int) then (some (rdOf ByteArray.empty l1 bt631.1, bt631.2.1, bt631.2.2)) else (none)) else (none))
set_option maxHeartbeats 8000000 in
set_option maxRecDepth 100000 in
theorem spec_l1Cur_of.calls (g : Nat) (s0_0 : List Int) (s0_1 : Int) (s0_2 : Int) (A1 : Option Addr) (c1 : Nat) (l1 : List ByteArray) (r1 : ByteArray) (r2 : Int) (r3 : Int) (w0 w : World) (hI : IsS122 w0 w g s0_0 s0_1 s0_2) (hB : Below w0.heap.size w0 w) (hr1 : Kd.C Kd.string w A1 l1.length l1) (hc1 : l1.length ≤ c1) (hf1 : ∀ ad, A1 = some ad → 0 < l1.length → ad.block ≠ g) (h : spec_l1Cur_of.f s0_0 s0_1 s0_2 l1 = some (r1, r2, r3)) :
  Calls Try.prog 199 #[.pointer (some ⟨g, 0, none⟩), .slice A1 l1.length c1] w fun e w' => e = .returned (.string r1) ∧ IsS122 w0 w' g s0_0 r2 r3 ∧ Below w0.heap.size w0 w' ∧ KeepBut w w' g none := by
 have HR1 := Aside0.mk hr1
 have HC1 := Aside0.mk hc1
 clear hr1 hc1
 have HI0 := Aside0.mk hI
 have HK := Aside0.mk (KeepBut.refl w g none)
 have HL := Aside0.mk hB.size
 clear hI
 have HW0 := Aside0.mk hB.size
 have HB := Aside0.mk hB
 clear hB
 have H : ((spec_l1Cur_pick.f s0_0 s0_1 s0_2 (l1.length : Int)).bind fun bt631 => (if 0 ≤ bt631.1 then (if bt631.1 < (l1.length : Int) then (some (rdOf ByteArray.empty l1 bt631.1, bt631.2.1, bt631.2.2)) else (none)) else (none))) = some (r1, r2, r3) := h
 clear h
 replace H := Option.bind_eq_some_iff.mp H
 obtain ⟨⟨t631, t632, t633⟩, A30, H⟩ := H
 replace H : (if 0 ≤ t631 then (if t631 < (l1.length : Int) then (some (rdOf ByteArray.empty l1 t631, t632, t633)) else (none)) else (none)) = some (r1, r2, r3) := H
 have A3 := Aside0.mk A30
 clear A30
 by_cases c4 : 0 ≤ t631
 ·rw [if_pos c4] at H
  have c4b0 : decide (0 ≤ t631) = true := decide_eq_true c4
  clear c4
  by_cases c5 : t631 < (l1.length : Int)
  ·rw [if_pos c5] at H
   have c5b0 : decide (t631 < (l1.length : Int)) = true := decide_eq_true c5
   clear c5
   simp only [Option.some.injEq, Prod.mk.injEq] at H
   obtain ⟨rfl, rfl, rfl⟩ := H
   go_enter Try.func199, Try.ntmps199
   go_wp2_with (first | ((with_reducible refine gateC (f := 113) rfl ?_); refine goesL_ (some 9) rfl rfl Try.func113 (by kernel_rfl) rfl #[.pointer (some ⟨g, 0, none⟩), .int .i64 (l1.length : Int)] rfl zm ?_; (with_reducible refine (spec_l1Cur_pick.calls g s0_0 s0_1 s0_2 (l1.length : Int) t631 t632 t633 w0 _ ?side1 ?side2 A3.out).mono ?_); (case side1 => exact zi); (case side2 => exact zj); rintro e w6 ⟨rfl, hi, hb, hk⟩; refine ⟨_, rfl, ?_⟩; have n0_ := Aside0.mk (KeepBut.trans zh hk (.inl rfl)); have n1_ := Aside0.mk (hb); have n2_ := Aside0.mk (hi); clear HK; clear HB; clear HI0; have HK := n0_; have HB := n1_; have HI0 := n2_; clear n0_ n1_ n2_; (try clear hb); (try clear hb2); (try clear hk); (try clear hi); have p634 : 0 ≤ (t631 : Int) := oa; have q634 : t631 < (l1.length : Int) := oa; obtain ⟨ad634, e634, hx634_0⟩ := Kd.at_string HR1.out t631 p634 q634; cases e634; replace hx634_0 := keep_cell HK.out hx634_0 (by first | (rw [add_block]; exact hf1 _ rfl (by omega)) | exact hf1 _ rfl (by omega) | exact hf1 ad634 rfl (by omega)); replace p634 := eq_true p634; replace q634 := eq_true q634))
   go_ret
   exact ⟨by first | rfl | (simp [errW_none, errW_some] <;> rfl) | (simp [*, errW_none, errW_some] <;> rfl), zi, zj, zh⟩
  ·rw [if_neg c5] at H
   exact absurd H (by simp)
 ·rw [if_neg c4] at H
  exact absurd H (by simp)

end Go.Proofs.Ytcefenlblnediaa.My

/- Written by this session's program (wip/gen): a plain function with the same answers as the Go function, and the proof that the Go code comes to them. Asked: that the plain function has an answer. -/
namespace Go.Proofs.Ytcefenlblnediaa.My
open Go.RowKit Go.Proofs.YtcefenlblnediaaW.PrintWords Go.Proofs.YtcefenlblnediaaW.PrintLast Go.Proofs.YtcefenlblnediaaW.PrintMore
attribute [local go_sem] max2_int min2_int max_two min_two max_three min_three max_four min_four
set_option linter.unusedVariables false
set_option linter.unusedSimpArgs false

/-! ### spec_l1Cur_line: function 190 -/
def spec_l1Cur_line.f (s0_0 : List Int) (s0_1 : Int) (s0_2 : Int) : Option (ByteArray × Int × Int) := (spec_l1Cur_of.f s0_0 s0_1 s0_2 (([(⟨#[97]⟩ : ByteArray), (⟨#[98]⟩ : ByteArray), (⟨#[99]⟩ : ByteArray), (⟨#[100]⟩ : ByteArray), (⟨#[]⟩ : ByteArray), (⟨#[46]⟩ : ByteArray), (⟨#[46, 46]⟩ : ByteArray), (⟨#[111, 110, 101, 32, 116, 119, 111]⟩ : ByteArray), (⟨#[43, 120]⟩ : ByteArray), (⟨#[45, 121]⟩ : ByteArray), (⟨#[92, 32, 122]⟩ : ByteArray), (⟨#[64, 64]⟩ : ByteArray)] : List ByteArray))).bind fun bt638 => (some (bt638.1, bt638.2.1, bt638.2.2))
set_option maxHeartbeats 8000000 in
set_option maxRecDepth 100000 in
theorem spec_l1Cur_line.calls (g : Nat) (s0_0 : List Int) (s0_1 : Int) (s0_2 : Int) (r1 : ByteArray) (r2 : Int) (r3 : Int) (w0 w : World) (hI : IsS122 w0 w g s0_0 s0_1 s0_2) (hB : Below w0.heap.size w0 w) (h : spec_l1Cur_line.f s0_0 s0_1 s0_2 = some (r1, r2, r3)) :
  Calls Try.prog 190 #[.pointer (some ⟨g, 0, none⟩)] w fun e w' => e = .returned (.string r1) ∧ IsS122 w0 w' g s0_0 r2 r3 ∧ Below w0.heap.size w0 w' ∧ KeepBut w w' g none := by
 have HI0 := Aside0.mk hI
 have HK := Aside0.mk (KeepBut.refl w g none)
 have HL := Aside0.mk hB.size
 clear hI
 have HW0 := Aside0.mk hB.size
 have HB := Aside0.mk hB
 clear hB
 have H : ((spec_l1Cur_of.f s0_0 s0_1 s0_2 (([(⟨#[97]⟩ : ByteArray), (⟨#[98]⟩ : ByteArray), (⟨#[99]⟩ : ByteArray), (⟨#[100]⟩ : ByteArray), (⟨#[]⟩ : ByteArray), (⟨#[46]⟩ : ByteArray), (⟨#[46, 46]⟩ : ByteArray), (⟨#[111, 110, 101, 32, 116, 119, 111]⟩ : ByteArray), (⟨#[43, 120]⟩ : ByteArray), (⟨#[45, 121]⟩ : ByteArray), (⟨#[92, 32, 122]⟩ : ByteArray), (⟨#[64, 64]⟩ : ByteArray)] : List ByteArray))).bind fun bt638 => (some (bt638.1, bt638.2.1, bt638.2.2))) = some (r1, r2, r3) := h
 clear h
 obtain ⟨y635, hy635⟩ : ∃ y_ : List ByteArray, y_ = (([(⟨#[97]⟩ : ByteArray), (⟨#[98]⟩ : ByteArray), (⟨#[99]⟩ : ByteArray), (⟨#[100]⟩ : ByteArray), (⟨#[]⟩ : ByteArray), (⟨#[46]⟩ : ByteArray), (⟨#[46, 46]⟩ : ByteArray), (⟨#[111, 110, 101, 32, 116, 119, 111]⟩ : ByteArray), (⟨#[43, 120]⟩ : ByteArray), (⟨#[45, 121]⟩ : ByteArray), (⟨#[92, 32, 122]⟩ : ByteArray), (⟨#[64, 64]⟩ : ByteArray)] : List ByteArray)) := ⟨_, rfl⟩
 replace H : ((spec_l1Cur_of.f s0_0 s0_1 s0_2 y635).bind fun bt638 => (some (bt638.1, bt638.2.1, bt638.2.2))) = some (r1, r2, r3) := by first | (rw [hy635]; with_reducible exact H) | (have H2_ := (Option.bind_some _ _).symm.trans H; rw [hy635]; with_reducible exact H2_) | (have H2_ := (Option.bind_some _ _).symm.trans H; with_reducible exact H2_) | with_reducible exact H | (rw [hy635]; exact H) | exact H
 have Ny635 := Aside0.mk hy635
 clear hy635
 replace H := Option.bind_eq_some_iff.mp H
 obtain ⟨⟨t638, t639, t640⟩, A20, H⟩ := H
 replace H : (some (t638, t639, t640)) = some (r1, r2, r3) := H
 have A2 := Aside0.mk A20
 clear A20
 simp only [Option.some.injEq, Prod.mk.injEq] at H
 obtain ⟨rfl, rfl, rfl⟩ := H
 go_enter Try.func190, Try.ntmps190
 go_wp2_with (first | ((with_reducible refine gate_dst (N := 4) rfl ?_); refine Kd.R_lit Kd.string _ 9 ?hg (N := 4) ?hd (xs := ([(⟨#[97]⟩ : ByteArray), (⟨#[98]⟩ : ByteArray), (⟨#[99]⟩ : ByteArray), (⟨#[100]⟩ : ByteArray), (⟨#[]⟩ : ByteArray), (⟨#[46]⟩ : ByteArray), (⟨#[46, 46]⟩ : ByteArray), (⟨#[111, 110, 101, 32, 116, 119, 111]⟩ : ByteArray), (⟨#[43, 120]⟩ : ByteArray), (⟨#[45, 121]⟩ : ByteArray), (⟨#[92, 32, 122]⟩ : ByteArray), (⟨#[64, 64]⟩ : ByteArray)] : List ByteArray)) (inner := [.string (⟨#[97]⟩ : ByteArray), .string (⟨#[98]⟩ : ByteArray), .string (⟨#[99]⟩ : ByteArray), .string (⟨#[100]⟩ : ByteArray), .string (⟨#[]⟩ : ByteArray), .string (⟨#[46]⟩ : ByteArray), .string (⟨#[46, 46]⟩ : ByteArray), .string (⟨#[111, 110, 101, 32, 116, 119, 111]⟩ : ByteArray), .string (⟨#[43, 120]⟩ : ByteArray), .string (⟨#[45, 121]⟩ : ByteArray), .string (⟨#[92, 32, 122]⟩ : ByteArray), .string (⟨#[64, 64]⟩ : ByteArray)]) (ok := fun _ => True) (okp := fun _ => True) ?hr ?hp (fun _ hk => hk) trivial (Below.refl _ _) (Nat.le_refl _) (by simp) ?_; (case hd => rfl); (case hg => rfl); (case hr => first | (go_simp; done) | (go_simp; rfl)); (case hp => exact (Reps.one (show Kd.M Kd.string _ _ _ (⟨#[97]⟩ : ByteArray) [.string (⟨#[97]⟩ : ByteArray)] from rfl) (Reps.one (show Kd.M Kd.string _ _ _ (⟨#[98]⟩ : ByteArray) [.string (⟨#[98]⟩ : ByteArray)] from rfl) (Reps.one (show Kd.M Kd.string _ _ _ (⟨#[99]⟩ : ByteArray) [.string (⟨#[99]⟩ : ByteArray)] from rfl) (Reps.one (show Kd.M Kd.string _ _ _ (⟨#[100]⟩ : ByteArray) [.string (⟨#[100]⟩ : ByteArray)] from rfl) (Reps.one (show Kd.M Kd.string _ _ _ (⟨#[]⟩ : ByteArray) [.string (⟨#[]⟩ : ByteArray)] from rfl) (Reps.one (show Kd.M Kd.string _ _ _ (⟨#[46]⟩ : ByteArray) [.string (⟨#[46]⟩ : ByteArray)] from rfl) (Reps.one (show Kd.M Kd.string _ _ _ (⟨#[46, 46]⟩ : ByteArray) [.string (⟨#[46, 46]⟩ : ByteArray)] from rfl) (Reps.one (show Kd.M Kd.string _ _ _ (⟨#[111, 110, 101, 32, 116, 119, 111]⟩ : ByteArray) [.string (⟨#[111, 110, 101, 32, 116, 119, 111]⟩ : ByteArray)] from rfl) (Reps.one (show Kd.M Kd.string _ _ _ (⟨#[43, 120]⟩ : ByteArray) [.string (⟨#[43, 120]⟩ : ByteArray)] from rfl) (Reps.one (show Kd.M Kd.string _ _ _ (⟨#[45, 121]⟩ : ByteArray) [.string (⟨#[45, 121]⟩ : ByteArray)] from rfl) (Reps.one (show Kd.M Kd.string _ _ _ (⟨#[92, 32, 122]⟩ : ByteArray) [.string (⟨#[92, 32, 122]⟩ : ByteArray)] from rfl) (Reps.one (show Kd.M Kd.string _ _ _ (⟨#[64, 64]⟩ : ByteArray) [.string (⟨#[64, 64]⟩ : ByteArray)] from rfl) (Reps.none _ _)))))))))))))); intro v636 w3 ho4 hb hg_ hnew_; clear hg_ hnew_; (first | rw [← Ny635.out] at ho4 | (simp only [Int.reduceToNat] at ho4; rw [← Ny635.out] at ho4)); have n0_ := Aside0.mk (Kd.R_lower ho4 (keep_size (w := w) (g := g) (row := none) zh)); have n1_ := Aside0.mk (IsS122.below zi hb); have n2_ := Aside0.mk (KeepBut.trans zh (KeepBut.of_below hb g none) (.inl rfl)); have n3_ := Aside0.mk (below_step zj hb); clear HI0; clear HK; clear HB; have HO637 := n0_; have HI0 := n1_; have HK := n2_; have HB := n3_; clear n0_ n1_ n2_ n3_; clear hb ho4; obtain ⟨Ao5, co5, eo5⟩ := Kd.R_slice HO637.out; subst eo5) | ((with_reducible refine gateC (f := 199) rfl ?_); refine goesL_ (some 5) rfl rfl Try.func199 (by kernel_rfl) rfl #[.pointer (some ⟨g, 0, none⟩), .slice Ao5 y635.length co5] rfl zm ?_; (with_reducible refine (spec_l1Cur_of.calls g s0_0 s0_1 s0_2 _ _ y635 t638 t639 t640 w0 _ ?side1 ?side2 ?side3 ?side4 ?side5 A2.out).mono ?_); (case side1 => exact zi); (case side2 => exact zj); (case side3 => repeat (first | exact (Kd.R_reads' HO637.out).2.2 | (with_reducible refine Kd.C_alloc ?_ _) | (with_reducible refine Kd.C_drewN ?_ _) | (with_reducible refine Kd.C_drew ?_))); (case side4 => exact (Kd.R_reads' HO637.out).2.1); (case side5 => exact far_slice (IsS122.own_ne HI0.out HO637.out (by decide))); rintro e w6 ⟨rfl, hi, hb, hk⟩; refine ⟨_, rfl, ?_⟩; have n0_ := Aside0.mk (Kd.R_mono (Kd.R_keep (IsS122.apart (show IsS122 w0 _ g s0_0 s0_1 s0_2 from zi) (zr HO637.out) (by decide)) hk (fun _ h => h.2)) (fun _ h => h.1)); have n1_ := Aside0.mk (KeepBut.trans zh hk (.inl rfl)); have n2_ := Aside0.mk (hb); have n3_ := Aside0.mk (hi); clear HO637; clear HK; clear HB; clear HI0; have HO637 := n0_; have HK := n1_; have HB := n2_; have HI0 := n3_; clear n0_ n1_ n2_ n3_; (try clear hb); (try clear hb2); (try clear hk); (try clear hi)))
 go_ret
 exact ⟨by first | rfl | (simp [errW_none, errW_some] <;> rfl) | (simp [*, errW_none, errW_some] <;> rfl), zi, zj, zh⟩

end Go.Proofs.Ytcefenlblnediaa.My

/- Written by this session's program (wip/gen): a plain function with the same answers as the Go function, and the proof that the Go code comes to them. Asked: that the plain function has an answer. -/
namespace Go.Proofs.Ytcefenlblnediaa.My
open Go.RowKit Go.Proofs.YtcefenlblnediaaW.PrintWords Go.Proofs.YtcefenlblnediaaW.PrintLast Go.Proofs.YtcefenlblnediaaW.PrintMore
attribute [local go_sem] max2_int min2_int max_two min_two max_three min_three max_four min_four
set_option linter.unusedVariables false
set_option linter.unusedSimpArgs false

/-! ### spec_l1Least: function 189 -/
def spec_l1Least.f (a0 : Int) (a1 : Int) : Option (Int) := if a0 < a1 then (some a0) else (some a1)
set_option maxHeartbeats 8000000 in
set_option maxRecDepth 100000 in
theorem spec_l1Least.calls (a0 : Int) (a1 : Int) (r : Int) (w : World) (h : spec_l1Least.f a0 a1 = some r) :
  Calls Try.prog 189 #[.int .i64 a0, .int .i64 a1] w fun e w' => e = .returned (.int .i64 r) ∧ Drawn0 w w' := by
 have H : (if a0 < a1 then (some a0) else (some a1)) = some r := h
 clear h
 by_cases c3 : a0 < a1
 ·rw [if_pos c3] at H
  have c3b0 : decide (a0 < a1) = true := decide_eq_true c3
  clear c3
  obtain rfl := Option.some.inj H
  go_enter Try.func189, Try.ntmps189
  go_wp2
  go_ret
  exact ⟨by first | rfl | (simp; done) | (simp [*]; done), by repeat (first | exact Drawn0.refl _ | apply Drawn0.step)⟩
 ·rw [if_neg c3] at H
  have c3b0 : decide (a0 < a1) = false := decide_eq_false c3
  clear c3
  obtain rfl := Option.some.inj H
  go_enter Try.func189, Try.ntmps189
  go_wp2
  go_ret
  exact ⟨by first | rfl | (simp; done) | (simp [*]; done), by repeat (first | exact Drawn0.refl _ | apply Drawn0.step)⟩

end Go.Proofs.Ytcefenlblnediaa.My

/- Written by this session's program (wip/gen): a plain function with the same answers as the Go function, and the proof that the Go code comes to them. Asked: that the plain function has an answer. -/
namespace Go.Proofs.Ytcefenlblnediaa.My
open Go.RowKit Go.Proofs.YtcefenlblnediaaW.PrintWords Go.Proofs.YtcefenlblnediaaW.PrintLast Go.Proofs.YtcefenlblnediaaW.PrintMore
attribute [local go_sem] max2_int min2_int max_two min_two max_three min_three max_four min_four
set_option linter.unusedVariables false
set_option linter.unusedSimpArgs false

/-! ### spec_l1Whole: function 191 -/
def spec_l1Whole.f (l0 : List ByteArray) : Option (Bool) := if (l0.length : Int) = 0 then (some true) else (if 0 ≤ (wrap64 ((l0.length : Int) - 1)) then (if (wrap64 ((l0.length : Int) - 1)) < (l0.length : Int) then ((spec_l1Ends.f (rdOf ByteArray.empty l0 (wrap64 ((l0.length : Int) - 1)))).bind fun t642 => (some t642)) else (none)) else (none))
set_option maxHeartbeats 8000000 in
set_option maxRecDepth 100000 in
theorem spec_l1Whole.calls (A0 : Option Addr) (c0 : Nat) (l0 : List ByteArray) (r : Bool) (w : World) (hr0 : Kd.C Kd.string w A0 l0.length l0) (hc0 : l0.length ≤ c0) (h : spec_l1Whole.f l0 = some r) :
  Calls Try.prog 191 #[.slice A0 l0.length c0] w fun e w' => e = .returned (.bool r) ∧ Drawn0 w w' := by
 have HR0 := Aside0.mk hr0
 have HC0 := Aside0.mk hc0
 clear hr0 hc0
 have H : (if (l0.length : Int) = 0 then (some true) else (if 0 ≤ (wrap64 ((l0.length : Int) - 1)) then (if (wrap64 ((l0.length : Int) - 1)) < (l0.length : Int) then ((spec_l1Ends.f (rdOf ByteArray.empty l0 (wrap64 ((l0.length : Int) - 1)))).bind fun t642 => (some t642)) else (none)) else (none))) = some r := h
 clear h
 by_cases c2 : (l0.length : Int) = 0
 ·rw [if_pos c2] at H
  have c2b0 : ((l0.length : Int) == 0) = true := beq_iff_eq.mpr c2
  have c2b1 : ((l0.length : Int) != 0) = false := bne_eq_false_iff_eq.mpr c2
  clear c2
  obtain rfl := Option.some.inj H
  go_enter Try.func191, Try.ntmps191
  go_wp2
  go_ret
  exact ⟨by first | rfl | (simp; done) | (simp [*]; done), by repeat (first | exact Drawn0.refl _ | apply Drawn0.step)⟩
 ·rw [if_neg c2] at H
  have c2b0 : ((l0.length : Int) == 0) = false := beq_eq_false_iff_ne.mpr c2
  have c2b1 : ((l0.length : Int) != 0) = true := bne_iff_ne.mpr c2
  have c2b2 : ¬ (l0 = []) := fun h_ => c2 (by rw [h_]; rfl)
  obtain ⟨ji3, hji3⟩ : ∃ j_ : Int, (wrap64 ((l0.length : Int) - 1)) = j_ := ⟨_, rfl⟩
  replace H : (if 0 ≤ (ji3) then (if (ji3) < (l0.length : Int) then ((spec_l1Ends.f (rdOf ByteArray.empty l0 (ji3))).bind fun t642 => (some t642)) else (none)) else (none)) = some r := by first | (rw [hji3] at H; exact H) | (simp only [hji3] at H ⊢; exact H)
  have hji3w : (IntKind.i64.wrap ((l0.length : Int) - 1)) = ji3 := (i64_w _).trans hji3
  by_cases c4 : 0 ≤ (ji3)
  ·rw [if_pos c4] at H
   have c4b0 : decide (0 ≤ (ji3)) = true := decide_eq_true c4
   clear c4
   by_cases c5 : (ji3) < (l0.length : Int)
   ·rw [if_pos c5] at H
    have c5b0 : decide ((ji3) < (l0.length : Int)) = true := decide_eq_true c5
    clear c5
    replace H := Option.bind_eq_some_iff.mp H
    obtain ⟨t642, A60, H⟩ := H
    replace H : (some t642) = some r := H
    have A6 := Aside0.mk A60
    clear A60
    obtain rfl := Option.some.inj H
    have p641 : 0 ≤ ((ji3) : Int) := oa
    have q641 : (ji3) < (l0.length : Int) := oa
    obtain ⟨ad641, e641, hx641_0⟩ := Kd.at_string HR0.out (ji3) p641 q641
    cases e641
    replace p641 := eq_true p641
    replace q641 := eq_true q641
    go_enter Try.func191, Try.ntmps191
    go_wp2_with (first | (go_at_call 148; (with_reducible refine (spec_l1Ends.calls (rdOf ByteArray.empty l0 (ji3)) t642 _ A6.out).mono ?_); rintro e w' ⟨rfl, ⟨nd, rfl⟩⟩))
    go_ret
    exact ⟨by first | rfl | (simp; done) | (simp only [← hji3] <;> (first | rfl | simp)) | (simp [*]; done), by repeat (first | exact Drawn0.refl _ | apply Drawn0.step)⟩
   ·rw [if_neg c5] at H
    exact absurd H (by simp)
  ·rw [if_neg c4] at H
   exact absurd H (by simp)

end Go.Proofs.Ytcefenlblnediaa.My

/- Written by this session's program (wip/gen): a plain function with the same answers as the Go function, and the proof that the Go code comes to them. Asked: that the plain function has an answer. -/
namespace Go.Proofs.Ytcefenlblnediaa.My
open Go.RowKit Go.Proofs.YtcefenlblnediaaW.PrintWords Go.Proofs.YtcefenlblnediaaW.PrintLast Go.Proofs.YtcefenlblnediaaW.PrintMore
attribute [local go_sem] max2_int min2_int max_two min_two max_three min_three max_four min_four
set_option linter.unusedVariables false
set_option linter.unusedSimpArgs false

/-! ### spec_l1Cur_hunks: function 159 -/
mutual
def spec_l1Cur_hunks.l0 : Nat → List ByteArray → List (S111) → Int → List Int → Int → Int → Option ((List (S111)) × Int × Int)
 | 0, _, _, _, _, _, _ => none
 | k + 1, x1, x5, x6, x1000, x1001, x1002 => if x6 ≤ (x1.length : Int) then (spec_l1Cur_hunks.j1 k x1 x5 x6 (decide ((x5.length : Int) < 6)) x1000 x1001 x1002) else (spec_l1Cur_hunks.j1 k x1 x5 x6 false x1000 x1001 x1002)
def spec_l1Cur_hunks.j1 : Nat → List ByteArray → List (S111) → Int → Bool → List Int → Int → Int → Option ((List (S111)) × Int × Int)
 | 0, _, _, _, _, _, _, _ => none
 | k + 1, x1, x5, x6, x19, x1000, x1001, x1002 => if x19 = true then ((spec_l1Least.f 3 (wrap64 ((x1.length : Int) - x6))).bind fun t646 => ((spec_l1Cur_pick.f x1000 x1001 x1002 (wrap64 (t646 + 1))).bind fun bt647 => ((spec_l1Cur_pick.f x1000 bt647.2.1 bt647.2.2 3).bind fun bt651 => (spec_l1Cur_hunks.l1 k x1 x5 x6 bt651.1 x1000 bt651.2.1 bt651.2.2 x6 bt647.1 ([] : List ByteArray))))) else (some (x5, x1001, x1002))
def spec_l1Cur_hunks.l1 : Nat → List ByteArray → List (S111) → Int → Int → List Int → Int → Int → Int → Int → List ByteArray → Option ((List (S111)) × Int × Int)
 | 0, _, _, _, _, _, _, _, _, _, _ => none
 | k + 1, x1, x5, x6, x8, x1000, x1001, x1002, x651000, x651001, x651002 => if x8 > 0 then ((spec_l1Cur_line.f x1000 x1001 x1002).bind fun bt654 => (if bt654.1.size + 1 ≤ 9223372036854775807 then (if x651002.length < 8796093022208 then (spec_l1Cur_hunks.l1 k x1 x5 x6 (wrap64 (x8 - 1)) x1000 bt654.2.1 bt654.2.2 x651000 x651001 (x651002 ++ [bt654.1 ++ (⟨#[10]⟩ : ByteArray)])) else (none)) else (none))) else (if (wrap64 (x651001 + (x651002.length : Int))) > 0 then (if (wrap64 (x6 + x651001)) < (x1.length : Int) then (if x5.length < 3518437208883 then ((spec_l1Cur_pick.f x1000 x1001 x1002 3).bind fun bt663 => (spec_l1Cur_hunks.l0 k x1 (x5 ++ [(⟨x651000, x651001, x651002⟩ : S111)]) (wrap64 (x6 + (wrap64 ((wrap64 (x651001 + 1)) + bt663.1)))) x1000 bt663.2.1 bt663.2.2)) else (none)) else ((spec_l1Whole.f x1).bind fun t666 => (if t666 = true then (if x5.length < 3518437208883 then ((spec_l1Cur_pick.f x1000 x1001 x1002 3).bind fun bt670 => (spec_l1Cur_hunks.l0 k x1 (x5 ++ [(⟨x651000, x651001, x651002⟩ : S111)]) (wrap64 (x6 + (wrap64 ((wrap64 (x651001 + 1)) + bt670.1)))) x1000 bt670.2.1 bt670.2.2)) else (none)) else (if x651001 > 0 then (if x5.length < 3518437208883 then ((spec_l1Cur_pick.f x1000 x1001 x1002 3).bind fun bt676 => (spec_l1Cur_hunks.l0 k x1 (x5 ++ [(⟨x651000, x651001, x651002⟩ : S111)]) (wrap64 (x6 + (wrap64 ((wrap64 (x651001 + 1)) + bt676.1)))) x1000 bt676.2.1 bt676.2.2)) else (none)) else ((spec_l1Cur_pick.f x1000 x1001 x1002 3).bind fun bt679 => (spec_l1Cur_hunks.l0 k x1 x5 (wrap64 (x6 + (wrap64 ((wrap64 (x651001 + 1)) + bt679.1)))) x1000 bt679.2.1 bt679.2.2)))))) else ((spec_l1Cur_pick.f x1000 x1001 x1002 3).bind fun bt682 => (spec_l1Cur_hunks.l0 k x1 x5 (wrap64 (x6 + (wrap64 ((wrap64 (x651001 + 1)) + bt682.1)))) x1000 bt682.2.1 bt682.2.2)))
end
def spec_l1Cur_hunks.f (k : Nat) (s0_0 : List Int) (s0_1 : Int) (s0_2 : Int) (l1 : List ByteArray) : Option ((List (S111)) × Int × Int) := (spec_l1Cur_pick.f s0_0 s0_1 s0_2 3).bind fun bt643 => (spec_l1Cur_hunks.l0 k l1 ([] : List (S111)) bt643.1 s0_0 bt643.2.1 bt643.2.2)
def spec_l1Cur_hunks.T8 : Bool × List (List Nat × List Nat) := (true, [([], []), ([0], [0]), ([], []), ([2], [2]), ([3], [3]), ([4], [4]), ([1, 5, 3], [1, 5]), ([0, 1, 2, 3, 4, 5, 6], []), ([7, 6, 6, 0, 1, 2, 3, 4, 5, 6], [6, 7])])
def spec_l1Cur_hunks.B8 : List Nat := [0, 1, 0, 4, 12, 28, 63, 127, 255]
theorem spec_l1Cur_hunks.tab8 : rtab .any (opsOf Try.f159 8) = spec_l1Cur_hunks.T8 := by kernel_rfl
theorem spec_l1Cur_hunks.bits8 : waitsOk spec_l1Cur_hunks.T8.2 spec_l1Cur_hunks.B8 = true := by kernel_rfl
def spec_l1Cur_hunks.T11 : Bool × List (List Nat × List Nat) := (true, [([], []), ([], []), ([1], [1]), ([2], [2]), ([], []), ([4], [4]), ([3, 5], [3, 5]), ([0, 6], [0, 6]), ([7, 5, 0, 1, 2, 3, 4, 5, 6, 7], [0, 7])])
def spec_l1Cur_hunks.B11 : List Nat := [0, 0, 2, 6, 0, 16, 62, 127, 255]
theorem spec_l1Cur_hunks.tab11 : rtab .any (opsOf Try.f159 11) = spec_l1Cur_hunks.T11 := by kernel_rfl
theorem spec_l1Cur_hunks.bits11 : waitsOk spec_l1Cur_hunks.T11.2 spec_l1Cur_hunks.B11 = true := by kernel_rfl
set_option maxHeartbeats 8000000 in
set_option maxRecDepth 100000 in
theorem spec_l1Cur_hunks.calls (k : Nat) (g : Nat) (s0_0 : List Int) (s0_1 : Int) (s0_2 : Int) (A1 : Option Addr) (c1 : Nat) (l1 : List ByteArray) (r1 : List (S111)) (r2 : Int) (r3 : Int) (w0 w : World) (hI : IsS122 w0 w g s0_0 s0_1 s0_2) (hB : Below w0.heap.size w0 w) (hr1 : Kd.C Kd.string w A1 l1.length l1) (hc1 : l1.length ≤ c1) (hf1 : ∀ ad, A1 = some ad → 0 < l1.length → ad.block ≠ g) (h : spec_l1Cur_hunks.f k s0_0 s0_1 s0_2 l1 = some (r1, r2, r3)) :
  Calls Try.prog 159 #[.pointer (some ⟨g, 0, none⟩), .slice A1 l1.length c1] w fun e w' => ∃ v0_ : Value, e = .returned (v0_) ∧ Kd.S k111 111 w' w.heap.size (fun _ => True) v0_ r1 ∧ IsS122 w0 w' g s0_0 r2 r3 ∧ Below w0.heap.size w0 w' ∧ KeepBut w w' g none := by
 have hu111 := Try.underlying111
 have HR1 := Aside0.mk hr1
 have HC1 := Aside0.mk hc1
 clear hr1 hc1
 have HI0 := Aside0.mk hI
 have HK := Aside0.mk (KeepBut.refl w g none)
 have HL := Aside0.mk hB.size
 clear hI
 have HW0 := Aside0.mk hB.size
 have HB := Aside0.mk hB
 clear hB
 have H : ((spec_l1Cur_pick.f s0_0 s0_1 s0_2 3).bind fun bt643 => (spec_l1Cur_hunks.l0 k l1 ([] : List (S111)) bt643.1 s0_0 bt643.2.1 bt643.2.2)) = some (r1, r2, r3) := h
 clear h
 replace H := Option.bind_eq_some_iff.mp H
 obtain ⟨⟨t643, t644, t645⟩, A30, H⟩ := H
 replace H : (spec_l1Cur_hunks.l0 k l1 ([] : List (S111)) t643 s0_0 t644 t645) = some (r1, r2, r3) := H
 have A3 := Aside0.mk A30
 clear A30
 have H' := Aside0.mk H
 clear H
 go_enter Try.func159, Try.ntmps159
 go_wp2_with (first | ((with_reducible refine gateC (f := 113) rfl ?_); refine goesL_ (some 10) rfl rfl Try.func113 (by kernel_rfl) rfl #[.pointer (some ⟨g, 0, none⟩), .int .i64 3] rfl zm ?_; (with_reducible refine (spec_l1Cur_pick.calls g s0_0 s0_1 s0_2 3 t643 t644 t645 w0 _ ?side1 ?side2 A3.out).mono ?_); (case side1 => exact zi); (case side2 => exact zj); rintro e w4 ⟨rfl, hi, hb, hk⟩; refine ⟨_, rfl, ?_⟩; have n0_ := Aside0.mk (KeepBut.trans zh hk (.inl rfl)); have n1_ := Aside0.mk (hb); have n2_ := Aside0.mk (hi); clear HK; clear HB; clear HI0; have HK := n0_; have HB := n1_; have HI0 := n2_; clear n0_ n1_ n2_; (try clear hb); (try clear hb2); (try clear hk); (try clear hi)))
 go_loopg [5, 6] k (fun kq v5 v6 w' => ∃ (x5_1 : List (S111)) (x6_1 : Int) (x1001_1 : Int) (x1002_1 : Int), v6 = .int .i64 x6_1 ∧ Aside0 (spec_l1Cur_hunks.l0 kq l1 x5_1 x6_1 s0_0 x1001_1 x1002_1 = some (r1, r2, r3)) ∧ Aside0 (kq ≤ k) ∧ Aside0 (Kd.S k111 111 w' w.heap.size (fun _ => True) v5 x5_1) ∧ Aside0 (IsS122 w0 w' g s0_0 x1001_1 x1002_1) ∧ Aside0 (KeepBut w w' g none) ∧ Aside0 (Below w0.heap.size w0 w'))
 case atStart => exact ⟨(([] : List (S111))), (t643), (t644), (t645), zf, H', ⟨Nat.le_refl _⟩, ⟨by first | exact Kd.S_nil _ _ _ _ _ | exact Kd.Q_nil _ _ _ _ _ | exact Kd.R_nil _ _ _ _ _⟩, ⟨by repeat (first | (with_reducible first | exact HI0.out | apply IsS122.alloc | apply IsS122.drewN | apply IsS122.drew | apply IsS122.set_1 | apply IsS122.set_2) | exact HI0.out)⟩, ⟨by repeat (first | (with_reducible first | exact HK.out | apply KeepBut.set_ | apply keep_drewN | apply keep_drew | apply keep_alloc) | exact HK.out)⟩, ⟨by repeat (first | (with_reducible first | exact HB.out | apply below_alloc | apply pw_below_drewN | apply below_drew1 | refine below_set ?_ (IsS122.ge HI0.out)) | exact HB.out)⟩⟩
 case round =>
  clear H'
  try clear c1
  try clear p2
  obtain ⟨x5_1, x6_1, x1001_1, x1002_1, rfl, HA, HK1, HO_5, HI0, HK, HB⟩ := hrel
  cases gk with
  | zero => exact absurd HA.out (by simp [spec_l1Cur_hunks.l0])
  | succ k1 =>
   have H := HA.out
   clear HA
   simp only [spec_l1Cur_hunks.l0] at H
   have HC5 := Aside0.mk H
   clear H
   go_upto_region 3 with (fail)
   go_cut [19] (fun v19 wc => ∃ (kq : Nat) (x19_4 : Bool), v19 = .bool x19_4 ∧ Aside0 (spec_l1Cur_hunks.j1 kq l1 x5_1 x6_1 x19_4 s0_0 x1001_1 x1002_1 = some (r1, r2, r3)) ∧ Aside0 (kq ≤ k1) ∧ Aside0 (Kd.S k111 111 wc w.heap.size (fun _ => True) u5 x5_1) ∧ Aside0 (IsS122 w0 wc g s0_0 x1001_1 x1002_1) ∧ Aside0 (KeepBut w wc g none) ∧ Aside0 (Below w0.heap.size w0 wc))
   case first =>
    have H := HC5.out
    clear HC5
    by_cases c6 : x6_1 ≤ (l1.length : Int)
    ·rw [if_pos c6] at H
     have c6b0 : decide (x6_1 ≤ (l1.length : Int)) = true := decide_eq_true c6
     clear c6
     (first | rw [c6b0] | (simp only [i64_w, i32_w]; rw [c6b0]) | skip)
     have H' := Aside0.mk H
     clear H
     obtain ⟨Ao7, co7, eo7⟩ := Kd.S_slice HO_5.out
     subst eo7
     go_wp2
     go_meet
     case rel => exact ⟨_, (decide ((x5_1.length : Int) < 6)), zf, H', ⟨by have := HK1.out; first | omega | exact Nat.le_refl _⟩, ⟨by (with_reducible repeat (first | apply Kd.S_alloc | apply Kd.S_drewN | apply Kd.S_drew)); exact HO_5.out⟩, ⟨by repeat (first | (with_reducible first | exact HI0.out | apply IsS122.alloc | apply IsS122.drewN | apply IsS122.drew | apply IsS122.set_1 | apply IsS122.set_2) | exact HI0.out)⟩, ⟨by repeat (first | (with_reducible first | exact HK.out | apply KeepBut.set_ | apply keep_drewN | apply keep_drew | apply keep_alloc) | exact HK.out)⟩, ⟨by repeat (first | (with_reducible first | exact HB.out | apply below_alloc | apply pw_below_drewN | apply below_drew1 | refine below_set ?_ (IsS122.ge HI0.out)) | exact HB.out)⟩⟩
    ·rw [if_neg c6] at H
     have c6b0 : decide (x6_1 ≤ (l1.length : Int)) = false := decide_eq_false c6
     clear c6
     (first | rw [c6b0] | (simp only [i64_w, i32_w]; rw [c6b0]) | skip)
     have H' := Aside0.mk H
     clear H
     go_wp2
     go_meet
     case rel => exact ⟨_, (false), zf, H', ⟨by have := HK1.out; first | omega | exact Nat.le_refl _⟩, ⟨by (with_reducible repeat (first | apply Kd.S_alloc | apply Kd.S_drewN | apply Kd.S_drew)); exact HO_5.out⟩, ⟨by repeat (first | (with_reducible first | exact HI0.out | apply IsS122.alloc | apply IsS122.drewN | apply IsS122.drew | apply IsS122.set_1 | apply IsS122.set_2) | exact HI0.out)⟩, ⟨by repeat (first | (with_reducible first | exact HK.out | apply KeepBut.set_ | apply keep_drewN | apply keep_drew | apply keep_alloc) | exact HK.out)⟩, ⟨by repeat (first | (with_reducible first | exact HB.out | apply below_alloc | apply pw_below_drewN | apply below_drew1 | refine below_set ?_ (IsS122.ge HI0.out)) | exact HB.out)⟩⟩
   case rest =>
    clear HC5
    try clear c1
    try clear p2
    try clear c6
    try clear c6b0
    try clear p2
    obtain ⟨kq, x19_4, rfl, HA, HJ4, HO_5, HI0, HK, HB⟩ := hcut
    cases kq with
    | zero => exact absurd HA.out (by simp [spec_l1Cur_hunks.j1])
    | succ kj4 =>
     have H := HA.out
     clear HA
     simp only [spec_l1Cur_hunks.j1] at H
     by_cases c8 : x19_4 = true
     ·subst c8
      have H1 : ((spec_l1Least.f 3 (wrap64 ((l1.length : Int) - x6_1))).bind fun t646 => ((spec_l1Cur_pick.f s0_0 x1001_1 x1002_1 (wrap64 (t646 + 1))).bind fun bt647 => ((spec_l1Cur_pick.f s0_0 bt647.2.1 bt647.2.2 3).bind fun bt651 => (spec_l1Cur_hunks.l1 kj4 l1 x5_1 x6_1 bt651.1 s0_0 bt651.2.1 bt651.2.2 x6_1 bt647.1 ([] : List ByteArray))))) = some (r1, r2, r3) := by rw [if_pos rfl] at H; exact H
      clear H
      have H := H1
      clear H1
      replace H := Option.bind_eq_some_iff.mp H
      obtain ⟨t646, A90, H⟩ := H
      replace H : ((spec_l1Cur_pick.f s0_0 x1001_1 x1002_1 (wrap64 (t646 + 1))).bind fun bt647 => ((spec_l1Cur_pick.f s0_0 bt647.2.1 bt647.2.2 3).bind fun bt651 => (spec_l1Cur_hunks.l1 kj4 l1 x5_1 x6_1 bt651.1 s0_0 bt651.2.1 bt651.2.2 x6_1 bt647.1 ([] : List ByteArray)))) = some (r1, r2, r3) := H
      have A9 := Aside0.mk A90
      clear A90
      replace H := Option.bind_eq_some_iff.mp H
      obtain ⟨⟨t647, t648, t649⟩, A100, H⟩ := H
      replace H : ((spec_l1Cur_pick.f s0_0 t648 t649 3).bind fun bt651 => (spec_l1Cur_hunks.l1 kj4 l1 x5_1 x6_1 bt651.1 s0_0 bt651.2.1 bt651.2.2 x6_1 t647 ([] : List ByteArray))) = some (r1, r2, r3) := H
      have A10 := Aside0.mk A100
      clear A100
      replace H := Option.bind_eq_some_iff.mp H
      obtain ⟨⟨t651, t652, t653⟩, A110, H⟩ := H
      replace H : (spec_l1Cur_hunks.l1 kj4 l1 x5_1 x6_1 t651 s0_0 t652 t653 x6_1 t647 ([] : List ByteArray)) = some (r1, r2, r3) := H
      have A11 := Aside0.mk A110
      clear A110
      have H' := Aside0.mk H
      clear H
      go_wp2_with (first | ((with_reducible refine gateC (f := 189) rfl ?_); refine goesL_ (some 26) rfl rfl Try.func189 (by kernel_rfl) rfl #[.int .i64 3, .int .i64 (wrap64 ((l1.length : Int) - x6_1))] rfl zm ?_; (with_reducible refine (spec_l1Least.calls 3 (wrap64 ((l1.length : Int) - x6_1)) t646 _ A9.out).mono ?_); rintro e w' ⟨rfl, ⟨nd, rfl⟩⟩; refine ⟨_, rfl, ?_⟩; (try (rw [drewN_self wc]; generalize hq_ : World.drewN wc _ = wc; have n0_ : Aside0 (Kd.S k111 111 wc w.heap.size (fun _ => True) u5 x5_1) := ⟨by rw [← hq_]; exact (zs HO_5.out)⟩; have n1_ : Aside0 (IsS122 w0 wc g s0_0 x1001_1 x1002_1) := ⟨by rw [← hq_]; exact zi⟩; have n2_ : Aside0 (KeepBut w wc g none) := ⟨by rw [← hq_]; exact zh⟩; have n3_ : Aside0 (Below w0.heap.size w0 wc) := ⟨by rw [← hq_]; exact zj⟩; clear HO_5 HI0 HK HB hq_; have HO_5 := n0_; have HI0 := n1_; have HK := n2_; have HB := n3_; clear n0_ n1_ n2_ n3_))) | ((with_reducible refine gateC (f := 113) rfl ?_); refine goesL_ (some 28) rfl rfl Try.func113 (by kernel_rfl) rfl #[.pointer (some ⟨g, 0, none⟩), .int .i64 (wrap64 (t646 + 1))] rfl zm ?_; (with_reducible refine (spec_l1Cur_pick.calls g s0_0 x1001_1 x1002_1 (wrap64 (t646 + 1)) t647 t648 t649 w0 _ ?side1 ?side2 A10.out).mono ?_); (case side1 => exact zi); (case side2 => exact zj); rintro e w12 ⟨rfl, hi, hb, hk⟩; refine ⟨_, rfl, ?_⟩; have n0_ := Aside0.mk (Kd.S_mono (Kd.S_keep (IsS122.apartS (show IsS122 w0 _ g s0_0 x1001_1 x1002_1 from zi) (zs HO_5.out) (by decide)) hk (fun _ h => h.2)) (fun _ h => h.1)); have n1_ := Aside0.mk (KeepBut.trans zh hk (.inl rfl)); have n2_ := Aside0.mk (hb); have n3_ := Aside0.mk (hi); clear HO_5; clear HK; clear HB; clear HI0; have HO_5 := n0_; have HK := n1_; have HB := n2_; have HI0 := n3_; clear n0_ n1_ n2_ n3_; (try clear hb); (try clear hb2); (try clear hk); (try clear hi)) | ((with_reducible refine gate_dst (N := 7) rfl ?_); (try (refine gate_guard (by rfl) ?_; dsimp only)); refine box_event ?hg (N := 7) ?hd (cs := #[.int .i64 0, .int .i64 0, .slice none 0 0]) (t := 111) ?hr ?_; (case hd => rfl); (case hg => rfl); (case hr => first | (go_simp; done) | (go_simp; rfl)); intro gb650 hg w13 hbox hb; have n0_ := Aside0.mk (Kd.S_below (Kd.S_elderB (zs HO_5.out) gb650 (Nat.le_of_eq hg.symm)) hb); have n1_ := Aside0.mk (IsS122.below zi hb); have n2_ := Aside0.mk (KeepBut.trans zh (KeepBut.of_below hb g none) (.inl rfl)); have n3_ := Aside0.mk (below_step zj hb); have n4_ := Aside0.mk (hbox); have n5_ := Aside0.mk ((by rw [hg]; exact (keep_size (w := w) (g := g) (row := none) zh) : w.heap.size ≤ gb650)); have n6_ := Aside0.mk ((Nat.le_trans HW0.out (by rw [hg]; exact (keep_size (w := w) (g := g) (row := none) zh) : w.heap.size ≤ gb650) : w0.heap.size ≤ gb650)); have n7_ := Aside0.mk ((by rw [hg]; exact Nat.ne_of_lt (IsS122.lt (show IsS122 w0 _ g s0_0 t648 t649 from zi)) : g ≠ gb650)); have n8_ := Aside0.mk ((by rw [hg]; exact Nat.ne_of_gt (IsS122.lt (show IsS122 w0 _ g s0_0 t648 t649 from zi)) : gb650 ≠ g)); clear HO_5; clear HI0; clear HK; clear HB; have HO_5 := n0_; have HI0 := n1_; have HK := n2_; have HB := n3_; have BK650 := n4_; have GW650 := n5_; have GE650 := n6_; have NB0_650 := n7_; have NB650_0 := n8_; clear n0_ n1_ n2_ n3_ n4_ n5_ n6_ n7_ n8_; clear hb hbox hg; have hnb14 := NB650_0.out; have hnc14 := NB0_650.out; have hcz15_0 : w13.cell? ⟨gb650, 0, none⟩ = some (.int .i64 0) := (blk_cell BK650.out 0).trans rfl; have hcz15_1 : w13.cell? ⟨gb650, 1, none⟩ = some (.int .i64 0) := (blk_cell BK650.out 1).trans rfl; have hcz15_2 : w13.cell? ⟨gb650, 2, none⟩ = some (.slice none 0 0) := (blk_cell BK650.out 2).trans rfl; have hfz15_0 := blk_frozen BK650.out 0; have hfz15_1 := blk_frozen BK650.out 1; have hfz15_2 := blk_frozen BK650.out 2) | ((with_reducible refine gateC (f := 113) rfl ?_); refine goesL_ (some 31) rfl rfl Try.func113 (by kernel_rfl) rfl #[.pointer (some ⟨g, 0, none⟩), .int .i64 3] rfl zm ?_; (with_reducible refine (spec_l1Cur_pick.calls g s0_0 t648 t649 3 t651 t652 t653 w0 _ ?side1 ?side2 A11.out).mono ?_); (case side1 => repeat (first | (with_reducible first | exact HI0.out | apply IsS122.alloc | apply IsS122.drewN | apply IsS122.drew | apply IsS122.set_1 | apply IsS122.set_2 | refine IsS122.far ?_ NB0_650.out _) | exact HI0.out)); (case side2 => repeat (first | (with_reducible first | exact HB.out | apply below_alloc | apply pw_below_drewN | apply below_drew1 | refine below_set ?_ (IsS122.ge HI0.out) | refine below_set ?_ GE650.out) | exact HB.out)); rintro e w16 ⟨rfl, hi, hb, hk⟩; refine ⟨_, rfl, ?_⟩; have n0_ := Aside0.mk (Kd.S_mono (Kd.S_keep (IsS122.apartS (show IsS122 w0 _ g s0_0 t648 t649 from by repeat (first | (with_reducible first | exact HI0.out | apply IsS122.alloc | apply IsS122.drewN | apply IsS122.drew | apply IsS122.set_1 | apply IsS122.set_2 | refine IsS122.far ?_ NB0_650.out _) | exact HI0.out)) (by (with_reducible repeat (first | apply Kd.S_alloc | apply Kd.S_drewN | apply Kd.S_drew)); exact (Kd.S_mono (Kd.S_far (p := ⟨gb650, 2, none⟩) (Kd.S_far (p := ⟨gb650, 1, none⟩) (Kd.S_far (p := ⟨gb650, 0, none⟩) (Kd.S_mono HO_5.out (fun k_ hk => (⟨hk, hk.2⟩ : _ ∧ k_ ≠ gb650))) (fun _ hk => hk.2) (.int .i64 x6_1)) (fun _ hk => hk.2) (.int .i64 t647)) (fun _ hk => hk.2) (.slice none 0 0)) (fun _ h_ => h_.1))) (by decide)) hk (fun _ h => h.2)) (fun _ h => h.1)); have n1_ := Aside0.mk (KeepBut.blk hk (g' := gb650) (o := .cells #[.int .i64 x6_1, .int .i64 t647, .slice none 0 0] 111 (0, 0)) (by (with_reducible repeat (first | refine blk_drewN ?_ _ | refine blk_drew ?_ | refine blk_alloc ?_ _)); refine blk_put (cs := #[.int .i64 x6_1, .int .i64 t647, .slice none 0 0]) ?_ 2 _ rfl; (with_reducible repeat (first | refine blk_drewN ?_ _ | refine blk_drew ?_ | refine blk_alloc ?_ _)); refine blk_put (cs := #[.int .i64 x6_1, .int .i64 0, .slice none 0 0]) ?_ 1 _ rfl; (with_reducible repeat (first | refine blk_drewN ?_ _ | refine blk_drew ?_ | refine blk_alloc ?_ _)); refine blk_put (cs := #[.int .i64 0, .int .i64 0, .slice none 0 0]) ?_ 0 _ rfl; (with_reducible repeat (first | refine blk_drewN ?_ _ | refine blk_drew ?_ | refine blk_alloc ?_ _)); exact BK650.out) NB650_0.out (by simp)); have n2_ := Aside0.mk (KeepBut.trans (by repeat (first | (with_reducible first | exact HK.out | apply KeepBut.set_ | apply keep_drewN | apply keep_drew | apply keep_alloc | refine keep_far ?_ GW650.out _) | exact HK.out)) hk (.inl rfl)); have n3_ := Aside0.mk (hb); have n4_ := Aside0.mk (hi); clear HO_5; clear BK650; clear HK; clear HB; clear HI0; have HO_5 := n0_; have BK650 := n1_; have HK := n2_; have HB := n3_; have HI0 := n4_; clear n0_ n1_ n2_ n3_ n4_; (try clear hb); (try clear hb2); (try clear hk); (try clear hi)))
      go_loopg [8] kj4 (fun kq v8 w' => ∃ (x8_3 : Int) (x1001_3 : Int) (x1002_3 : Int) (x651002_3 : List ByteArray) (u651002 : Value), v8 = .int .i64 x8_3 ∧ Aside0 (spec_l1Cur_hunks.l1 kq l1 x5_1 x6_1 x8_3 s0_0 x1001_3 x1002_3 x6_1 t647 x651002_3 = some (r1, r2, r3)) ∧ Aside0 (kq ≤ kj4) ∧ Aside0 (Kd.S k111 111 w' w.heap.size (fun k_ => some k_ ≠ (u651002 : Value).ownBlock ∧ k_ ≠ gb650) u5 x5_1) ∧ Aside0 (Kd.R Kd.string 9 w' w.heap.size (fun _ => True) u651002 x651002_3) ∧ Aside0 (w'.heap[gb650]? = some (.cells #[.int .i64 x6_1, .int .i64 t647, u651002] 111 (0, 0))) ∧ Aside0 (IsS122 w0 w' g s0_0 x1001_3 x1002_3) ∧ Aside0 (KeepBut w w' g none) ∧ Aside0 (Below w0.heap.size w0 w'))
      case atStart => exact ⟨(t651), (t652), (t653), (([] : List ByteArray)), (.slice none 0 0), zf, H', ⟨Nat.le_refl _⟩, ⟨by (with_reducible repeat (first | apply Kd.S_alloc | apply Kd.S_drewN | apply Kd.S_drew)); exact Kd.S_mono HO_5.out (fun _ hk => ⟨(by simp [Value.ownBlock]), hk.2⟩)⟩, ⟨by first | exact Kd.R_nil _ _ _ _ _ | exact Kd.Q_nil _ _ _ _ _ | exact Kd.S_nil _ _ _ _ _⟩, ⟨by (with_reducible repeat (first | refine blk_drewN ?_ _ | refine blk_drew ?_ | refine blk_alloc ?_ _)); exact BK650.out⟩, ⟨by repeat (first | (with_reducible first | exact HI0.out | apply IsS122.alloc | apply IsS122.drewN | apply IsS122.drew | apply IsS122.set_1 | apply IsS122.set_2 | refine IsS122.far ?_ NB0_650.out _) | exact HI0.out)⟩, ⟨by repeat (first | (with_reducible first | exact HK.out | apply KeepBut.set_ | apply keep_drewN | apply keep_drew | apply keep_alloc | refine keep_far ?_ GW650.out _) | exact HK.out)⟩, ⟨by repeat (first | (with_reducible first | exact HB.out | apply below_alloc | apply pw_below_drewN | apply below_drew1 | refine below_set ?_ (IsS122.ge HI0.out) | refine below_set ?_ GE650.out) | exact HB.out)⟩⟩
      case round =>
       clear H'
       try clear c1
       try clear p2
       try clear c6
       try clear c6b0
       try clear p6
       try clear c8
       try clear c11
       try clear c14
       try clear c15
       try clear hcz15_0
       try clear hcz15_1
       try clear hcz15_2
       try clear hfz15_0
       try clear hfz15_1
       try clear hfz15_2
       try clear p2
       obtain ⟨x8_3, x1001_3, x1002_3, x651002_3, u651002, rfl, HA, HK3, HO_5, HO_651002, BK650, HI0, HK, HB⟩ := hrel
       cases gk with
       | zero => exact absurd HA.out (by simp [spec_l1Cur_hunks.l1])
       | succ k3 =>
        have H := HA.out
        clear HA
        simp only [spec_l1Cur_hunks.l1] at H
        by_cases c17 : x8_3 > 0
        ·rw [if_pos c17] at H
         have c17b0 : decide (0 < x8_3) = true := decide_eq_true c17
         clear c17
         replace H := Option.bind_eq_some_iff.mp H
         obtain ⟨⟨t654, t655, t656⟩, A180, H⟩ := H
         replace H : (if t654.size + 1 ≤ 9223372036854775807 then (if x651002_3.length < 8796093022208 then (spec_l1Cur_hunks.l1 k3 l1 x5_1 x6_1 (wrap64 (x8_3 - 1)) s0_0 t655 t656 x6_1 t647 (x651002_3 ++ [t654 ++ (⟨#[10]⟩ : ByteArray)])) else (none)) else (none)) = some (r1, r2, r3) := H
         have A18 := Aside0.mk A180
         clear A180
         by_cases c19 : t654.size + 1 ≤ 9223372036854775807
         ·rw [if_pos c19] at H
          have c19b0 := eq_true c19
          have c19b1 : decide (t654.size + 1 ≤ 9223372036854775807) = true := decide_eq_true c19
          try have c19b2 : (9223372036854775807 < t654.size + 1) = False := eq_false (Nat.not_lt.2 c19)
          by_cases c20 : x651002_3.length < 8796093022208
          ·rw [if_pos c20] at H
           have LMc20 := Aside0.mk c20
           clear c20
           obtain ⟨y657, hy657⟩ : ∃ y_ : List ByteArray, y_ = (x651002_3 ++ [t654 ++ (⟨#[10]⟩ : ByteArray)]) := ⟨_, rfl⟩
           replace H : (spec_l1Cur_hunks.l1 k3 l1 x5_1 x6_1 (wrap64 (x8_3 - 1)) s0_0 t655 t656 x6_1 t647 y657) = some (r1, r2, r3) := by first | (rw [hy657]; with_reducible exact H) | (have H2_ := (Option.bind_some _ _).symm.trans H; rw [hy657]; with_reducible exact H2_) | (have H2_ := (Option.bind_some _ _).symm.trans H; with_reducible exact H2_) | with_reducible exact H | (rw [hy657]; exact H) | exact H
           have Ny657 := Aside0.mk hy657
           clear hy657
           have H' := Aside0.mk H
           clear H
           try go_wp2
           have n0_ := Aside0.mk (Kd.S_drew HO_5.out)
           have n1_ := Aside0.mk (Kd.R_drew HO_651002.out)
           have n2_ := Aside0.mk (blk_drew BK650.out)
           have n3_ := Aside0.mk (IsS122.drew HI0.out)
           have n4_ := Aside0.mk (keep_drew HK.out)
           have n5_ := Aside0.mk (below_drew1 HB.out)
           clear HO_5
           clear HO_651002
           clear BK650
           clear HI0
           clear HK
           clear HB
           have HO_5 := n0_
           have HO_651002 := n1_
           have BK650 := n2_
           have HI0 := n3_
           have HK := n4_
           have HB := n5_
           clear n0_ n1_ n2_ n3_ n4_ n5_
           refine start_ (n := 9) (S := fun w' => w'.cell? ⟨gb650, 0, none⟩ = some (.int .i64 x6_1) ∧ w'.cell? ⟨gb650, 1, none⟩ = some (.int .i64 t647) ∧ w'.cell? ⟨gb650, 2, none⟩ = some (u651002)) (ds := [8]) #[O,O,O,O,O,O,O,O,O] (by kernel_rfl) rfl rfl ⟨(blk_cell BK650.out 0).trans rfl, (blk_cell BK650.out 1).trans rfl, (blk_cell BK650.out 2).trans rfl⟩ (fun hHeld => ?_); refine with_tabW spec_l1Cur_hunks.tab8 spec_l1Cur_hunks.bits8 (fun HT_ HW_ => ?_)
           generalize wr.drew = w21 at HO_5 HO_651002 BK650 HI0 HK HB hHeld ⊢
           refine pure_ (i := 0) (N := some 36) (v := ?_) (a' := ?_) #[Y,O,O,O,O,O,O,O,O] rfl rfl zx (fun _ _ _ h => h) (Or.inl ⟨by rfl, ?_⟩) ?_ ?_
           rotate_left; (intro w'; go_simp; with_reducible rfl); rotate_left; (simp only [Act.put,qa,qb,qc,i64_w,i32_w]; rfl)
           refine pure_ (i := 2) (N := some 38) (v := ?_) (a' := ?_) #[Y,O,Y,O,O,O,O,O,O] rfl rfl zx (fun _ _ _ h => h) (Or.inl ⟨by rfl, ?_⟩) ?_ ?_
           rotate_left; (intro w'; go_simp; with_reducible rfl); rotate_left; (simp only [Act.put,qa,qb,qc,i64_w,i32_w]; rfl)
           refine take_ (i := 1) (N := some 37) (v := ?_) (a' := ?_) #[Y,Y,Y,O,O,O,O,O,O] rfl rfl (take_ofW HT_.out HW_.out (by kernel_rfl)) (fun _ _ _ h => h) (Or.inl ⟨by rfl, ?_⟩) hHeld ?_ ?_
           rotate_left; (rintro w' ⟨s0, s1, s2⟩; go_simp; with_reducible rfl); rotate_left; (simp only [Act.put,qa,qb,qc,i64_w,i32_w]; rfl)
           refine one_ (i := 3) (N := some 39) #[Y,Y,Y,Y,O,O,O,O,O] rfl rfl (one_of HT_.out (by kernel_rfl)) (by decide) (fun K hK => ?_)
           refine goes_ Try.func190 (by kernel_rfl) rfl #[.pointer (some ⟨g, 0, none⟩)] (by rfl) rfl rfl zm ?_
           with_reducible refine (spec_l1Cur_line.calls g s0_0 x1001_3 x1002_3 t654 t655 t656 w0 _ ?side1 ?side2 A18.out).mono ?_
           (case side1 => repeat (first | (with_reducible first | exact HI0.out | apply IsS122.alloc | apply IsS122.drewN | apply IsS122.drew | apply IsS122.set_1 | apply IsS122.set_2 | refine IsS122.far ?_ NB0_650.out _) | exact HI0.out))
           (case side2 => repeat (first | (with_reducible first | exact HB.out | apply below_alloc | apply pw_below_drewN | apply below_drew1 | refine below_set ?_ (IsS122.ge HI0.out) | refine below_set ?_ GE650.out) | exact HB.out))
           rintro e w22 ⟨rfl, hi, hb, hk⟩
           refine ⟨_, rfl, ?_⟩
           have n0_ := Aside0.mk (Kd.S_mono (Kd.S_keep (IsS122.apartS (show IsS122 w0 _ g s0_0 x1001_3 x1002_3 from by repeat (first | (with_reducible first | exact HI0.out | apply IsS122.alloc | apply IsS122.drewN | apply IsS122.drew | apply IsS122.set_1 | apply IsS122.set_2 | refine IsS122.far ?_ NB0_650.out _) | exact HI0.out)) (zs HO_5.out) (by decide)) hk (fun _ h => h.2)) (fun _ h => h.1))
           have n1_ := Aside0.mk (Kd.R_mono (Kd.R_keep (IsS122.apart (show IsS122 w0 _ g s0_0 x1001_3 x1002_3 from by repeat (first | (with_reducible first | exact HI0.out | apply IsS122.alloc | apply IsS122.drewN | apply IsS122.drew | apply IsS122.set_1 | apply IsS122.set_2 | refine IsS122.far ?_ NB0_650.out _) | exact HI0.out)) (zr HO_651002.out) (by decide)) hk (fun _ h => h.2)) (fun _ h => h.1))
           have n2_ := Aside0.mk (KeepBut.blk hk (g' := gb650) (o := .cells #[.int .i64 x6_1, .int .i64 t647, u651002] 111 (0, 0)) (zk BK650.out) NB650_0.out (by simp))
           have n3_ := Aside0.mk (KeepBut.trans (by repeat (first | (with_reducible first | exact HK.out | apply KeepBut.set_ | apply keep_drewN | apply keep_drew | apply keep_alloc | refine keep_far ?_ GW650.out _) | exact HK.out)) hk (.inl rfl))
           have n4_ := Aside0.mk (hb)
           have n5_ := Aside0.mk (hi)
           clear HO_5
           clear HO_651002
           clear BK650
           clear HK
           clear HB
           clear HI0
           have HO_5 := n0_
           have HO_651002 := n1_
           have BK650 := n2_
           have HK := n3_
           have HB := n4_
           have HI0 := n5_
           clear n0_ n1_ n2_ n3_ n4_ n5_
           (try clear hb)
           (try clear hb2)
           (try clear hk)
           (try clear hi)
           refine hK.out _ _ ⟨(blk_cell BK650.out 0).trans rfl, (blk_cell BK650.out 1).trans rfl, (blk_cell BK650.out 2).trans rfl⟩ (fun hHeld => ?_)
           clear hK K
           refine norm_ (a' := ?_) ?_ ?_
           rotate_left
           ·show Act.put _ (some 39) _ = _
            simp only [Act.put,qa,qb,qc,i64_w,i32_w]
            rfl
           refine pure_ (i := 4) (N := some 40) (v := ?_) (a' := ?_) #[Y,Y,Y,Y,Y,O,O,O,O] rfl rfl zx (fun _ _ _ h => h) (Or.inl ⟨by rfl, ?_⟩) ?_ ?_
           rotate_left; (intro w'; go_simp; with_reducible rfl); rotate_left; (simp only [Act.put,qa,qb,qc,i64_w,i32_w]; rfl)
           refine one_ (i := 5) (N := some 41) #[Y,Y,Y,Y,Y,Y,O,O,O] rfl rfl (one_of HT_.out (by kernel_rfl)) (by decide) (fun K hK => ?_)
           refine value_ (w1 := ?_) (v := ?_) (by rfl) rfl ?_ ?_
           rotate_left 2
           ·go_simp
            constructor
            ·rfl
            ·rfl
           refine hK.out _ _ ⟨(blk_cell (blk_alloc BK650.out _) 0).trans rfl, (blk_cell (blk_alloc BK650.out _) 1).trans rfl, (blk_cell (blk_alloc BK650.out _) 2).trans rfl⟩ (fun hHeld => ?_)
           clear hK K
           refine norm_ (a' := ?_) ?_ ?_
           rotate_left
           ·show Act.put _ (some 41) _ = _
            simp only [Act.put,qa,qb,qc,i64_w,i32_w]
            rfl
           refine one_ (i := 6) (N := some 42) #[Y,Y,Y,Y,Y,Y,Y,O,O] rfl rfl (one_of HT_.out (by kernel_rfl)) (by decide) (fun K hK => ?_)
           refine Kd.R_append_step Kd.string w.heap.size (by rfl) (.tmp 37) (.tmp 41) 22 9 (.string ⟨#[]⟩) 16 rfl Try.underlying22 info9 rfl (by decide) (by omega) u651002 x651002_3 (t654 ++ (⟨#[10]⟩ : ByteArray)) [.string (t654 ++ (⟨#[10]⟩ : ByteArray))] (fun _ => True) (fun _ => False) rfl rfl ?aP (fun _ hk => hk.elim) ?aF ?aO (Below.refl _ _) ?aS ?aL ?_
           (case aP => exact rfl)
           (case aF => exact (fun _ _ => trivial))
           (case aO => exact (zr HO_651002.out))
           (case aS => exact (keep_size (w := w) (g := g) (row := none) (by repeat (first | (with_reducible first | exact HK.out | apply KeepBut.set_ | apply keep_drewN | apply keep_drew | apply keep_alloc | refine keep_far ?_ GW650.out _) | exact HK.out))))
           (case aL => have := LMc20.out; omega)
           intro v658 w23 ho hb hg hat
           rw [← Ny657.out] at ho
           have n0_ := Aside0.mk (Kd.S_after (ok := (fun k_ => k_ ≠ gb650)) (by (with_reducible repeat (first | apply Kd.S_alloc | apply Kd.S_drewN | apply Kd.S_drew)); exact Kd.S_mono HO_5.out (fun _ hk => ⟨hk.2, hk.1⟩)) hg hat)
           have n1_ := Aside0.mk (blk_grown (g := gb650) (o := .cells #[.int .i64 x6_1, .int .i64 t647, u651002] 111 (0, 0)) (zk BK650.out) hg (Kd.R_ne HO_651002.out BK650.out (by decide)))
           have n2_ := Aside0.mk (IsS122.grown (by repeat (first | (with_reducible first | exact HI0.out | apply IsS122.alloc | apply IsS122.drewN | apply IsS122.drew | apply IsS122.set_1 | apply IsS122.set_2 | refine IsS122.far ?_ NB0_650.out _) | exact HI0.out)) hg (IsS122.own_ne HI0.out HO_651002.out (by decide)))
           have n3_ := Aside0.mk (below_weaken (by repeat (first | (with_reducible first | exact HB.out | apply below_alloc | apply pw_below_drewN | apply below_drew1 | refine below_set ?_ (IsS122.ge HI0.out) | refine below_set ?_ GE650.out) | exact HB.out)) HL.out hb)
           have n4_ := Aside0.mk (KeepBut.trans (by repeat (first | (with_reducible first | exact HK.out | apply KeepBut.set_ | apply keep_drewN | apply keep_drew | apply keep_alloc | refine keep_far ?_ GW650.out _) | exact HK.out)) (KeepBut.of_grown hg g) (Kd.R_base2 HO_651002.out))
           have n5_ := Aside0.mk (ho)
           clear HO_5
           clear BK650
           clear HI0
           clear HB
           clear HK
           clear HO_651002
           have HO_5 := n0_
           have BK650 := n1_
           have HI0 := n2_
           have HB := n3_
           have HK := n4_
           have HO659 := n5_
           clear n0_ n1_ n2_ n3_ n4_ n5_
           clear ho hb hg hat
           obtain ⟨Ao24, co24, eo24⟩ := Kd.R_slice HO659.out
           (first | subst eo24 | (injection eo24 with f1_ f2_ f3_; have f4_ := f1_.symm; have f5_ := f3_.symm; clear f1_ f2_ f3_; subst f4_; subst f5_))
           refine hK.out _ _ ⟨(blk_cell BK650.out 0).trans rfl, (blk_cell BK650.out 1).trans rfl, (blk_cell BK650.out 2).trans rfl⟩ (fun hHeld => ?_)
           clear hK K
           refine norm_ (a' := ?_) ?_ ?_
           rotate_left
           ·show Act.put _ (some 42) _ = _
            simp only [Act.put,qa,qb,qc,i64_w,i32_w]
            rfl
           refine pure_ (i := 7) (N := some 43) (v := ?_) (a' := ?_) #[Y,Y,Y,Y,Y,Y,Y,Y,O] rfl rfl zx (fun _ _ _ h => h) (Or.inl ⟨by rfl, ?_⟩) ?_ ?_
           rotate_left; (intro w'; go_simp; with_reducible rfl); rotate_left; (simp only [Act.put,qa,qb,qc,i64_w,i32_w]; rfl)
           refine last_ (i := 8) (N := none) #[Y,Y,Y,Y,Y,Y,Y,Y,Y] rfl rfl (one_of HT_.out (by kernel_rfl)) (by decide) (fun K hK => ?_)
           have hs25 : w23.cell? ⟨gb650, 2, none⟩ = some (u651002) := (blk_cell BK650.out 2).trans rfl
           have hfs25 := blk_frozen BK650.out 2
           refine skip_ (w1 := ?_) (by rfl) rfl ?_ ?_
           rotate_left
           ·go_simp
            rfl
           refine hK.out _ _ ?_
           clear hK K
           refine done_ (done_of HT_.out (by kernel_rfl)) ?_
           try go_wp2
           go_roundg k3
           case measure => have := HK1.out; have := HJ4.out; have := HK3.out; omega
           case rel => exact ⟨(wrap64 (x8_3 - 1)), (t655), (t656), (y657), (.slice Ao24 y657.length co24), zf, H', ⟨by have := HK1.out; have := HJ4.out; have := HK3.out; omega⟩, ⟨by (with_reducible repeat (first | apply Kd.S_alloc | apply Kd.S_drewN | apply Kd.S_drew)); exact Kd.S_mono (Kd.S_far (p := ⟨gb650, 2, none⟩) (Kd.S_mono HO_5.out (fun k_ hk => (⟨hk, hk.1⟩ : _ ∧ k_ ≠ gb650))) (fun _ hk => hk.2) (.slice Ao24 y657.length co24)) (fun _ hk => ⟨hk.1.2, hk.1.1⟩)⟩, ⟨by (with_reducible repeat (first | apply Kd.R_alloc | apply Kd.R_drewN | apply Kd.R_drew)); exact Kd.R_mono (Kd.R_far (p := ⟨gb650, 2, none⟩) (Kd.R_types HO659.out BK650.out (by decide)) (fun _ hk => hk.2) (.slice Ao24 y657.length co24)) (fun _ hk => trivial)⟩, ⟨by (with_reducible repeat (first | refine blk_drewN ?_ _ | refine blk_drew ?_ | refine blk_alloc ?_ _)); refine blk_put (cs := #[.int .i64 x6_1, .int .i64 t647, u651002]) ?_ 2 _ rfl; (with_reducible repeat (first | refine blk_drewN ?_ _ | refine blk_drew ?_ | refine blk_alloc ?_ _)); exact BK650.out⟩, ⟨by repeat (first | (with_reducible first | exact HI0.out | apply IsS122.alloc | apply IsS122.drewN | apply IsS122.drew | apply IsS122.set_1 | apply IsS122.set_2 | refine IsS122.far ?_ NB0_650.out _) | exact HI0.out)⟩, ⟨by repeat (first | (with_reducible first | exact HK.out | apply KeepBut.set_ | apply keep_drewN | apply keep_drew | apply keep_alloc | refine keep_far ?_ GW650.out _) | exact HK.out)⟩, ⟨by repeat (first | (with_reducible first | exact HB.out | apply below_alloc | apply pw_below_drewN | apply below_drew1 | refine below_set ?_ (IsS122.ge HI0.out) | refine below_set ?_ GE650.out) | exact HB.out)⟩⟩
          ·rw [if_neg c20] at H
           exact absurd H (by simp)
         ·rw [if_neg c19] at H
          exact absurd H (by simp)
        ·rw [if_neg c17] at H
         have c17b0 : decide (0 < x8_3) = false := decide_eq_false c17
         clear c17
         by_cases c26 : (wrap64 (t647 + (x651002_3.length : Int))) > 0
         ·rw [if_pos c26] at H
          have c26b0 : decide (0 < (wrap64 (t647 + (x651002_3.length : Int)))) = true := decide_eq_true c26
          clear c26
          by_cases c27 : (wrap64 (x6_1 + t647)) < (l1.length : Int)
          ·rw [if_pos c27] at H
           have c27b0 : decide ((wrap64 (x6_1 + t647)) < (l1.length : Int)) = true := decide_eq_true c27
           clear c27
           by_cases c28 : x5_1.length < 3518437208883
           ·rw [if_pos c28] at H
            have LMc28 := Aside0.mk c28
            clear c28
            obtain ⟨y660, hy660⟩ : ∃ y_ : List (S111), y_ = (x5_1 ++ [(⟨x6_1, t647, x651002_3⟩ : S111)]) := ⟨_, rfl⟩
            replace H : ((spec_l1Cur_pick.f s0_0 x1001_3 x1002_3 3).bind fun bt663 => (spec_l1Cur_hunks.l0 k3 l1 y660 (wrap64 (x6_1 + (wrap64 ((wrap64 (t647 + 1)) + bt663.1)))) s0_0 bt663.2.1 bt663.2.2)) = some (r1, r2, r3) := by first | (rw [hy660]; with_reducible exact H) | (have H2_ := (Option.bind_some _ _).symm.trans H; rw [hy660]; with_reducible exact H2_) | (have H2_ := (Option.bind_some _ _).symm.trans H; with_reducible exact H2_) | with_reducible exact H | (rw [hy660]; exact H) | exact H
            have Ny660 := Aside0.mk hy660
            clear hy660
            replace H := Option.bind_eq_some_iff.mp H
            obtain ⟨⟨t663, t664, t665⟩, A290, H⟩ := H
            replace H : (spec_l1Cur_hunks.l0 k3 l1 y660 (wrap64 (x6_1 + (wrap64 ((wrap64 (t647 + 1)) + t663)))) s0_0 t664 t665) = some (r1, r2, r3) := H
            have A29 := Aside0.mk A290
            clear A290
            have H' := Aside0.mk H
            clear H
            have hnb30 := NB650_0.out
            have hnc30 := NB0_650.out
            have hcz31_0 : wr.cell? ⟨gb650, 0, none⟩ = some (.int .i64 x6_1) := (blk_cell BK650.out 0).trans rfl
            have hcz31_1 : wr.cell? ⟨gb650, 1, none⟩ = some (.int .i64 t647) := (blk_cell BK650.out 1).trans rfl
            have hcz31_2 : wr.cell? ⟨gb650, 2, none⟩ = some (u651002) := (blk_cell BK650.out 2).trans rfl
            have hfz31_0 := blk_frozen BK650.out 0
            have hfz31_1 := blk_frozen BK650.out 1
            have hfz31_2 := blk_frozen BK650.out 2
            obtain ⟨Ao32, co32, eo32⟩ := Kd.R_slice HO_651002.out
            subst eo32
            try go_wp2_with (first | ((with_reducible refine gateB (b := .append) (xs := #[.tmp 69, .tmp 71]) rfl ?_); (try (refine gate_guard (by rfl) ?_; dsimp only)); at_builtin; refine Kd.S_append k111 w.heap.size rfl (.tmp 69) (.tmp 71) 39 111 (.agg #[(.int .i64 0), (.int .i64 0), (.slice none 0 0)]) 40 rfl Try.underlying39 info111 rfl (by decide) (by omega) u5 x5_1 (⟨x6_1, t647, x651002_3⟩ : S111) [.int .i64 x6_1, .int .i64 t647, .slice Ao32 x651002_3.length co32] (fun k_ => k_ ≠ gb650) (fun k_ => some k_ = (.slice Ao32 x651002_3.length co32 : Value).ownBlock) rfl rfl ?aP (fun k_ hk_ => ((Kd.R_mono (ok' := fun k_ => ((fun k_ => k_ ≠ gb650)) k_ ∧ some k_ ≠ (u5 : Value).ownBlock) (Kd.R_types (Kd.R_apart' (HO_651002.out) (Kd.S_typed HO_5.out) (by decide)) BK650.out (by decide)) (fun k_ hk => ⟨hk.2, hk.1.2⟩))).1 k_ hk_.symm) ?aF ?aO (Below.refl _ _) ?aS ?aL ?_; (case aP => exact k111_mkM _ _ _ (⟨x6_1, t647, x651002_3⟩ : S111) (Kd.R_mono (Kd.R_tight rfl (Kd.R_mono (ok' := fun k_ => ((fun k_ => k_ ≠ gb650)) k_ ∧ some k_ ≠ (u5 : Value).ownBlock) (Kd.R_types (Kd.R_apart' (HO_651002.out) (Kd.S_typed HO_5.out) (by decide)) BK650.out (by decide)) (fun k_ hk => ⟨hk.2, hk.1.2⟩))) (fun _ h_ => h_))); (case aF => exact (fun k_ hk => Kd.freshB (g := gb650) (o := .cells #[.int .i64 x6_1, .int .i64 t647, .slice Ao32 x651002_3.length co32] 111 (0, 0)) (zk BK650.out) k_ hk)); (case aO => exact (by (with_reducible repeat (first | apply Kd.S_alloc | apply Kd.S_drewN | apply Kd.S_drew)); exact Kd.S_mono HO_5.out (fun k_ hk => ⟨hk.2, fun e_ => hk.1 e_⟩))); (case aS => exact (keep_size (w := w) (g := g) (row := none) (by repeat (first | (with_reducible first | exact HK.out | apply KeepBut.set_ | apply keep_drewN | apply keep_drew | apply keep_alloc | refine keep_far ?_ GW650.out _) | exact HK.out)))); (case aL => have := LMc28.out; omega); intro v661 w33 ho hb hg hat; rw [← Ny660.out] at ho; have n0_ := Aside0.mk (blk_grown (g := gb650) (o := .cells #[.int .i64 x6_1, .int .i64 t647, .slice Ao32 x651002_3.length co32] 111 (0, 0)) (zk BK650.out) hg (Kd.S_away HO_5.out (fun _ hk => hk.2))); have n1_ := Aside0.mk (IsS122.grown (by repeat (first | (with_reducible first | exact HI0.out | apply IsS122.alloc | apply IsS122.drewN | apply IsS122.drew | apply IsS122.set_1 | apply IsS122.set_2 | refine IsS122.far ?_ NB0_650.out _) | exact HI0.out)) hg (IsS122.own_neS HI0.out HO_5.out (by decide))); have n2_ := Aside0.mk (below_weaken (by repeat (first | (with_reducible first | exact HB.out | apply below_alloc | apply pw_below_drewN | apply below_drew1 | refine below_set ?_ (IsS122.ge HI0.out) | refine below_set ?_ GE650.out) | exact HB.out)) HL.out hb); have n3_ := Aside0.mk (KeepBut.trans (by repeat (first | (with_reducible first | exact HK.out | apply KeepBut.set_ | apply keep_drewN | apply keep_drew | apply keep_alloc | refine keep_far ?_ GW650.out _) | exact HK.out)) (KeepBut.of_grown hg g) (Kd.S_base2 HO_5.out)); have n4_ := Aside0.mk (ho); clear BK650; clear HI0; clear HB; clear HK; clear HO_5; clear HO_651002; have BK650 := n0_; have HI0 := n1_; have HB := n2_; have HK := n3_; have HO662 := n4_; clear n0_ n1_ n2_ n3_ n4_; clear ho hb hg hat))
            have n0_ := Aside0.mk (Kd.S_drew HO662.out)
            have n1_ := Aside0.mk (blk_drew BK650.out)
            have n2_ := Aside0.mk (IsS122.drew HI0.out)
            have n3_ := Aside0.mk (keep_drew HK.out)
            have n4_ := Aside0.mk (below_drew1 HB.out)
            clear HO662
            clear BK650
            clear HI0
            clear HK
            clear HB
            have HO662 := n0_
            have BK650 := n1_
            have HI0 := n2_
            have HK := n3_
            have HB := n4_
            clear n0_ n1_ n2_ n3_ n4_
            refine start_ (n := 9) (S := fun w' => w'.cell? ⟨gb650, 0, none⟩ = some (.int .i64 x6_1) ∧ w'.cell? ⟨gb650, 1, none⟩ = some (.int .i64 t647) ∧ w'.cell? ⟨gb650, 2, none⟩ = some (.slice Ao32 x651002_3.length co32)) (ds := []) #[O,O,O,O,O,O,O,O,O] (by kernel_rfl) rfl rfl ⟨(blk_cell BK650.out 0).trans rfl, (blk_cell BK650.out 1).trans rfl, (blk_cell BK650.out 2).trans rfl⟩ (fun hHeld => ?_); refine with_tabW spec_l1Cur_hunks.tab11 spec_l1Cur_hunks.bits11 (fun HT_ HW_ => ?_)
            generalize w33.drew = w34 at HO662 BK650 HI0 HK HB hHeld ⊢
            refine pure_ (i := 0) (N := some 73) (v := ?_) (a' := ?_) #[Y,O,O,O,O,O,O,O,O] rfl rfl zx (fun _ _ _ h => h) (Or.inl ⟨by rfl, ?_⟩) ?_ ?_
            rotate_left; (intro w'; go_simp; with_reducible rfl); rotate_left; (simp only [Act.put,qa,qb,qc,i64_w,i32_w]; rfl)
            refine pure_ (i := 1) (N := some 74) (v := ?_) (a' := ?_) #[Y,Y,O,O,O,O,O,O,O] rfl rfl zx (fun _ _ _ h => h) (Or.inl ⟨by rfl, ?_⟩) ?_ ?_
            rotate_left; (intro w'; go_simp; with_reducible rfl); rotate_left; (simp only [Act.put,qa,qb,qc,i64_w,i32_w]; rfl)
            refine pure_ (i := 4) (N := some 77) (v := ?_) (a' := ?_) #[Y,Y,O,O,Y,O,O,O,O] rfl rfl zx (fun _ _ _ h => h) (Or.inl ⟨by rfl, ?_⟩) ?_ ?_
            rotate_left; (intro w'; go_simp; with_reducible rfl); rotate_left; (simp only [Act.put,qa,qb,qc,i64_w,i32_w]; rfl)
            refine take_ (i := 2) (N := some 75) (v := ?_) (a' := ?_) #[Y,Y,Y,O,Y,O,O,O,O] rfl rfl (take_ofW HT_.out HW_.out (by kernel_rfl)) (fun _ _ _ h => h) (Or.inl ⟨by rfl, ?_⟩) hHeld ?_ ?_
            rotate_left; (rintro w' ⟨s0, s1, s2⟩; go_simp; with_reducible rfl); rotate_left; (simp only [Act.put,qa,qb,qc,i64_w,i32_w]; rfl)
            refine pure_ (i := 3) (N := some 76) (v := ?_) (a' := ?_) #[Y,Y,Y,Y,Y,O,O,O,O] rfl rfl zx (fun _ _ _ h => h) (Or.inl ⟨by rfl, ?_⟩) ?_ ?_
            rotate_left; (intro w'; go_simp; with_reducible rfl); rotate_left; (simp only [Act.put,qa,qb,qc,i64_w,i32_w]; rfl)
            refine one_ (i := 5) (N := some 78) #[Y,Y,Y,Y,Y,Y,O,O,O] rfl rfl (one_of HT_.out (by kernel_rfl)) (by decide) (fun K hK => ?_)
            refine goes_ Try.func113 (by kernel_rfl) rfl #[.pointer (some ⟨g, 0, none⟩), .int .i64 3] (by rfl) rfl rfl zm ?_
            with_reducible refine (spec_l1Cur_pick.calls g s0_0 x1001_3 x1002_3 3 t663 t664 t665 w0 _ ?side1 ?side2 A29.out).mono ?_
            (case side1 => repeat (first | (with_reducible first | exact HI0.out | apply IsS122.alloc | apply IsS122.drewN | apply IsS122.drew | apply IsS122.set_1 | apply IsS122.set_2 | refine IsS122.far ?_ NB0_650.out _) | exact HI0.out))
            (case side2 => repeat (first | (with_reducible first | exact HB.out | apply below_alloc | apply pw_below_drewN | apply below_drew1 | refine below_set ?_ (IsS122.ge HI0.out) | refine below_set ?_ GE650.out) | exact HB.out))
            rintro e w35 ⟨rfl, hi, hb, hk⟩
            refine ⟨_, rfl, ?_⟩
            have n0_ := Aside0.mk (KeepBut.blk hk (g' := gb650) (o := .cells #[.int .i64 x6_1, .int .i64 t647, .slice Ao32 x651002_3.length co32] 111 (0, 0)) (zk BK650.out) NB650_0.out (by simp))
            have n1_ := Aside0.mk (Kd.S_mono (Kd.S_keep (IsS122.apartS (show IsS122 w0 _ g s0_0 x1001_3 x1002_3 from by repeat (first | (with_reducible first | exact HI0.out | apply IsS122.alloc | apply IsS122.drewN | apply IsS122.drew | apply IsS122.set_1 | apply IsS122.set_2 | refine IsS122.far ?_ NB0_650.out _) | exact HI0.out)) (zs HO662.out) (by decide)) hk (fun _ h => h.2)) (fun _ h => h.1))
            have n2_ := Aside0.mk (KeepBut.trans (by repeat (first | (with_reducible first | exact HK.out | apply KeepBut.set_ | apply keep_drewN | apply keep_drew | apply keep_alloc | refine keep_far ?_ GW650.out _) | exact HK.out)) hk (.inl rfl))
            have n3_ := Aside0.mk (hb)
            have n4_ := Aside0.mk (hi)
            clear BK650
            clear HO662
            clear HK
            clear HB
            clear HI0
            have BK650 := n0_
            have HO662 := n1_
            have HK := n2_
            have HB := n3_
            have HI0 := n4_
            clear n0_ n1_ n2_ n3_ n4_
            (try clear hb)
            (try clear hb2)
            (try clear hk)
            (try clear hi)
            refine hK.out _ _ ⟨(blk_cell BK650.out 0).trans rfl, (blk_cell BK650.out 1).trans rfl, (blk_cell BK650.out 2).trans rfl⟩ (fun hHeld => ?_)
            clear hK K
            refine norm_ (a' := ?_) ?_ ?_
            rotate_left
            ·show Act.put _ (some 78) _ = _
             simp only [Act.put,qa,qb,qc,i64_w,i32_w]
             rfl
            refine pure_ (i := 6) (N := some 79) (v := ?_) (a' := ?_) #[Y,Y,Y,Y,Y,Y,Y,O,O] rfl rfl zx (fun _ _ _ h => h) (Or.inl ⟨by rfl, ?_⟩) ?_ ?_
            rotate_left; (intro w'; go_simp; with_reducible rfl); rotate_left; (simp only [Act.put,qa,qb,qc,i64_w,i32_w]; rfl)
            refine pure_ (i := 7) (N := some 80) (v := ?_) (a' := ?_) #[Y,Y,Y,Y,Y,Y,Y,Y,O] rfl rfl zx (fun _ _ _ h => h) (Or.inl ⟨by rfl, ?_⟩) ?_ ?_
            rotate_left; (intro w'; go_simp; with_reducible rfl); rotate_left; (simp only [Act.put,qa,qb,qc,i64_w,i32_w]; rfl)
            refine pure_ (i := 8) (N := some 6) (v := ?_) (a' := ?_) #[Y,Y,Y,Y,Y,Y,Y,Y,Y] rfl rfl zx (fun _ _ _ h => h) (Or.inl ⟨by rfl, ?_⟩) ?_ ?_
            rotate_left; (intro w'; go_simp; with_reducible rfl); rotate_left; (simp only [Act.put,qa,qb,qc,i64_w,i32_w]; rfl)
            refine done_ (done_of HT_.out (by kernel_rfl)) ?_
            try go_wp2
            go_roundg k3
            case measure => have := HK1.out; have := HJ4.out; have := HK3.out; omega
            case rel => exact ⟨(y660), (wrap64 (x6_1 + (wrap64 ((wrap64 (t647 + 1)) + t663)))), (t664), (t665), zf, H', ⟨by have := HK1.out; have := HJ4.out; have := HK3.out; omega⟩, ⟨by (with_reducible repeat (first | apply Kd.S_alloc | apply Kd.S_drewN | apply Kd.S_drew)); exact Kd.S_mono HO662.out (fun _ hk => trivial)⟩, ⟨by repeat (first | (with_reducible first | exact HI0.out | apply IsS122.alloc | apply IsS122.drewN | apply IsS122.drew | apply IsS122.set_1 | apply IsS122.set_2 | refine IsS122.far ?_ NB0_650.out _) | exact HI0.out)⟩, ⟨by repeat (first | (with_reducible first | exact HK.out | apply KeepBut.set_ | apply keep_drewN | apply keep_drew | apply keep_alloc | refine keep_far ?_ GW650.out _) | exact HK.out)⟩, ⟨by repeat (first | (with_reducible first | exact HB.out | apply below_alloc | apply pw_below_drewN | apply below_drew1 | refine below_set ?_ (IsS122.ge HI0.out) | refine below_set ?_ GE650.out) | exact HB.out)⟩⟩
           ·rw [if_neg c28] at H
            exact absurd H (by simp)
          ·rw [if_neg c27] at H
           have c27b0 : decide ((wrap64 (x6_1 + t647)) < (l1.length : Int)) = false := decide_eq_false c27
           clear c27
           replace H := Option.bind_eq_some_iff.mp H
           obtain ⟨t666, A360, H⟩ := H
           replace H : (if t666 = true then (if x5_1.length < 3518437208883 then ((spec_l1Cur_pick.f s0_0 x1001_3 x1002_3 3).bind fun bt670 => (spec_l1Cur_hunks.l0 k3 l1 (x5_1 ++ [(⟨x6_1, t647, x651002_3⟩ : S111)]) (wrap64 (x6_1 + (wrap64 ((wrap64 (t647 + 1)) + bt670.1)))) s0_0 bt670.2.1 bt670.2.2)) else (none)) else (if t647 > 0 then (if x5_1.length < 3518437208883 then ((spec_l1Cur_pick.f s0_0 x1001_3 x1002_3 3).bind fun bt676 => (spec_l1Cur_hunks.l0 k3 l1 (x5_1 ++ [(⟨x6_1, t647, x651002_3⟩ : S111)]) (wrap64 (x6_1 + (wrap64 ((wrap64 (t647 + 1)) + bt676.1)))) s0_0 bt676.2.1 bt676.2.2)) else (none)) else ((spec_l1Cur_pick.f s0_0 x1001_3 x1002_3 3).bind fun bt679 => (spec_l1Cur_hunks.l0 k3 l1 x5_1 (wrap64 (x6_1 + (wrap64 ((wrap64 (t647 + 1)) + bt679.1)))) s0_0 bt679.2.1 bt679.2.2)))) = some (r1, r2, r3) := H
           have A36 := Aside0.mk A360
           clear A360
           by_cases c37 : t666 = true
           ·subst c37
            have H1 : (if x5_1.length < 3518437208883 then ((spec_l1Cur_pick.f s0_0 x1001_3 x1002_3 3).bind fun bt670 => (spec_l1Cur_hunks.l0 k3 l1 (x5_1 ++ [(⟨x6_1, t647, x651002_3⟩ : S111)]) (wrap64 (x6_1 + (wrap64 ((wrap64 (t647 + 1)) + bt670.1)))) s0_0 bt670.2.1 bt670.2.2)) else (none)) = some (r1, r2, r3) := by rw [if_pos rfl] at H; exact H
            clear H
            have H := H1
            clear H1
            by_cases c38 : x5_1.length < 3518437208883
            ·rw [if_pos c38] at H
             have LMc38 := Aside0.mk c38
             clear c38
             obtain ⟨y667, hy667⟩ : ∃ y_ : List (S111), y_ = (x5_1 ++ [(⟨x6_1, t647, x651002_3⟩ : S111)]) := ⟨_, rfl⟩
             replace H : ((spec_l1Cur_pick.f s0_0 x1001_3 x1002_3 3).bind fun bt670 => (spec_l1Cur_hunks.l0 k3 l1 y667 (wrap64 (x6_1 + (wrap64 ((wrap64 (t647 + 1)) + bt670.1)))) s0_0 bt670.2.1 bt670.2.2)) = some (r1, r2, r3) := by first | (rw [hy667]; with_reducible exact H) | (have H2_ := (Option.bind_some _ _).symm.trans H; rw [hy667]; with_reducible exact H2_) | (have H2_ := (Option.bind_some _ _).symm.trans H; with_reducible exact H2_) | with_reducible exact H | (rw [hy667]; exact H) | exact H
             have Ny667 := Aside0.mk hy667
             clear hy667
             replace H := Option.bind_eq_some_iff.mp H
             obtain ⟨⟨t670, t671, t672⟩, A390, H⟩ := H
             replace H : (spec_l1Cur_hunks.l0 k3 l1 y667 (wrap64 (x6_1 + (wrap64 ((wrap64 (t647 + 1)) + t670)))) s0_0 t671 t672) = some (r1, r2, r3) := H
             have A39 := Aside0.mk A390
             clear A390
             have H' := Aside0.mk H
             clear H
             have hnb40 := NB650_0.out
             have hnc40 := NB0_650.out
             have hcz41_0 : wr.cell? ⟨gb650, 0, none⟩ = some (.int .i64 x6_1) := (blk_cell BK650.out 0).trans rfl
             have hcz41_1 : wr.cell? ⟨gb650, 1, none⟩ = some (.int .i64 t647) := (blk_cell BK650.out 1).trans rfl
             have hcz41_2 : wr.cell? ⟨gb650, 2, none⟩ = some (u651002) := (blk_cell BK650.out 2).trans rfl
             have hfz41_0 := blk_frozen BK650.out 0
             have hfz41_1 := blk_frozen BK650.out 1
             have hfz41_2 := blk_frozen BK650.out 2
             obtain ⟨Ao42, co42, eo42⟩ := Kd.R_slice HO_651002.out
             subst eo42
             try go_wp2_with (first | (go_at_call 191; (with_reducible refine (spec_l1Whole.calls _ _ l1 true _ ?side1 ?side2 A36.out).mono ?_); (case side1 => exact Kd.C_keep (⟨#[]⟩ : ByteArray) HR1.out (by repeat (first | (with_reducible first | exact HK.out | apply KeepBut.set_ | apply keep_drewN | apply keep_drew | apply keep_alloc | refine keep_far ?_ GW650.out _) | exact HK.out)) hf1); (case side2 => exact HC1.out); rintro e w' ⟨rfl, ⟨nd, rfl⟩⟩) | ((with_reducible refine gateB (b := .append) (xs := #[.tmp 69, .tmp 71]) rfl ?_); (try (refine gate_guard (by rfl) ?_; dsimp only)); at_builtin; refine Kd.S_append k111 w.heap.size rfl (.tmp 69) (.tmp 71) 39 111 (.agg #[(.int .i64 0), (.int .i64 0), (.slice none 0 0)]) 40 rfl Try.underlying39 info111 rfl (by decide) (by omega) u5 x5_1 (⟨x6_1, t647, x651002_3⟩ : S111) [.int .i64 x6_1, .int .i64 t647, .slice Ao42 x651002_3.length co42] (fun k_ => k_ ≠ gb650) (fun k_ => some k_ = (.slice Ao42 x651002_3.length co42 : Value).ownBlock) rfl rfl ?aP (fun k_ hk_ => ((Kd.R_mono (ok' := fun k_ => ((fun k_ => k_ ≠ gb650)) k_ ∧ some k_ ≠ (u5 : Value).ownBlock) (Kd.R_types (Kd.R_apart' (HO_651002.out) (Kd.S_typed HO_5.out) (by decide)) BK650.out (by decide)) (fun k_ hk => ⟨hk.2, hk.1.2⟩))).1 k_ hk_.symm) ?aF ?aO (Below.refl _ _) ?aS ?aL ?_; (case aP => exact k111_mkM _ _ _ (⟨x6_1, t647, x651002_3⟩ : S111) (Kd.R_mono (Kd.R_tight rfl (Kd.R_mono (ok' := fun k_ => ((fun k_ => k_ ≠ gb650)) k_ ∧ some k_ ≠ (u5 : Value).ownBlock) (Kd.R_types (Kd.R_apart' (HO_651002.out) (Kd.S_typed HO_5.out) (by decide)) BK650.out (by decide)) (fun k_ hk => ⟨hk.2, hk.1.2⟩))) (fun _ h_ => h_))); (case aF => exact (fun k_ hk => Kd.freshB (g := gb650) (o := .cells #[.int .i64 x6_1, .int .i64 t647, .slice Ao42 x651002_3.length co42] 111 (0, 0)) (zk BK650.out) k_ hk)); (case aO => exact (by (with_reducible repeat (first | apply Kd.S_alloc | apply Kd.S_drewN | apply Kd.S_drew)); exact Kd.S_mono HO_5.out (fun k_ hk => ⟨hk.2, fun e_ => hk.1 e_⟩))); (case aS => exact (keep_size (w := w) (g := g) (row := none) (by repeat (first | (with_reducible first | exact HK.out | apply KeepBut.set_ | apply keep_drewN | apply keep_drew | apply keep_alloc | refine keep_far ?_ GW650.out _) | exact HK.out)))); (case aL => have := LMc38.out; omega); intro v668 w43 ho hb hg hat; rw [← Ny667.out] at ho; have n0_ := Aside0.mk (blk_grown (g := gb650) (o := .cells #[.int .i64 x6_1, .int .i64 t647, .slice Ao42 x651002_3.length co42] 111 (0, 0)) (zk BK650.out) hg (Kd.S_away HO_5.out (fun _ hk => hk.2))); have n1_ := Aside0.mk (IsS122.grown (by repeat (first | (with_reducible first | exact HI0.out | apply IsS122.alloc | apply IsS122.drewN | apply IsS122.drew | apply IsS122.set_1 | apply IsS122.set_2 | refine IsS122.far ?_ NB0_650.out _) | exact HI0.out)) hg (IsS122.own_neS HI0.out HO_5.out (by decide))); have n2_ := Aside0.mk (below_weaken (by repeat (first | (with_reducible first | exact HB.out | apply below_alloc | apply pw_below_drewN | apply below_drew1 | refine below_set ?_ (IsS122.ge HI0.out) | refine below_set ?_ GE650.out) | exact HB.out)) HL.out hb); have n3_ := Aside0.mk (KeepBut.trans (by repeat (first | (with_reducible first | exact HK.out | apply KeepBut.set_ | apply keep_drewN | apply keep_drew | apply keep_alloc | refine keep_far ?_ GW650.out _) | exact HK.out)) (KeepBut.of_grown hg g) (Kd.S_base2 HO_5.out)); have n4_ := Aside0.mk (ho); clear BK650; clear HI0; clear HB; clear HK; clear HO_5; clear HO_651002; have BK650 := n0_; have HI0 := n1_; have HB := n2_; have HK := n3_; have HO669 := n4_; clear n0_ n1_ n2_ n3_ n4_; clear ho hb hg hat))
             have n0_ := Aside0.mk (Kd.S_drew HO669.out)
             have n1_ := Aside0.mk (blk_drew BK650.out)
             have n2_ := Aside0.mk (IsS122.drew HI0.out)
             have n3_ := Aside0.mk (keep_drew HK.out)
             have n4_ := Aside0.mk (below_drew1 HB.out)
             clear HO669
             clear BK650
             clear HI0
             clear HK
             clear HB
             have HO669 := n0_
             have BK650 := n1_
             have HI0 := n2_
             have HK := n3_
             have HB := n4_
             clear n0_ n1_ n2_ n3_ n4_
             refine start_ (n := 9) (S := fun w' => w'.cell? ⟨gb650, 0, none⟩ = some (.int .i64 x6_1) ∧ w'.cell? ⟨gb650, 1, none⟩ = some (.int .i64 t647) ∧ w'.cell? ⟨gb650, 2, none⟩ = some (.slice Ao42 x651002_3.length co42)) (ds := []) #[O,O,O,O,O,O,O,O,O] (by kernel_rfl) rfl rfl ⟨(blk_cell BK650.out 0).trans rfl, (blk_cell BK650.out 1).trans rfl, (blk_cell BK650.out 2).trans rfl⟩ (fun hHeld => ?_); refine with_tabW spec_l1Cur_hunks.tab11 spec_l1Cur_hunks.bits11 (fun HT_ HW_ => ?_)
             generalize w43.drew = w44 at HO669 BK650 HI0 HK HB hHeld ⊢
             refine pure_ (i := 0) (N := some 73) (v := ?_) (a' := ?_) #[Y,O,O,O,O,O,O,O,O] rfl rfl zx (fun _ _ _ h => h) (Or.inl ⟨by rfl, ?_⟩) ?_ ?_
             rotate_left; (intro w'; go_simp; with_reducible rfl); rotate_left; (simp only [Act.put,qa,qb,qc,i64_w,i32_w]; rfl)
             refine pure_ (i := 1) (N := some 74) (v := ?_) (a' := ?_) #[Y,Y,O,O,O,O,O,O,O] rfl rfl zx (fun _ _ _ h => h) (Or.inl ⟨by rfl, ?_⟩) ?_ ?_
             rotate_left; (intro w'; go_simp; with_reducible rfl); rotate_left; (simp only [Act.put,qa,qb,qc,i64_w,i32_w]; rfl)
             refine pure_ (i := 4) (N := some 77) (v := ?_) (a' := ?_) #[Y,Y,O,O,Y,O,O,O,O] rfl rfl zx (fun _ _ _ h => h) (Or.inl ⟨by rfl, ?_⟩) ?_ ?_
             rotate_left; (intro w'; go_simp; with_reducible rfl); rotate_left; (simp only [Act.put,qa,qb,qc,i64_w,i32_w]; rfl)
             refine take_ (i := 2) (N := some 75) (v := ?_) (a' := ?_) #[Y,Y,Y,O,Y,O,O,O,O] rfl rfl (take_ofW HT_.out HW_.out (by kernel_rfl)) (fun _ _ _ h => h) (Or.inl ⟨by rfl, ?_⟩) hHeld ?_ ?_
             rotate_left; (rintro w' ⟨s0, s1, s2⟩; go_simp; with_reducible rfl); rotate_left; (simp only [Act.put,qa,qb,qc,i64_w,i32_w]; rfl)
             refine pure_ (i := 3) (N := some 76) (v := ?_) (a' := ?_) #[Y,Y,Y,Y,Y,O,O,O,O] rfl rfl zx (fun _ _ _ h => h) (Or.inl ⟨by rfl, ?_⟩) ?_ ?_
             rotate_left; (intro w'; go_simp; with_reducible rfl); rotate_left; (simp only [Act.put,qa,qb,qc,i64_w,i32_w]; rfl)
             refine one_ (i := 5) (N := some 78) #[Y,Y,Y,Y,Y,Y,O,O,O] rfl rfl (one_of HT_.out (by kernel_rfl)) (by decide) (fun K hK => ?_)
             refine goes_ Try.func113 (by kernel_rfl) rfl #[.pointer (some ⟨g, 0, none⟩), .int .i64 3] (by rfl) rfl rfl zm ?_
             with_reducible refine (spec_l1Cur_pick.calls g s0_0 x1001_3 x1002_3 3 t670 t671 t672 w0 _ ?side1 ?side2 A39.out).mono ?_
             (case side1 => repeat (first | (with_reducible first | exact HI0.out | apply IsS122.alloc | apply IsS122.drewN | apply IsS122.drew | apply IsS122.set_1 | apply IsS122.set_2 | refine IsS122.far ?_ NB0_650.out _) | exact HI0.out))
             (case side2 => repeat (first | (with_reducible first | exact HB.out | apply below_alloc | apply pw_below_drewN | apply below_drew1 | refine below_set ?_ (IsS122.ge HI0.out) | refine below_set ?_ GE650.out) | exact HB.out))
             rintro e w45 ⟨rfl, hi, hb, hk⟩
             refine ⟨_, rfl, ?_⟩
             have n0_ := Aside0.mk (KeepBut.blk hk (g' := gb650) (o := .cells #[.int .i64 x6_1, .int .i64 t647, .slice Ao42 x651002_3.length co42] 111 (0, 0)) (zk BK650.out) NB650_0.out (by simp))
             have n1_ := Aside0.mk (Kd.S_mono (Kd.S_keep (IsS122.apartS (show IsS122 w0 _ g s0_0 x1001_3 x1002_3 from by repeat (first | (with_reducible first | exact HI0.out | apply IsS122.alloc | apply IsS122.drewN | apply IsS122.drew | apply IsS122.set_1 | apply IsS122.set_2 | refine IsS122.far ?_ NB0_650.out _) | exact HI0.out)) (zs HO669.out) (by decide)) hk (fun _ h => h.2)) (fun _ h => h.1))
             have n2_ := Aside0.mk (KeepBut.trans (by repeat (first | (with_reducible first | exact HK.out | apply KeepBut.set_ | apply keep_drewN | apply keep_drew | apply keep_alloc | refine keep_far ?_ GW650.out _) | exact HK.out)) hk (.inl rfl))
             have n3_ := Aside0.mk (hb)
             have n4_ := Aside0.mk (hi)
             clear BK650
             clear HO669
             clear HK
             clear HB
             clear HI0
             have BK650 := n0_
             have HO669 := n1_
             have HK := n2_
             have HB := n3_
             have HI0 := n4_
             clear n0_ n1_ n2_ n3_ n4_
             (try clear hb)
             (try clear hb2)
             (try clear hk)
             (try clear hi)
             refine hK.out _ _ ⟨(blk_cell BK650.out 0).trans rfl, (blk_cell BK650.out 1).trans rfl, (blk_cell BK650.out 2).trans rfl⟩ (fun hHeld => ?_)
             clear hK K
             refine norm_ (a' := ?_) ?_ ?_
             rotate_left
             ·show Act.put _ (some 78) _ = _
              simp only [Act.put,qa,qb,qc,i64_w,i32_w]
              rfl
             refine pure_ (i := 6) (N := some 79) (v := ?_) (a' := ?_) #[Y,Y,Y,Y,Y,Y,Y,O,O] rfl rfl zx (fun _ _ _ h => h) (Or.inl ⟨by rfl, ?_⟩) ?_ ?_
             rotate_left; (intro w'; go_simp; with_reducible rfl); rotate_left; (simp only [Act.put,qa,qb,qc,i64_w,i32_w]; rfl)
             refine pure_ (i := 7) (N := some 80) (v := ?_) (a' := ?_) #[Y,Y,Y,Y,Y,Y,Y,Y,O] rfl rfl zx (fun _ _ _ h => h) (Or.inl ⟨by rfl, ?_⟩) ?_ ?_
             rotate_left; (intro w'; go_simp; with_reducible rfl); rotate_left; (simp only [Act.put,qa,qb,qc,i64_w,i32_w]; rfl)
             refine pure_ (i := 8) (N := some 6) (v := ?_) (a' := ?_) #[Y,Y,Y,Y,Y,Y,Y,Y,Y] rfl rfl zx (fun _ _ _ h => h) (Or.inl ⟨by rfl, ?_⟩) ?_ ?_
             rotate_left; (intro w'; go_simp; with_reducible rfl); rotate_left; (simp only [Act.put,qa,qb,qc,i64_w,i32_w]; rfl)
             refine done_ (done_of HT_.out (by kernel_rfl)) ?_
             try go_wp2
             go_roundg k3
             case measure => have := HK1.out; have := HJ4.out; have := HK3.out; omega
             case rel => exact ⟨(y667), (wrap64 (x6_1 + (wrap64 ((wrap64 (t647 + 1)) + t670)))), (t671), (t672), zf, H', ⟨by have := HK1.out; have := HJ4.out; have := HK3.out; omega⟩, ⟨by (with_reducible repeat (first | apply Kd.S_alloc | apply Kd.S_drewN | apply Kd.S_drew)); exact Kd.S_mono HO669.out (fun _ hk => trivial)⟩, ⟨by repeat (first | (with_reducible first | exact HI0.out | apply IsS122.alloc | apply IsS122.drewN | apply IsS122.drew | apply IsS122.set_1 | apply IsS122.set_2 | refine IsS122.far ?_ NB0_650.out _) | exact HI0.out)⟩, ⟨by repeat (first | (with_reducible first | exact HK.out | apply KeepBut.set_ | apply keep_drewN | apply keep_drew | apply keep_alloc | refine keep_far ?_ GW650.out _) | exact HK.out)⟩, ⟨by repeat (first | (with_reducible first | exact HB.out | apply below_alloc | apply pw_below_drewN | apply below_drew1 | refine below_set ?_ (IsS122.ge HI0.out) | refine below_set ?_ GE650.out) | exact HB.out)⟩⟩
            ·rw [if_neg c38] at H
             exact absurd H (by simp)
           ·replace c37 := Bool.eq_false_iff.mpr c37
            subst c37
            have H1 : (if t647 > 0 then (if x5_1.length < 3518437208883 then ((spec_l1Cur_pick.f s0_0 x1001_3 x1002_3 3).bind fun bt676 => (spec_l1Cur_hunks.l0 k3 l1 (x5_1 ++ [(⟨x6_1, t647, x651002_3⟩ : S111)]) (wrap64 (x6_1 + (wrap64 ((wrap64 (t647 + 1)) + bt676.1)))) s0_0 bt676.2.1 bt676.2.2)) else (none)) else ((spec_l1Cur_pick.f s0_0 x1001_3 x1002_3 3).bind fun bt679 => (spec_l1Cur_hunks.l0 k3 l1 x5_1 (wrap64 (x6_1 + (wrap64 ((wrap64 (t647 + 1)) + bt679.1)))) s0_0 bt679.2.1 bt679.2.2))) = some (r1, r2, r3) := by rw [if_neg (show ¬ (false = true) by decide)] at H; exact H
            clear H
            have H := H1
            clear H1
            by_cases c46 : t647 > 0
            ·rw [if_pos c46] at H
             have c46b0 : decide (0 < t647) = true := decide_eq_true c46
             clear c46
             by_cases c47 : x5_1.length < 3518437208883
             ·rw [if_pos c47] at H
              have LMc47 := Aside0.mk c47
              clear c47
              obtain ⟨y673, hy673⟩ : ∃ y_ : List (S111), y_ = (x5_1 ++ [(⟨x6_1, t647, x651002_3⟩ : S111)]) := ⟨_, rfl⟩
              replace H : ((spec_l1Cur_pick.f s0_0 x1001_3 x1002_3 3).bind fun bt676 => (spec_l1Cur_hunks.l0 k3 l1 y673 (wrap64 (x6_1 + (wrap64 ((wrap64 (t647 + 1)) + bt676.1)))) s0_0 bt676.2.1 bt676.2.2)) = some (r1, r2, r3) := by first | (rw [hy673]; with_reducible exact H) | (have H2_ := (Option.bind_some _ _).symm.trans H; rw [hy673]; with_reducible exact H2_) | (have H2_ := (Option.bind_some _ _).symm.trans H; with_reducible exact H2_) | with_reducible exact H | (rw [hy673]; exact H) | exact H
              have Ny673 := Aside0.mk hy673
              clear hy673
              replace H := Option.bind_eq_some_iff.mp H
              obtain ⟨⟨t676, t677, t678⟩, A480, H⟩ := H
              replace H : (spec_l1Cur_hunks.l0 k3 l1 y673 (wrap64 (x6_1 + (wrap64 ((wrap64 (t647 + 1)) + t676)))) s0_0 t677 t678) = some (r1, r2, r3) := H
              have A48 := Aside0.mk A480
              clear A480
              have H' := Aside0.mk H
              clear H
              have hnb49 := NB650_0.out
              have hnc49 := NB0_650.out
              have hcz50_0 : wr.cell? ⟨gb650, 0, none⟩ = some (.int .i64 x6_1) := (blk_cell BK650.out 0).trans rfl
              have hcz50_1 : wr.cell? ⟨gb650, 1, none⟩ = some (.int .i64 t647) := (blk_cell BK650.out 1).trans rfl
              have hcz50_2 : wr.cell? ⟨gb650, 2, none⟩ = some (u651002) := (blk_cell BK650.out 2).trans rfl
              have hfz50_0 := blk_frozen BK650.out 0
              have hfz50_1 := blk_frozen BK650.out 1
              have hfz50_2 := blk_frozen BK650.out 2
              obtain ⟨Ao51, co51, eo51⟩ := Kd.R_slice HO_651002.out
              subst eo51
              try go_wp2_with (first | (go_at_call 191; (with_reducible refine (spec_l1Whole.calls _ _ l1 false _ ?side1 ?side2 A36.out).mono ?_); (case side1 => exact Kd.C_keep (⟨#[]⟩ : ByteArray) HR1.out (by repeat (first | (with_reducible first | exact HK.out | apply KeepBut.set_ | apply keep_drewN | apply keep_drew | apply keep_alloc | refine keep_far ?_ GW650.out _) | exact HK.out)) hf1); (case side2 => exact HC1.out); rintro e w' ⟨rfl, ⟨nd, rfl⟩⟩) | ((with_reducible refine gateB (b := .append) (xs := #[.tmp 69, .tmp 71]) rfl ?_); (try (refine gate_guard (by rfl) ?_; dsimp only)); at_builtin; refine Kd.S_append k111 w.heap.size rfl (.tmp 69) (.tmp 71) 39 111 (.agg #[(.int .i64 0), (.int .i64 0), (.slice none 0 0)]) 40 rfl Try.underlying39 info111 rfl (by decide) (by omega) u5 x5_1 (⟨x6_1, t647, x651002_3⟩ : S111) [.int .i64 x6_1, .int .i64 t647, .slice Ao51 x651002_3.length co51] (fun k_ => k_ ≠ gb650) (fun k_ => some k_ = (.slice Ao51 x651002_3.length co51 : Value).ownBlock) rfl rfl ?aP (fun k_ hk_ => ((Kd.R_mono (ok' := fun k_ => ((fun k_ => k_ ≠ gb650)) k_ ∧ some k_ ≠ (u5 : Value).ownBlock) (Kd.R_types (Kd.R_apart' (HO_651002.out) (Kd.S_typed HO_5.out) (by decide)) BK650.out (by decide)) (fun k_ hk => ⟨hk.2, hk.1.2⟩))).1 k_ hk_.symm) ?aF ?aO (Below.refl _ _) ?aS ?aL ?_; (case aP => exact k111_mkM _ _ _ (⟨x6_1, t647, x651002_3⟩ : S111) (Kd.R_mono (Kd.R_tight rfl (Kd.R_mono (ok' := fun k_ => ((fun k_ => k_ ≠ gb650)) k_ ∧ some k_ ≠ (u5 : Value).ownBlock) (Kd.R_types (Kd.R_apart' (HO_651002.out) (Kd.S_typed HO_5.out) (by decide)) BK650.out (by decide)) (fun k_ hk => ⟨hk.2, hk.1.2⟩))) (fun _ h_ => h_))); (case aF => exact (fun k_ hk => Kd.freshB (g := gb650) (o := .cells #[.int .i64 x6_1, .int .i64 t647, .slice Ao51 x651002_3.length co51] 111 (0, 0)) (zk BK650.out) k_ hk)); (case aO => exact (by (with_reducible repeat (first | apply Kd.S_alloc | apply Kd.S_drewN | apply Kd.S_drew)); exact Kd.S_mono HO_5.out (fun k_ hk => ⟨hk.2, fun e_ => hk.1 e_⟩))); (case aS => exact (keep_size (w := w) (g := g) (row := none) (by repeat (first | (with_reducible first | exact HK.out | apply KeepBut.set_ | apply keep_drewN | apply keep_drew | apply keep_alloc | refine keep_far ?_ GW650.out _) | exact HK.out)))); (case aL => have := LMc47.out; omega); intro v674 w52 ho hb hg hat; rw [← Ny673.out] at ho; have n0_ := Aside0.mk (blk_grown (g := gb650) (o := .cells #[.int .i64 x6_1, .int .i64 t647, .slice Ao51 x651002_3.length co51] 111 (0, 0)) (zk BK650.out) hg (Kd.S_away HO_5.out (fun _ hk => hk.2))); have n1_ := Aside0.mk (IsS122.grown (by repeat (first | (with_reducible first | exact HI0.out | apply IsS122.alloc | apply IsS122.drewN | apply IsS122.drew | apply IsS122.set_1 | apply IsS122.set_2 | refine IsS122.far ?_ NB0_650.out _) | exact HI0.out)) hg (IsS122.own_neS HI0.out HO_5.out (by decide))); have n2_ := Aside0.mk (below_weaken (by repeat (first | (with_reducible first | exact HB.out | apply below_alloc | apply pw_below_drewN | apply below_drew1 | refine below_set ?_ (IsS122.ge HI0.out) | refine below_set ?_ GE650.out) | exact HB.out)) HL.out hb); have n3_ := Aside0.mk (KeepBut.trans (by repeat (first | (with_reducible first | exact HK.out | apply KeepBut.set_ | apply keep_drewN | apply keep_drew | apply keep_alloc | refine keep_far ?_ GW650.out _) | exact HK.out)) (KeepBut.of_grown hg g) (Kd.S_base2 HO_5.out)); have n4_ := Aside0.mk (ho); clear BK650; clear HI0; clear HB; clear HK; clear HO_5; clear HO_651002; have BK650 := n0_; have HI0 := n1_; have HB := n2_; have HK := n3_; have HO675 := n4_; clear n0_ n1_ n2_ n3_ n4_; clear ho hb hg hat))
              have n0_ := Aside0.mk (Kd.S_drew HO675.out)
              have n1_ := Aside0.mk (blk_drew BK650.out)
              have n2_ := Aside0.mk (IsS122.drew HI0.out)
              have n3_ := Aside0.mk (keep_drew HK.out)
              have n4_ := Aside0.mk (below_drew1 HB.out)
              clear HO675
              clear BK650
              clear HI0
              clear HK
              clear HB
              have HO675 := n0_
              have BK650 := n1_
              have HI0 := n2_
              have HK := n3_
              have HB := n4_
              clear n0_ n1_ n2_ n3_ n4_
              refine start_ (n := 9) (S := fun w' => w'.cell? ⟨gb650, 0, none⟩ = some (.int .i64 x6_1) ∧ w'.cell? ⟨gb650, 1, none⟩ = some (.int .i64 t647) ∧ w'.cell? ⟨gb650, 2, none⟩ = some (.slice Ao51 x651002_3.length co51)) (ds := []) #[O,O,O,O,O,O,O,O,O] (by kernel_rfl) rfl rfl ⟨(blk_cell BK650.out 0).trans rfl, (blk_cell BK650.out 1).trans rfl, (blk_cell BK650.out 2).trans rfl⟩ (fun hHeld => ?_); refine with_tabW spec_l1Cur_hunks.tab11 spec_l1Cur_hunks.bits11 (fun HT_ HW_ => ?_)
              generalize w52.drew = w53 at HO675 BK650 HI0 HK HB hHeld ⊢
              refine pure_ (i := 0) (N := some 73) (v := ?_) (a' := ?_) #[Y,O,O,O,O,O,O,O,O] rfl rfl zx (fun _ _ _ h => h) (Or.inl ⟨by rfl, ?_⟩) ?_ ?_
              rotate_left; (intro w'; go_simp; with_reducible rfl); rotate_left; (simp only [Act.put,qa,qb,qc,i64_w,i32_w]; rfl)
              refine pure_ (i := 1) (N := some 74) (v := ?_) (a' := ?_) #[Y,Y,O,O,O,O,O,O,O] rfl rfl zx (fun _ _ _ h => h) (Or.inl ⟨by rfl, ?_⟩) ?_ ?_
              rotate_left; (intro w'; go_simp; with_reducible rfl); rotate_left; (simp only [Act.put,qa,qb,qc,i64_w,i32_w]; rfl)
              refine pure_ (i := 4) (N := some 77) (v := ?_) (a' := ?_) #[Y,Y,O,O,Y,O,O,O,O] rfl rfl zx (fun _ _ _ h => h) (Or.inl ⟨by rfl, ?_⟩) ?_ ?_
              rotate_left; (intro w'; go_simp; with_reducible rfl); rotate_left; (simp only [Act.put,qa,qb,qc,i64_w,i32_w]; rfl)
              refine take_ (i := 2) (N := some 75) (v := ?_) (a' := ?_) #[Y,Y,Y,O,Y,O,O,O,O] rfl rfl (take_ofW HT_.out HW_.out (by kernel_rfl)) (fun _ _ _ h => h) (Or.inl ⟨by rfl, ?_⟩) hHeld ?_ ?_
              rotate_left; (rintro w' ⟨s0, s1, s2⟩; go_simp; with_reducible rfl); rotate_left; (simp only [Act.put,qa,qb,qc,i64_w,i32_w]; rfl)
              refine pure_ (i := 3) (N := some 76) (v := ?_) (a' := ?_) #[Y,Y,Y,Y,Y,O,O,O,O] rfl rfl zx (fun _ _ _ h => h) (Or.inl ⟨by rfl, ?_⟩) ?_ ?_
              rotate_left; (intro w'; go_simp; with_reducible rfl); rotate_left; (simp only [Act.put,qa,qb,qc,i64_w,i32_w]; rfl)
              refine one_ (i := 5) (N := some 78) #[Y,Y,Y,Y,Y,Y,O,O,O] rfl rfl (one_of HT_.out (by kernel_rfl)) (by decide) (fun K hK => ?_)
              refine goes_ Try.func113 (by kernel_rfl) rfl #[.pointer (some ⟨g, 0, none⟩), .int .i64 3] (by rfl) rfl rfl zm ?_
              with_reducible refine (spec_l1Cur_pick.calls g s0_0 x1001_3 x1002_3 3 t676 t677 t678 w0 _ ?side1 ?side2 A48.out).mono ?_
              (case side1 => repeat (first | (with_reducible first | exact HI0.out | apply IsS122.alloc | apply IsS122.drewN | apply IsS122.drew | apply IsS122.set_1 | apply IsS122.set_2 | refine IsS122.far ?_ NB0_650.out _) | exact HI0.out))
              (case side2 => repeat (first | (with_reducible first | exact HB.out | apply below_alloc | apply pw_below_drewN | apply below_drew1 | refine below_set ?_ (IsS122.ge HI0.out) | refine below_set ?_ GE650.out) | exact HB.out))
              rintro e w54 ⟨rfl, hi, hb, hk⟩
              refine ⟨_, rfl, ?_⟩
              have n0_ := Aside0.mk (KeepBut.blk hk (g' := gb650) (o := .cells #[.int .i64 x6_1, .int .i64 t647, .slice Ao51 x651002_3.length co51] 111 (0, 0)) (zk BK650.out) NB650_0.out (by simp))
              have n1_ := Aside0.mk (Kd.S_mono (Kd.S_keep (IsS122.apartS (show IsS122 w0 _ g s0_0 x1001_3 x1002_3 from by repeat (first | (with_reducible first | exact HI0.out | apply IsS122.alloc | apply IsS122.drewN | apply IsS122.drew | apply IsS122.set_1 | apply IsS122.set_2 | refine IsS122.far ?_ NB0_650.out _) | exact HI0.out)) (zs HO675.out) (by decide)) hk (fun _ h => h.2)) (fun _ h => h.1))
              have n2_ := Aside0.mk (KeepBut.trans (by repeat (first | (with_reducible first | exact HK.out | apply KeepBut.set_ | apply keep_drewN | apply keep_drew | apply keep_alloc | refine keep_far ?_ GW650.out _) | exact HK.out)) hk (.inl rfl))
              have n3_ := Aside0.mk (hb)
              have n4_ := Aside0.mk (hi)
              clear BK650
              clear HO675
              clear HK
              clear HB
              clear HI0
              have BK650 := n0_
              have HO675 := n1_
              have HK := n2_
              have HB := n3_
              have HI0 := n4_
              clear n0_ n1_ n2_ n3_ n4_
              (try clear hb)
              (try clear hb2)
              (try clear hk)
              (try clear hi)
              refine hK.out _ _ ⟨(blk_cell BK650.out 0).trans rfl, (blk_cell BK650.out 1).trans rfl, (blk_cell BK650.out 2).trans rfl⟩ (fun hHeld => ?_)
              clear hK K
              refine norm_ (a' := ?_) ?_ ?_
              rotate_left
              ·show Act.put _ (some 78) _ = _
               simp only [Act.put,qa,qb,qc,i64_w,i32_w]
               rfl
              refine pure_ (i := 6) (N := some 79) (v := ?_) (a' := ?_) #[Y,Y,Y,Y,Y,Y,Y,O,O] rfl rfl zx (fun _ _ _ h => h) (Or.inl ⟨by rfl, ?_⟩) ?_ ?_
              rotate_left; (intro w'; go_simp; with_reducible rfl); rotate_left; (simp only [Act.put,qa,qb,qc,i64_w,i32_w]; rfl)
              refine pure_ (i := 7) (N := some 80) (v := ?_) (a' := ?_) #[Y,Y,Y,Y,Y,Y,Y,Y,O] rfl rfl zx (fun _ _ _ h => h) (Or.inl ⟨by rfl, ?_⟩) ?_ ?_
              rotate_left; (intro w'; go_simp; with_reducible rfl); rotate_left; (simp only [Act.put,qa,qb,qc,i64_w,i32_w]; rfl)
              refine pure_ (i := 8) (N := some 6) (v := ?_) (a' := ?_) #[Y,Y,Y,Y,Y,Y,Y,Y,Y] rfl rfl zx (fun _ _ _ h => h) (Or.inl ⟨by rfl, ?_⟩) ?_ ?_
              rotate_left; (intro w'; go_simp; with_reducible rfl); rotate_left; (simp only [Act.put,qa,qb,qc,i64_w,i32_w]; rfl)
              refine done_ (done_of HT_.out (by kernel_rfl)) ?_
              try go_wp2
              go_roundg k3
              case measure => have := HK1.out; have := HJ4.out; have := HK3.out; omega
              case rel => exact ⟨(y673), (wrap64 (x6_1 + (wrap64 ((wrap64 (t647 + 1)) + t676)))), (t677), (t678), zf, H', ⟨by have := HK1.out; have := HJ4.out; have := HK3.out; omega⟩, ⟨by (with_reducible repeat (first | apply Kd.S_alloc | apply Kd.S_drewN | apply Kd.S_drew)); exact Kd.S_mono HO675.out (fun _ hk => trivial)⟩, ⟨by repeat (first | (with_reducible first | exact HI0.out | apply IsS122.alloc | apply IsS122.drewN | apply IsS122.drew | apply IsS122.set_1 | apply IsS122.set_2 | refine IsS122.far ?_ NB0_650.out _) | exact HI0.out)⟩, ⟨by repeat (first | (with_reducible first | exact HK.out | apply KeepBut.set_ | apply keep_drewN | apply keep_drew | apply keep_alloc | refine keep_far ?_ GW650.out _) | exact HK.out)⟩, ⟨by repeat (first | (with_reducible first | exact HB.out | apply below_alloc | apply pw_below_drewN | apply below_drew1 | refine below_set ?_ (IsS122.ge HI0.out) | refine below_set ?_ GE650.out) | exact HB.out)⟩⟩
             ·rw [if_neg c47] at H
              exact absurd H (by simp)
            ·rw [if_neg c46] at H
             have c46b0 : decide (0 < t647) = false := decide_eq_false c46
             clear c46
             replace H := Option.bind_eq_some_iff.mp H
             obtain ⟨⟨t679, t680, t681⟩, A550, H⟩ := H
             replace H : (spec_l1Cur_hunks.l0 k3 l1 x5_1 (wrap64 (x6_1 + (wrap64 ((wrap64 (t647 + 1)) + t679)))) s0_0 t680 t681) = some (r1, r2, r3) := H
             have A55 := Aside0.mk A550
             clear A550
             have H' := Aside0.mk H
             clear H
             have hnb56 := NB650_0.out
             have hnc56 := NB0_650.out
             have hcz57_0 : wr.cell? ⟨gb650, 0, none⟩ = some (.int .i64 x6_1) := (blk_cell BK650.out 0).trans rfl
             have hcz57_1 : wr.cell? ⟨gb650, 1, none⟩ = some (.int .i64 t647) := (blk_cell BK650.out 1).trans rfl
             have hcz57_2 : wr.cell? ⟨gb650, 2, none⟩ = some (u651002) := (blk_cell BK650.out 2).trans rfl
             have hfz57_0 := blk_frozen BK650.out 0
             have hfz57_1 := blk_frozen BK650.out 1
             have hfz57_2 := blk_frozen BK650.out 2
             obtain ⟨Ao58, co58, eo58⟩ := Kd.R_slice HO_651002.out
             subst eo58
             try go_wp2_with (first | (go_at_call 191; (with_reducible refine (spec_l1Whole.calls _ _ l1 false _ ?side1 ?side2 A36.out).mono ?_); (case side1 => exact Kd.C_keep (⟨#[]⟩ : ByteArray) HR1.out (by repeat (first | (with_reducible first | exact HK.out | apply KeepBut.set_ | apply keep_drewN | apply keep_drew | apply keep_alloc | refine keep_far ?_ GW650.out _) | exact HK.out)) hf1); (case side2 => exact HC1.out); rintro e w' ⟨rfl, ⟨nd, rfl⟩⟩))
             (try (rw [drewN_self wr]; generalize hq_ : World.drewN wr _ = wr; have n0_ : Aside0 (Kd.S k111 111 wr w.heap.size (fun k_ => some k_ ≠ (.slice Ao58 x651002_3.length co58 : Value).ownBlock ∧ k_ ≠ gb650) u5 x5_1) := ⟨by rw [← hq_]; exact (zs HO_5.out)⟩; have n1_ : Aside0 (Kd.R Kd.string 9 wr w.heap.size (fun _ => True) (.slice Ao58 x651002_3.length co58) x651002_3) := ⟨by rw [← hq_]; exact (zr HO_651002.out)⟩; have n2_ : Aside0 (wr.heap[gb650]? = some (.cells #[.int .i64 x6_1, .int .i64 t647, .slice Ao58 x651002_3.length co58] 111 (0, 0))) := ⟨by rw [← hq_]; exact (zk BK650.out)⟩; have n3_ : Aside0 (IsS122 w0 wr g s0_0 x1001_3 x1002_3) := ⟨by rw [← hq_]; exact (by repeat (first | (with_reducible first | exact HI0.out | apply IsS122.alloc | apply IsS122.drewN | apply IsS122.drew | apply IsS122.set_1 | apply IsS122.set_2 | refine IsS122.far ?_ NB0_650.out _) | exact HI0.out))⟩; have n4_ : Aside0 (KeepBut w wr g none) := ⟨by rw [← hq_]; exact (by repeat (first | (with_reducible first | exact HK.out | apply KeepBut.set_ | apply keep_drewN | apply keep_drew | apply keep_alloc | refine keep_far ?_ GW650.out _) | exact HK.out))⟩; have n5_ : Aside0 (Below w0.heap.size w0 wr) := ⟨by rw [← hq_]; exact (by repeat (first | (with_reducible first | exact HB.out | apply below_alloc | apply pw_below_drewN | apply below_drew1 | refine below_set ?_ (IsS122.ge HI0.out) | refine below_set ?_ GE650.out) | exact HB.out))⟩; clear HO_5 HO_651002 BK650 HI0 HK HB hq_; have HO_5 := n0_; have HO_651002 := n1_; have BK650 := n2_; have HI0 := n3_; have HK := n4_; have HB := n5_; clear n0_ n1_ n2_ n3_ n4_ n5_))
             have n0_ := Aside0.mk (Kd.S_drew HO_5.out)
             have n1_ := Aside0.mk (Kd.R_drew HO_651002.out)
             have n2_ := Aside0.mk (blk_drew BK650.out)
             have n3_ := Aside0.mk (IsS122.drew HI0.out)
             have n4_ := Aside0.mk (keep_drew HK.out)
             have n5_ := Aside0.mk (below_drew1 HB.out)
             clear HO_5
             clear HO_651002
             clear BK650
             clear HI0
             clear HK
             clear HB
             have HO_5 := n0_
             have HO_651002 := n1_
             have BK650 := n2_
             have HI0 := n3_
             have HK := n4_
             have HB := n5_
             clear n0_ n1_ n2_ n3_ n4_ n5_
             refine start_ (n := 9) (S := fun w' => w'.cell? ⟨gb650, 0, none⟩ = some (.int .i64 x6_1) ∧ w'.cell? ⟨gb650, 1, none⟩ = some (.int .i64 t647) ∧ w'.cell? ⟨gb650, 2, none⟩ = some (.slice Ao58 x651002_3.length co58)) (ds := []) #[O,O,O,O,O,O,O,O,O] (by kernel_rfl) rfl rfl ⟨(blk_cell BK650.out 0).trans rfl, (blk_cell BK650.out 1).trans rfl, (blk_cell BK650.out 2).trans rfl⟩ (fun hHeld => ?_); refine with_tabW spec_l1Cur_hunks.tab11 spec_l1Cur_hunks.bits11 (fun HT_ HW_ => ?_)
             generalize wr.drew = w59 at HO_5 HO_651002 BK650 HI0 HK HB hHeld ⊢
             refine pure_ (i := 0) (N := some 73) (v := ?_) (a' := ?_) #[Y,O,O,O,O,O,O,O,O] rfl rfl zx (fun _ _ _ h => h) (Or.inl ⟨by rfl, ?_⟩) ?_ ?_
             rotate_left; (intro w'; go_simp; with_reducible rfl); rotate_left; (simp only [Act.put,qa,qb,qc,i64_w,i32_w]; rfl)
             refine pure_ (i := 1) (N := some 74) (v := ?_) (a' := ?_) #[Y,Y,O,O,O,O,O,O,O] rfl rfl zx (fun _ _ _ h => h) (Or.inl ⟨by rfl, ?_⟩) ?_ ?_
             rotate_left; (intro w'; go_simp; with_reducible rfl); rotate_left; (simp only [Act.put,qa,qb,qc,i64_w,i32_w]; rfl)
             refine pure_ (i := 4) (N := some 77) (v := ?_) (a' := ?_) #[Y,Y,O,O,Y,O,O,O,O] rfl rfl zx (fun _ _ _ h => h) (Or.inl ⟨by rfl, ?_⟩) ?_ ?_
             rotate_left; (intro w'; go_simp; with_reducible rfl); rotate_left; (simp only [Act.put,qa,qb,qc,i64_w,i32_w]; rfl)
             refine take_ (i := 2) (N := some 75) (v := ?_) (a' := ?_) #[Y,Y,Y,O,Y,O,O,O,O] rfl rfl (take_ofW HT_.out HW_.out (by kernel_rfl)) (fun _ _ _ h => h) (Or.inl ⟨by rfl, ?_⟩) hHeld ?_ ?_
             rotate_left; (rintro w' ⟨s0, s1, s2⟩; go_simp; with_reducible rfl); rotate_left; (simp only [Act.put,qa,qb,qc,i64_w,i32_w]; rfl)
             refine pure_ (i := 3) (N := some 76) (v := ?_) (a' := ?_) #[Y,Y,Y,Y,Y,O,O,O,O] rfl rfl zx (fun _ _ _ h => h) (Or.inl ⟨by rfl, ?_⟩) ?_ ?_
             rotate_left; (intro w'; go_simp; with_reducible rfl); rotate_left; (simp only [Act.put,qa,qb,qc,i64_w,i32_w]; rfl)
             refine one_ (i := 5) (N := some 78) #[Y,Y,Y,Y,Y,Y,O,O,O] rfl rfl (one_of HT_.out (by kernel_rfl)) (by decide) (fun K hK => ?_)
             refine goes_ Try.func113 (by kernel_rfl) rfl #[.pointer (some ⟨g, 0, none⟩), .int .i64 3] (by rfl) rfl rfl zm ?_
             with_reducible refine (spec_l1Cur_pick.calls g s0_0 x1001_3 x1002_3 3 t679 t680 t681 w0 _ ?side1 ?side2 A55.out).mono ?_
             (case side1 => repeat (first | (with_reducible first | exact HI0.out | apply IsS122.alloc | apply IsS122.drewN | apply IsS122.drew | apply IsS122.set_1 | apply IsS122.set_2 | refine IsS122.far ?_ NB0_650.out _) | exact HI0.out))
             (case side2 => repeat (first | (with_reducible first | exact HB.out | apply below_alloc | apply pw_below_drewN | apply below_drew1 | refine below_set ?_ (IsS122.ge HI0.out) | refine below_set ?_ GE650.out) | exact HB.out))
             rintro e w60 ⟨rfl, hi, hb, hk⟩
             refine ⟨_, rfl, ?_⟩
             have n0_ := Aside0.mk (Kd.S_mono (Kd.S_keep (IsS122.apartS (show IsS122 w0 _ g s0_0 x1001_3 x1002_3 from by repeat (first | (with_reducible first | exact HI0.out | apply IsS122.alloc | apply IsS122.drewN | apply IsS122.drew | apply IsS122.set_1 | apply IsS122.set_2 | refine IsS122.far ?_ NB0_650.out _) | exact HI0.out)) (zs HO_5.out) (by decide)) hk (fun _ h => h.2)) (fun _ h => h.1))
             have n1_ := Aside0.mk (Kd.R_mono (Kd.R_keep (IsS122.apart (show IsS122 w0 _ g s0_0 x1001_3 x1002_3 from by repeat (first | (with_reducible first | exact HI0.out | apply IsS122.alloc | apply IsS122.drewN | apply IsS122.drew | apply IsS122.set_1 | apply IsS122.set_2 | refine IsS122.far ?_ NB0_650.out _) | exact HI0.out)) (zr HO_651002.out) (by decide)) hk (fun _ h => h.2)) (fun _ h => h.1))
             have n2_ := Aside0.mk (KeepBut.blk hk (g' := gb650) (o := .cells #[.int .i64 x6_1, .int .i64 t647, .slice Ao58 x651002_3.length co58] 111 (0, 0)) (zk BK650.out) NB650_0.out (by simp))
             have n3_ := Aside0.mk (KeepBut.trans (by repeat (first | (with_reducible first | exact HK.out | apply KeepBut.set_ | apply keep_drewN | apply keep_drew | apply keep_alloc | refine keep_far ?_ GW650.out _) | exact HK.out)) hk (.inl rfl))
             have n4_ := Aside0.mk (hb)
             have n5_ := Aside0.mk (hi)
             clear HO_5
             clear HO_651002
             clear BK650
             clear HK
             clear HB
             clear HI0
             have HO_5 := n0_
             have HO_651002 := n1_
             have BK650 := n2_
             have HK := n3_
             have HB := n4_
             have HI0 := n5_
             clear n0_ n1_ n2_ n3_ n4_ n5_
             (try clear hb)
             (try clear hb2)
             (try clear hk)
             (try clear hi)
             refine hK.out _ _ ⟨(blk_cell BK650.out 0).trans rfl, (blk_cell BK650.out 1).trans rfl, (blk_cell BK650.out 2).trans rfl⟩ (fun hHeld => ?_)
             clear hK K
             refine norm_ (a' := ?_) ?_ ?_
             rotate_left
             ·show Act.put _ (some 78) _ = _
              simp only [Act.put,qa,qb,qc,i64_w,i32_w]
              rfl
             refine pure_ (i := 6) (N := some 79) (v := ?_) (a' := ?_) #[Y,Y,Y,Y,Y,Y,Y,O,O] rfl rfl zx (fun _ _ _ h => h) (Or.inl ⟨by rfl, ?_⟩) ?_ ?_
             rotate_left; (intro w'; go_simp; with_reducible rfl); rotate_left; (simp only [Act.put,qa,qb,qc,i64_w,i32_w]; rfl)
             refine pure_ (i := 7) (N := some 80) (v := ?_) (a' := ?_) #[Y,Y,Y,Y,Y,Y,Y,Y,O] rfl rfl zx (fun _ _ _ h => h) (Or.inl ⟨by rfl, ?_⟩) ?_ ?_
             rotate_left; (intro w'; go_simp; with_reducible rfl); rotate_left; (simp only [Act.put,qa,qb,qc,i64_w,i32_w]; rfl)
             refine pure_ (i := 8) (N := some 6) (v := ?_) (a' := ?_) #[Y,Y,Y,Y,Y,Y,Y,Y,Y] rfl rfl zx (fun _ _ _ h => h) (Or.inl ⟨by rfl, ?_⟩) ?_ ?_
             rotate_left; (intro w'; go_simp; with_reducible rfl); rotate_left; (simp only [Act.put,qa,qb,qc,i64_w,i32_w]; rfl)
             refine done_ (done_of HT_.out (by kernel_rfl)) ?_
             try go_wp2
             go_roundg k3
             case measure => have := HK1.out; have := HJ4.out; have := HK3.out; omega
             case rel => exact ⟨(x5_1), (wrap64 (x6_1 + (wrap64 ((wrap64 (t647 + 1)) + t679)))), (t680), (t681), zf, H', ⟨by have := HK1.out; have := HJ4.out; have := HK3.out; omega⟩, ⟨by (with_reducible repeat (first | apply Kd.S_alloc | apply Kd.S_drewN | apply Kd.S_drew)); exact Kd.S_mono HO_5.out (fun _ hk => trivial)⟩, ⟨by repeat (first | (with_reducible first | exact HI0.out | apply IsS122.alloc | apply IsS122.drewN | apply IsS122.drew | apply IsS122.set_1 | apply IsS122.set_2 | refine IsS122.far ?_ NB0_650.out _) | exact HI0.out)⟩, ⟨by repeat (first | (with_reducible first | exact HK.out | apply KeepBut.set_ | apply keep_drewN | apply keep_drew | apply keep_alloc | refine keep_far ?_ GW650.out _) | exact HK.out)⟩, ⟨by repeat (first | (with_reducible first | exact HB.out | apply below_alloc | apply pw_below_drewN | apply below_drew1 | refine below_set ?_ (IsS122.ge HI0.out) | refine below_set ?_ GE650.out) | exact HB.out)⟩⟩
         ·rw [if_neg c26] at H
          have c26b0 : decide (0 < (wrap64 (t647 + (x651002_3.length : Int)))) = false := decide_eq_false c26
          clear c26
          replace H := Option.bind_eq_some_iff.mp H
          obtain ⟨⟨t682, t683, t684⟩, A610, H⟩ := H
          replace H : (spec_l1Cur_hunks.l0 k3 l1 x5_1 (wrap64 (x6_1 + (wrap64 ((wrap64 (t647 + 1)) + t682)))) s0_0 t683 t684) = some (r1, r2, r3) := H
          have A61 := Aside0.mk A610
          clear A610
          have H' := Aside0.mk H
          clear H
          have hnb62 := NB650_0.out
          have hnc62 := NB0_650.out
          have hcz63_0 : wr.cell? ⟨gb650, 0, none⟩ = some (.int .i64 x6_1) := (blk_cell BK650.out 0).trans rfl
          have hcz63_1 : wr.cell? ⟨gb650, 1, none⟩ = some (.int .i64 t647) := (blk_cell BK650.out 1).trans rfl
          have hcz63_2 : wr.cell? ⟨gb650, 2, none⟩ = some (u651002) := (blk_cell BK650.out 2).trans rfl
          have hfz63_0 := blk_frozen BK650.out 0
          have hfz63_1 := blk_frozen BK650.out 1
          have hfz63_2 := blk_frozen BK650.out 2
          obtain ⟨Ao64, co64, eo64⟩ := Kd.R_slice HO_651002.out
          subst eo64
          try go_wp2
          have n0_ := Aside0.mk (Kd.S_drew HO_5.out)
          have n1_ := Aside0.mk (Kd.R_drew HO_651002.out)
          have n2_ := Aside0.mk (blk_drew BK650.out)
          have n3_ := Aside0.mk (IsS122.drew HI0.out)
          have n4_ := Aside0.mk (keep_drew HK.out)
          have n5_ := Aside0.mk (below_drew1 HB.out)
          clear HO_5
          clear HO_651002
          clear BK650
          clear HI0
          clear HK
          clear HB
          have HO_5 := n0_
          have HO_651002 := n1_
          have BK650 := n2_
          have HI0 := n3_
          have HK := n4_
          have HB := n5_
          clear n0_ n1_ n2_ n3_ n4_ n5_
          refine start_ (n := 9) (S := fun w' => w'.cell? ⟨gb650, 0, none⟩ = some (.int .i64 x6_1) ∧ w'.cell? ⟨gb650, 1, none⟩ = some (.int .i64 t647) ∧ w'.cell? ⟨gb650, 2, none⟩ = some (.slice Ao64 x651002_3.length co64)) (ds := []) #[O,O,O,O,O,O,O,O,O] (by kernel_rfl) rfl rfl ⟨(blk_cell BK650.out 0).trans rfl, (blk_cell BK650.out 1).trans rfl, (blk_cell BK650.out 2).trans rfl⟩ (fun hHeld => ?_); refine with_tabW spec_l1Cur_hunks.tab11 spec_l1Cur_hunks.bits11 (fun HT_ HW_ => ?_)
          generalize wr.drew = w65 at HO_5 HO_651002 BK650 HI0 HK HB hHeld ⊢
          refine pure_ (i := 0) (N := some 73) (v := ?_) (a' := ?_) #[Y,O,O,O,O,O,O,O,O] rfl rfl zx (fun _ _ _ h => h) (Or.inl ⟨by rfl, ?_⟩) ?_ ?_
          rotate_left; (intro w'; go_simp; with_reducible rfl); rotate_left; (simp only [Act.put,qa,qb,qc,i64_w,i32_w]; rfl)
          refine pure_ (i := 1) (N := some 74) (v := ?_) (a' := ?_) #[Y,Y,O,O,O,O,O,O,O] rfl rfl zx (fun _ _ _ h => h) (Or.inl ⟨by rfl, ?_⟩) ?_ ?_
          rotate_left; (intro w'; go_simp; with_reducible rfl); rotate_left; (simp only [Act.put,qa,qb,qc,i64_w,i32_w]; rfl)
          refine pure_ (i := 4) (N := some 77) (v := ?_) (a' := ?_) #[Y,Y,O,O,Y,O,O,O,O] rfl rfl zx (fun _ _ _ h => h) (Or.inl ⟨by rfl, ?_⟩) ?_ ?_
          rotate_left; (intro w'; go_simp; with_reducible rfl); rotate_left; (simp only [Act.put,qa,qb,qc,i64_w,i32_w]; rfl)
          refine take_ (i := 2) (N := some 75) (v := ?_) (a' := ?_) #[Y,Y,Y,O,Y,O,O,O,O] rfl rfl (take_ofW HT_.out HW_.out (by kernel_rfl)) (fun _ _ _ h => h) (Or.inl ⟨by rfl, ?_⟩) hHeld ?_ ?_
          rotate_left; (rintro w' ⟨s0, s1, s2⟩; go_simp; with_reducible rfl); rotate_left; (simp only [Act.put,qa,qb,qc,i64_w,i32_w]; rfl)
          refine pure_ (i := 3) (N := some 76) (v := ?_) (a' := ?_) #[Y,Y,Y,Y,Y,O,O,O,O] rfl rfl zx (fun _ _ _ h => h) (Or.inl ⟨by rfl, ?_⟩) ?_ ?_
          rotate_left; (intro w'; go_simp; with_reducible rfl); rotate_left; (simp only [Act.put,qa,qb,qc,i64_w,i32_w]; rfl)
          refine one_ (i := 5) (N := some 78) #[Y,Y,Y,Y,Y,Y,O,O,O] rfl rfl (one_of HT_.out (by kernel_rfl)) (by decide) (fun K hK => ?_)
          refine goes_ Try.func113 (by kernel_rfl) rfl #[.pointer (some ⟨g, 0, none⟩), .int .i64 3] (by rfl) rfl rfl zm ?_
          with_reducible refine (spec_l1Cur_pick.calls g s0_0 x1001_3 x1002_3 3 t682 t683 t684 w0 _ ?side1 ?side2 A61.out).mono ?_
          (case side1 => repeat (first | (with_reducible first | exact HI0.out | apply IsS122.alloc | apply IsS122.drewN | apply IsS122.drew | apply IsS122.set_1 | apply IsS122.set_2 | refine IsS122.far ?_ NB0_650.out _) | exact HI0.out))
          (case side2 => repeat (first | (with_reducible first | exact HB.out | apply below_alloc | apply pw_below_drewN | apply below_drew1 | refine below_set ?_ (IsS122.ge HI0.out) | refine below_set ?_ GE650.out) | exact HB.out))
          rintro e w66 ⟨rfl, hi, hb, hk⟩
          refine ⟨_, rfl, ?_⟩
          have n0_ := Aside0.mk (Kd.S_mono (Kd.S_keep (IsS122.apartS (show IsS122 w0 _ g s0_0 x1001_3 x1002_3 from by repeat (first | (with_reducible first | exact HI0.out | apply IsS122.alloc | apply IsS122.drewN | apply IsS122.drew | apply IsS122.set_1 | apply IsS122.set_2 | refine IsS122.far ?_ NB0_650.out _) | exact HI0.out)) (zs HO_5.out) (by decide)) hk (fun _ h => h.2)) (fun _ h => h.1))
          have n1_ := Aside0.mk (Kd.R_mono (Kd.R_keep (IsS122.apart (show IsS122 w0 _ g s0_0 x1001_3 x1002_3 from by repeat (first | (with_reducible first | exact HI0.out | apply IsS122.alloc | apply IsS122.drewN | apply IsS122.drew | apply IsS122.set_1 | apply IsS122.set_2 | refine IsS122.far ?_ NB0_650.out _) | exact HI0.out)) (zr HO_651002.out) (by decide)) hk (fun _ h => h.2)) (fun _ h => h.1))
          have n2_ := Aside0.mk (KeepBut.blk hk (g' := gb650) (o := .cells #[.int .i64 x6_1, .int .i64 t647, .slice Ao64 x651002_3.length co64] 111 (0, 0)) (zk BK650.out) NB650_0.out (by simp))
          have n3_ := Aside0.mk (KeepBut.trans (by repeat (first | (with_reducible first | exact HK.out | apply KeepBut.set_ | apply keep_drewN | apply keep_drew | apply keep_alloc | refine keep_far ?_ GW650.out _) | exact HK.out)) hk (.inl rfl))
          have n4_ := Aside0.mk (hb)
          have n5_ := Aside0.mk (hi)
          clear HO_5
          clear HO_651002
          clear BK650
          clear HK
          clear HB
          clear HI0
          have HO_5 := n0_
          have HO_651002 := n1_
          have BK650 := n2_
          have HK := n3_
          have HB := n4_
          have HI0 := n5_
          clear n0_ n1_ n2_ n3_ n4_ n5_
          (try clear hb)
          (try clear hb2)
          (try clear hk)
          (try clear hi)
          refine hK.out _ _ ⟨(blk_cell BK650.out 0).trans rfl, (blk_cell BK650.out 1).trans rfl, (blk_cell BK650.out 2).trans rfl⟩ (fun hHeld => ?_)
          clear hK K
          refine norm_ (a' := ?_) ?_ ?_
          rotate_left
          ·show Act.put _ (some 78) _ = _
           simp only [Act.put,qa,qb,qc,i64_w,i32_w]
           rfl
          refine pure_ (i := 6) (N := some 79) (v := ?_) (a' := ?_) #[Y,Y,Y,Y,Y,Y,Y,O,O] rfl rfl zx (fun _ _ _ h => h) (Or.inl ⟨by rfl, ?_⟩) ?_ ?_
          rotate_left; (intro w'; go_simp; with_reducible rfl); rotate_left; (simp only [Act.put,qa,qb,qc,i64_w,i32_w]; rfl)
          refine pure_ (i := 7) (N := some 80) (v := ?_) (a' := ?_) #[Y,Y,Y,Y,Y,Y,Y,Y,O] rfl rfl zx (fun _ _ _ h => h) (Or.inl ⟨by rfl, ?_⟩) ?_ ?_
          rotate_left; (intro w'; go_simp; with_reducible rfl); rotate_left; (simp only [Act.put,qa,qb,qc,i64_w,i32_w]; rfl)
          refine pure_ (i := 8) (N := some 6) (v := ?_) (a' := ?_) #[Y,Y,Y,Y,Y,Y,Y,Y,Y] rfl rfl zx (fun _ _ _ h => h) (Or.inl ⟨by rfl, ?_⟩) ?_ ?_
          rotate_left; (intro w'; go_simp; with_reducible rfl); rotate_left; (simp only [Act.put,qa,qb,qc,i64_w,i32_w]; rfl)
          refine done_ (done_of HT_.out (by kernel_rfl)) ?_
          try go_wp2
          go_roundg k3
          case measure => have := HK1.out; have := HJ4.out; have := HK3.out; omega
          case rel => exact ⟨(x5_1), (wrap64 (x6_1 + (wrap64 ((wrap64 (t647 + 1)) + t682)))), (t683), (t684), zf, H', ⟨by have := HK1.out; have := HJ4.out; have := HK3.out; omega⟩, ⟨by (with_reducible repeat (first | apply Kd.S_alloc | apply Kd.S_drewN | apply Kd.S_drew)); exact Kd.S_mono HO_5.out (fun _ hk => trivial)⟩, ⟨by repeat (first | (with_reducible first | exact HI0.out | apply IsS122.alloc | apply IsS122.drewN | apply IsS122.drew | apply IsS122.set_1 | apply IsS122.set_2 | refine IsS122.far ?_ NB0_650.out _) | exact HI0.out)⟩, ⟨by repeat (first | (with_reducible first | exact HK.out | apply KeepBut.set_ | apply keep_drewN | apply keep_drew | apply keep_alloc | refine keep_far ?_ GW650.out _) | exact HK.out)⟩, ⟨by repeat (first | (with_reducible first | exact HB.out | apply below_alloc | apply pw_below_drewN | apply below_drew1 | refine below_set ?_ (IsS122.ge HI0.out) | refine below_set ?_ GE650.out) | exact HB.out)⟩⟩
     ·replace c8 := Bool.eq_false_iff.mpr c8
      subst c8
      have H1 : (some (x5_1, x1001_1, x1002_1)) = some (r1, r2, r3) := by rw [if_neg (show ¬ (false = true) by decide)] at H; exact H
      clear H
      have H := H1
      clear H1
      simp only [Option.some.injEq, Prod.mk.injEq] at H
      obtain ⟨rfl, rfl, rfl⟩ := H
      go_wp2
      go_ret
      exact ⟨_, by first | rfl | (simp [errW_none, errW_some] <;> rfl) | (simp [*, errW_none, errW_some] <;> rfl), by (with_reducible repeat (first | apply Kd.S_alloc | apply Kd.S_drewN | apply Kd.S_drew)); exact HO_5.out, zi, zj, zh⟩

end Go.Proofs.Ytcefenlblnediaa.My
