/- Part 5 of 6 of a proof of this sentence: The Go function loop.example/g00825/laws.FnExactReadNormal returns true for every input, and each argument reads afterwards as it read before. No condition. -/
import Derived.Test.YtmcldkobejhaeaaGreatDoorCFnExactReadNormal4
namespace Go.Proofs.YtmcldkobejhaeaaGreatDoor.My
open Go.RowKit Go.Proofs.YtmcldkobejhaeaaGreatDoorW.PrintWords Go.Proofs.YtmcldkobejhaeaaGreatDoorW.PrintLast Go.Proofs.YtmcldkobejhaeaaGreatDoorW.PrintMore
attribute [local go_sem] max2_int min2_int max_two min_two max_three min_three max_four min_four
set_option linter.unusedVariables false
set_option linter.unusedSimpArgs false
mutual
def impl_readSteps.l0 : Nat → List ByteArray → List (S52) → Option ((List (S52)) × Bool)
 | 0, _, _ => none
 | k + 1, x0, x4 => if (x0.length : Int) > 0 then (if 0 < (x0.length : Int) then ((impl_plain.f (rdOf ByteArray.empty x0 0)).bind fun t394 => ((strings_IndexAny.f t394 (⟨#[97, 99, 100]⟩ : ByteArray)).bind fun t395 => (if t395 < 0 then (impl_readSteps.j1 k x0 x4 t394 t395 true) else (impl_readSteps.j1 k x0 x4 t394 t395 ((x4.length : Int) == 20))))) else (none)) else (some (x4, true))
def impl_readSteps.j1 : Nat → List ByteArray → List (S52) → ByteArray → Int → Bool → Option ((List (S52)) × Bool)
 | 0, _, _, _, _, _ => none
 | k + 1, x0, x4, x5, x6, x26 => if x26 = true then (some (([] : List (S52)), false)) else (if 0 ≤ x6 then (if x6 ≤ (x5.size : Int) then ((impl_readTwo.f k (x5.extract 0 (x6 : Int).toNat)).bind fun bt397 => (if 0 ≤ (wrap64 (x6 + 1)) then (if (wrap64 (x6 + 1)) ≤ (x5.size : Int) then ((impl_readTwo.f k (x5.extract ((wrap64 (x6 + 1)) : Int).toNat x5.size)).bind fun bt401 => (if bt397.2.2.2 = true then (impl_readSteps.j2 k x0 x4 x5 x6 (!bt401.2.2.2) bt397.1 bt397.2.1 bt401.1 bt401.2.1) else (impl_readSteps.j2 k x0 x4 x5 x6 true bt397.1 bt397.2.1 bt401.1 bt401.2.1))) else (none)) else (none))) else (none)) else (none))
def impl_readSteps.j2 : Nat → List ByteArray → List (S52) → ByteArray → Int → Bool → Int → Int → Int → Int → Option ((List (S52)) × Bool)
 | 0, _, _, _, _, _, _, _, _, _ => none
 | k + 1, x0, x4, x5, x6, x56, x397000, x397001, x397003, x397004 => if x56 = true then (some (([] : List (S52)), false)) else (if 1 ≤ (x0.length : Int) then ((some (x0.drop 1 : List ByteArray)).bind fun y405 => (if 0 ≤ x6 then (if x6 < (x5.size : Int) then (if (bt x5 x6) = 97 then (impl_readSteps.j3 k y405 x4 x5 x6 x397000 x397001 ([] : List ByteArray) x397003 x397004) else ((impl_takeShown.f k y405 (⟨#[60, 32]⟩ : ByteArray)).bind fun bt410 => (impl_readSteps.j3 k bt410.2 x4 x5 x6 x397000 x397001 bt410.1 x397003 x397004))) else (none)) else (none))) else (none))
def impl_readSteps.j3 : Nat → List ByteArray → List (S52) → ByteArray → Int → Int → Int → List ByteArray → Int → Int → Option ((List (S52)) × Bool)
 | 0, _, _, _, _, _, _, _, _, _ => none
 | k + 1, x0, x4, x5, x6, x397000, x397001, x397002, x397003, x397004 => if 0 ≤ x6 then (if x6 < (x5.size : Int) then (if (bt x5 x6) = 99 then (if (x0.length : Int) = 0 then (impl_readSteps.j4 k x0 x4 x5 x6 true x397000 x397001 x397002 x397003 x397004) else (if 0 < (x0.length : Int) then (impl_readSteps.j4 k x0 x4 x5 x6 ((rdOf ByteArray.empty x0 0).toList != ([45, 45, 45, 10] : List UInt8)) x397000 x397001 x397002 x397003 x397004) else (none))) else (if (bt x5 x6) = 100 then (if x4.length < 1759218604441 then (impl_readSteps.l0 k x0 (x4 ++ [(⟨x397000, x397001, x397002, x397003, x397004, ([] : List ByteArray)⟩ : S52)])) else (none)) else ((impl_takeShown.f k x0 (⟨#[62, 32]⟩ : ByteArray)).bind fun bt437 => (if x4.length < 1759218604441 then (impl_readSteps.l0 k bt437.2 (x4 ++ [(⟨x397000, x397001, x397002, x397003, x397004, bt437.1⟩ : S52)])) else (none))))) else (none)) else (none)
def impl_readSteps.j4 : Nat → List ByteArray → List (S52) → ByteArray → Int → Bool → Int → Int → List ByteArray → Int → Int → Option ((List (S52)) × Bool)
 | 0, _, _, _, _, _, _, _, _, _, _ => none
 | k + 1, x0, x4, x5, x6, x81, x397000, x397001, x397002, x397003, x397004 => if x81 = true then (some (([] : List (S52)), false)) else (if 1 ≤ (x0.length : Int) then ((some (x0.drop 1 : List ByteArray)).bind fun y417 => (if 0 ≤ x6 then (if x6 < (x5.size : Int) then (if (bt x5 x6) = 100 then (if x4.length < 1759218604441 then (impl_readSteps.l0 k y417 (x4 ++ [(⟨x397000, x397001, x397002, x397003, x397004, ([] : List ByteArray)⟩ : S52)])) else (none)) else ((impl_takeShown.f k y417 (⟨#[62, 32]⟩ : ByteArray)).bind fun bt425 => (if x4.length < 1759218604441 then (impl_readSteps.l0 k bt425.2 (x4 ++ [(⟨x397000, x397001, x397002, x397003, x397004, bt425.1⟩ : S52)])) else (none)))) else (none)) else (none))) else (none))
end
def impl_readSteps.f (k : Nat) (l0 : List ByteArray) : Option ((List (S52)) × Bool) := impl_readSteps.l0 k l0 (([] : List (S52)))
set_option maxHeartbeats 8000000 in
set_option maxRecDepth 100000 in
theorem impl_readSteps.calls (k : Nat) (P0_ : Nat → Prop) (A0 : Option Addr) (c0 : Nat) (l0 : List ByteArray) (r1 : List (S52)) (r2 : Bool) (w : World) (ht : Door true w) (hs0 : Kd.V Kd.string 9 w w.heap.size (fun k_ => P0_ k_) (.slice A0 l0.length c0) l0) (h : impl_readSteps.f k l0 = some (r1, r2)) :
  Calls Tryz.prog 50 #[.slice A0 l0.length c0] w fun e w' => ∃ v0_ : Value, e = .returned (.tuple #[v0_, .bool r2]) ∧ Kd.S k52 52 w' w.heap.size (fun k_ => (w.heap.size ≤ k_)) v0_ r1 ∧ Below w.heap.size w w' := by
 have HT := am ht
 clear ht
 have hu52 := Tryz.underlying52
 have HO0 := am (show Kd.V Kd.string 9 w w.heap.size (fun k_ => (P0_ k_ ∨ w.heap.size ≤ k_)) (.slice A0 l0.length c0) l0 from Kd.V_mono hs0 (fun k_ hk => .inl hk))
 have HB := am (Below.refl w.heap.size w)
 have H : (impl_readSteps.l0 k l0 (([] : List (S52)))) = some (r1, r2) := h
 clear h
 obtain ⟨y390, hy390⟩ : ∃ y_ : List (S52), y_ = (([] : List (S52))) := ⟨_, rfl⟩
 replace H : (impl_readSteps.l0 k l0 y390) = some (r1, r2) := by first | (rw [hy390]; with_reducible exact H) | (have H2_ := (Option.bind_some _ _).symm.trans H; rw [hy390]; with_reducible exact H2_) | (have H2_ := (Option.bind_some _ _).symm.trans H; with_reducible exact H2_) | with_reducible exact H | (rw [hy390]; exact H) | exact H
 have Ny390 := am hy390
 clear hy390
 have H' := am H
 clear H
 go_enter Tryz.func50, Tryz.ntmps50
 go_wp2_with (first | ((with_reducible refine gate_dst (N := 10) rfl ?_); (try (refine gate_guard (by rfl) ?_; dsimp only)); refine Kd.S_lit k52 _ 52 ?hg (N := 10) ?hd (xs := ([] : List (S52))) (inner := []) (ok := fun _ => True) (okp := fun _ => True) ?hr ?hp (fun _ hk => hk) trivial (Below.refl _ _) (Nat.le_refl _) (by simp) ?_; (case hd => rfl); (case hg => rfl); (case hr => first | (go_simp; done) | (go_simp; rfl)); (case hp => exact (Reps.none _ _)); intro v391 w2 ho3 hb hg_ hnew_; clear hg_ hnew_; (first | rw [← Ny390.out] at ho3 | (simp only [Int.reduceToNat] at ho3; rw [← Ny390.out] at ho3)); have n0_ := am (Kd.V_elder' (zv HO0.out) (Kd.S_base ho3) hb); have n1_ := am (Kd.S_lower (Kd.S_newM (M := fun k_ => (w.heap.size ≤ k_)) ho3 (below_size zb) (fun k_ h_ => h_)) (below_size zb)); have n2_ := am (below_step zb hb); clear HO0; clear HB; have HO0 := n0_; have HO392 := n1_; have HB := n2_; clear n0_ n1_ n2_; clear hb ho3))
 go_loopg [0, 4] k (fun kq v0 v4 w' => ∃ (x0_1 : List ByteArray) (x4_1 : List (S52)), Aside0 (impl_readSteps.l0 kq x0_1 x4_1 = some (r1, r2)) ∧ Aside0 (kq ≤ k) ∧ Aside0 (Kd.V Kd.string 9 w' w.heap.size (fun k_ => (P0_ k_ ∨ w.heap.size ≤ k_) ∧ some k_ ≠ (v4 : Value).ownBlock) v0 x0_1) ∧ Aside0 (Kd.S k52 52 w' w.heap.size (fun k_ => (w.heap.size ≤ k_)) v4 x4_1) ∧ Aside0 (Below w.heap.size w w'))
 case atStart => exact ⟨(l0), (y390), H', ⟨Nat.le_refl _⟩, ⟨zv HO0.out⟩, ⟨by (with_reducible repeat (first | apply Kd.S_alloc | apply Kd.S_drewN | apply Kd.S_drew)); exact Kd.S_mono HO392.out (fun _ hk => hk.1)⟩, ⟨zb⟩⟩
 case round =>
  clear H'
  try clear p2
  obtain ⟨x0_1, x4_1, HA, HK1, HO_0, HO_4, HB⟩ := hrel
  cases gk with
  | zero => exact absurd HA.out (by simp [impl_readSteps.l0])
  | succ k1 =>
   have H := HA.out
   clear HA
   simp only [impl_readSteps.l0] at H
   by_cases c4 : (x0_1.length : Int) > 0
   ·rw [if_pos c4] at H
    have c4b0 : decide (0 < (x0_1.length : Int)) = true := decide_eq_true c4
    have c4b1 : decide (0 < x0_1.length) = true := decide_eq_true (by omega)
    clear c4
    by_cases c5 : 0 < (x0_1.length : Int)
    ·rw [if_pos c5] at H
     have c5b0 : decide (0 < (x0_1.length : Int)) = true := decide_eq_true c5
     have c5b1 : decide (0 < x0_1.length) = true := decide_eq_true (by omega)
     clear c5
     replace H := Option.bind_eq_some_iff.mp H
     obtain ⟨t394, A60, H⟩ := H
     replace H : ((strings_IndexAny.f t394 (⟨#[97, 99, 100]⟩ : ByteArray)).bind fun t395 => (if t395 < 0 then (impl_readSteps.j1 k1 x0_1 x4_1 t394 t395 true) else (impl_readSteps.j1 k1 x0_1 x4_1 t394 t395 ((x4_1.length : Int) == 20)))) = some (r1, r2) := H
     have A6 := am A60
     clear A60
     replace H := Option.bind_eq_some_iff.mp H
     obtain ⟨t395, A70, H⟩ := H
     replace H : (if t395 < 0 then (impl_readSteps.j1 k1 x0_1 x4_1 t394 t395 true) else (impl_readSteps.j1 k1 x0_1 x4_1 t394 t395 ((x4_1.length : Int) == 20))) = some (r1, r2) := H
     have A7 := am A70
     clear A70
     have HC8 := am H
     clear H
     obtain ⟨Ao9, co9, eo9⟩ := Kd.V_slice HO_0.out
     subst eo9
     have p393 : 0 ≤ (0 : Int) := (by omega)
     have q393 : 0 < (x0_1.length : Int) := oa
     obtain ⟨ad393, e393, hx393_0⟩ := Kd.at_string (Kd.V_reads' HO_0.out).2.2 0 p393 q393
     cases e393
     have qi393 : (0 < x0_1.length) = True := eq_true (by omega)
     (try rw [show ((0 : Int)).toNat = 0 from rfl] at hx393_0)
     (try rw [Addr.add_zero'] at hx393_0)
     replace p393 := eq_true p393
     replace q393 := eq_true q393
     go_upto_region 5 with (first | ((with_reducible refine gateC (f := 80) rfl ?_); refine goesL_ (some 17) rfl rfl Tryz.func80 (by kernel_rfl) rfl #[.string (rdOf ByteArray.empty x0_1 0)] rfl zm ?_; (with_reducible refine (impl_plain.calls (rdOf ByteArray.empty x0_1 0) t394 _ A6.out).mono ?_); rintro e w' ⟨rfl, ⟨nd, rfl⟩⟩; refine ⟨_, rfl, ?_⟩) | ((with_reducible refine gateC (f := 81) rfl ?_); refine goesL_ (some 19) rfl rfl Tryz.func81 (by kernel_rfl) rfl #[.string t394, .string (⟨#[97, 99, 100]⟩ : ByteArray)] rfl zm ?_; (with_reducible refine (strings_IndexAny.calls t394 (⟨#[97, 99, 100]⟩ : ByteArray) t395 _ A7.out).mono ?_); rintro e w10 ⟨rfl, hb⟩; refine ⟨_, rfl, ?_⟩; have n0_ := am (Kd.V_below (zv HO_0.out) hb); have n1_ := am (Kd.S_below (zs HO_4.out) hb); have n2_ := am (below_step zb hb); clear HO_0; clear HO_4; clear HB; have HO_0 := n0_; have HO_4 := n1_; have HB := n2_; clear n0_ n1_ n2_; (try clear hb)))
     (try simp only [Act.put, List.setIfInBounds_toArray, List.set_cons_zero, List.set_cons_succ])
     go_cut [26] (fun v26 wc => ∃ (kq : Nat) (x26_7 : Bool), v26 = .bool x26_7 ∧ Aside0 (impl_readSteps.j1 kq x0_1 x4_1 t394 t395 x26_7 = some (r1, r2)) ∧ Aside0 (kq ≤ k1) ∧ Aside0 (Kd.V Kd.string 9 wc w.heap.size (fun k_ => (P0_ k_ ∨ w.heap.size ≤ k_) ∧ some k_ ≠ (u4 : Value).ownBlock) (.slice (some ad393) x0_1.length co9) x0_1) ∧ Aside0 (Kd.S k52 52 wc w.heap.size (fun k_ => (w.heap.size ≤ k_)) u4 x4_1) ∧ Aside0 (Below w.heap.size w wc))
     case first =>
      have H := HC8.out
      clear HC8
      by_cases c11 : t395 < 0
      ·rw [if_pos c11] at H
       have c11b0 : decide (t395 < 0) = true := decide_eq_true c11
       clear c11
       (first | rw [c11b0] | (simp only [i64_w, i32_w]; rw [c11b0]) | skip)
       have H' := am H
       clear H
       go_wp2
       go_meet
       case rel => exact ⟨_, (true), zf, H', ⟨by have := HK1.out; first | omega | exact Nat.le_refl _⟩, ⟨zv HO_0.out⟩, ⟨zs HO_4.out⟩, ⟨zb⟩⟩
      ·rw [if_neg c11] at H
       have c11b0 : decide (t395 < 0) = false := decide_eq_false c11
       clear c11
       (first | rw [c11b0] | (simp only [i64_w, i32_w]; rw [c11b0]) | skip)
       have H' := am H
       clear H
       obtain ⟨Ao12, co12, eo12⟩ := Kd.S_slice HO_4.out
       subst eo12
       go_wp2
       go_meet
       case rel => exact ⟨_, (((x4_1.length : Int) == 20)), zf, H', ⟨by have := HK1.out; first | omega | exact Nat.le_refl _⟩, ⟨zv HO_0.out⟩, ⟨zs HO_4.out⟩, ⟨zb⟩⟩
     case rest =>
      clear HC8
      try clear c1
      try clear p2
      try clear p3
      try clear q3
      try clear hx3
      try clear qi3
      try clear c4
      try clear c4b0
      try clear c4b1
      try clear c5
      try clear c5b0
      try clear c5b1
      try clear c8
      try clear c11
      try clear c11b0
      try clear hx393_0
      try clear p2
      try clear p393
      try clear q393
      obtain ⟨kq, x26_7, rfl, HA, HJ7, HO_0, HO_4, HB⟩ := hcut
      cases kq with
      | zero => exact absurd HA.out (by simp [impl_readSteps.j1])
      | succ kj7 =>
       have H := HA.out
       clear HA
       simp only [impl_readSteps.j1] at H
       by_cases c13 : x26_7 = true
       ·subst c13
        have H1 : (some (([] : List (S52)), false)) = some (r1, r2) := by rw [if_pos rfl] at H; exact H
        clear H
        have H := H1
        clear H1
        simp only [Option.some.injEq, Prod.mk.injEq] at H
        obtain ⟨rfl, rfl⟩ := H
        go_wp2
        go_ret2
        exact ⟨_, by first | rfl | (simp [errW_none, errW_some] <;> rfl) | (simp [*, errW_none, errW_some] <;> rfl), by first | exact Kd.S_nil _ _ _ _ _ | exact Kd.N_nil _ _ _ _ _ | exact Kd.V_nil _ _ _ _ _ | exact Kd.Q_nil _ _ _ _ _ | exact Kd.R_nil _ _ _ _ _, zb⟩
       ·replace c13 := Bool.eq_false_iff.mpr c13
        subst c13
        have H1 : (if 0 ≤ t395 then (if t395 ≤ (t394.size : Int) then ((impl_readTwo.f kj7 (t394.extract 0 (t395 : Int).toNat)).bind fun bt397 => (if 0 ≤ (wrap64 (t395 + 1)) then (if (wrap64 (t395 + 1)) ≤ (t394.size : Int) then ((impl_readTwo.f kj7 (t394.extract ((wrap64 (t395 + 1)) : Int).toNat t394.size)).bind fun bt401 => (if bt397.2.2.2 = true then (impl_readSteps.j2 kj7 x0_1 x4_1 t394 t395 (!bt401.2.2.2) bt397.1 bt397.2.1 bt401.1 bt401.2.1) else (impl_readSteps.j2 kj7 x0_1 x4_1 t394 t395 true bt397.1 bt397.2.1 bt401.1 bt401.2.1))) else (none)) else (none))) else (none)) else (none)) = some (r1, r2) := by rw [if_neg (show ¬ (false = true) by decide)] at H; exact H
        clear H
        have H := H1
        clear H1
        by_cases c14 : 0 ≤ t395
        ·rw [if_pos c14] at H
         have c14b0 := eq_true c14
         have c14b1 : decide (0 ≤ t395) = true := decide_eq_true c14
         clear c14
         by_cases c15 : t395 ≤ (t394.size : Int)
         ·rw [if_pos c15] at H
          have c15b0 := eq_true c15
          have c15b1 : decide (t395 ≤ (t394.size : Int)) = true := decide_eq_true c15
          clear c15
          replace H := Option.bind_eq_some_iff.mp H
          obtain ⟨⟨t397, t398, t399, t400⟩, A160, H⟩ := H
          replace H : (if 0 ≤ (wrap64 (t395 + 1)) then (if (wrap64 (t395 + 1)) ≤ (t394.size : Int) then ((impl_readTwo.f kj7 (t394.extract ((wrap64 (t395 + 1)) : Int).toNat t394.size)).bind fun bt401 => (if t400 = true then (impl_readSteps.j2 kj7 x0_1 x4_1 t394 t395 (!bt401.2.2.2) t397 t398 bt401.1 bt401.2.1) else (impl_readSteps.j2 kj7 x0_1 x4_1 t394 t395 true t397 t398 bt401.1 bt401.2.1))) else (none)) else (none)) = some (r1, r2) := H
          have A16 := am A160
          clear A160
          obtain ⟨ji17, hji17⟩ : ∃ j_ : Int, (wrap64 (t395 + 1)) = j_ := ⟨_, rfl⟩
          replace H : (if 0 ≤ (ji17) then (if (ji17) ≤ (t394.size : Int) then ((impl_readTwo.f kj7 (t394.extract ((ji17) : Int).toNat t394.size)).bind fun bt401 => (if t400 = true then (impl_readSteps.j2 kj7 x0_1 x4_1 t394 t395 (!bt401.2.2.2) t397 t398 bt401.1 bt401.2.1) else (impl_readSteps.j2 kj7 x0_1 x4_1 t394 t395 true t397 t398 bt401.1 bt401.2.1))) else (none)) else (none)) = some (r1, r2) := by first | (rw [hji17] at H; exact H) | (simp only [hji17] at H ⊢; exact H)
          (try rw [hji17] at A16)
          have hji17w : (IntKind.i64.wrap (t395 + 1)) = ji17 := (i64_w _).trans hji17
          by_cases c18 : 0 ≤ (ji17)
          ·rw [if_pos c18] at H
           have c18b0 := eq_true c18
           have c18b1 : decide (0 ≤ (ji17)) = true := decide_eq_true c18
           clear c18
           by_cases c19 : (ji17) ≤ (t394.size : Int)
           ·rw [if_pos c19] at H
            have c19b0 := eq_true c19
            have c19b1 : decide ((ji17) ≤ (t394.size : Int)) = true := decide_eq_true c19
            clear c19
            replace H := Option.bind_eq_some_iff.mp H
            obtain ⟨⟨t401, t402, t403, t404⟩, A200, H⟩ := H
            replace H : (if t400 = true then (impl_readSteps.j2 kj7 x0_1 x4_1 t394 t395 (!t404) t397 t398 t401 t402) else (impl_readSteps.j2 kj7 x0_1 x4_1 t394 t395 true t397 t398 t401 t402)) = some (r1, r2) := H
            have A20 := am A200
            clear A200
            have HC21 := am H
            clear H
            go_upto_region 10 with (first | ((with_reducible refine gate_dst (N := 7) rfl ?_); (try (refine gate_guard (by rfl) ?_; dsimp only)); refine box_event ?hg (N := 7) ?hd (cs := #[.int .i64 0, .int .i64 0, .slice none 0 0, .int .i64 0, .int .i64 0, .slice none 0 0]) (t := 52) ?hr ?_; (case hd => rfl); (case hg => rfl); (case hr => first | (go_simp; done) | (go_simp; rfl)); intro gb396 hg w22 hbox hb; have n0_ := am (Kd.V_below (Kd.V_elderB (zv HO_0.out) gb396 (Nat.le_of_eq hg.symm)) hb); have n1_ := am (Kd.S_below (Kd.S_elderB (zs HO_4.out) gb396 (Nat.le_of_eq hg.symm)) hb); have n2_ := am (below_step zb hb); have n3_ := am (hbox); have n4_ := am ((by rw [hg]; exact (below_size zb) : w.heap.size ≤ gb396)); have n5_ := am ((by rw [hg]; exact (below_size zb) : w.heap.size ≤ gb396)); clear HO_0; clear HO_4; clear HB; have HO_0 := n0_; have HO_4 := n1_; have HB := n2_; have BK396 := n3_; have GW396 := n4_; have GE396 := n5_; clear n0_ n1_ n2_ n3_ n4_ n5_; clear hb hbox hg; have hcz23_0 : w22.cell? ⟨gb396, 0, none⟩ = some (.int .i64 0) := (blk_cell BK396.out 0).trans rfl; have hcz23_1 : w22.cell? ⟨gb396, 1, none⟩ = some (.int .i64 0) := (blk_cell BK396.out 1).trans rfl; have hcz23_2 : w22.cell? ⟨gb396, 2, none⟩ = some (.slice none 0 0) := (blk_cell BK396.out 2).trans rfl; have hcz23_3 : w22.cell? ⟨gb396, 3, none⟩ = some (.int .i64 0) := (blk_cell BK396.out 3).trans rfl; have hcz23_4 : w22.cell? ⟨gb396, 4, none⟩ = some (.int .i64 0) := (blk_cell BK396.out 4).trans rfl; have hcz23_5 : w22.cell? ⟨gb396, 5, none⟩ = some (.slice none 0 0) := (blk_cell BK396.out 5).trans rfl; have hfz23_0 := blk_frozen BK396.out 0; have hfz23_1 := blk_frozen BK396.out 1; have hfz23_2 := blk_frozen BK396.out 2; have hfz23_3 := blk_frozen BK396.out 3; have hfz23_4 := blk_frozen BK396.out 4; have hfz23_5 := blk_frozen BK396.out 5) | ((with_reducible refine gateC (f := 82) rfl ?_); refine goesL_ (some 32) rfl rfl Tryz.func82 (by kernel_rfl) rfl #[.string (t394.extract 0 (t395 : Int).toNat)] rfl zm ?_; (with_reducible refine (impl_readTwo.calls kj7 (t394.extract 0 (t395 : Int).toNat) t397 t398 t399 t400 _ ?sideT A16.out).mono ?_); (case sideT => exact Door.below HT.out zw); rintro e w24 ⟨rfl, hb⟩; refine ⟨_, rfl, ?_⟩; have n0_ := am (Kd.V_below (by (with_reducible repeat (first | apply Kd.V_alloc | apply Kd.V_drewN | apply Kd.V_drew)); exact (Kd.V_mono (Kd.V_far (p := ⟨gb396, 5, none⟩) (Kd.V_far (p := ⟨gb396, 4, none⟩) (Kd.V_far (p := ⟨gb396, 3, none⟩) (Kd.V_far (p := ⟨gb396, 2, none⟩) (Kd.V_far (p := ⟨gb396, 1, none⟩) (Kd.V_far (p := ⟨gb396, 0, none⟩) (Kd.V_mono HO_0.out (fun k_ hk => (⟨hk, hk.2⟩ : _ ∧ k_ ≠ gb396))) (fun _ hk => hk.2) (.int .i64 0)) (fun _ hk => hk.2) (.int .i64 0)) (fun _ hk => hk.2) (.slice none 0 0)) (fun _ hk => hk.2) (.int .i64 0)) (fun _ hk => hk.2) (.int .i64 0)) (fun _ hk => hk.2) (.slice none 0 0)) (fun _ h_ => h_.1))) hb); have n1_ := am (Kd.S_below (by (with_reducible repeat (first | apply Kd.S_alloc | apply Kd.S_drewN | apply Kd.S_drew)); exact (Kd.S_mono (Kd.S_far (p := ⟨gb396, 5, none⟩) (Kd.S_far (p := ⟨gb396, 4, none⟩) (Kd.S_far (p := ⟨gb396, 3, none⟩) (Kd.S_far (p := ⟨gb396, 2, none⟩) (Kd.S_far (p := ⟨gb396, 1, none⟩) (Kd.S_far (p := ⟨gb396, 0, none⟩) (Kd.S_mono HO_4.out (fun k_ hk => (⟨hk, hk.2⟩ : _ ∧ k_ ≠ gb396))) (fun _ hk => hk.2) (.int .i64 0)) (fun _ hk => hk.2) (.int .i64 0)) (fun _ hk => hk.2) (.slice none 0 0)) (fun _ hk => hk.2) (.int .i64 0)) (fun _ hk => hk.2) (.int .i64 0)) (fun _ hk => hk.2) (.slice none 0 0)) (fun _ h_ => h_.1))) hb); have n2_ := am (blk_below (g := gb396) (o := .cells #[.int .i64 0, .int .i64 0, .slice none 0 0, .int .i64 0, .int .i64 0, .slice none 0 0] 52 (0, 0)) (by (with_reducible repeat (first | refine blk_drewN ?_ _ | refine blk_drew ?_ | refine blk_alloc ?_ _)); refine blk_put (cs := #[.int .i64 0, .int .i64 0, .slice none 0 0, .int .i64 0, .int .i64 0, .slice none 0 0]) ?_ 5 _ rfl; (with_reducible repeat (first | refine blk_drewN ?_ _ | refine blk_drew ?_ | refine blk_alloc ?_ _)); refine blk_put (cs := #[.int .i64 0, .int .i64 0, .slice none 0 0, .int .i64 0, .int .i64 0, .slice none 0 0]) ?_ 4 _ rfl; (with_reducible repeat (first | refine blk_drewN ?_ _ | refine blk_drew ?_ | refine blk_alloc ?_ _)); refine blk_put (cs := #[.int .i64 0, .int .i64 0, .slice none 0 0, .int .i64 0, .int .i64 0, .slice none 0 0]) ?_ 3 _ rfl; (with_reducible repeat (first | refine blk_drewN ?_ _ | refine blk_drew ?_ | refine blk_alloc ?_ _)); refine blk_put (cs := #[.int .i64 0, .int .i64 0, .slice none 0 0, .int .i64 0, .int .i64 0, .slice none 0 0]) ?_ 2 _ rfl; (with_reducible repeat (first | refine blk_drewN ?_ _ | refine blk_drew ?_ | refine blk_alloc ?_ _)); refine blk_put (cs := #[.int .i64 0, .int .i64 0, .slice none 0 0, .int .i64 0, .int .i64 0, .slice none 0 0]) ?_ 1 _ rfl; (with_reducible repeat (first | refine blk_drewN ?_ _ | refine blk_drew ?_ | refine blk_alloc ?_ _)); refine blk_put (cs := #[.int .i64 0, .int .i64 0, .slice none 0 0, .int .i64 0, .int .i64 0, .slice none 0 0]) ?_ 0 _ rfl; (with_reducible repeat (first | refine blk_drewN ?_ _ | refine blk_drew ?_ | refine blk_alloc ?_ _)); exact BK396.out) hb); have n3_ := am (below_step zw hb); clear HO_0; clear HO_4; clear BK396; clear HB; have HO_0 := n0_; have HO_4 := n1_; have BK396 := n2_; have HB := n3_; clear n0_ n1_ n2_ n3_; (try clear hb); (try clear hk); have hcz25_0 : w24.cell? ⟨gb396, 0, none⟩ = some (.int .i64 0) := (blk_cell BK396.out 0).trans rfl; have hcz25_1 : w24.cell? ⟨gb396, 1, none⟩ = some (.int .i64 0) := (blk_cell BK396.out 1).trans rfl; have hcz25_2 : w24.cell? ⟨gb396, 2, none⟩ = some (.slice none 0 0) := (blk_cell BK396.out 2).trans rfl; have hcz25_3 : w24.cell? ⟨gb396, 3, none⟩ = some (.int .i64 0) := (blk_cell BK396.out 3).trans rfl; have hcz25_4 : w24.cell? ⟨gb396, 4, none⟩ = some (.int .i64 0) := (blk_cell BK396.out 4).trans rfl; have hcz25_5 : w24.cell? ⟨gb396, 5, none⟩ = some (.slice none 0 0) := (blk_cell BK396.out 5).trans rfl; have hfz25_0 := blk_frozen BK396.out 0; have hfz25_1 := blk_frozen BK396.out 1; have hfz25_2 := blk_frozen BK396.out 2; have hfz25_3 := blk_frozen BK396.out 3; have hfz25_4 := blk_frozen BK396.out 4; have hfz25_5 := blk_frozen BK396.out 5) | ((with_reducible refine gateC (f := 82) rfl ?_); refine goesL_ (some 44) rfl rfl Tryz.func82 (by kernel_rfl) rfl #[.string (t394.extract ((ji17) : Int).toNat t394.size)] rfl (by (try simp only [List.map_toArray, List.map_cons, List.map_nil]); first | done | (simp only [hji17]; rfl) | rfl | (simp only [List.length_drop, List.length_take]; rfl)) ?_; (with_reducible refine (impl_readTwo.calls kj7 (t394.extract ((ji17) : Int).toNat t394.size) t401 t402 t403 t404 _ ?sideT A20.out).mono ?_); (case sideT => exact Door.below HT.out zw); rintro e w26 ⟨rfl, hb⟩; refine ⟨_, rfl, ?_⟩; have n0_ := am (Kd.V_below (by (with_reducible repeat (first | apply Kd.V_alloc | apply Kd.V_drewN | apply Kd.V_drew)); exact (Kd.V_mono (Kd.V_far (p := ⟨gb396, 1, none⟩) (Kd.V_far (p := ⟨gb396, 0, none⟩) (Kd.V_mono HO_0.out (fun k_ hk => (⟨hk, hk.2⟩ : _ ∧ k_ ≠ gb396))) (fun _ hk => hk.2) (.int .i64 t397)) (fun _ hk => hk.2) (.int .i64 t398)) (fun _ h_ => h_.1))) hb); have n1_ := am (Kd.S_below (by (with_reducible repeat (first | apply Kd.S_alloc | apply Kd.S_drewN | apply Kd.S_drew)); exact (Kd.S_mono (Kd.S_far (p := ⟨gb396, 1, none⟩) (Kd.S_far (p := ⟨gb396, 0, none⟩) (Kd.S_mono HO_4.out (fun k_ hk => (⟨hk, hk.2⟩ : _ ∧ k_ ≠ gb396))) (fun _ hk => hk.2) (.int .i64 t397)) (fun _ hk => hk.2) (.int .i64 t398)) (fun _ h_ => h_.1))) hb); have n2_ := am (blk_below (g := gb396) (o := .cells #[.int .i64 t397, .int .i64 t398, .slice none 0 0, .int .i64 0, .int .i64 0, .slice none 0 0] 52 (0, 0)) (by (with_reducible repeat (first | refine blk_drewN ?_ _ | refine blk_drew ?_ | refine blk_alloc ?_ _)); refine blk_put (cs := #[.int .i64 t397, .int .i64 0, .slice none 0 0, .int .i64 0, .int .i64 0, .slice none 0 0]) ?_ 1 _ rfl; (with_reducible repeat (first | refine blk_drewN ?_ _ | refine blk_drew ?_ | refine blk_alloc ?_ _)); refine blk_put (cs := #[.int .i64 0, .int .i64 0, .slice none 0 0, .int .i64 0, .int .i64 0, .slice none 0 0]) ?_ 0 _ rfl; (with_reducible repeat (first | refine blk_drewN ?_ _ | refine blk_drew ?_ | refine blk_alloc ?_ _)); exact BK396.out) hb); have n3_ := am (below_step zw hb); clear HO_0; clear HO_4; clear BK396; clear HB; have HO_0 := n0_; have HO_4 := n1_; have BK396 := n2_; have HB := n3_; clear n0_ n1_ n2_ n3_; (try clear hb); (try clear hk); have hcz27_0 : w26.cell? ⟨gb396, 0, none⟩ = some (.int .i64 t397) := (blk_cell BK396.out 0).trans rfl; have hcz27_1 : w26.cell? ⟨gb396, 1, none⟩ = some (.int .i64 t398) := (blk_cell BK396.out 1).trans rfl; have hcz27_2 : w26.cell? ⟨gb396, 2, none⟩ = some (.slice none 0 0) := (blk_cell BK396.out 2).trans rfl; have hcz27_3 : w26.cell? ⟨gb396, 3, none⟩ = some (.int .i64 0) := (blk_cell BK396.out 3).trans rfl; have hcz27_4 : w26.cell? ⟨gb396, 4, none⟩ = some (.int .i64 0) := (blk_cell BK396.out 4).trans rfl; have hcz27_5 : w26.cell? ⟨gb396, 5, none⟩ = some (.slice none 0 0) := (blk_cell BK396.out 5).trans rfl; have hfz27_0 := blk_frozen BK396.out 0; have hfz27_1 := blk_frozen BK396.out 1; have hfz27_2 := blk_frozen BK396.out 2; have hfz27_3 := blk_frozen BK396.out 3; have hfz27_4 := blk_frozen BK396.out 4; have hfz27_5 := blk_frozen BK396.out 5))
            (try simp only [Act.put, List.setIfInBounds_toArray, List.set_cons_zero, List.set_cons_succ])
            go_cut [56] (fun v56 wc => ∃ (kq : Nat) (x56_20 : Bool), v56 = .bool x56_20 ∧ Aside0 (impl_readSteps.j2 kq x0_1 x4_1 t394 t395 x56_20 t397 t398 t401 t402 = some (r1, r2)) ∧ Aside0 (kq ≤ kj7) ∧ Aside0 (Kd.V Kd.string 9 wc w.heap.size (fun k_ => (P0_ k_ ∨ w.heap.size ≤ k_) ∧ some k_ ≠ (u4 : Value).ownBlock ∧ k_ ≠ gb396) (.slice (some ad393) x0_1.length co9) x0_1) ∧ Aside0 (Kd.S k52 52 wc w.heap.size (fun k_ => (w.heap.size ≤ k_) ∧ k_ ≠ gb396) u4 x4_1) ∧ Aside0 (wc.heap[gb396]? = some (.cells #[.int .i64 t397, .int .i64 t398, (.slice none 0 0), .int .i64 t401, .int .i64 t402, (.slice none 0 0)] 52 (0, 0))) ∧ Aside0 (Below w.heap.size w wc))
            case first =>
             have H := HC21.out
             clear HC21
             by_cases c28 : t400 = true
             ·subst c28
              have H1 : (impl_readSteps.j2 kj7 x0_1 x4_1 t394 t395 (!t404) t397 t398 t401 t402) = some (r1, r2) := by rw [if_pos rfl] at H; exact H
              clear H
              have H := H1
              clear H1
              have H' := am H
              clear H
              go_wp2
              go_meet
              case rel => exact ⟨_, (!t404), zf, H', ⟨by have := HK1.out; have := HJ7.out; first | omega | exact Nat.le_refl _⟩, ⟨by (with_reducible repeat (first | apply Kd.V_alloc | apply Kd.V_drewN | apply Kd.V_drew)); exact Kd.V_mono (Kd.V_far (p := ⟨gb396, 4, none⟩) (Kd.V_far (p := ⟨gb396, 3, none⟩) (Kd.V_mono HO_0.out (fun k_ hk => (⟨hk, hk.2⟩ : _ ∧ k_ ≠ gb396))) (fun _ hk => hk.2) (.int .i64 t401)) (fun _ hk => hk.2) (.int .i64 t402)) (fun _ hk => ⟨hk.1.1.1, ⟨hk.1.1.2, hk.1.2⟩⟩)⟩, ⟨by (with_reducible repeat (first | apply Kd.S_alloc | apply Kd.S_drewN | apply Kd.S_drew)); exact Kd.S_mono (Kd.S_far (p := ⟨gb396, 4, none⟩) (Kd.S_far (p := ⟨gb396, 3, none⟩) (Kd.S_mono HO_4.out (fun k_ hk => (⟨hk, hk.2⟩ : _ ∧ k_ ≠ gb396))) (fun _ hk => hk.2) (.int .i64 t401)) (fun _ hk => hk.2) (.int .i64 t402)) (fun _ hk => ⟨hk.1.1, hk.1.2⟩)⟩, ⟨by (with_reducible repeat (first | refine blk_drewN ?_ _ | refine blk_drew ?_ | refine blk_alloc ?_ _)); refine blk_put (cs := #[.int .i64 t397, .int .i64 t398, .slice none 0 0, .int .i64 t401, .int .i64 0, .slice none 0 0]) ?_ 4 _ rfl; (with_reducible repeat (first | refine blk_drewN ?_ _ | refine blk_drew ?_ | refine blk_alloc ?_ _)); refine blk_put (cs := #[.int .i64 t397, .int .i64 t398, .slice none 0 0, .int .i64 0, .int .i64 0, .slice none 0 0]) ?_ 3 _ rfl; (with_reducible repeat (first | refine blk_drewN ?_ _ | refine blk_drew ?_ | refine blk_alloc ?_ _)); exact BK396.out⟩, ⟨zw⟩⟩
             ·replace c28 := Bool.eq_false_iff.mpr c28
              subst c28
              have H1 : (impl_readSteps.j2 kj7 x0_1 x4_1 t394 t395 true t397 t398 t401 t402) = some (r1, r2) := by rw [if_neg (show ¬ (false = true) by decide)] at H; exact H
              clear H
              have H := H1
              clear H1
              have H' := am H
              clear H
              go_wp2
              go_meet
              case rel => exact ⟨_, (true), zf, H', ⟨by have := HK1.out; have := HJ7.out; first | omega | exact Nat.le_refl _⟩, ⟨by (with_reducible repeat (first | apply Kd.V_alloc | apply Kd.V_drewN | apply Kd.V_drew)); exact Kd.V_mono (Kd.V_far (p := ⟨gb396, 4, none⟩) (Kd.V_far (p := ⟨gb396, 3, none⟩) (Kd.V_mono HO_0.out (fun k_ hk => (⟨hk, hk.2⟩ : _ ∧ k_ ≠ gb396))) (fun _ hk => hk.2) (.int .i64 t401)) (fun _ hk => hk.2) (.int .i64 t402)) (fun _ hk => ⟨hk.1.1.1, ⟨hk.1.1.2, hk.1.2⟩⟩)⟩, ⟨by (with_reducible repeat (first | apply Kd.S_alloc | apply Kd.S_drewN | apply Kd.S_drew)); exact Kd.S_mono (Kd.S_far (p := ⟨gb396, 4, none⟩) (Kd.S_far (p := ⟨gb396, 3, none⟩) (Kd.S_mono HO_4.out (fun k_ hk => (⟨hk, hk.2⟩ : _ ∧ k_ ≠ gb396))) (fun _ hk => hk.2) (.int .i64 t401)) (fun _ hk => hk.2) (.int .i64 t402)) (fun _ hk => ⟨hk.1.1, hk.1.2⟩)⟩, ⟨by (with_reducible repeat (first | refine blk_drewN ?_ _ | refine blk_drew ?_ | refine blk_alloc ?_ _)); refine blk_put (cs := #[.int .i64 t397, .int .i64 t398, .slice none 0 0, .int .i64 t401, .int .i64 0, .slice none 0 0]) ?_ 4 _ rfl; (with_reducible repeat (first | refine blk_drewN ?_ _ | refine blk_drew ?_ | refine blk_alloc ?_ _)); refine blk_put (cs := #[.int .i64 t397, .int .i64 t398, .slice none 0 0, .int .i64 0, .int .i64 0, .slice none 0 0]) ?_ 3 _ rfl; (with_reducible repeat (first | refine blk_drewN ?_ _ | refine blk_drew ?_ | refine blk_alloc ?_ _)); exact BK396.out⟩, ⟨zw⟩⟩
            case rest =>
             clear HC21
             try clear c1
             try clear c2
             try clear p2
             try clear p3
             try clear q3
             try clear hx3
             try clear qi3
             try clear c4
             try clear c4b0
             try clear c4b1
             try clear c5
             try clear c5b0
             try clear c5b1
             try clear p6
             try clear c8
             try clear c11
             try clear c11b0
             try clear c13
             try clear c14
             try clear c14b0
             try clear c14b1
             try clear c15
             try clear c15b0
             try clear c15b1
             try clear c18
             try clear c18b0
             try clear c18b1
             try clear c19
             try clear c19b0
             try clear c19b1
             try clear c28
             try clear hcz23_0
             try clear hcz23_1
             try clear hcz23_2
             try clear hcz23_3
             try clear hcz23_4
             try clear hcz23_5
             try clear hcz25_0
             try clear hcz25_1
             try clear hcz25_2
             try clear hcz25_3
             try clear hcz25_4
             try clear hcz25_5
             try clear hcz27_0
             try clear hcz27_1
             try clear hcz27_2
             try clear hcz27_3
             try clear hcz27_4
             try clear hcz27_5
             try clear hfz23_0
             try clear hfz23_1
             try clear hfz23_2
             try clear hfz23_3
             try clear hfz23_4
             try clear hfz23_5
             try clear hfz25_0
             try clear hfz25_1
             try clear hfz25_2
             try clear hfz25_3
             try clear hfz25_4
             try clear hfz25_5
             try clear hfz27_0
             try clear hfz27_1
             try clear hfz27_2
             try clear hfz27_3
             try clear hfz27_4
             try clear hfz27_5
             try clear hx393_0
             try clear p2
             try clear p3
             try clear p393
             try clear q3
             try clear q393
             obtain ⟨kq, x56_20, rfl, HA, HJ20, HO_0, HO_4, BK396, HB⟩ := hcut
             cases kq with
             | zero => exact absurd HA.out (by simp [impl_readSteps.j2])
             | succ kj20 =>
              have H := HA.out
              clear HA
              simp only [impl_readSteps.j2] at H
              by_cases c29 : x56_20 = true
              ·subst c29
               have H1 : (some (([] : List (S52)), false)) = some (r1, r2) := by rw [if_pos rfl] at H; exact H
               clear H
               have H := H1
               clear H1
               simp only [Option.some.injEq, Prod.mk.injEq] at H
               obtain ⟨rfl, rfl⟩ := H
               go_wp2
               go_ret2
               exact ⟨_, by first | rfl | (simp [errW_none, errW_some] <;> rfl) | (simp only [← hji17]; first | rfl | (simp [errW_none, errW_some] <;> rfl)) | (simp [*, errW_none, errW_some] <;> rfl), by first | exact Kd.S_nil _ _ _ _ _ | exact Kd.N_nil _ _ _ _ _ | exact Kd.V_nil _ _ _ _ _ | exact Kd.Q_nil _ _ _ _ _ | exact Kd.R_nil _ _ _ _ _, zw⟩
              ·replace c29 := Bool.eq_false_iff.mpr c29
               subst c29
               have H1 : (if 1 ≤ (x0_1.length : Int) then ((some (x0_1.drop 1 : List ByteArray)).bind fun y405 => (if 0 ≤ t395 then (if t395 < (t394.size : Int) then (if (bt t394 t395) = 97 then (impl_readSteps.j3 kj20 y405 x4_1 t394 t395 t397 t398 ([] : List ByteArray) t401 t402) else ((impl_takeShown.f kj20 y405 (⟨#[60, 32]⟩ : ByteArray)).bind fun bt410 => (impl_readSteps.j3 kj20 bt410.2 x4_1 t394 t395 t397 t398 bt410.1 t401 t402))) else (none)) else (none))) else (none)) = some (r1, r2) := by rw [if_neg (show ¬ (false = true) by decide)] at H; exact H
               clear H
               have H := H1
               clear H1
               by_cases c30 : 1 ≤ (x0_1.length : Int)
               ·rw [if_pos c30] at H
                have c30b0 := eq_true c30
                have c30b1 : decide (1 ≤ (x0_1.length : Int)) = true := decide_eq_true c30
                clear c30
                obtain ⟨y405, hy405⟩ : ∃ y_ : List ByteArray, y_ = (x0_1.drop 1) := ⟨_, rfl⟩
                replace H : (if 0 ≤ t395 then (if t395 < (t394.size : Int) then (if (bt t394 t395) = 97 then (impl_readSteps.j3 kj20 y405 x4_1 t394 t395 t397 t398 ([] : List ByteArray) t401 t402) else ((impl_takeShown.f kj20 y405 (⟨#[60, 32]⟩ : ByteArray)).bind fun bt410 => (impl_readSteps.j3 kj20 bt410.2 x4_1 t394 t395 t397 t398 bt410.1 t401 t402))) else (none)) else (none)) = some (r1, r2) := by first | (rw [hy405]; with_reducible exact H) | (have H2_ := (Option.bind_some _ _).symm.trans H; rw [hy405]; with_reducible exact H2_) | (have H2_ := (Option.bind_some _ _).symm.trans H; with_reducible exact H2_) | with_reducible exact H | (rw [hy405]; exact H) | exact H
                have Ny405 := am hy405
                clear hy405
                by_cases c31 : 0 ≤ t395
                ·rw [if_pos c31] at H
                 have c31b0 : decide (0 ≤ t395) = true := decide_eq_true c31
                 clear c31
                 by_cases c32 : t395 < (t394.size : Int)
                 ·rw [if_pos c32] at H
                  have c32b0 : decide (t395 < (t394.size : Int)) = true := decide_eq_true c32
                  clear c32
                  have HC34 := am H
                  clear H
                  have q35 : (1 : Int) ≤ ((x0_1.length : Int) : Int) := oa
                  obtain ⟨i035, hi035, _, hsz35, _⟩ := info_parts info9
                  have hroom35 : x0_1.length ≤ co9 := (Kd.V_reads' HO_0.out).2.1
                  have hC35 : Kd.F Kd.string _ _ (some ad393) x0_1.length x0_1 := (Kd.V_at (base := w.heap.size) HO_0.out).2.2
                  have hcut35 := cut_from (P := Tryz.prog) 24 9 .i64 Tryz.underlying24 hi035 1 hsz35 (some ad393) x0_1.length co9 1 (by omega) q35
                  have hr35 := Kd.F_cut (m := (1 : Int).toNat) (c := co9) hC35 (by omega) hroom35
                  obtain ⟨A35, hA35⟩ : ∃ A1, A1 = (if co9 = (1 : Int).toNat then (some ad393) else ((some ad393) : Option Addr).map (·.add ((1 : Int).toNat * 1))) := ⟨_, rfl⟩
                  obtain ⟨c35, hc35⟩ : ∃ c1, c1 = co9 - (1 : Int).toNat := ⟨_, rfl⟩
                  have hy35 : y405.length = x0_1.length - (1 : Int).toNat := (by rw [Ny405.out, List.length_drop] <;> omega)
                  rw [show (x0_1).drop (1 : Int).toNat = y405 from Ny405.out.symm] at hr35
                  replace hr35 : Kd.F Kd.string _ _ A35 y405.length y405 := (by rw [hA35]; exact hr35)
                  rw [← hy35, ← hA35, ← hc35] at hcut35
                  have HO409 := am (show Kd.V Kd.string 9 _ w.heap.size _ (.slice A35 y405.length c35) y405 from Kd.V_mk (by rw [hy35, hc35]; exact Nat.sub_le_sub_right hroom35 _) hr35)
                  have HC409 := am (show y405.length ≤ c35 from by rw [hy35, hc35]; exact Nat.sub_le_sub_right hroom35 _)
                  clear hr35 hC35 hroom35 hi035 hsz35 hc35
                  have KY35 := am hy35
                  have KA35 := am hA35
                  clear hy35 hA35
                  replace q35 := eq_true q35
                  have p33 : 0 ≤ (t395 : Int) := oa
                  have q33 : t395 < (t394.size : Int) := oa
                  have hx33 := bt_at t394 t395
                  replace p33 := eq_true p33
                  replace q33 := eq_true q33
                  go_upto_if 62 with (fail)
                  go_cut [0] (fun v0 wc => ∃ (kq : Nat) (x0_33 : List ByteArray) (x397002_33 : List ByteArray) (u397002 : Value), Aside0 (impl_readSteps.j3 kq x0_33 x4_1 t394 t395 t397 t398 x397002_33 t401 t402 = some (r1, r2)) ∧ Aside0 (kq ≤ kj20) ∧ Aside0 (Kd.V Kd.string 9 wc w.heap.size (fun k_ => (P0_ k_ ∨ w.heap.size ≤ k_) ∧ some k_ ≠ (u4 : Value).ownBlock ∧ some k_ ≠ (u397002 : Value).ownBlock ∧ k_ ≠ gb396) v0 x0_33) ∧ Aside0 (Kd.S k52 52 wc w.heap.size (fun k_ => (w.heap.size ≤ k_) ∧ some k_ ≠ (u397002 : Value).ownBlock ∧ k_ ≠ gb396) u4 x4_1) ∧ Aside0 (Kd.R Kd.string 9 wc w.heap.size (fun k_ => (w.heap.size ≤ k_)) u397002 x397002_33) ∧ Aside0 (wc.heap[gb396]? = some (.cells #[.int .i64 t397, .int .i64 t398, u397002, .int .i64 t401, .int .i64 t402, (.slice none 0 0)] 52 (0, 0))) ∧ Aside0 (Below w.heap.size w wc))
                  case first =>
                   have H := HC34.out
                   clear HC34
                   by_cases c36 : (bt t394 t395) = 97
                   ·rw [if_pos c36] at H
                    have c36b0 : ((bt t394 t395) == 97) = true := beq_iff_eq.mpr c36
                    have c36b1 : ((bt t394 t395) != 97) = false := bne_eq_false_iff_eq.mpr c36
                    clear c36
                    (first | rw [c36b0] | (simp only [i64_w, i32_w]; rw [c36b0]) | skip)
                    have H' := am H
                    clear H
                    go_wp2
                    go_meet
                    case rel => exact ⟨_, (y405), (([] : List ByteArray)), (.slice none 0 0), H', ⟨by have := HK1.out; have := HJ7.out; have := HJ20.out; first | omega | exact Nat.le_refl _⟩, ⟨by (with_reducible repeat (first | apply Kd.V_alloc | apply Kd.V_drewN | apply Kd.V_drew)); exact Kd.V_mono HO409.out (fun _ hk => ⟨hk.1, ⟨hk.2.1, ⟨(by simp [Value.ownBlock]), hk.2.2⟩⟩⟩)⟩, ⟨by (with_reducible repeat (first | apply Kd.S_alloc | apply Kd.S_drewN | apply Kd.S_drew)); exact Kd.S_mono HO_4.out (fun _ hk => ⟨hk.1, ⟨(by simp [Value.ownBlock]), hk.2⟩⟩)⟩, ⟨by first | exact Kd.R_nil _ _ _ _ _ | exact Kd.N_nil _ _ _ _ _ | exact Kd.V_nil _ _ _ _ _ | exact Kd.Q_nil _ _ _ _ _ | exact Kd.S_nil _ _ _ _ _⟩, ⟨zk BK396.out⟩, ⟨zw⟩⟩
                   ·rw [if_neg c36] at H
                    have c36b0 : ((bt t394 t395) == 97) = false := beq_eq_false_iff_ne.mpr c36
                    have c36b1 : ((bt t394 t395) != 97) = true := bne_iff_ne.mpr c36
                    (first | rw [c36b0] | (simp only [i64_w, i32_w]; rw [c36b0]) | skip)
                    replace H := Option.bind_eq_some_iff.mp H
                    obtain ⟨⟨t410, t413⟩, A370, H⟩ := H
                    replace H : (impl_readSteps.j3 kj20 t413 x4_1 t394 t395 t397 t398 t410 t401 t402) = some (r1, r2) := H
                    have A37 := am A370
                    clear A370
                    have H' := am H
                    clear H
                    go_wp2_with (first | ((with_reducible refine gateC (f := 83) rfl ?_); refine goesL_ (some 65) rfl rfl Tryz.func83 (by kernel_rfl) rfl #[.slice A35 y405.length c35, .string (⟨#[60, 32]⟩ : ByteArray)] rfl zm ?_; (with_reducible refine (impl_takeShown.calls kj20 (fun k_ => ((P0_ k_ ∨ w.heap.size ≤ k_) ∧ (some k_ ≠ (u4 : Value).ownBlock ∧ k_ ≠ gb396))) _ _ y405 (⟨#[60, 32]⟩ : ByteArray) t410 t413 _ ?side1 A37.out).mono ?_); (case side1 => exact HO409.out); rintro e w38 ⟨v411, v414, rfl, ho0, ho1, hb⟩; refine ⟨_, rfl, ?_⟩; have n0_ := am (Kd.V_elder' (zv HO_0.out) (Kd.R_base ho0) hb); have n1_ := am (Kd.S_elder' (zs HO_4.out) (Kd.R_base ho0) hb); have n2_ := am (Kd.V_elder' (zv HO409.out) (Kd.R_base ho0) hb); have n3_ := am (Kd.R_lower (Kd.R_newM (M := fun k_ => (w.heap.size ≤ k_)) (Kd.R_mono (ok' := fun k_ => True) ho0 (fun _ hk_ => trivial)) (below_size zw) (fun k_ h_ => h_)) (below_size zw)); have n4_ := am (Kd.V_lower (Kd.V_mono (ok' := fun k_ => (P0_ k_ ∨ w.heap.size ≤ k_) ∧ some k_ ≠ (v411 : Value).ownBlock ∧ some k_ ≠ (u4 : Value).ownBlock ∧ k_ ≠ gb396) ho1 (fun k_ hk_ => ⟨Or.elim hk_.1 (fun hs_ => hs_.1) (fun hn_ => (.inr (Nat.le_trans (below_size zw) hn_))), hk_.2, Or.elim hk_.1 (fun hs_ => hs_.2.1) (fun hn_ => (Kd.fresh' (Kd.S_lt (zs HO_4.out)) k_ hn_)), Or.elim hk_.1 (fun hs_ => hs_.2.2) (fun hn_ => (Kd.freshB (g := gb396) (o := .cells #[.int .i64 t397, .int .i64 t398, .slice none 0 0, .int .i64 t401, .int .i64 t402, .slice none 0 0] 52 (0, 0)) (zk BK396.out) k_ hn_))⟩)) (below_size zw)); have n5_ := am (blk_below (g := gb396) (o := .cells #[.int .i64 t397, .int .i64 t398, .slice none 0 0, .int .i64 t401, .int .i64 t402, .slice none 0 0] 52 (0, 0)) (zk BK396.out) hb); have n6_ := am (below_step zw hb); clear HO_0; clear HO_4; clear HO409; clear BK396; clear HB; have HO_0 := n0_; have HO_4 := n1_; have HO409 := n2_; have HO412 := n3_; have HO415 := n4_; have BK396 := n5_; have HB := n6_; clear n0_ n1_ n2_ n3_ n4_ n5_ n6_; (try clear hb); (try clear ho0); (try clear ho1); obtain ⟨Ao39, co39, eo39⟩ := Kd.R_slice HO412.out; subst eo39; have hcz40_0 : w38.cell? ⟨gb396, 0, none⟩ = some (.int .i64 t397) := (blk_cell BK396.out 0).trans rfl; have hcz40_1 : w38.cell? ⟨gb396, 1, none⟩ = some (.int .i64 t398) := (blk_cell BK396.out 1).trans rfl; have hcz40_2 : w38.cell? ⟨gb396, 2, none⟩ = some (.slice none 0 0) := (blk_cell BK396.out 2).trans rfl; have hcz40_3 : w38.cell? ⟨gb396, 3, none⟩ = some (.int .i64 t401) := (blk_cell BK396.out 3).trans rfl; have hcz40_4 : w38.cell? ⟨gb396, 4, none⟩ = some (.int .i64 t402) := (blk_cell BK396.out 4).trans rfl; have hcz40_5 : w38.cell? ⟨gb396, 5, none⟩ = some (.slice none 0 0) := (blk_cell BK396.out 5).trans rfl; have hfz40_0 := blk_frozen BK396.out 0; have hfz40_1 := blk_frozen BK396.out 1; have hfz40_2 := blk_frozen BK396.out 2; have hfz40_3 := blk_frozen BK396.out 3; have hfz40_4 := blk_frozen BK396.out 4; have hfz40_5 := blk_frozen BK396.out 5))
                    go_meet
                    case rel => exact ⟨_, (t413), (t410), (.slice Ao39 t410.length co39), H', ⟨by have := HK1.out; have := HJ7.out; have := HJ20.out; first | omega | exact Nat.le_refl _⟩, ⟨by (with_reducible repeat (first | apply Kd.V_alloc | apply Kd.V_drewN | apply Kd.V_drew)); exact Kd.V_mono (Kd.V_far (p := ⟨gb396, 2, none⟩) (Kd.V_mono HO415.out (fun k_ hk => (⟨hk, hk.2.2.2⟩ : _ ∧ k_ ≠ gb396))) (fun _ hk => hk.2) (.slice Ao39 t410.length co39)) (fun _ hk => ⟨hk.1.1, ⟨hk.1.2.2.1, ⟨hk.1.2.1, hk.1.2.2.2⟩⟩⟩)⟩, ⟨by (with_reducible repeat (first | apply Kd.S_alloc | apply Kd.S_drewN | apply Kd.S_drew)); exact Kd.S_mono (Kd.S_far (p := ⟨gb396, 2, none⟩) (Kd.S_mono HO_4.out (fun k_ hk => (⟨hk, hk.1.2⟩ : _ ∧ k_ ≠ gb396))) (fun _ hk => hk.2) (.slice Ao39 t410.length co39)) (fun _ hk => ⟨hk.1.1.1, ⟨hk.1.2, hk.1.1.2⟩⟩)⟩, ⟨by (with_reducible repeat (first | apply Kd.R_alloc | apply Kd.R_drewN | apply Kd.R_drew)); exact Kd.R_mono (Kd.R_far (p := ⟨gb396, 2, none⟩) (Kd.R_types HO412.out BK396.out (by decide)) (fun _ hk => hk.2) (.slice Ao39 t410.length co39)) (fun _ hk => hk.1.1)⟩, ⟨by (with_reducible repeat (first | refine blk_drewN ?_ _ | refine blk_drew ?_ | refine blk_alloc ?_ _)); refine blk_put (cs := #[.int .i64 t397, .int .i64 t398, .slice none 0 0, .int .i64 t401, .int .i64 t402, .slice none 0 0]) ?_ 2 _ rfl; (with_reducible repeat (first | refine blk_drewN ?_ _ | refine blk_drew ?_ | refine blk_alloc ?_ _)); exact BK396.out⟩, ⟨zw⟩⟩
                  case rest =>
                   clear HC34
                   try clear c1
                   try clear c2
                   try clear p2
                   try clear c3
                   try clear p3
                   try clear q3
                   try clear hx3
                   try clear qi3
                   try clear c4
                   try clear c4b0
                   try clear c4b1
                   try clear c5
                   try clear c5b0
                   try clear c5b1
                   try clear p6
                   try clear c8
                   try clear c11
                   try clear c11b0
                   try clear c13
                   try clear c14
                   try clear c14b0
                   try clear c14b1
                   try clear c15
                   try clear c15b0
                   try clear c15b1
                   try clear c18
                   try clear c18b0
                   try clear c18b1
                   try clear c19
                   try clear c19b0
                   try clear c19b1
                   try clear c28
                   try clear c29
                   try clear c30
                   try clear c30b0
                   try clear c30b1
                   try clear c31
                   try clear c31b0
                   try clear c32
                   try clear c32b0
                   try clear p33
                   try clear q33
                   try clear hx33
                   try clear c35
                   try clear q35
                   try clear c36
                   try clear c36b0
                   try clear c36b1
                   try clear p39
                   try clear q39
                   try clear hx39
                   try clear qi39
                   try clear hcz23_0
                   try clear hcz23_1
                   try clear hcz23_2
                   try clear hcz23_3
                   try clear hcz23_4
                   try clear hcz23_5
                   try clear hcz25_0
                   try clear hcz25_1
                   try clear hcz25_2
                   try clear hcz25_3
                   try clear hcz25_4
                   try clear hcz25_5
                   try clear hcz27_0
                   try clear hcz27_1
                   try clear hcz27_2
                   try clear hcz27_3
                   try clear hcz27_4
                   try clear hcz27_5
                   try clear hcz40_0
                   try clear hcz40_1
                   try clear hcz40_2
                   try clear hcz40_3
                   try clear hcz40_4
                   try clear hcz40_5
                   try clear hfz23_0
                   try clear hfz23_1
                   try clear hfz23_2
                   try clear hfz23_3
                   try clear hfz23_4
                   try clear hfz23_5
                   try clear hfz25_0
                   try clear hfz25_1
                   try clear hfz25_2
                   try clear hfz25_3
                   try clear hfz25_4
                   try clear hfz25_5
                   try clear hfz27_0
                   try clear hfz27_1
                   try clear hfz27_2
                   try clear hfz27_3
                   try clear hfz27_4
                   try clear hfz27_5
                   try clear hfz40_0
                   try clear hfz40_1
                   try clear hfz40_2
                   try clear hfz40_3
                   try clear hfz40_4
                   try clear hfz40_5
                   try clear hx393_0
                   try clear p2
                   try clear p3
                   try clear p33
                   try clear p393
                   try clear p6
                   try clear q3
                   try clear q33
                   try clear q35
                   try clear q393
                   obtain ⟨kq, x0_33, x397002_33, u397002, HA, HJ33, HO_0, HO_4, HO_397002, BK396, HB⟩ := hcut
                   cases kq with
                   | zero => exact absurd HA.out (by simp [impl_readSteps.j3])
                   | succ kj33 =>
                    have H := HA.out
                    clear HA
                    simp only [impl_readSteps.j3] at H
                    by_cases c41 : 0 ≤ t395
                    ·rw [if_pos c41] at H
                     have c41b0 : decide (0 ≤ t395) = true := decide_eq_true c41
                     clear c41
                     by_cases c42 : t395 < (t394.size : Int)
                     ·rw [if_pos c42] at H
                      have c42b0 : decide (t395 < (t394.size : Int)) = true := decide_eq_true c42
                      clear c42
                      by_cases c44 : (bt t394 t395) = 99
                      ·rw [if_pos c44] at H
                       have c44b0 : ((bt t394 t395) == 99) = true := beq_iff_eq.mpr c44
                       have c44b1 : ((bt t394 t395) != 99) = false := bne_eq_false_iff_eq.mpr c44
                       clear c44
                       have HC45 := am H
                       clear H
                       have p43 : 0 ≤ (t395 : Int) := oa
                       have q43 : t395 < (t394.size : Int) := oa
                       have hx43 := bt_at t394 t395
                       replace p43 := eq_true p43
                       replace q43 := eq_true q43
                       go_upto_region 16 with (fail)
                       go_cut [81] (fun v81 wc => ∃ (kq : Nat) (x81_44 : Bool), v81 = .bool x81_44 ∧ Aside0 (impl_readSteps.j4 kq x0_33 x4_1 t394 t395 x81_44 t397 t398 x397002_33 t401 t402 = some (r1, r2)) ∧ Aside0 (kq ≤ kj33) ∧ Aside0 (Kd.V Kd.string 9 wc w.heap.size (fun k_ => (P0_ k_ ∨ w.heap.size ≤ k_) ∧ some k_ ≠ (u4 : Value).ownBlock ∧ some k_ ≠ (u397002 : Value).ownBlock ∧ k_ ≠ gb396) u0 x0_33) ∧ Aside0 (Kd.S k52 52 wc w.heap.size (fun k_ => (w.heap.size ≤ k_) ∧ some k_ ≠ (u397002 : Value).ownBlock ∧ k_ ≠ gb396) u4 x4_1) ∧ Aside0 (Kd.R Kd.string 9 wc w.heap.size (fun k_ => (w.heap.size ≤ k_)) u397002 x397002_33) ∧ Aside0 (wc.heap[gb396]? = some (.cells #[.int .i64 t397, .int .i64 t398, u397002, .int .i64 t401, .int .i64 t402, (.slice none 0 0)] 52 (0, 0))) ∧ Aside0 (Below w.heap.size w wc))
                       case first =>
                        have H := HC45.out
                        clear HC45
                        by_cases c46 : (x0_33.length : Int) = 0
                        ·rw [if_pos c46] at H
                         have c46b0 : ((x0_33.length : Int) == 0) = true := beq_iff_eq.mpr c46
                         have c46b1 : ((x0_33.length : Int) != 0) = false := bne_eq_false_iff_eq.mpr c46
                         clear c46
                         (first | rw [c46b0] | (simp only [i64_w, i32_w]; rw [c46b0]) | skip)
                         have H' := am H
                         clear H
                         obtain ⟨Ao47, co47, eo47⟩ := Kd.V_slice HO_0.out
                         subst eo47
                         go_wp2
                         go_meet
                         case rel => exact ⟨_, (true), zf, H', ⟨by have := HK1.out; have := HJ7.out; have := HJ20.out; have := HJ33.out; first | omega | exact Nat.le_refl _⟩, ⟨zv HO_0.out⟩, ⟨zs HO_4.out⟩, ⟨zr HO_397002.out⟩, ⟨zk BK396.out⟩, ⟨zw⟩⟩
                        ·rw [if_neg c46] at H
                         have c46b0 : ((x0_33.length : Int) == 0) = false := beq_eq_false_iff_ne.mpr c46
                         have c46b1 : ((x0_33.length : Int) != 0) = true := bne_iff_ne.mpr c46
                         have c46b2 : ¬ (x0_33 = []) := fun h_ => c46 (by rw [h_]; rfl)
                         (first | rw [c46b0] | (simp only [i64_w, i32_w]; rw [c46b0]) | skip)
                         by_cases c48 : 0 < (x0_33.length : Int)
                         ·rw [if_pos c48] at H
                          have c48b0 : decide (0 < (x0_33.length : Int)) = true := decide_eq_true c48
                          have c48b1 : decide (0 < x0_33.length) = true := decide_eq_true (by omega)
                          clear c48
                          have H' := am H
                          clear H
                          obtain ⟨Ao49, co49, eo49⟩ := Kd.V_slice HO_0.out
                          subst eo49
                          have p416 : 0 ≤ (0 : Int) := (by omega)
                          have q416 : 0 < (x0_33.length : Int) := oa
                          obtain ⟨ad416, e416, hx416_0⟩ := Kd.at_string (Kd.V_reads' HO_0.out).2.2 0 p416 q416
                          cases e416
                          have qi416 : (0 < x0_33.length) = True := eq_true (by omega)
                          (try rw [show ((0 : Int)).toNat = 0 from rfl] at hx416_0)
                          (try rw [Addr.add_zero'] at hx416_0)
                          replace p416 := eq_true p416
                          replace q416 := eq_true q416
                          go_wp2
                          go_meet
                          case rel => exact ⟨_, (((rdOf ByteArray.empty x0_33 0).toList != ([45, 45, 45, 10] : List UInt8))), zf, H', ⟨by have := HK1.out; have := HJ7.out; have := HJ20.out; have := HJ33.out; first | omega | exact Nat.le_refl _⟩, ⟨zv HO_0.out⟩, ⟨zs HO_4.out⟩, ⟨zr HO_397002.out⟩, ⟨zk BK396.out⟩, ⟨zw⟩⟩
                         ·rw [if_neg c48] at H
                          exact absurd H (by simp)
                       case rest =>
                        clear HC45
                        try clear c1
                        try clear c2
                        try clear p2
                        try clear c3
                        try clear p3
                        try clear q3
                        try clear hx3
                        try clear qi3
                        try clear c4
                        try clear c4b0
                        try clear c4b1
                        try clear p4
                        try clear q4
                        try clear hx4
                        try clear qi4
                        try clear c5
                        try clear c5b0
                        try clear c5b1
                        try clear p6
                        try clear c8
                        try clear c11
                        try clear c11b0
                        try clear c13
                        try clear c14
                        try clear c14b0
                        try clear c14b1
                        try clear c15
                        try clear c15b0
                        try clear c15b1
                        try clear c18
                        try clear c18b0
                        try clear c18b1
                        try clear c19
                        try clear c19b0
                        try clear c19b1
                        try clear c28
                        try clear c29
                        try clear c30
                        try clear c30b0
                        try clear c30b1
                        try clear c31
                        try clear c31b0
                        try clear c32
                        try clear c32b0
                        try clear p33
                        try clear q33
                        try clear hx33
                        try clear c35
                        try clear q35
                        try clear c36
                        try clear c36b0
                        try clear c36b1
                        try clear p39
                        try clear q39
                        try clear hx39
                        try clear qi39
                        try clear c41
                        try clear c41b0
                        try clear p41
                        try clear q41
                        try clear hx41
                        try clear qi41
                        try clear c42
                        try clear c42b0
                        try clear p43
                        try clear q43
                        try clear hx43
                        try clear c44
                        try clear c44b0
                        try clear c44b1
                        try clear c46
                        try clear c46b0
                        try clear c46b1
                        try clear c46b2
                        try clear c48
                        try clear c48b0
                        try clear c48b1
                        try clear hcz23_0
                        try clear hcz23_1
                        try clear hcz23_2
                        try clear hcz23_3
                        try clear hcz23_4
                        try clear hcz23_5
                        try clear hcz25_0
                        try clear hcz25_1
                        try clear hcz25_2
                        try clear hcz25_3
                        try clear hcz25_4
                        try clear hcz25_5
                        try clear hcz27_0
                        try clear hcz27_1
                        try clear hcz27_2
                        try clear hcz27_3
                        try clear hcz27_4
                        try clear hcz27_5
                        try clear hcz40_0
                        try clear hcz40_1
                        try clear hcz40_2
                        try clear hcz40_3
                        try clear hcz40_4
                        try clear hcz40_5
                        try clear hfz23_0
                        try clear hfz23_1
                        try clear hfz23_2
                        try clear hfz23_3
                        try clear hfz23_4
                        try clear hfz23_5
                        try clear hfz25_0
                        try clear hfz25_1
                        try clear hfz25_2
                        try clear hfz25_3
                        try clear hfz25_4
                        try clear hfz25_5
                        try clear hfz27_0
                        try clear hfz27_1
                        try clear hfz27_2
                        try clear hfz27_3
                        try clear hfz27_4
                        try clear hfz27_5
                        try clear hfz40_0
                        try clear hfz40_1
                        try clear hfz40_2
                        try clear hfz40_3
                        try clear hfz40_4
                        try clear hfz40_5
                        try clear hx393_0
                        try clear hx416_0
                        try clear p2
                        try clear p3
                        try clear p33
                        try clear p39
                        try clear p393
                        try clear p416
                        try clear p43
                        try clear p6
                        try clear q3
                        try clear q33
                        try clear q35
                        try clear q39
                        try clear q393
                        try clear q416
                        try clear q43
                        obtain ⟨kq, x81_44, rfl, HA, HJ44, HO_0, HO_4, HO_397002, BK396, HB⟩ := hcut
                        cases kq with
                        | zero => exact absurd HA.out (by simp [impl_readSteps.j4])
                        | succ kj44 =>
                         have H := HA.out
                         clear HA
                         simp only [impl_readSteps.j4] at H
                         by_cases c50 : x81_44 = true
                         ·subst c50
                          have H1 : (some (([] : List (S52)), false)) = some (r1, r2) := by rw [if_pos rfl] at H; exact H
                          clear H
                          have H := H1
                          clear H1
                          simp only [Option.some.injEq, Prod.mk.injEq] at H
                          obtain ⟨rfl, rfl⟩ := H
                          go_wp2
                          go_ret2
                          exact ⟨_, by first | rfl | (simp [errW_none, errW_some] <;> rfl) | (simp only [← hji17]; first | rfl | (simp [errW_none, errW_some] <;> rfl)) | (simp [*, errW_none, errW_some] <;> rfl), by first | exact Kd.S_nil _ _ _ _ _ | exact Kd.N_nil _ _ _ _ _ | exact Kd.V_nil _ _ _ _ _ | exact Kd.Q_nil _ _ _ _ _ | exact Kd.R_nil _ _ _ _ _, zw⟩
                         ·replace c50 := Bool.eq_false_iff.mpr c50
                          subst c50
                          have H1 : (if 1 ≤ (x0_33.length : Int) then ((some (x0_33.drop 1 : List ByteArray)).bind fun y417 => (if 0 ≤ t395 then (if t395 < (t394.size : Int) then (if (bt t394 t395) = 100 then (if x4_1.length < 1759218604441 then (impl_readSteps.l0 kj44 y417 (x4_1 ++ [(⟨t397, t398, x397002_33, t401, t402, ([] : List ByteArray)⟩ : S52)])) else (none)) else ((impl_takeShown.f kj44 y417 (⟨#[62, 32]⟩ : ByteArray)).bind fun bt425 => (if x4_1.length < 1759218604441 then (impl_readSteps.l0 kj44 bt425.2 (x4_1 ++ [(⟨t397, t398, x397002_33, t401, t402, bt425.1⟩ : S52)])) else (none)))) else (none)) else (none))) else (none)) = some (r1, r2) := by rw [if_neg (show ¬ (false = true) by decide)] at H; exact H
                          clear H
                          have H := H1
                          clear H1
                          by_cases c51 : 1 ≤ (x0_33.length : Int)
                          ·rw [if_pos c51] at H
                           have c51b0 := eq_true c51
                           have c51b1 : decide (1 ≤ (x0_33.length : Int)) = true := decide_eq_true c51
                           clear c51
                           obtain ⟨y417, hy417⟩ : ∃ y_ : List ByteArray, y_ = (x0_33.drop 1) := ⟨_, rfl⟩
                           replace H : (if 0 ≤ t395 then (if t395 < (t394.size : Int) then (if (bt t394 t395) = 100 then (if x4_1.length < 1759218604441 then (impl_readSteps.l0 kj44 y417 (x4_1 ++ [(⟨t397, t398, x397002_33, t401, t402, ([] : List ByteArray)⟩ : S52)])) else (none)) else ((impl_takeShown.f kj44 y417 (⟨#[62, 32]⟩ : ByteArray)).bind fun bt425 => (if x4_1.length < 1759218604441 then (impl_readSteps.l0 kj44 bt425.2 (x4_1 ++ [(⟨t397, t398, x397002_33, t401, t402, bt425.1⟩ : S52)])) else (none)))) else (none)) else (none)) = some (r1, r2) := by first | (rw [hy417]; with_reducible exact H) | (have H2_ := (Option.bind_some _ _).symm.trans H; rw [hy417]; with_reducible exact H2_) | (have H2_ := (Option.bind_some _ _).symm.trans H; with_reducible exact H2_) | with_reducible exact H | (rw [hy417]; exact H) | exact H
                           have Ny417 := am hy417
                           clear hy417
                           by_cases c52 : 0 ≤ t395
                           ·rw [if_pos c52] at H
                            have c52b0 : decide (0 ≤ t395) = true := decide_eq_true c52
                            clear c52
                            by_cases c53 : t395 < (t394.size : Int)
                            ·rw [if_pos c53] at H
                             have c53b0 : decide (t395 < (t394.size : Int)) = true := decide_eq_true c53
                             clear c53
                             by_cases c55 : (bt t394 t395) = 100
                             ·rw [if_pos c55] at H
                              have c55b0 : ((bt t394 t395) == 100) = true := beq_iff_eq.mpr c55
                              have c55b1 : ((bt t394 t395) != 100) = false := bne_eq_false_iff_eq.mpr c55
                              clear c55
                              by_cases c56 : x4_1.length < 1759218604441
                              ·rw [if_pos c56] at H
                               have LMc56 := am c56
                               clear c56
                               obtain ⟨y422, hy422⟩ : ∃ y_ : List (S52), y_ = (x4_1 ++ [(⟨t397, t398, x397002_33, t401, t402, ([] : List ByteArray)⟩ : S52)]) := ⟨_, rfl⟩
                               replace H : (impl_readSteps.l0 kj44 y417 y422) = some (r1, r2) := by first | (rw [hy422]; with_reducible exact H) | (have H2_ := (Option.bind_some _ _).symm.trans H; rw [hy422]; with_reducible exact H2_) | (have H2_ := (Option.bind_some _ _).symm.trans H; with_reducible exact H2_) | with_reducible exact H | (rw [hy422]; exact H) | exact H
                               have Ny422 := am hy422
                               clear hy422
                               have H' := am H
                               clear H
                               obtain ⟨Ao58, co58, eo58⟩ := Kd.V_slice HO_0.out
                               subst eo58
                               have q57 : (1 : Int) ≤ ((x0_33.length : Int) : Int) := oa
                               obtain ⟨i057, hi057, _, hsz57, _⟩ := info_parts info9
                               have hroom57 : x0_33.length ≤ co58 := (Kd.V_reads' HO_0.out).2.1
                               have hC57 : Kd.F Kd.string _ _ Ao58 x0_33.length x0_33 := (Kd.V_at (base := w.heap.size) HO_0.out).2.2
                               have hcut57 := cut_from (P := Tryz.prog) 24 9 .i64 Tryz.underlying24 hi057 1 hsz57 Ao58 x0_33.length co58 1 (by omega) q57
                               have hr57 := Kd.F_cut (m := (1 : Int).toNat) (c := co58) hC57 (by omega) hroom57
                               obtain ⟨A57, hA57⟩ : ∃ A1, A1 = (if co58 = (1 : Int).toNat then Ao58 else (Ao58 : Option Addr).map (·.add ((1 : Int).toNat * 1))) := ⟨_, rfl⟩
                               obtain ⟨c57, hc57⟩ : ∃ c1, c1 = co58 - (1 : Int).toNat := ⟨_, rfl⟩
                               have hy57 : y417.length = x0_33.length - (1 : Int).toNat := (by rw [Ny417.out, List.length_drop] <;> omega)
                               rw [show (x0_33).drop (1 : Int).toNat = y417 from Ny417.out.symm] at hr57
                               replace hr57 : Kd.F Kd.string _ _ A57 y417.length y417 := (by rw [hA57]; exact hr57)
                               rw [← hy57, ← hA57, ← hc57] at hcut57
                               have HO421 := am (show Kd.V Kd.string 9 _ w.heap.size _ (.slice A57 y417.length c57) y417 from Kd.V_mk (by rw [hy57, hc57]; exact Nat.sub_le_sub_right hroom57 _) hr57)
                               have HC421 := am (show y417.length ≤ c57 from by rw [hy57, hc57]; exact Nat.sub_le_sub_right hroom57 _)
                               clear hr57 hC57 hroom57 hi057 hsz57 hc57
                               have KY57 := am hy57
                               have KA57 := am hA57
                               clear hy57 hA57
                               replace q57 := eq_true q57
                               have p54 : 0 ≤ (t395 : Int) := oa
                               have q54 : t395 < (t394.size : Int) := oa
                               have hx54 := bt_at t394 t395
                               replace p54 := eq_true p54
                               replace q54 := eq_true q54
                               have hcz59_0 : wc.cell? ⟨gb396, 0, none⟩ = some (.int .i64 t397) := (blk_cell BK396.out 0).trans rfl
                               have hcz59_1 : wc.cell? ⟨gb396, 1, none⟩ = some (.int .i64 t398) := (blk_cell BK396.out 1).trans rfl
                               have hcz59_2 : wc.cell? ⟨gb396, 2, none⟩ = some (u397002) := (blk_cell BK396.out 2).trans rfl
                               have hcz59_3 : wc.cell? ⟨gb396, 3, none⟩ = some (.int .i64 t401) := (blk_cell BK396.out 3).trans rfl
                               have hcz59_4 : wc.cell? ⟨gb396, 4, none⟩ = some (.int .i64 t402) := (blk_cell BK396.out 4).trans rfl
                               have hcz59_5 : wc.cell? ⟨gb396, 5, none⟩ = some (.slice none 0 0) := (blk_cell BK396.out 5).trans rfl
                               have hfz59_0 := blk_frozen BK396.out 0
                               have hfz59_1 := blk_frozen BK396.out 1
                               have hfz59_2 := blk_frozen BK396.out 2
                               have hfz59_3 := blk_frozen BK396.out 3
                               have hfz59_4 := blk_frozen BK396.out 4
                               have hfz59_5 := blk_frozen BK396.out 5
                               obtain ⟨Ao61, co61, eo61⟩ := Kd.R_slice HO_397002.out
                               subst eo61
                               go_wp2_with (first | ((with_reducible refine gateB (b := .append) (xs := #[.tmp 94, .tmp 96]) rfl ?_); (try (refine gate_guard (by rfl) ?_; dsimp only)); at_builtin; refine Kd.S_append k52 (w0 := w) w.heap.size rfl (.tmp 94) (.tmp 96) 28 52 (.agg #[(.int .i64 0), (.int .i64 0), (.slice none 0 0), (.int .i64 0), (.int .i64 0), (.slice none 0 0)]) 80 rfl Tryz.underlying28 info52 rfl (by decide) (by omega) u4 x4_1 (⟨t397, t398, x397002_33, t401, t402, ([] : List ByteArray)⟩ : S52) [.int .i64 t397, .int .i64 t398, .slice Ao61 x397002_33.length co61, .int .i64 t401, .int .i64 t402, .slice none 0 0] (fun k_ => (w.heap.size ≤ k_) ∧ k_ ≠ gb396) (fun k_ => some k_ = (.slice Ao61 x397002_33.length co61 : Value).ownBlock) rfl rfl ?aP (fun k_ hk_ => ((Kd.R_mono (ok' := fun k_ => ((fun k_ => (w.heap.size ≤ k_) ∧ k_ ≠ gb396)) k_ ∧ some k_ ≠ (u4 : Value).ownBlock) (Kd.R_types (Kd.R_apart' (HO_397002.out) (Kd.S_typed HO_4.out) (by decide)) BK396.out (by decide)) (fun k_ hk => ⟨⟨hk.1.1, hk.2⟩, hk.1.2⟩))).1 k_ hk_.symm) ?aF ?aO ?aB ?aS ?aL ?_; (case aP => exact k52_mkM zy _ _ _ (⟨t397, t398, x397002_33, t401, t402, ([] : List ByteArray)⟩ : S52) (Kd.R_mono (Kd.R_tight rfl (Kd.R_mono (ok' := fun k_ => ((fun k_ => (w.heap.size ≤ k_) ∧ k_ ≠ gb396)) k_ ∧ some k_ ≠ (u4 : Value).ownBlock) (Kd.R_types (Kd.R_apart' (HO_397002.out) (Kd.S_typed HO_4.out) (by decide)) BK396.out (by decide)) (fun k_ hk => ⟨⟨hk.1.1, hk.2⟩, hk.1.2⟩))) (fun _ h_ => h_)) (Kd.R_nil _ _ _ _ _)); (case aB => exact zw); (case aF => exact (fun k_ hk => ⟨(Nat.le_trans (below_size zw) hk), Kd.freshB (g := gb396) (o := .cells #[.int .i64 t397, .int .i64 t398, .slice Ao61 x397002_33.length co61, .int .i64 t401, .int .i64 t402, .slice none 0 0] 52 (0, 0)) (zk BK396.out) k_ hk⟩)); (case aO => exact (by (with_reducible repeat (first | apply Kd.S_alloc | apply Kd.S_drewN | apply Kd.S_drew)); exact Kd.S_mono HO_4.out (fun k_ hk => ⟨⟨hk.1, hk.2.2⟩, fun e_ => hk.2.1 e_⟩))); (case aS => exact (below_size zw)); (case aL => have := LMc56.out; omega); intro v423 w60 ho hb hg hat; rw [← Ny422.out] at ho; have n0_ := am (Kd.V_afterv (ok := (fun k_ => (P0_ k_ ∨ w.heap.size ≤ k_) ∧ some k_ ≠ (.slice Ao61 x397002_33.length co61 : Value).ownBlock ∧ k_ ≠ gb396)) (by (with_reducible repeat (first | apply Kd.V_alloc | apply Kd.V_drewN | apply Kd.V_drew)); exact Kd.V_mono HO_0.out (fun _ hk => ⟨⟨hk.1, ⟨hk.2.2.1, hk.2.2.2⟩⟩, hk.2.1⟩)) hg hat); have n1_ := am (blk_grown (g := gb396) (o := .cells #[.int .i64 t397, .int .i64 t398, .slice Ao61 x397002_33.length co61, .int .i64 t401, .int .i64 t402, .slice none 0 0] 52 (0, 0)) (zk BK396.out) hg (Kd.S_away HO_4.out (fun _ hk => hk.2.2))); have n2_ := am (Kd.V_afterv (ok := (fun k_ => (P0_ k_ ∨ w.heap.size ≤ k_) ∧ some k_ ≠ (.slice Ao61 x397002_33.length co61 : Value).ownBlock ∧ k_ ≠ gb396)) (by (with_reducible repeat (first | apply Kd.V_alloc | apply Kd.V_drewN | apply Kd.V_drew)); exact Kd.V_mono HO421.out (fun _ hk => ⟨⟨hk.1, ⟨hk.2.2.1, hk.2.2.2⟩⟩, hk.2.1⟩)) hg hat); have n3_ := am (hb); have n4_ := am (ho); clear HO_0; clear BK396; clear HO421; clear HB; clear HO_4; clear HO_397002; have HO_0 := n0_; have BK396 := n1_; have HO421 := n2_; have HB := n3_; have HO424 := n4_; clear n0_ n1_ n2_ n3_ n4_; clear ho hb hg hat))
                               go_roundg kj44
                               case measure => have := HK1.out; have := HJ7.out; have := HJ20.out; have := HJ33.out; have := HJ44.out; omega
                               case rel => exact ⟨(y417), (y422), H', ⟨by have := HK1.out; have := HJ7.out; have := HJ20.out; have := HJ33.out; have := HJ44.out; omega⟩, ⟨by (with_reducible repeat (first | apply Kd.V_alloc | apply Kd.V_drewN | apply Kd.V_drew)); exact Kd.V_mono HO421.out (fun _ hk => ⟨hk.1.1, hk.2⟩)⟩, ⟨by (with_reducible repeat (first | apply Kd.S_alloc | apply Kd.S_drewN | apply Kd.S_drew)); exact Kd.S_mono HO424.out (fun _ hk => hk.1)⟩, ⟨zw⟩⟩
                              ·rw [if_neg c56] at H
                               exact absurd H (by simp)
                             ·rw [if_neg c55] at H
                              have c55b0 : ((bt t394 t395) == 100) = false := beq_eq_false_iff_ne.mpr c55
                              have c55b1 : ((bt t394 t395) != 100) = true := bne_iff_ne.mpr c55
                              replace H := Option.bind_eq_some_iff.mp H
                              obtain ⟨⟨t425, t428⟩, A620, H⟩ := H
                              replace H : (if x4_1.length < 1759218604441 then (impl_readSteps.l0 kj44 t428 (x4_1 ++ [(⟨t397, t398, x397002_33, t401, t402, t425⟩ : S52)])) else (none)) = some (r1, r2) := H
                              have A62 := am A620
                              clear A620
                              by_cases c63 : x4_1.length < 1759218604441
                              ·rw [if_pos c63] at H
                               have LMc63 := am c63
                               clear c63
                               obtain ⟨y431, hy431⟩ : ∃ y_ : List (S52), y_ = (x4_1 ++ [(⟨t397, t398, x397002_33, t401, t402, t425⟩ : S52)]) := ⟨_, rfl⟩
                               replace H : (impl_readSteps.l0 kj44 t428 y431) = some (r1, r2) := by first | (rw [hy431]; with_reducible exact H) | (have H2_ := (Option.bind_some _ _).symm.trans H; rw [hy431]; with_reducible exact H2_) | (have H2_ := (Option.bind_some _ _).symm.trans H; with_reducible exact H2_) | with_reducible exact H | (rw [hy431]; exact H) | exact H
                               have Ny431 := am hy431
                               clear hy431
                               have H' := am H
                               clear H
                               obtain ⟨Ao65, co65, eo65⟩ := Kd.V_slice HO_0.out
                               subst eo65
                               have q64 : (1 : Int) ≤ ((x0_33.length : Int) : Int) := oa
                               obtain ⟨i064, hi064, _, hsz64, _⟩ := info_parts info9
                               have hroom64 : x0_33.length ≤ co65 := (Kd.V_reads' HO_0.out).2.1
                               have hC64 : Kd.F Kd.string _ _ Ao65 x0_33.length x0_33 := (Kd.V_at (base := w.heap.size) HO_0.out).2.2
                               have hcut64 := cut_from (P := Tryz.prog) 24 9 .i64 Tryz.underlying24 hi064 1 hsz64 Ao65 x0_33.length co65 1 (by omega) q64
                               have hr64 := Kd.F_cut (m := (1 : Int).toNat) (c := co65) hC64 (by omega) hroom64
                               obtain ⟨A64, hA64⟩ : ∃ A1, A1 = (if co65 = (1 : Int).toNat then Ao65 else (Ao65 : Option Addr).map (·.add ((1 : Int).toNat * 1))) := ⟨_, rfl⟩
                               obtain ⟨c64, hc64⟩ : ∃ c1, c1 = co65 - (1 : Int).toNat := ⟨_, rfl⟩
                               have hy64 : y417.length = x0_33.length - (1 : Int).toNat := (by rw [Ny417.out, List.length_drop] <;> omega)
                               rw [show (x0_33).drop (1 : Int).toNat = y417 from Ny417.out.symm] at hr64
                               replace hr64 : Kd.F Kd.string _ _ A64 y417.length y417 := (by rw [hA64]; exact hr64)
                               rw [← hy64, ← hA64, ← hc64] at hcut64
                               have HO421 := am (show Kd.V Kd.string 9 _ w.heap.size _ (.slice A64 y417.length c64) y417 from Kd.V_mk (by rw [hy64, hc64]; exact Nat.sub_le_sub_right hroom64 _) hr64)
                               have HC421 := am (show y417.length ≤ c64 from by rw [hy64, hc64]; exact Nat.sub_le_sub_right hroom64 _)
                               clear hr64 hC64 hroom64 hi064 hsz64 hc64
                               have KY64 := am hy64
                               have KA64 := am hA64
                               clear hy64 hA64
                               replace q64 := eq_true q64
                               have p54 : 0 ≤ (t395 : Int) := oa
                               have q54 : t395 < (t394.size : Int) := oa
                               have hx54 := bt_at t394 t395
                               replace p54 := eq_true p54
                               replace q54 := eq_true q54
                               go_wp2_with (first | ((with_reducible refine gateC (f := 83) rfl ?_); refine goesL_ (some 90) rfl rfl Tryz.func83 (by kernel_rfl) rfl #[.slice A64 y417.length c64, .string (⟨#[62, 32]⟩ : ByteArray)] rfl zm ?_; (with_reducible refine (impl_takeShown.calls kj44 (fun k_ => ((P0_ k_ ∨ w.heap.size ≤ k_) ∧ (some k_ ≠ (u4 : Value).ownBlock ∧ (some k_ ≠ (u397002 : Value).ownBlock ∧ k_ ≠ gb396)))) _ _ y417 (⟨#[62, 32]⟩ : ByteArray) t425 t428 _ ?side1 A62.out).mono ?_); (case side1 => exact HO421.out); rintro e w66 ⟨v426, v429, rfl, ho0, ho1, hb⟩; refine ⟨_, rfl, ?_⟩; have n0_ := am (Kd.V_elder' (zv HO_0.out) (Kd.R_base ho0) hb); have n1_ := am (Kd.S_elder' (zs HO_4.out) (Kd.R_base ho0) hb); have n2_ := am (Kd.R_elder' (zr HO_397002.out) (Kd.R_base ho0) hb); have n3_ := am (Kd.V_elder' (zv HO421.out) (Kd.R_base ho0) hb); have n4_ := am (Kd.R_lower (Kd.R_new' (Kd.R_newM (M := fun k_ => (w.heap.size ≤ k_)) (Kd.R_mono (ok' := fun k_ => True) ho0 (fun _ hk_ => trivial)) (below_size zw) (fun k_ h_ => h_)) (Kd.R_lt (zr HO_397002.out))) (below_size zw)); have n5_ := am (Kd.V_lower (Kd.V_mono (ok' := fun k_ => (P0_ k_ ∨ w.heap.size ≤ k_) ∧ some k_ ≠ (v426 : Value).ownBlock ∧ some k_ ≠ (u4 : Value).ownBlock ∧ some k_ ≠ (u397002 : Value).ownBlock ∧ k_ ≠ gb396) ho1 (fun k_ hk_ => ⟨Or.elim hk_.1 (fun hs_ => hs_.1) (fun hn_ => (.inr (Nat.le_trans (below_size zw) hn_))), hk_.2, Or.elim hk_.1 (fun hs_ => hs_.2.1) (fun hn_ => (Kd.fresh' (Kd.S_lt (zs HO_4.out)) k_ hn_)), Or.elim hk_.1 (fun hs_ => hs_.2.2.1) (fun hn_ => (Kd.fresh' (Kd.R_lt (zr HO_397002.out)) k_ hn_)), Or.elim hk_.1 (fun hs_ => hs_.2.2.2) (fun hn_ => (Kd.freshB (g := gb396) (o := .cells #[.int .i64 t397, .int .i64 t398, u397002, .int .i64 t401, .int .i64 t402, .slice none 0 0] 52 (0, 0)) (zk BK396.out) k_ hn_))⟩)) (below_size zw)); have n6_ := am (blk_below (g := gb396) (o := .cells #[.int .i64 t397, .int .i64 t398, u397002, .int .i64 t401, .int .i64 t402, .slice none 0 0] 52 (0, 0)) (zk BK396.out) hb); have n7_ := am (below_step zw hb); clear HO_0; clear HO_4; clear HO_397002; clear HO421; clear BK396; clear HB; have HO_0 := n0_; have HO_4 := n1_; have HO_397002 := n2_; have HO421 := n3_; have HO427 := n4_; have HO430 := n5_; have BK396 := n6_; have HB := n7_; clear n0_ n1_ n2_ n3_ n4_ n5_ n6_ n7_; (try clear hb); (try clear ho0); (try clear ho1); obtain ⟨Ao67, co67, eo67⟩ := Kd.R_slice HO427.out; subst eo67; have hcz68_0 : w66.cell? ⟨gb396, 0, none⟩ = some (.int .i64 t397) := (blk_cell BK396.out 0).trans rfl; have hcz68_1 : w66.cell? ⟨gb396, 1, none⟩ = some (.int .i64 t398) := (blk_cell BK396.out 1).trans rfl; have hcz68_2 : w66.cell? ⟨gb396, 2, none⟩ = some (u397002) := (blk_cell BK396.out 2).trans rfl; have hcz68_3 : w66.cell? ⟨gb396, 3, none⟩ = some (.int .i64 t401) := (blk_cell BK396.out 3).trans rfl; have hcz68_4 : w66.cell? ⟨gb396, 4, none⟩ = some (.int .i64 t402) := (blk_cell BK396.out 4).trans rfl; have hcz68_5 : w66.cell? ⟨gb396, 5, none⟩ = some (.slice none 0 0) := (blk_cell BK396.out 5).trans rfl; have hfz68_0 := blk_frozen BK396.out 0; have hfz68_1 := blk_frozen BK396.out 1; have hfz68_2 := blk_frozen BK396.out 2; have hfz68_3 := blk_frozen BK396.out 3; have hfz68_4 := blk_frozen BK396.out 4; have hfz68_5 := blk_frozen BK396.out 5) | ((with_reducible refine gate_store (t := 24) (p := 93) rfl ?_); refine store_event (t := 24) (p := 93) (v := ?vo_w69) (w1 := (w66.setCell ⟨gb396, 5, none⟩ (.slice Ao67 t425.length co67))) ?hg ?ho ?hn ?hr ?_; (case ho => rfl); (case hg => rfl); (case hn => rfl); (case hr => first | (go_simp; done) | (go_simp; rfl)); intro w69 hw; have n0_ : Aside0 (Kd.V Kd.string 9 w69 w.heap.size (fun k_ => (P0_ k_ ∨ w.heap.size ≤ k_) ∧ some k_ ≠ (u4 : Value).ownBlock ∧ some k_ ≠ (u397002 : Value).ownBlock ∧ some k_ ≠ (.slice Ao67 t425.length co67 : Value).ownBlock ∧ k_ ≠ gb396) (.slice Ao65 x0_33.length co65) x0_33) := ⟨(by rw [hw]; exact (by (with_reducible repeat (first | apply Kd.V_alloc | apply Kd.V_drewN | apply Kd.V_drew)); exact Kd.V_mono (Kd.V_far (p := ⟨gb396, 5, none⟩) (Kd.V_mono HO_0.out (fun k_ hk => (⟨hk, hk.1.2.2.2⟩ : _ ∧ k_ ≠ gb396))) (fun _ hk => hk.2) (.slice Ao67 t425.length co67)) (fun _ hk => ⟨hk.1.1.1, ⟨hk.1.1.2.1, ⟨hk.1.1.2.2.1, ⟨hk.1.2, hk.1.1.2.2.2⟩⟩⟩⟩)))⟩; have n1_ : Aside0 (Kd.S k52 52 w69 w.heap.size (fun k_ => (w.heap.size ≤ k_) ∧ some k_ ≠ (u397002 : Value).ownBlock ∧ some k_ ≠ (.slice Ao67 t425.length co67 : Value).ownBlock ∧ k_ ≠ gb396) u4 x4_1) := ⟨(by rw [hw]; exact (by (with_reducible repeat (first | apply Kd.S_alloc | apply Kd.S_drewN | apply Kd.S_drew)); exact Kd.S_mono (Kd.S_far (p := ⟨gb396, 5, none⟩) (Kd.S_mono HO_4.out (fun k_ hk => (⟨hk, hk.1.2.2⟩ : _ ∧ k_ ≠ gb396))) (fun _ hk => hk.2) (.slice Ao67 t425.length co67)) (fun _ hk => ⟨hk.1.1.1, ⟨hk.1.1.2.1, ⟨hk.1.2, hk.1.1.2.2⟩⟩⟩)))⟩; have n2_ : Aside0 (Kd.R Kd.string 9 w69 w.heap.size (fun k_ => (w.heap.size ≤ k_) ∧ some k_ ≠ (.slice Ao67 t425.length co67 : Value).ownBlock) u397002 x397002_33) := ⟨(by rw [hw]; exact (by (with_reducible repeat (first | apply Kd.R_alloc | apply Kd.R_drewN | apply Kd.R_drew)); exact Kd.R_mono (Kd.R_far (p := ⟨gb396, 5, none⟩) (Kd.R_types HO_397002.out BK396.out (by decide)) (fun _ hk => hk.2) (.slice Ao67 t425.length co67)) (fun _ hk => ⟨hk.1.1, hk.1.2⟩)))⟩; have n3_ : Aside0 (Kd.V Kd.string 9 w69 w.heap.size (fun k_ => (P0_ k_ ∨ w.heap.size ≤ k_) ∧ some k_ ≠ (u4 : Value).ownBlock ∧ some k_ ≠ (u397002 : Value).ownBlock ∧ some k_ ≠ (.slice Ao67 t425.length co67 : Value).ownBlock ∧ k_ ≠ gb396) (.slice A64 y417.length c64) y417) := ⟨(by rw [hw]; exact (by (with_reducible repeat (first | apply Kd.V_alloc | apply Kd.V_drewN | apply Kd.V_drew)); exact Kd.V_mono (Kd.V_far (p := ⟨gb396, 5, none⟩) (Kd.V_mono HO421.out (fun k_ hk => (⟨hk, hk.1.2.2.2⟩ : _ ∧ k_ ≠ gb396))) (fun _ hk => hk.2) (.slice Ao67 t425.length co67)) (fun _ hk => ⟨hk.1.1.1, ⟨hk.1.1.2.1, ⟨hk.1.1.2.2.1, ⟨hk.1.2, hk.1.1.2.2.2⟩⟩⟩⟩)))⟩; have n4_ : Aside0 (Kd.R Kd.string 9 w69 w.heap.size (fun k_ => (w.heap.size ≤ k_) ∧ some k_ ≠ (u397002 : Value).ownBlock) (.slice Ao67 t425.length co67) t425) := ⟨(by rw [hw]; exact (by (with_reducible repeat (first | apply Kd.R_alloc | apply Kd.R_drewN | apply Kd.R_drew)); exact Kd.R_mono (Kd.R_far (p := ⟨gb396, 5, none⟩) (Kd.R_types HO427.out BK396.out (by decide)) (fun _ hk => hk.2) (.slice Ao67 t425.length co67)) (fun _ hk => ⟨hk.1.1.1, hk.1.2⟩)))⟩; have n5_ : Aside0 (Kd.V Kd.string 9 w69 w.heap.size (fun k_ => (P0_ k_ ∨ w.heap.size ≤ k_) ∧ some k_ ≠ (u4 : Value).ownBlock ∧ some k_ ≠ (u397002 : Value).ownBlock ∧ some k_ ≠ (.slice Ao67 t425.length co67 : Value).ownBlock ∧ k_ ≠ gb396) v429 t428) := ⟨(by rw [hw]; exact (by (with_reducible repeat (first | apply Kd.V_alloc | apply Kd.V_drewN | apply Kd.V_drew)); exact Kd.V_mono (Kd.V_far (p := ⟨gb396, 5, none⟩) (Kd.V_mono HO430.out (fun k_ hk => (⟨hk, hk.2.2.2.2⟩ : _ ∧ k_ ≠ gb396))) (fun _ hk => hk.2) (.slice Ao67 t425.length co67)) (fun _ hk => ⟨hk.1.1, ⟨hk.1.2.2.1, ⟨hk.1.2.2.2.1, ⟨hk.1.2.1, hk.1.2.2.2.2⟩⟩⟩⟩)))⟩; have n6_ : Aside0 (w69.heap[gb396]? = some (.cells #[.int .i64 t397, .int .i64 t398, u397002, .int .i64 t401, .int .i64 t402, .slice Ao67 t425.length co67] 52 (0, 0))) := ⟨(by rw [hw]; exact (by (with_reducible repeat (first | refine blk_drewN ?_ _ | refine blk_drew ?_ | refine blk_alloc ?_ _)); refine blk_put (cs := #[.int .i64 t397, .int .i64 t398, u397002, .int .i64 t401, .int .i64 t402, .slice none 0 0]) ?_ 5 _ rfl; (with_reducible repeat (first | refine blk_drewN ?_ _ | refine blk_drew ?_ | refine blk_alloc ?_ _)); exact BK396.out))⟩; have n7_ : Aside0 (Below w.heap.size w w69) := ⟨(by rw [hw]; exact zw)⟩; clear hw; clear HO_0; clear HO_4; clear HO_397002; clear HO421; clear HO427; clear HO430; clear BK396; clear HB; have HO_0 := n0_; have HO_4 := n1_; have HO_397002 := n2_; have HO421 := n3_; have HO427 := n4_; have HO430 := n5_; have BK396 := n6_; have HB := n7_; clear n0_ n1_ n2_ n3_ n4_ n5_ n6_ n7_; have hcz70_0 : w69.cell? ⟨gb396, 0, none⟩ = some (.int .i64 t397) := (blk_cell BK396.out 0).trans rfl; have hcz70_1 : w69.cell? ⟨gb396, 1, none⟩ = some (.int .i64 t398) := (blk_cell BK396.out 1).trans rfl; have hcz70_2 : w69.cell? ⟨gb396, 2, none⟩ = some (u397002) := (blk_cell BK396.out 2).trans rfl; have hcz70_3 : w69.cell? ⟨gb396, 3, none⟩ = some (.int .i64 t401) := (blk_cell BK396.out 3).trans rfl; have hcz70_4 : w69.cell? ⟨gb396, 4, none⟩ = some (.int .i64 t402) := (blk_cell BK396.out 4).trans rfl; have hcz70_5 : w69.cell? ⟨gb396, 5, none⟩ = some (.slice Ao67 t425.length co67) := (blk_cell BK396.out 5).trans rfl; have hfz70_0 := blk_frozen BK396.out 0; have hfz70_1 := blk_frozen BK396.out 1; have hfz70_2 := blk_frozen BK396.out 2; have hfz70_3 := blk_frozen BK396.out 3; have hfz70_4 := blk_frozen BK396.out 4; have hfz70_5 := blk_frozen BK396.out 5; obtain ⟨Ao72, co72, eo72⟩ := Kd.R_slice HO_397002.out; subst eo72) | ((with_reducible refine gateB (b := .append) (xs := #[.tmp 94, .tmp 96]) rfl ?_); (try (refine gate_guard (by rfl) ?_; dsimp only)); at_builtin; refine Kd.S_append k52 (w0 := w) w.heap.size rfl (.tmp 94) (.tmp 96) 28 52 (.agg #[(.int .i64 0), (.int .i64 0), (.slice none 0 0), (.int .i64 0), (.int .i64 0), (.slice none 0 0)]) 80 rfl Tryz.underlying28 info52 rfl (by decide) (by omega) u4 x4_1 (⟨t397, t398, x397002_33, t401, t402, t425⟩ : S52) [.int .i64 t397, .int .i64 t398, .slice Ao72 x397002_33.length co72, .int .i64 t401, .int .i64 t402, .slice Ao67 t425.length co67] (fun k_ => (w.heap.size ≤ k_) ∧ k_ ≠ gb396) (fun k_ => some k_ = (.slice Ao72 x397002_33.length co72 : Value).ownBlock ∨ some k_ = (.slice Ao67 t425.length co67 : Value).ownBlock) rfl rfl ?aP (fun k_ hk_ => hk_.elim (fun h_ => ((Kd.R_mono (ok' := fun k_ => ((fun k_ => (w.heap.size ≤ k_) ∧ k_ ≠ gb396)) k_ ∧ some k_ ≠ (u4 : Value).ownBlock) (Kd.R_types (Kd.R_apart' (HO_397002.out) (Kd.S_typed HO_4.out) (by decide)) BK396.out (by decide)) (fun k_ hk => ⟨⟨hk.1.1.1, hk.2⟩, hk.1.2⟩))).1 k_ h_.symm) (fun h_ => ((Kd.R_mono (ok' := fun k_ => ((fun k_ => (w.heap.size ≤ k_) ∧ k_ ≠ gb396)) k_ ∧ some k_ ≠ (u4 : Value).ownBlock) (Kd.R_types (Kd.R_apart' (HO427.out) (Kd.S_typed HO_4.out) (by decide)) BK396.out (by decide)) (fun k_ hk => ⟨⟨hk.1.1.1, hk.2⟩, hk.1.2⟩))).1 k_ h_.symm)) ?aF ?aO ?aB ?aS ?aL ?_; (case aP => exact k52_mkM zy _ _ _ (⟨t397, t398, x397002_33, t401, t402, t425⟩ : S52) (Kd.R_mono (Kd.R_tight rfl (Kd.R_mono (ok' := fun k_ => ((fun k_ => (w.heap.size ≤ k_) ∧ k_ ≠ gb396)) k_ ∧ some k_ ≠ (u4 : Value).ownBlock) (Kd.R_types (Kd.R_apart' (HO_397002.out) (Kd.S_typed HO_4.out) (by decide)) BK396.out (by decide)) (fun k_ hk => ⟨⟨hk.1.1.1, hk.2⟩, hk.1.2⟩))) (fun _ h_ => Or.inl h_)) (Kd.R_mono (Kd.R_tight rfl (Kd.R_mono (ok' := fun k_ => ((fun k_ => (w.heap.size ≤ k_) ∧ k_ ≠ gb396)) k_ ∧ some k_ ≠ (u4 : Value).ownBlock) (Kd.R_types (Kd.R_apart' (HO427.out) (Kd.S_typed HO_4.out) (by decide)) BK396.out (by decide)) (fun k_ hk => ⟨⟨hk.1.1.1, hk.2⟩, hk.1.2⟩))) (fun _ h_ => Or.inr (h_)))); (case aB => exact zw); (case aF => exact (fun k_ hk => ⟨(Nat.le_trans (below_size zw) hk), Kd.freshB (g := gb396) (o := .cells #[.int .i64 t397, .int .i64 t398, .slice Ao72 x397002_33.length co72, .int .i64 t401, .int .i64 t402, .slice Ao67 t425.length co67] 52 (0, 0)) (zk BK396.out) k_ hk⟩)); (case aO => exact (by (with_reducible repeat (first | apply Kd.S_alloc | apply Kd.S_drewN | apply Kd.S_drew)); exact Kd.S_mono HO_4.out (fun k_ hk => ⟨⟨hk.1, hk.2.2.2⟩, fun e_ => e_.elim (fun h_ => hk.2.1 h_) (fun h_ => hk.2.2.1 h_)⟩))); (case aS => exact (below_size zw)); (case aL => have := LMc63.out; omega); intro v432 w71 ho hb hg hat; rw [← Ny431.out] at ho; have n0_ := am (Kd.V_afterv (ok := (fun k_ => (P0_ k_ ∨ w.heap.size ≤ k_) ∧ some k_ ≠ (.slice Ao72 x397002_33.length co72 : Value).ownBlock ∧ some k_ ≠ (.slice Ao67 t425.length co67 : Value).ownBlock ∧ k_ ≠ gb396)) (by (with_reducible repeat (first | apply Kd.V_alloc | apply Kd.V_drewN | apply Kd.V_drew)); exact Kd.V_mono HO_0.out (fun _ hk => ⟨⟨hk.1, ⟨hk.2.2.1, ⟨hk.2.2.2.1, hk.2.2.2.2⟩⟩⟩, hk.2.1⟩)) hg hat); have n1_ := am (blk_grown (g := gb396) (o := .cells #[.int .i64 t397, .int .i64 t398, .slice Ao72 x397002_33.length co72, .int .i64 t401, .int .i64 t402, .slice Ao67 t425.length co67] 52 (0, 0)) (zk BK396.out) hg (Kd.S_away HO_4.out (fun _ hk => hk.2.2.2))); have n2_ := am (Kd.V_afterv (ok := (fun k_ => (P0_ k_ ∨ w.heap.size ≤ k_) ∧ some k_ ≠ (.slice Ao72 x397002_33.length co72 : Value).ownBlock ∧ some k_ ≠ (.slice Ao67 t425.length co67 : Value).ownBlock ∧ k_ ≠ gb396)) (by (with_reducible repeat (first | apply Kd.V_alloc | apply Kd.V_drewN | apply Kd.V_drew)); exact Kd.V_mono HO421.out (fun _ hk => ⟨⟨hk.1, ⟨hk.2.2.1, ⟨hk.2.2.2.1, hk.2.2.2.2⟩⟩⟩, hk.2.1⟩)) hg hat); have n3_ := am (Kd.V_afterv (ok := (fun k_ => (P0_ k_ ∨ w.heap.size ≤ k_) ∧ some k_ ≠ (.slice Ao72 x397002_33.length co72 : Value).ownBlock ∧ some k_ ≠ (.slice Ao67 t425.length co67 : Value).ownBlock ∧ k_ ≠ gb396)) (by (with_reducible repeat (first | apply Kd.V_alloc | apply Kd.V_drewN | apply Kd.V_drew)); exact Kd.V_mono HO430.out (fun _ hk => ⟨⟨hk.1, ⟨hk.2.2.1, ⟨hk.2.2.2.1, hk.2.2.2.2⟩⟩⟩, hk.2.1⟩)) hg hat); have n4_ := am (hb); have n5_ := am (ho); clear HO_0; clear BK396; clear HO421; clear HO430; clear HB; clear HO_4; clear HO427; clear HO_397002; have HO_0 := n0_; have BK396 := n1_; have HO421 := n2_; have HO430 := n3_; have HB := n4_; have HO433 := n5_; clear n0_ n1_ n2_ n3_ n4_ n5_; clear ho hb hg hat))
                               go_roundg kj44
                               case measure => have := HK1.out; have := HJ7.out; have := HJ20.out; have := HJ33.out; have := HJ44.out; omega
                               case rel => exact ⟨(t428), (y431), H', ⟨by have := HK1.out; have := HJ7.out; have := HJ20.out; have := HJ33.out; have := HJ44.out; omega⟩, ⟨by (with_reducible repeat (first | apply Kd.V_alloc | apply Kd.V_drewN | apply Kd.V_drew)); exact Kd.V_mono HO430.out (fun _ hk => ⟨hk.1.1, hk.2⟩)⟩, ⟨by (with_reducible repeat (first | apply Kd.S_alloc | apply Kd.S_drewN | apply Kd.S_drew)); exact Kd.S_mono HO433.out (fun _ hk => hk.1)⟩, ⟨zw⟩⟩
                              ·rw [if_neg c63] at H
                               exact absurd H (by simp)
                            ·rw [if_neg c53] at H
                             exact absurd H (by simp)
                           ·rw [if_neg c52] at H
                            exact absurd H (by simp)
                          ·rw [if_neg c51] at H
                           exact absurd H (by simp)
                      ·rw [if_neg c44] at H
                       have c44b0 : ((bt t394 t395) == 99) = false := beq_eq_false_iff_ne.mpr c44
                       have c44b1 : ((bt t394 t395) != 99) = true := bne_iff_ne.mpr c44
                       by_cases c74 : (bt t394 t395) = 100
                       ·rw [if_pos c74] at H
                        have c74b0 : ((bt t394 t395) == 100) = true := beq_iff_eq.mpr c74
                        have c74b1 : ((bt t394 t395) != 100) = false := bne_eq_false_iff_eq.mpr c74
                        clear c74
                        by_cases c75 : x4_1.length < 1759218604441
                        ·rw [if_pos c75] at H
                         have LMc75 := am c75
                         clear c75
                         obtain ⟨y434, hy434⟩ : ∃ y_ : List (S52), y_ = (x4_1 ++ [(⟨t397, t398, x397002_33, t401, t402, ([] : List ByteArray)⟩ : S52)]) := ⟨_, rfl⟩
                         replace H : (impl_readSteps.l0 kj33 x0_33 y434) = some (r1, r2) := by first | (rw [hy434]; with_reducible exact H) | (have H2_ := (Option.bind_some _ _).symm.trans H; rw [hy434]; with_reducible exact H2_) | (have H2_ := (Option.bind_some _ _).symm.trans H; with_reducible exact H2_) | with_reducible exact H | (rw [hy434]; exact H) | exact H
                         have Ny434 := am hy434
                         clear hy434
                         have H' := am H
                         clear H
                         have p43 : 0 ≤ (t395 : Int) := oa
                         have q43 : t395 < (t394.size : Int) := oa
                         have hx43 := bt_at t394 t395
                         replace p43 := eq_true p43
                         replace q43 := eq_true q43
                         have p73 : 0 ≤ (t395 : Int) := oa
                         have q73 : t395 < (t394.size : Int) := oa
                         have hx73 := bt_at t394 t395
                         replace p73 := eq_true p73
                         replace q73 := eq_true q73
                         have hcz76_0 : wc.cell? ⟨gb396, 0, none⟩ = some (.int .i64 t397) := (blk_cell BK396.out 0).trans rfl
                         have hcz76_1 : wc.cell? ⟨gb396, 1, none⟩ = some (.int .i64 t398) := (blk_cell BK396.out 1).trans rfl
                         have hcz76_2 : wc.cell? ⟨gb396, 2, none⟩ = some (u397002) := (blk_cell BK396.out 2).trans rfl
                         have hcz76_3 : wc.cell? ⟨gb396, 3, none⟩ = some (.int .i64 t401) := (blk_cell BK396.out 3).trans rfl
                         have hcz76_4 : wc.cell? ⟨gb396, 4, none⟩ = some (.int .i64 t402) := (blk_cell BK396.out 4).trans rfl
                         have hcz76_5 : wc.cell? ⟨gb396, 5, none⟩ = some (.slice none 0 0) := (blk_cell BK396.out 5).trans rfl
                         have hfz76_0 := blk_frozen BK396.out 0
                         have hfz76_1 := blk_frozen BK396.out 1
                         have hfz76_2 := blk_frozen BK396.out 2
                         have hfz76_3 := blk_frozen BK396.out 3
                         have hfz76_4 := blk_frozen BK396.out 4
                         have hfz76_5 := blk_frozen BK396.out 5
                         obtain ⟨Ao78, co78, eo78⟩ := Kd.R_slice HO_397002.out
                         subst eo78
                         go_wp2_with (first | ((with_reducible refine gateB (b := .append) (xs := #[.tmp 94, .tmp 96]) rfl ?_); (try (refine gate_guard (by rfl) ?_; dsimp only)); at_builtin; refine Kd.S_append k52 (w0 := w) w.heap.size rfl (.tmp 94) (.tmp 96) 28 52 (.agg #[(.int .i64 0), (.int .i64 0), (.slice none 0 0), (.int .i64 0), (.int .i64 0), (.slice none 0 0)]) 80 rfl Tryz.underlying28 info52 rfl (by decide) (by omega) u4 x4_1 (⟨t397, t398, x397002_33, t401, t402, ([] : List ByteArray)⟩ : S52) [.int .i64 t397, .int .i64 t398, .slice Ao78 x397002_33.length co78, .int .i64 t401, .int .i64 t402, .slice none 0 0] (fun k_ => (w.heap.size ≤ k_) ∧ k_ ≠ gb396) (fun k_ => some k_ = (.slice Ao78 x397002_33.length co78 : Value).ownBlock) rfl rfl ?aP (fun k_ hk_ => ((Kd.R_mono (ok' := fun k_ => ((fun k_ => (w.heap.size ≤ k_) ∧ k_ ≠ gb396)) k_ ∧ some k_ ≠ (u4 : Value).ownBlock) (Kd.R_types (Kd.R_apart' (HO_397002.out) (Kd.S_typed HO_4.out) (by decide)) BK396.out (by decide)) (fun k_ hk => ⟨⟨hk.1.1, hk.2⟩, hk.1.2⟩))).1 k_ hk_.symm) ?aF ?aO ?aB ?aS ?aL ?_; (case aP => exact k52_mkM zy _ _ _ (⟨t397, t398, x397002_33, t401, t402, ([] : List ByteArray)⟩ : S52) (Kd.R_mono (Kd.R_tight rfl (Kd.R_mono (ok' := fun k_ => ((fun k_ => (w.heap.size ≤ k_) ∧ k_ ≠ gb396)) k_ ∧ some k_ ≠ (u4 : Value).ownBlock) (Kd.R_types (Kd.R_apart' (HO_397002.out) (Kd.S_typed HO_4.out) (by decide)) BK396.out (by decide)) (fun k_ hk => ⟨⟨hk.1.1, hk.2⟩, hk.1.2⟩))) (fun _ h_ => h_)) (Kd.R_nil _ _ _ _ _)); (case aB => exact zw); (case aF => exact (fun k_ hk => ⟨(Nat.le_trans (below_size zw) hk), Kd.freshB (g := gb396) (o := .cells #[.int .i64 t397, .int .i64 t398, .slice Ao78 x397002_33.length co78, .int .i64 t401, .int .i64 t402, .slice none 0 0] 52 (0, 0)) (zk BK396.out) k_ hk⟩)); (case aO => exact (by (with_reducible repeat (first | apply Kd.S_alloc | apply Kd.S_drewN | apply Kd.S_drew)); exact Kd.S_mono HO_4.out (fun k_ hk => ⟨⟨hk.1, hk.2.2⟩, fun e_ => hk.2.1 e_⟩))); (case aS => exact (below_size zw)); (case aL => have := LMc75.out; omega); intro v435 w77 ho hb hg hat; rw [← Ny434.out] at ho; have n0_ := am (Kd.V_afterv (ok := (fun k_ => (P0_ k_ ∨ w.heap.size ≤ k_) ∧ some k_ ≠ (.slice Ao78 x397002_33.length co78 : Value).ownBlock ∧ k_ ≠ gb396)) (by (with_reducible repeat (first | apply Kd.V_alloc | apply Kd.V_drewN | apply Kd.V_drew)); exact Kd.V_mono HO_0.out (fun _ hk => ⟨⟨hk.1, ⟨hk.2.2.1, hk.2.2.2⟩⟩, hk.2.1⟩)) hg hat); have n1_ := am (blk_grown (g := gb396) (o := .cells #[.int .i64 t397, .int .i64 t398, .slice Ao78 x397002_33.length co78, .int .i64 t401, .int .i64 t402, .slice none 0 0] 52 (0, 0)) (zk BK396.out) hg (Kd.S_away HO_4.out (fun _ hk => hk.2.2))); have n2_ := am (hb); have n3_ := am (ho); clear HO_0; clear BK396; clear HB; clear HO_4; clear HO_397002; have HO_0 := n0_; have BK396 := n1_; have HB := n2_; have HO436 := n3_; clear n0_ n1_ n2_ n3_; clear ho hb hg hat))
                         go_roundg kj33
                         case measure => have := HK1.out; have := HJ7.out; have := HJ20.out; have := HJ33.out; omega
                         case rel => exact ⟨(x0_33), (y434), H', ⟨by have := HK1.out; have := HJ7.out; have := HJ20.out; have := HJ33.out; omega⟩, ⟨by (with_reducible repeat (first | apply Kd.V_alloc | apply Kd.V_drewN | apply Kd.V_drew)); exact Kd.V_mono HO_0.out (fun _ hk => ⟨hk.1.1, hk.2⟩)⟩, ⟨by (with_reducible repeat (first | apply Kd.S_alloc | apply Kd.S_drewN | apply Kd.S_drew)); exact Kd.S_mono HO436.out (fun _ hk => hk.1)⟩, ⟨zw⟩⟩
                        ·rw [if_neg c75] at H
                         exact absurd H (by simp)
                       ·rw [if_neg c74] at H
                        have c74b0 : ((bt t394 t395) == 100) = false := beq_eq_false_iff_ne.mpr c74
                        have c74b1 : ((bt t394 t395) != 100) = true := bne_iff_ne.mpr c74
                        replace H := Option.bind_eq_some_iff.mp H
                        obtain ⟨⟨t437, t440⟩, A790, H⟩ := H
                        replace H : (if x4_1.length < 1759218604441 then (impl_readSteps.l0 kj33 t440 (x4_1 ++ [(⟨t397, t398, x397002_33, t401, t402, t437⟩ : S52)])) else (none)) = some (r1, r2) := H
                        have A79 := am A790
                        clear A790
                        by_cases c80 : x4_1.length < 1759218604441
                        ·rw [if_pos c80] at H
                         have LMc80 := am c80
                         clear c80
                         obtain ⟨y443, hy443⟩ : ∃ y_ : List (S52), y_ = (x4_1 ++ [(⟨t397, t398, x397002_33, t401, t402, t437⟩ : S52)]) := ⟨_, rfl⟩
                         replace H : (impl_readSteps.l0 kj33 t440 y443) = some (r1, r2) := by first | (rw [hy443]; with_reducible exact H) | (have H2_ := (Option.bind_some _ _).symm.trans H; rw [hy443]; with_reducible exact H2_) | (have H2_ := (Option.bind_some _ _).symm.trans H; with_reducible exact H2_) | with_reducible exact H | (rw [hy443]; exact H) | exact H
                         have Ny443 := am hy443
                         clear hy443
                         have H' := am H
                         clear H
                         have p43 : 0 ≤ (t395 : Int) := oa
                         have q43 : t395 < (t394.size : Int) := oa
                         have hx43 := bt_at t394 t395
                         replace p43 := eq_true p43
                         replace q43 := eq_true q43
                         have p73 : 0 ≤ (t395 : Int) := oa
                         have q73 : t395 < (t394.size : Int) := oa
                         have hx73 := bt_at t394 t395
                         replace p73 := eq_true p73
                         replace q73 := eq_true q73
                         obtain ⟨Ao81, co81, eo81⟩ := Kd.V_slice HO_0.out
                         subst eo81
                         go_wp2_with (first | ((with_reducible refine gateC (f := 83) rfl ?_); refine goesL_ (some 90) rfl rfl Tryz.func83 (by kernel_rfl) rfl #[.slice Ao81 x0_33.length co81, .string (⟨#[62, 32]⟩ : ByteArray)] rfl zm ?_; (with_reducible refine (impl_takeShown.calls kj33 (fun k_ => ((P0_ k_ ∨ w.heap.size ≤ k_) ∧ (some k_ ≠ (u4 : Value).ownBlock ∧ (some k_ ≠ (u397002 : Value).ownBlock ∧ k_ ≠ gb396)))) _ _ x0_33 (⟨#[62, 32]⟩ : ByteArray) t437 t440 _ ?side1 A79.out).mono ?_); (case side1 => exact HO_0.out); rintro e w82 ⟨v438, v441, rfl, ho0, ho1, hb⟩; refine ⟨_, rfl, ?_⟩; have n0_ := am (Kd.V_elder' (zv HO_0.out) (Kd.R_base ho0) hb); have n1_ := am (Kd.S_elder' (zs HO_4.out) (Kd.R_base ho0) hb); have n2_ := am (Kd.R_elder' (zr HO_397002.out) (Kd.R_base ho0) hb); have n3_ := am (Kd.R_lower (Kd.R_new' (Kd.R_newM (M := fun k_ => (w.heap.size ≤ k_)) (Kd.R_mono (ok' := fun k_ => True) ho0 (fun _ hk_ => trivial)) (below_size zw) (fun k_ h_ => h_)) (Kd.R_lt (zr HO_397002.out))) (below_size zw)); have n4_ := am (Kd.V_lower (Kd.V_mono (ok' := fun k_ => (P0_ k_ ∨ w.heap.size ≤ k_) ∧ some k_ ≠ (v438 : Value).ownBlock ∧ some k_ ≠ (u4 : Value).ownBlock ∧ some k_ ≠ (u397002 : Value).ownBlock ∧ k_ ≠ gb396) ho1 (fun k_ hk_ => ⟨Or.elim hk_.1 (fun hs_ => hs_.1) (fun hn_ => (.inr (Nat.le_trans (below_size zw) hn_))), hk_.2, Or.elim hk_.1 (fun hs_ => hs_.2.1) (fun hn_ => (Kd.fresh' (Kd.S_lt (zs HO_4.out)) k_ hn_)), Or.elim hk_.1 (fun hs_ => hs_.2.2.1) (fun hn_ => (Kd.fresh' (Kd.R_lt (zr HO_397002.out)) k_ hn_)), Or.elim hk_.1 (fun hs_ => hs_.2.2.2) (fun hn_ => (Kd.freshB (g := gb396) (o := .cells #[.int .i64 t397, .int .i64 t398, u397002, .int .i64 t401, .int .i64 t402, .slice none 0 0] 52 (0, 0)) (zk BK396.out) k_ hn_))⟩)) (below_size zw)); have n5_ := am (blk_below (g := gb396) (o := .cells #[.int .i64 t397, .int .i64 t398, u397002, .int .i64 t401, .int .i64 t402, .slice none 0 0] 52 (0, 0)) (zk BK396.out) hb); have n6_ := am (below_step zw hb); clear HO_0; clear HO_4; clear HO_397002; clear BK396; clear HB; have HO_0 := n0_; have HO_4 := n1_; have HO_397002 := n2_; have HO439 := n3_; have HO442 := n4_; have BK396 := n5_; have HB := n6_; clear n0_ n1_ n2_ n3_ n4_ n5_ n6_; (try clear hb); (try clear ho0); (try clear ho1); obtain ⟨Ao83, co83, eo83⟩ := Kd.R_slice HO439.out; subst eo83; have hcz84_0 : w82.cell? ⟨gb396, 0, none⟩ = some (.int .i64 t397) := (blk_cell BK396.out 0).trans rfl; have hcz84_1 : w82.cell? ⟨gb396, 1, none⟩ = some (.int .i64 t398) := (blk_cell BK396.out 1).trans rfl; have hcz84_2 : w82.cell? ⟨gb396, 2, none⟩ = some (u397002) := (blk_cell BK396.out 2).trans rfl; have hcz84_3 : w82.cell? ⟨gb396, 3, none⟩ = some (.int .i64 t401) := (blk_cell BK396.out 3).trans rfl; have hcz84_4 : w82.cell? ⟨gb396, 4, none⟩ = some (.int .i64 t402) := (blk_cell BK396.out 4).trans rfl; have hcz84_5 : w82.cell? ⟨gb396, 5, none⟩ = some (.slice none 0 0) := (blk_cell BK396.out 5).trans rfl; have hfz84_0 := blk_frozen BK396.out 0; have hfz84_1 := blk_frozen BK396.out 1; have hfz84_2 := blk_frozen BK396.out 2; have hfz84_3 := blk_frozen BK396.out 3; have hfz84_4 := blk_frozen BK396.out 4; have hfz84_5 := blk_frozen BK396.out 5) | ((with_reducible refine gate_store (t := 24) (p := 93) rfl ?_); refine store_event (t := 24) (p := 93) (v := ?vo_w85) (w1 := (w82.setCell ⟨gb396, 5, none⟩ (.slice Ao83 t437.length co83))) ?hg ?ho ?hn ?hr ?_; (case ho => rfl); (case hg => rfl); (case hn => rfl); (case hr => first | (go_simp; done) | (go_simp; rfl)); intro w85 hw; have n0_ : Aside0 (Kd.V Kd.string 9 w85 w.heap.size (fun k_ => (P0_ k_ ∨ w.heap.size ≤ k_) ∧ some k_ ≠ (u4 : Value).ownBlock ∧ some k_ ≠ (u397002 : Value).ownBlock ∧ some k_ ≠ (.slice Ao83 t437.length co83 : Value).ownBlock ∧ k_ ≠ gb396) (.slice Ao81 x0_33.length co81) x0_33) := ⟨(by rw [hw]; exact (by (with_reducible repeat (first | apply Kd.V_alloc | apply Kd.V_drewN | apply Kd.V_drew)); exact Kd.V_mono (Kd.V_far (p := ⟨gb396, 5, none⟩) (Kd.V_mono HO_0.out (fun k_ hk => (⟨hk, hk.1.2.2.2⟩ : _ ∧ k_ ≠ gb396))) (fun _ hk => hk.2) (.slice Ao83 t437.length co83)) (fun _ hk => ⟨hk.1.1.1, ⟨hk.1.1.2.1, ⟨hk.1.1.2.2.1, ⟨hk.1.2, hk.1.1.2.2.2⟩⟩⟩⟩)))⟩; have n1_ : Aside0 (Kd.S k52 52 w85 w.heap.size (fun k_ => (w.heap.size ≤ k_) ∧ some k_ ≠ (u397002 : Value).ownBlock ∧ some k_ ≠ (.slice Ao83 t437.length co83 : Value).ownBlock ∧ k_ ≠ gb396) u4 x4_1) := ⟨(by rw [hw]; exact (by (with_reducible repeat (first | apply Kd.S_alloc | apply Kd.S_drewN | apply Kd.S_drew)); exact Kd.S_mono (Kd.S_far (p := ⟨gb396, 5, none⟩) (Kd.S_mono HO_4.out (fun k_ hk => (⟨hk, hk.1.2.2⟩ : _ ∧ k_ ≠ gb396))) (fun _ hk => hk.2) (.slice Ao83 t437.length co83)) (fun _ hk => ⟨hk.1.1.1, ⟨hk.1.1.2.1, ⟨hk.1.2, hk.1.1.2.2⟩⟩⟩)))⟩; have n2_ : Aside0 (Kd.R Kd.string 9 w85 w.heap.size (fun k_ => (w.heap.size ≤ k_) ∧ some k_ ≠ (.slice Ao83 t437.length co83 : Value).ownBlock) u397002 x397002_33) := ⟨(by rw [hw]; exact (by (with_reducible repeat (first | apply Kd.R_alloc | apply Kd.R_drewN | apply Kd.R_drew)); exact Kd.R_mono (Kd.R_far (p := ⟨gb396, 5, none⟩) (Kd.R_types HO_397002.out BK396.out (by decide)) (fun _ hk => hk.2) (.slice Ao83 t437.length co83)) (fun _ hk => ⟨hk.1.1, hk.1.2⟩)))⟩; have n3_ : Aside0 (Kd.R Kd.string 9 w85 w.heap.size (fun k_ => (w.heap.size ≤ k_) ∧ some k_ ≠ (u397002 : Value).ownBlock) (.slice Ao83 t437.length co83) t437) := ⟨(by rw [hw]; exact (by (with_reducible repeat (first | apply Kd.R_alloc | apply Kd.R_drewN | apply Kd.R_drew)); exact Kd.R_mono (Kd.R_far (p := ⟨gb396, 5, none⟩) (Kd.R_types HO439.out BK396.out (by decide)) (fun _ hk => hk.2) (.slice Ao83 t437.length co83)) (fun _ hk => ⟨hk.1.1.1, hk.1.2⟩)))⟩; have n4_ : Aside0 (Kd.V Kd.string 9 w85 w.heap.size (fun k_ => (P0_ k_ ∨ w.heap.size ≤ k_) ∧ some k_ ≠ (u4 : Value).ownBlock ∧ some k_ ≠ (u397002 : Value).ownBlock ∧ some k_ ≠ (.slice Ao83 t437.length co83 : Value).ownBlock ∧ k_ ≠ gb396) v441 t440) := ⟨(by rw [hw]; exact (by (with_reducible repeat (first | apply Kd.V_alloc | apply Kd.V_drewN | apply Kd.V_drew)); exact Kd.V_mono (Kd.V_far (p := ⟨gb396, 5, none⟩) (Kd.V_mono HO442.out (fun k_ hk => (⟨hk, hk.2.2.2.2⟩ : _ ∧ k_ ≠ gb396))) (fun _ hk => hk.2) (.slice Ao83 t437.length co83)) (fun _ hk => ⟨hk.1.1, ⟨hk.1.2.2.1, ⟨hk.1.2.2.2.1, ⟨hk.1.2.1, hk.1.2.2.2.2⟩⟩⟩⟩)))⟩; have n5_ : Aside0 (w85.heap[gb396]? = some (.cells #[.int .i64 t397, .int .i64 t398, u397002, .int .i64 t401, .int .i64 t402, .slice Ao83 t437.length co83] 52 (0, 0))) := ⟨(by rw [hw]; exact (by (with_reducible repeat (first | refine blk_drewN ?_ _ | refine blk_drew ?_ | refine blk_alloc ?_ _)); refine blk_put (cs := #[.int .i64 t397, .int .i64 t398, u397002, .int .i64 t401, .int .i64 t402, .slice none 0 0]) ?_ 5 _ rfl; (with_reducible repeat (first | refine blk_drewN ?_ _ | refine blk_drew ?_ | refine blk_alloc ?_ _)); exact BK396.out))⟩; have n6_ : Aside0 (Below w.heap.size w w85) := ⟨(by rw [hw]; exact zw)⟩; clear hw; clear HO_0; clear HO_4; clear HO_397002; clear HO439; clear HO442; clear BK396; clear HB; have HO_0 := n0_; have HO_4 := n1_; have HO_397002 := n2_; have HO439 := n3_; have HO442 := n4_; have BK396 := n5_; have HB := n6_; clear n0_ n1_ n2_ n3_ n4_ n5_ n6_; have hcz86_0 : w85.cell? ⟨gb396, 0, none⟩ = some (.int .i64 t397) := (blk_cell BK396.out 0).trans rfl; have hcz86_1 : w85.cell? ⟨gb396, 1, none⟩ = some (.int .i64 t398) := (blk_cell BK396.out 1).trans rfl; have hcz86_2 : w85.cell? ⟨gb396, 2, none⟩ = some (u397002) := (blk_cell BK396.out 2).trans rfl; have hcz86_3 : w85.cell? ⟨gb396, 3, none⟩ = some (.int .i64 t401) := (blk_cell BK396.out 3).trans rfl; have hcz86_4 : w85.cell? ⟨gb396, 4, none⟩ = some (.int .i64 t402) := (blk_cell BK396.out 4).trans rfl; have hcz86_5 : w85.cell? ⟨gb396, 5, none⟩ = some (.slice Ao83 t437.length co83) := (blk_cell BK396.out 5).trans rfl; have hfz86_0 := blk_frozen BK396.out 0; have hfz86_1 := blk_frozen BK396.out 1; have hfz86_2 := blk_frozen BK396.out 2; have hfz86_3 := blk_frozen BK396.out 3; have hfz86_4 := blk_frozen BK396.out 4; have hfz86_5 := blk_frozen BK396.out 5; obtain ⟨Ao88, co88, eo88⟩ := Kd.R_slice HO_397002.out; subst eo88) | ((with_reducible refine gateB (b := .append) (xs := #[.tmp 94, .tmp 96]) rfl ?_); (try (refine gate_guard (by rfl) ?_; dsimp only)); at_builtin; refine Kd.S_append k52 (w0 := w) w.heap.size rfl (.tmp 94) (.tmp 96) 28 52 (.agg #[(.int .i64 0), (.int .i64 0), (.slice none 0 0), (.int .i64 0), (.int .i64 0), (.slice none 0 0)]) 80 rfl Tryz.underlying28 info52 rfl (by decide) (by omega) u4 x4_1 (⟨t397, t398, x397002_33, t401, t402, t437⟩ : S52) [.int .i64 t397, .int .i64 t398, .slice Ao88 x397002_33.length co88, .int .i64 t401, .int .i64 t402, .slice Ao83 t437.length co83] (fun k_ => (w.heap.size ≤ k_) ∧ k_ ≠ gb396) (fun k_ => some k_ = (.slice Ao88 x397002_33.length co88 : Value).ownBlock ∨ some k_ = (.slice Ao83 t437.length co83 : Value).ownBlock) rfl rfl ?aP (fun k_ hk_ => hk_.elim (fun h_ => ((Kd.R_mono (ok' := fun k_ => ((fun k_ => (w.heap.size ≤ k_) ∧ k_ ≠ gb396)) k_ ∧ some k_ ≠ (u4 : Value).ownBlock) (Kd.R_types (Kd.R_apart' (HO_397002.out) (Kd.S_typed HO_4.out) (by decide)) BK396.out (by decide)) (fun k_ hk => ⟨⟨hk.1.1.1, hk.2⟩, hk.1.2⟩))).1 k_ h_.symm) (fun h_ => ((Kd.R_mono (ok' := fun k_ => ((fun k_ => (w.heap.size ≤ k_) ∧ k_ ≠ gb396)) k_ ∧ some k_ ≠ (u4 : Value).ownBlock) (Kd.R_types (Kd.R_apart' (HO439.out) (Kd.S_typed HO_4.out) (by decide)) BK396.out (by decide)) (fun k_ hk => ⟨⟨hk.1.1.1, hk.2⟩, hk.1.2⟩))).1 k_ h_.symm)) ?aF ?aO ?aB ?aS ?aL ?_; (case aP => exact k52_mkM zy _ _ _ (⟨t397, t398, x397002_33, t401, t402, t437⟩ : S52) (Kd.R_mono (Kd.R_tight rfl (Kd.R_mono (ok' := fun k_ => ((fun k_ => (w.heap.size ≤ k_) ∧ k_ ≠ gb396)) k_ ∧ some k_ ≠ (u4 : Value).ownBlock) (Kd.R_types (Kd.R_apart' (HO_397002.out) (Kd.S_typed HO_4.out) (by decide)) BK396.out (by decide)) (fun k_ hk => ⟨⟨hk.1.1.1, hk.2⟩, hk.1.2⟩))) (fun _ h_ => Or.inl h_)) (Kd.R_mono (Kd.R_tight rfl (Kd.R_mono (ok' := fun k_ => ((fun k_ => (w.heap.size ≤ k_) ∧ k_ ≠ gb396)) k_ ∧ some k_ ≠ (u4 : Value).ownBlock) (Kd.R_types (Kd.R_apart' (HO439.out) (Kd.S_typed HO_4.out) (by decide)) BK396.out (by decide)) (fun k_ hk => ⟨⟨hk.1.1.1, hk.2⟩, hk.1.2⟩))) (fun _ h_ => Or.inr (h_)))); (case aB => exact zw); (case aF => exact (fun k_ hk => ⟨(Nat.le_trans (below_size zw) hk), Kd.freshB (g := gb396) (o := .cells #[.int .i64 t397, .int .i64 t398, .slice Ao88 x397002_33.length co88, .int .i64 t401, .int .i64 t402, .slice Ao83 t437.length co83] 52 (0, 0)) (zk BK396.out) k_ hk⟩)); (case aO => exact (by (with_reducible repeat (first | apply Kd.S_alloc | apply Kd.S_drewN | apply Kd.S_drew)); exact Kd.S_mono HO_4.out (fun k_ hk => ⟨⟨hk.1, hk.2.2.2⟩, fun e_ => e_.elim (fun h_ => hk.2.1 h_) (fun h_ => hk.2.2.1 h_)⟩))); (case aS => exact (below_size zw)); (case aL => have := LMc80.out; omega); intro v444 w87 ho hb hg hat; rw [← Ny443.out] at ho; have n0_ := am (Kd.V_afterv (ok := (fun k_ => (P0_ k_ ∨ w.heap.size ≤ k_) ∧ some k_ ≠ (.slice Ao88 x397002_33.length co88 : Value).ownBlock ∧ some k_ ≠ (.slice Ao83 t437.length co83 : Value).ownBlock ∧ k_ ≠ gb396)) (by (with_reducible repeat (first | apply Kd.V_alloc | apply Kd.V_drewN | apply Kd.V_drew)); exact Kd.V_mono HO_0.out (fun _ hk => ⟨⟨hk.1, ⟨hk.2.2.1, ⟨hk.2.2.2.1, hk.2.2.2.2⟩⟩⟩, hk.2.1⟩)) hg hat); have n1_ := am (blk_grown (g := gb396) (o := .cells #[.int .i64 t397, .int .i64 t398, .slice Ao88 x397002_33.length co88, .int .i64 t401, .int .i64 t402, .slice Ao83 t437.length co83] 52 (0, 0)) (zk BK396.out) hg (Kd.S_away HO_4.out (fun _ hk => hk.2.2.2))); have n2_ := am (Kd.V_afterv (ok := (fun k_ => (P0_ k_ ∨ w.heap.size ≤ k_) ∧ some k_ ≠ (.slice Ao88 x397002_33.length co88 : Value).ownBlock ∧ some k_ ≠ (.slice Ao83 t437.length co83 : Value).ownBlock ∧ k_ ≠ gb396)) (by (with_reducible repeat (first | apply Kd.V_alloc | apply Kd.V_drewN | apply Kd.V_drew)); exact Kd.V_mono HO442.out (fun _ hk => ⟨⟨hk.1, ⟨hk.2.2.1, ⟨hk.2.2.2.1, hk.2.2.2.2⟩⟩⟩, hk.2.1⟩)) hg hat); have n3_ := am (hb); have n4_ := am (ho); clear HO_0; clear BK396; clear HO442; clear HB; clear HO_4; clear HO439; clear HO_397002; have HO_0 := n0_; have BK396 := n1_; have HO442 := n2_; have HB := n3_; have HO445 := n4_; clear n0_ n1_ n2_ n3_ n4_; clear ho hb hg hat))
                         go_roundg kj33
                         case measure => have := HK1.out; have := HJ7.out; have := HJ20.out; have := HJ33.out; omega
                         case rel => exact ⟨(t440), (y443), H', ⟨by have := HK1.out; have := HJ7.out; have := HJ20.out; have := HJ33.out; omega⟩, ⟨by (with_reducible repeat (first | apply Kd.V_alloc | apply Kd.V_drewN | apply Kd.V_drew)); exact Kd.V_mono HO442.out (fun _ hk => ⟨hk.1.1, hk.2⟩)⟩, ⟨by (with_reducible repeat (first | apply Kd.S_alloc | apply Kd.S_drewN | apply Kd.S_drew)); exact Kd.S_mono HO445.out (fun _ hk => hk.1)⟩, ⟨zw⟩⟩
                        ·rw [if_neg c80] at H
                         exact absurd H (by simp)
                     ·rw [if_neg c42] at H
                      exact absurd H (by simp)
                    ·rw [if_neg c41] at H
                     exact absurd H (by simp)
                 ·rw [if_neg c32] at H
                  exact absurd H (by simp)
                ·rw [if_neg c31] at H
                 exact absurd H (by simp)
               ·rw [if_neg c30] at H
                exact absurd H (by simp)
           ·rw [if_neg c19] at H
            exact absurd H (by simp)
          ·rw [if_neg c18] at H
           exact absurd H (by simp)
         ·rw [if_neg c15] at H
          exact absurd H (by simp)
        ·rw [if_neg c14] at H
         exact absurd H (by simp)
    ·rw [if_neg c5] at H
     exact absurd H (by simp)
   ·rw [if_neg c4] at H
    have c4b0 : decide (0 < (x0_1.length : Int)) = false := decide_eq_false c4
    have c4b1 : decide (0 < x0_1.length) = false := decide_eq_false (by omega)
    clear c4
    simp only [Option.some.injEq, Prod.mk.injEq] at H
    obtain ⟨rfl, rfl⟩ := H
    obtain ⟨Ao89, co89, eo89⟩ := Kd.V_slice HO_0.out
    subst eo89
    go_wp2
    go_ret2
    exact ⟨_, by first | rfl | (simp [errW_none, errW_some] <;> rfl) | (simp [*, errW_none, errW_some] <;> rfl), zs HO_4.out, zb⟩

def impl_ReadNormal.f (k : Nat) (a0 : ByteArray) : Option ((List (S52)) × Int × Bool) := if (a0.size : Int) ≤ 3000 then ((impl_linesOf.f k a0).bind fun t474 => ((impl_readSteps.f k t474).bind fun bt477 => ((impl_StepsText.f k bt477.1).bind fun bt481 => (if bt477.2 = true then (if bt481.2 = true then (if bt481.1.toList = a0.toList then (some (bt477.1, 0, true)) else (some (([] : List (S52)), 1, false))) else (some (([] : List (S52)), 1, false))) else (some (([] : List (S52)), 1, false)))))) else (some (([] : List (S52)), 1, false))
set_option maxHeartbeats 8000000 in
set_option maxRecDepth 100000 in
theorem impl_ReadNormal.calls (k : Nat) (a0 : ByteArray) (r1 : List (S52)) (r2 : Int) (r3 : Bool) (w : World) (ht : Door true w) (h : impl_ReadNormal.f k a0 = some (r1, r2, r3)) :
  Calls Tryz.prog 22 #[.string a0] w fun e w' => ∃ v0_ : Value, e = .returned (.tuple #[v0_, .int .i64 r2, .bool r3]) ∧ Kd.S k52 52 w' w.heap.size (fun _ => True) v0_ r1 ∧ Below w.heap.size w w' := by
 have HT := am ht
 clear ht
 have HB := am (Below.refl w.heap.size w)
 have H : (if (a0.size : Int) ≤ 3000 then ((impl_linesOf.f k a0).bind fun t474 => ((impl_readSteps.f k t474).bind fun bt477 => ((impl_StepsText.f k bt477.1).bind fun bt481 => (if bt477.2 = true then (if bt481.2 = true then (if bt481.1.toList = a0.toList then (some (bt477.1, 0, true)) else (some (([] : List (S52)), 1, false))) else (some (([] : List (S52)), 1, false))) else (some (([] : List (S52)), 1, false)))))) else (some (([] : List (S52)), 1, false))) = some (r1, r2, r3) := h
 clear h
 by_cases c2 : (a0.size : Int) ≤ 3000
 ·rw [if_pos c2] at H
  have c2b0 : decide ((a0.size : Int) ≤ 3000) = true := decide_eq_true c2
  have c2b1 : decide (a0.size ≤ 3000) = true := decide_eq_true (by omega)
  clear c2
  replace H := Option.bind_eq_some_iff.mp H
  obtain ⟨t474, A30, H⟩ := H
  replace H : ((impl_readSteps.f k t474).bind fun bt477 => ((impl_StepsText.f k bt477.1).bind fun bt481 => (if bt477.2 = true then (if bt481.2 = true then (if bt481.1.toList = a0.toList then (some (bt477.1, 0, true)) else (some (([] : List (S52)), 1, false))) else (some (([] : List (S52)), 1, false))) else (some (([] : List (S52)), 1, false))))) = some (r1, r2, r3) := H
  have A3 := am A30
  clear A30
  replace H := Option.bind_eq_some_iff.mp H
  obtain ⟨⟨t477, t480⟩, A40, H⟩ := H
  replace H : ((impl_StepsText.f k t477).bind fun bt481 => (if t480 = true then (if bt481.2 = true then (if bt481.1.toList = a0.toList then (some (t477, 0, true)) else (some (([] : List (S52)), 1, false))) else (some (([] : List (S52)), 1, false))) else (some (([] : List (S52)), 1, false)))) = some (r1, r2, r3) := H
  have A4 := am A40
  clear A40
  replace H := Option.bind_eq_some_iff.mp H
  obtain ⟨⟨t481, t482⟩, A50, H⟩ := H
  replace H : (if t480 = true then (if t482 = true then (if t481.toList = a0.toList then (some (t477, 0, true)) else (some (([] : List (S52)), 1, false))) else (some (([] : List (S52)), 1, false))) else (some (([] : List (S52)), 1, false))) = some (r1, r2, r3) := H
  have A5 := am A50
  clear A50
  by_cases c6 : t480 = true
  ·subst c6
   have H1 : (if t482 = true then (if t481.toList = a0.toList then (some (t477, 0, true)) else (some (([] : List (S52)), 1, false))) else (some (([] : List (S52)), 1, false))) = some (r1, r2, r3) := by rw [if_pos rfl] at H; exact H
   clear H
   have H := H1
   clear H1
   by_cases c7 : t482 = true
   ·subst c7
    have H1 : (if t481.toList = a0.toList then (some (t477, 0, true)) else (some (([] : List (S52)), 1, false))) = some (r1, r2, r3) := by rw [if_pos rfl] at H; exact H
    clear H
    have H := H1
    clear H1
    by_cases c8 : t481.toList = a0.toList
    ·rw [if_pos c8] at H
     have c8b0 : (t481.toList == a0.toList) = true := beq_iff_eq.mpr c8
     have c8b1 : (t481.toList != a0.toList) = false := bne_eq_false_iff_eq.mpr c8
     clear c8
     simp only [Option.some.injEq, Prod.mk.injEq] at H
     obtain ⟨rfl, rfl, rfl⟩ := H
     go_enter Tryz.func22, Tryz.ntmps22
     go_wp2_with (first | ((with_reducible refine gateC (f := 51) rfl ?_); refine goesL_ (some 14) rfl rfl Tryz.func51 (by kernel_rfl) rfl #[.string a0] rfl zm ?_; (with_reducible refine (impl_linesOf.calls k a0 t474 _ A3.out).mono ?_); rintro e w9 ⟨v475, rfl, ho0, hb⟩; refine ⟨_, rfl, ?_⟩; have n0_ := am (Kd.R_lower ho0 (below_size zb)); have n1_ := am (below_step zb hb); clear HB; have HO476 := n0_; have HB := n1_; clear n0_ n1_; (try clear hb); (try clear ho0); obtain ⟨Ao10, co10, eo10⟩ := Kd.R_slice HO476.out; subst eo10) | ((with_reducible refine gateC (f := 50) rfl ?_); refine goesL_ (some 15) rfl rfl Tryz.func50 (by kernel_rfl) rfl #[.slice Ao10 t474.length co10] rfl zm ?_; (with_reducible refine (impl_readSteps.calls k (fun k_ => some k_ = (.slice Ao10 t474.length co10 : Value).ownBlock) _ _ t474 t477 true _ ?sideT ?side1 A4.out).mono ?_); (case sideT => exact Door.below HT.out zb); (case side1 => exact Kd.R_V (Kd.R_tight rfl (HO476.out))); rintro e w11 ⟨v478, rfl, ho0, hb⟩; refine ⟨_, rfl, ?_⟩; have n0_ := am (Kd.R_below (zr HO476.out) hb); have n1_ := am (Kd.S_lower (Kd.S_new' (Kd.S_mono (ok' := fun k_ => True) ho0 (fun _ hk_ => trivial)) (Kd.R_lt (zr HO476.out))) (below_size zb)); have n2_ := am (below_step zb hb); clear HO476; clear HB; have HO476 := n0_; have HO479 := n1_; have HB := n2_; clear n0_ n1_ n2_; (try clear hb); (try clear ho0); obtain ⟨Ao12, co12, eo12⟩ := Kd.S_slice HO479.out; subst eo12) | ((with_reducible refine gateC (f := 30) rfl ?_); refine goesL_ (some 20) rfl rfl Tryz.func30 (by kernel_rfl) rfl #[.slice Ao12 t477.length co12] rfl zm ?_; (with_reducible refine (impl_StepsText.calls true k _ _ t477 t481 true _ ?sideT ?side1 ?side2 A5.out).mono ?_); (case sideT => exact Door.below HT.out zb); (case side1 => repeat (first | exact (Kd.S_reads' HO479.out).2.2 | (with_reducible refine Kd.C_alloc ?_ _) | (with_reducible refine Kd.C_drewN ?_ _) | (with_reducible refine Kd.C_drew ?_))); (case side2 => exact (Kd.S_reads' HO479.out).2.1); rintro e w13 ⟨rfl, hb⟩; refine ⟨_, rfl, ?_⟩; have n0_ := am (Kd.R_below (zr HO476.out) hb); have n1_ := am (Kd.S_below (zs HO479.out) hb); have n2_ := am (below_step zb hb); clear HO476; clear HO479; clear HB; have HO476 := n0_; have HO479 := n1_; have HB := n2_; clear n0_ n1_ n2_; (try clear hb)))
     go_ret3
     exact ⟨_, by first | rfl | (simp [errW_none, errW_some] <;> rfl) | (simp [*, errW_none, errW_some] <;> rfl), by (with_reducible repeat (first | apply Kd.S_alloc | apply Kd.S_drewN | apply Kd.S_drew)); exact Kd.S_mono HO479.out (fun _ hk => trivial), zb⟩
    ·rw [if_neg c8] at H
     have c8b0 : (t481.toList == a0.toList) = false := beq_eq_false_iff_ne.mpr c8
     have c8b1 : (t481.toList != a0.toList) = true := bne_iff_ne.mpr c8
     simp only [Option.some.injEq, Prod.mk.injEq] at H
     obtain ⟨rfl, rfl, rfl⟩ := H
     go_enter Tryz.func22, Tryz.ntmps22
     go_wp2_with (first | ((with_reducible refine gateC (f := 51) rfl ?_); refine goesL_ (some 14) rfl rfl Tryz.func51 (by kernel_rfl) rfl #[.string a0] rfl zm ?_; (with_reducible refine (impl_linesOf.calls k a0 t474 _ A3.out).mono ?_); rintro e w14 ⟨v475, rfl, ho0, hb⟩; refine ⟨_, rfl, ?_⟩; have n0_ := am (Kd.R_lower ho0 (below_size zb)); have n1_ := am (below_step zb hb); clear HB; have HO476 := n0_; have HB := n1_; clear n0_ n1_; (try clear hb); (try clear ho0); obtain ⟨Ao15, co15, eo15⟩ := Kd.R_slice HO476.out; subst eo15) | ((with_reducible refine gateC (f := 50) rfl ?_); refine goesL_ (some 15) rfl rfl Tryz.func50 (by kernel_rfl) rfl #[.slice Ao15 t474.length co15] rfl zm ?_; (with_reducible refine (impl_readSteps.calls k (fun k_ => some k_ = (.slice Ao15 t474.length co15 : Value).ownBlock) _ _ t474 t477 true _ ?sideT ?side1 A4.out).mono ?_); (case sideT => exact Door.below HT.out zb); (case side1 => exact Kd.R_V (Kd.R_tight rfl (HO476.out))); rintro e w16 ⟨v478, rfl, ho0, hb⟩; refine ⟨_, rfl, ?_⟩; have n0_ := am (Kd.R_below (zr HO476.out) hb); have n1_ := am (Kd.S_lower (Kd.S_new' (Kd.S_mono (ok' := fun k_ => True) ho0 (fun _ hk_ => trivial)) (Kd.R_lt (zr HO476.out))) (below_size zb)); have n2_ := am (below_step zb hb); clear HO476; clear HB; have HO476 := n0_; have HO479 := n1_; have HB := n2_; clear n0_ n1_ n2_; (try clear hb); (try clear ho0); obtain ⟨Ao17, co17, eo17⟩ := Kd.S_slice HO479.out; subst eo17) | ((with_reducible refine gateC (f := 30) rfl ?_); refine goesL_ (some 20) rfl rfl Tryz.func30 (by kernel_rfl) rfl #[.slice Ao17 t477.length co17] rfl zm ?_; (with_reducible refine (impl_StepsText.calls true k _ _ t477 t481 true _ ?sideT ?side1 ?side2 A5.out).mono ?_); (case sideT => exact Door.below HT.out zb); (case side1 => repeat (first | exact (Kd.S_reads' HO479.out).2.2 | (with_reducible refine Kd.C_alloc ?_ _) | (with_reducible refine Kd.C_drewN ?_ _) | (with_reducible refine Kd.C_drew ?_))); (case side2 => exact (Kd.S_reads' HO479.out).2.1); rintro e w18 ⟨rfl, hb⟩; refine ⟨_, rfl, ?_⟩; have n0_ := am (Kd.R_below (zr HO476.out) hb); have n1_ := am (Kd.S_below (zs HO479.out) hb); have n2_ := am (below_step zb hb); clear HO476; clear HO479; clear HB; have HO476 := n0_; have HO479 := n1_; have HB := n2_; clear n0_ n1_ n2_; (try clear hb)))
     go_ret3
     exact ⟨_, by first | rfl | (simp [errW_none, errW_some] <;> rfl) | (simp [*, errW_none, errW_some] <;> rfl), by first | exact Kd.S_nil _ _ _ _ _ | exact Kd.Q_nil _ _ _ _ _ | exact Kd.R_nil _ _ _ _ _, zb⟩
   ·replace c7 := Bool.eq_false_iff.mpr c7
    subst c7
    have H1 : (some (([] : List (S52)), 1, false)) = some (r1, r2, r3) := by rw [if_neg (show ¬ (false = true) by decide)] at H; exact H
    clear H
    have H := H1
    clear H1
    simp only [Option.some.injEq, Prod.mk.injEq] at H
    obtain ⟨rfl, rfl, rfl⟩ := H
    go_enter Tryz.func22, Tryz.ntmps22
    go_wp2_with (first | ((with_reducible refine gateC (f := 51) rfl ?_); refine goesL_ (some 14) rfl rfl Tryz.func51 (by kernel_rfl) rfl #[.string a0] rfl zm ?_; (with_reducible refine (impl_linesOf.calls k a0 t474 _ A3.out).mono ?_); rintro e w19 ⟨v475, rfl, ho0, hb⟩; refine ⟨_, rfl, ?_⟩; have n0_ := am (Kd.R_lower ho0 (below_size zb)); have n1_ := am (below_step zb hb); clear HB; have HO476 := n0_; have HB := n1_; clear n0_ n1_; (try clear hb); (try clear ho0); obtain ⟨Ao20, co20, eo20⟩ := Kd.R_slice HO476.out; subst eo20) | ((with_reducible refine gateC (f := 50) rfl ?_); refine goesL_ (some 15) rfl rfl Tryz.func50 (by kernel_rfl) rfl #[.slice Ao20 t474.length co20] rfl zm ?_; (with_reducible refine (impl_readSteps.calls k (fun k_ => some k_ = (.slice Ao20 t474.length co20 : Value).ownBlock) _ _ t474 t477 true _ ?sideT ?side1 A4.out).mono ?_); (case sideT => exact Door.below HT.out zb); (case side1 => exact Kd.R_V (Kd.R_tight rfl (HO476.out))); rintro e w21 ⟨v478, rfl, ho0, hb⟩; refine ⟨_, rfl, ?_⟩; have n0_ := am (Kd.R_below (zr HO476.out) hb); have n1_ := am (Kd.S_lower (Kd.S_new' (Kd.S_mono (ok' := fun k_ => True) ho0 (fun _ hk_ => trivial)) (Kd.R_lt (zr HO476.out))) (below_size zb)); have n2_ := am (below_step zb hb); clear HO476; clear HB; have HO476 := n0_; have HO479 := n1_; have HB := n2_; clear n0_ n1_ n2_; (try clear hb); (try clear ho0); obtain ⟨Ao22, co22, eo22⟩ := Kd.S_slice HO479.out; subst eo22) | ((with_reducible refine gateC (f := 30) rfl ?_); refine goesL_ (some 20) rfl rfl Tryz.func30 (by kernel_rfl) rfl #[.slice Ao22 t477.length co22] rfl zm ?_; (with_reducible refine (impl_StepsText.calls true k _ _ t477 t481 false _ ?sideT ?side1 ?side2 A5.out).mono ?_); (case sideT => exact Door.below HT.out zb); (case side1 => repeat (first | exact (Kd.S_reads' HO479.out).2.2 | (with_reducible refine Kd.C_alloc ?_ _) | (with_reducible refine Kd.C_drewN ?_ _) | (with_reducible refine Kd.C_drew ?_))); (case side2 => exact (Kd.S_reads' HO479.out).2.1); rintro e w23 ⟨rfl, hb⟩; refine ⟨_, rfl, ?_⟩; have n0_ := am (Kd.R_below (zr HO476.out) hb); have n1_ := am (Kd.S_below (zs HO479.out) hb); have n2_ := am (below_step zb hb); clear HO476; clear HO479; clear HB; have HO476 := n0_; have HO479 := n1_; have HB := n2_; clear n0_ n1_ n2_; (try clear hb)))
    go_ret3
    exact ⟨_, by first | rfl | (simp [errW_none, errW_some] <;> rfl) | (simp [*, errW_none, errW_some] <;> rfl), by first | exact Kd.S_nil _ _ _ _ _ | exact Kd.Q_nil _ _ _ _ _ | exact Kd.R_nil _ _ _ _ _, zb⟩
  ·replace c6 := Bool.eq_false_iff.mpr c6
   subst c6
   have H1 : (some (([] : List (S52)), 1, false)) = some (r1, r2, r3) := by rw [if_neg (show ¬ (false = true) by decide)] at H; exact H
   clear H
   have H := H1
   clear H1
   simp only [Option.some.injEq, Prod.mk.injEq] at H
   obtain ⟨rfl, rfl, rfl⟩ := H
   go_enter Tryz.func22, Tryz.ntmps22
   go_wp2_with (first | ((with_reducible refine gateC (f := 51) rfl ?_); refine goesL_ (some 14) rfl rfl Tryz.func51 (by kernel_rfl) rfl #[.string a0] rfl zm ?_; (with_reducible refine (impl_linesOf.calls k a0 t474 _ A3.out).mono ?_); rintro e w24 ⟨v475, rfl, ho0, hb⟩; refine ⟨_, rfl, ?_⟩; have n0_ := am (Kd.R_lower ho0 (below_size zb)); have n1_ := am (below_step zb hb); clear HB; have HO476 := n0_; have HB := n1_; clear n0_ n1_; (try clear hb); (try clear ho0); obtain ⟨Ao25, co25, eo25⟩ := Kd.R_slice HO476.out; subst eo25) | ((with_reducible refine gateC (f := 50) rfl ?_); refine goesL_ (some 15) rfl rfl Tryz.func50 (by kernel_rfl) rfl #[.slice Ao25 t474.length co25] rfl zm ?_; (with_reducible refine (impl_readSteps.calls k (fun k_ => some k_ = (.slice Ao25 t474.length co25 : Value).ownBlock) _ _ t474 t477 false _ ?sideT ?side1 A4.out).mono ?_); (case sideT => exact Door.below HT.out zb); (case side1 => exact Kd.R_V (Kd.R_tight rfl (HO476.out))); rintro e w26 ⟨v478, rfl, ho0, hb⟩; refine ⟨_, rfl, ?_⟩; have n0_ := am (Kd.R_below (zr HO476.out) hb); have n1_ := am (Kd.S_lower (Kd.S_new' (Kd.S_mono (ok' := fun k_ => True) ho0 (fun _ hk_ => trivial)) (Kd.R_lt (zr HO476.out))) (below_size zb)); have n2_ := am (below_step zb hb); clear HO476; clear HB; have HO476 := n0_; have HO479 := n1_; have HB := n2_; clear n0_ n1_ n2_; (try clear hb); (try clear ho0); obtain ⟨Ao27, co27, eo27⟩ := Kd.S_slice HO479.out; subst eo27) | ((with_reducible refine gateC (f := 30) rfl ?_); refine goesL_ (some 20) rfl rfl Tryz.func30 (by kernel_rfl) rfl #[.slice Ao27 t477.length co27] rfl zm ?_; (with_reducible refine (impl_StepsText.calls true k _ _ t477 t481 t482 _ ?sideT ?side1 ?side2 A5.out).mono ?_); (case sideT => exact Door.below HT.out zb); (case side1 => repeat (first | exact (Kd.S_reads' HO479.out).2.2 | (with_reducible refine Kd.C_alloc ?_ _) | (with_reducible refine Kd.C_drewN ?_ _) | (with_reducible refine Kd.C_drew ?_))); (case side2 => exact (Kd.S_reads' HO479.out).2.1); rintro e w28 ⟨rfl, hb⟩; refine ⟨_, rfl, ?_⟩; have n0_ := am (Kd.R_below (zr HO476.out) hb); have n1_ := am (Kd.S_below (zs HO479.out) hb); have n2_ := am (below_step zb hb); clear HO476; clear HO479; clear HB; have HO476 := n0_; have HO479 := n1_; have HB := n2_; clear n0_ n1_ n2_; (try clear hb)))
   go_ret3
   exact ⟨_, by first | rfl | (simp [errW_none, errW_some] <;> rfl) | (simp [*, errW_none, errW_some] <;> rfl), by first | exact Kd.S_nil _ _ _ _ _ | exact Kd.Q_nil _ _ _ _ _ | exact Kd.R_nil _ _ _ _ _, zb⟩
 ·rw [if_neg c2] at H
  have c2b0 : decide ((a0.size : Int) ≤ 3000) = false := decide_eq_false c2
  have c2b1 : decide (a0.size ≤ 3000) = false := decide_eq_false (by omega)
  clear c2
  simp only [Option.some.injEq, Prod.mk.injEq] at H
  obtain ⟨rfl, rfl, rfl⟩ := H
  go_enter Tryz.func22, Tryz.ntmps22
  go_wp2
  go_ret3
  exact ⟨_, by first | rfl | (simp [errW_none, errW_some] <;> rfl) | (simp [*, errW_none, errW_some] <;> rfl), by first | exact Kd.S_nil _ _ _ _ _ | exact Kd.Q_nil _ _ _ _ _ | exact Kd.R_nil _ _ _ _ _, zb⟩

def laws_eqStringS.l0 : Nat → List ByteArray → List ByteArray → Int → Option (Bool)
 | 0, _, _, _ => none
 | k + 1, x0, x1, x5 => if x5 < (x0.length : Int) then (if 0 ≤ x5 then (if x5 < (x1.length : Int) then (if (rdOf ByteArray.empty x0 x5).toList = (rdOf ByteArray.empty x1 x5).toList then (laws_eqStringS.l0 k x0 x1 (wrap64 (x5 + 1))) else (some false)) else (none)) else (none)) else (some true)
def laws_eqStringS.f (k : Nat) (l0 : List ByteArray) (l1 : List ByteArray) : Option (Bool) := if (l0.length : Int) = (l1.length : Int) then (laws_eqStringS.l0 k l0 l1 0) else (some false)
set_option maxHeartbeats 8000000 in
set_option maxRecDepth 100000 in
theorem laws_eqStringS.calls (k : Nat) (A0 : Option Addr) (c0 : Nat) (l0 : List ByteArray) (A1 : Option Addr) (c1 : Nat) (l1 : List ByteArray) (r : Bool) (w : World) (hr0 : Kd.C Kd.string w A0 l0.length l0) (hc0 : l0.length ≤ c0) (hr1 : Kd.C Kd.string w A1 l1.length l1) (hc1 : l1.length ≤ c1) (h : laws_eqStringS.f k l0 l1 = some r) :
  Calls Tryz.prog 85 #[.slice A0 l0.length c0, .slice A1 l1.length c1] w fun e w' => e = .returned (.bool r) ∧ Drawn0 w w' := by
 have HR0 := am hr0
 have HC0 := am hc0
 clear hr0 hc0
 have HR1 := am hr1
 have HC1 := am hc1
 clear hr1 hc1
 have H : (if (l0.length : Int) = (l1.length : Int) then (laws_eqStringS.l0 k l0 l1 0) else (some false)) = some r := h
 clear h
 by_cases c3 : (l0.length : Int) = (l1.length : Int)
 ·rw [if_pos c3] at H
  have c3b0 : ((l0.length : Int) == (l1.length : Int)) = true := beq_iff_eq.mpr c3
  have c3b1 : ((l0.length : Int) != (l1.length : Int)) = false := bne_eq_false_iff_eq.mpr c3
  have c3b2 : (l0.length == l1.length) = true := by first | simpa using c3 | (simp at c3 ⊢; omega)
  clear c3
  have H' := am H
  clear H
  go_enter Tryz.func85, Tryz.ntmps85
  go_wp2
  repeat (go_quiet (fail); try go_wp2)
  go_loopg [5] k (fun kq v5 w' => ∃ (x5_1 : Int), v5 = .int .i64 x5_1 ∧ Aside0 (laws_eqStringS.l0 kq l0 l1 x5_1 = some r) ∧ Aside0 (kq ≤ k) ∧ Drawn0 w w')
  case atStart => exact ⟨(0), zf, H', ⟨Nat.le_refl _⟩, by repeat (first | exact Drawn0.refl _ | apply Drawn0.step)⟩
  case round =>
   clear H'
   try clear c1
   try clear p2
   try clear c3
   try clear c3b0
   try clear c3b1
   try clear c3b2
   obtain ⟨x5_1, rfl, HA, HK1, ⟨m1, rfl⟩⟩ := hrel
   cases gk with
   | zero => exact absurd HA.out (by simp [laws_eqStringS.l0])
   | succ k1 =>
    have H := HA.out
    clear HA
    simp only [laws_eqStringS.l0] at H
    by_cases c4 : x5_1 < (l0.length : Int)
    ·rw [if_pos c4] at H
     have c4b0 : decide (x5_1 < (l0.length : Int)) = true := decide_eq_true c4
     clear c4
     by_cases c5 : 0 ≤ x5_1
     ·rw [if_pos c5] at H
      have c5b0 : decide (0 ≤ x5_1) = true := decide_eq_true c5
      clear c5
      by_cases c6 : x5_1 < (l1.length : Int)
      ·rw [if_pos c6] at H
       have c6b0 : decide (x5_1 < (l1.length : Int)) = true := decide_eq_true c6
       clear c6
       by_cases c7 : (rdOf ByteArray.empty l0 x5_1).toList = (rdOf ByteArray.empty l1 x5_1).toList
       ·rw [if_pos c7] at H
        have c7b0 : ((rdOf ByteArray.empty l0 x5_1).toList == (rdOf ByteArray.empty l1 x5_1).toList) = true := beq_iff_eq.mpr c7
        have c7b1 : ((rdOf ByteArray.empty l0 x5_1).toList != (rdOf ByteArray.empty l1 x5_1).toList) = false := bne_eq_false_iff_eq.mpr c7
        clear c7
        have H' := am H
        clear H
        have p483 : 0 ≤ (x5_1 : Int) := oa
        have q483 : x5_1 < (l0.length : Int) := oa
        obtain ⟨ad483, e483, hx483_0⟩ := Kd.at_string HR0.out x5_1 p483 q483
        cases e483
        replace p483 := eq_true p483
        replace q483 := eq_true q483
        have p484 : 0 ≤ (x5_1 : Int) := oa
        have q484 : x5_1 < (l1.length : Int) := oa
        obtain ⟨ad484, e484, hx484_0⟩ := Kd.at_string HR1.out x5_1 p484 q484
        cases e484
        replace p484 := eq_true p484
        replace q484 := eq_true q484
        go_wp2
        repeat (go_quiet (fail); try go_wp2)
        go_roundg k1
        case measure => have := HK1.out; omega
        case rel => exact ⟨(wrap64 (x5_1 + 1)), zf, H', ⟨by have := HK1.out; omega⟩, by repeat (first | exact Drawn0.refl _ | apply Drawn0.step)⟩
       ·rw [if_neg c7] at H
        have c7b0 : ((rdOf ByteArray.empty l0 x5_1).toList == (rdOf ByteArray.empty l1 x5_1).toList) = false := beq_eq_false_iff_ne.mpr c7
        have c7b1 : ((rdOf ByteArray.empty l0 x5_1).toList != (rdOf ByteArray.empty l1 x5_1).toList) = true := bne_iff_ne.mpr c7
        obtain rfl := Option.some.inj H
        have p483 : 0 ≤ (x5_1 : Int) := oa
        have q483 : x5_1 < (l0.length : Int) := oa
        obtain ⟨ad483, e483, hx483_0⟩ := Kd.at_string HR0.out x5_1 p483 q483
        cases e483
        replace p483 := eq_true p483
        replace q483 := eq_true q483
        have p484 : 0 ≤ (x5_1 : Int) := oa
        have q484 : x5_1 < (l1.length : Int) := oa
        obtain ⟨ad484, e484, hx484_0⟩ := Kd.at_string HR1.out x5_1 p484 q484
        cases e484
        replace p484 := eq_true p484
        replace q484 := eq_true q484
        go_wp2
        repeat (go_quiet (fail); try go_wp2)
        go_ret
        exact ⟨by first | rfl | (simp; done) | (simp [*]; done), by repeat (first | exact Drawn0.refl _ | apply Drawn0.step)⟩
      ·rw [if_neg c6] at H
       exact absurd H (by simp)
     ·rw [if_neg c5] at H
      exact absurd H (by simp)
    ·rw [if_neg c4] at H
     have c4b0 : decide (x5_1 < (l0.length : Int)) = false := decide_eq_false c4
     clear c4
     obtain rfl := Option.some.inj H
     go_wp2
     repeat (go_quiet (fail); try go_wp2)
     go_ret
     exact ⟨by first | rfl | (simp; done) | (simp [*]; done), by repeat (first | exact Drawn0.refl _ | apply Drawn0.step)⟩
 ·rw [if_neg c3] at H
  have c3b0 : ((l0.length : Int) == (l1.length : Int)) = false := beq_eq_false_iff_ne.mpr c3
  have c3b1 : ((l0.length : Int) != (l1.length : Int)) = true := bne_iff_ne.mpr c3
  have c3b2 : (l0.length == l1.length) = false := by first | simpa using c3 | (simp at c3 ⊢; omega)
  obtain rfl := Option.some.inj H
  go_enter Tryz.func85, Tryz.ntmps85
  go_wp2
  repeat (go_quiet (fail); try go_wp2)
  go_ret
  exact ⟨by first | rfl | (simp; done) | (simp [*]; done), by repeat (first | exact Drawn0.refl _ | apply Drawn0.step)⟩

def laws_eqStep.f (k : Nat) (a0_0 : Int) (a0_1 : Int) (l0_2 : List ByteArray) (a0_3 : Int) (a0_4 : Int) (l0_5 : List ByteArray) (a1_0 : Int) (a1_1 : Int) (l1_2 : List ByteArray) (a1_3 : Int) (a1_4 : Int) (l1_5 : List ByteArray) : Option (Bool) := if a0_0 = a1_0 then (if a0_1 = a1_1 then ((laws_eqStringS.f k l0_2 l1_2).bind fun t487 => (if t487 = true then (if a0_3 = a1_3 then (if a0_4 = a1_4 then ((laws_eqStringS.f k l0_5 l1_5).bind fun t488 => (if t488 = true then (some true) else (some false))) else (some false)) else (some false)) else (some false))) else (some false)) else (some false)
set_option maxHeartbeats 8000000 in
set_option maxRecDepth 100000 in
theorem laws_eqStep.calls (k : Nat) (a0_0 : Int) (a0_1 : Int) (A0_2 : Option Addr) (c0_2 : Nat) (l0_2 : List ByteArray) (a0_3 : Int) (a0_4 : Int) (A0_5 : Option Addr) (c0_5 : Nat) (l0_5 : List ByteArray) (a1_0 : Int) (a1_1 : Int) (A1_2 : Option Addr) (c1_2 : Nat) (l1_2 : List ByteArray) (a1_3 : Int) (a1_4 : Int) (A1_5 : Option Addr) (c1_5 : Nat) (l1_5 : List ByteArray) (r : Bool) (w : World) (hr0_2 : Kd.C Kd.string w A0_2 l0_2.length l0_2) (hc0_2 : l0_2.length ≤ c0_2) (hr0_5 : Kd.C Kd.string w A0_5 l0_5.length l0_5) (hc0_5 : l0_5.length ≤ c0_5) (hr1_2 : Kd.C Kd.string w A1_2 l1_2.length l1_2) (hc1_2 : l1_2.length ≤ c1_2) (hr1_5 : Kd.C Kd.string w A1_5 l1_5.length l1_5) (hc1_5 : l1_5.length ≤ c1_5) (h : laws_eqStep.f k a0_0 a0_1 l0_2 a0_3 a0_4 l0_5 a1_0 a1_1 l1_2 a1_3 a1_4 l1_5 = some r) :
  Calls Tryz.prog 52 #[.agg #[.int .i64 a0_0, .int .i64 a0_1, .slice A0_2 l0_2.length c0_2, .int .i64 a0_3, .int .i64 a0_4, .slice A0_5 l0_5.length c0_5], .agg #[.int .i64 a1_0, .int .i64 a1_1, .slice A1_2 l1_2.length c1_2, .int .i64 a1_3, .int .i64 a1_4, .slice A1_5 l1_5.length c1_5]] w fun e w' => e = .returned (.bool r) ∧ Below w.heap.size w w' := by
 have hu52 := Tryz.underlying52
 have HR0_2 := am hr0_2
 have HC0_2 := am hc0_2
 clear hr0_2 hc0_2
 have HR0_5 := am hr0_5
 have HC0_5 := am hc0_5
 clear hr0_5 hc0_5
 have HR1_2 := am hr1_2
 have HC1_2 := am hc1_2
 clear hr1_2 hc1_2
 have HR1_5 := am hr1_5
 have HC1_5 := am hc1_5
 clear hr1_5 hc1_5
 have HB := am (Below.refl w.heap.size w)
 have H : (if a0_0 = a1_0 then (if a0_1 = a1_1 then ((laws_eqStringS.f k l0_2 l1_2).bind fun t487 => (if t487 = true then (if a0_3 = a1_3 then (if a0_4 = a1_4 then ((laws_eqStringS.f k l0_5 l1_5).bind fun t488 => (if t488 = true then (some true) else (some false))) else (some false)) else (some false)) else (some false))) else (some false)) else (some false)) = some r := h
 clear h
 by_cases c3 : a0_0 = a1_0
 ·rw [if_pos c3] at H
  have c3b0 : (a0_0 == a1_0) = true := beq_iff_eq.mpr c3
  have c3b1 : (a0_0 != a1_0) = false := bne_eq_false_iff_eq.mpr c3
  clear c3
  by_cases c4 : a0_1 = a1_1
  ·rw [if_pos c4] at H
   have c4b0 : (a0_1 == a1_1) = true := beq_iff_eq.mpr c4
   have c4b1 : (a0_1 != a1_1) = false := bne_eq_false_iff_eq.mpr c4
   clear c4
   replace H := Option.bind_eq_some_iff.mp H
   obtain ⟨t487, A50, H⟩ := H
   replace H : (if t487 = true then (if a0_3 = a1_3 then (if a0_4 = a1_4 then ((laws_eqStringS.f k l0_5 l1_5).bind fun t488 => (if t488 = true then (some true) else (some false))) else (some false)) else (some false)) else (some false)) = some r := H
   have A5 := am A50
   clear A50
   by_cases c6 : t487 = true
   ·subst c6
    have H1 : (if a0_3 = a1_3 then (if a0_4 = a1_4 then ((laws_eqStringS.f k l0_5 l1_5).bind fun t488 => (if t488 = true then (some true) else (some false))) else (some false)) else (some false)) = some r := by rw [if_pos rfl] at H; exact H
    clear H
    have H := H1
    clear H1
    by_cases c7 : a0_3 = a1_3
    ·rw [if_pos c7] at H
     have c7b0 : (a0_3 == a1_3) = true := beq_iff_eq.mpr c7
     have c7b1 : (a0_3 != a1_3) = false := bne_eq_false_iff_eq.mpr c7
     clear c7
     by_cases c8 : a0_4 = a1_4
     ·rw [if_pos c8] at H
      have c8b0 : (a0_4 == a1_4) = true := beq_iff_eq.mpr c8
      have c8b1 : (a0_4 != a1_4) = false := bne_eq_false_iff_eq.mpr c8
      clear c8
      replace H := Option.bind_eq_some_iff.mp H
      obtain ⟨t488, A90, H⟩ := H
      replace H : (if t488 = true then (some true) else (some false)) = some r := H
      have A9 := am A90
      clear A90
      by_cases c10 : t488 = true
      ·subst c10
       have H1 : (some true) = some r := by rw [if_pos rfl] at H; exact H
       clear H
       have H := H1
       clear H1
       obtain rfl := Option.some.inj H
       go_enter Tryz.func52, Tryz.ntmps52
       go_wp2_with (first | ((with_reducible refine gate_dst (N := 2) rfl ?_); refine box_event ?hg (N := 2) ?hd (cs := #[.int .i64 a0_0, .int .i64 a0_1, .slice A0_2 l0_2.length c0_2, .int .i64 a0_3, .int .i64 a0_4, .slice A0_5 l0_5.length c0_5]) (t := 52) ?hr ?_; (case hd => rfl); (case hg => rfl); (case hr => first | (go_simp; done) | (go_simp; rfl)); intro gb485 hg w11 hbox hb; have n0_ := am (below_step zb hb); have n1_ := am (hbox); have n2_ := am ((by rw [hg]; exact (below_size zb) : w.heap.size ≤ gb485)); have n3_ := am ((by rw [hg]; exact (below_size zb) : w.heap.size ≤ gb485)); clear HB; have HB := n0_; have BK485 := n1_; have GW485 := n2_; have GE485 := n3_; clear n0_ n1_ n2_ n3_; clear hb hbox hg) | ((with_reducible refine gate_dst (N := 3) rfl ?_); refine box_event ?hg (N := 3) ?hd (cs := #[.int .i64 a1_0, .int .i64 a1_1, .slice A1_2 l1_2.length c1_2, .int .i64 a1_3, .int .i64 a1_4, .slice A1_5 l1_5.length c1_5]) (t := 52) ?hr ?_; (case hd => rfl); (case hg => rfl); (case hr => first | (go_simp; done) | (go_simp; rfl)); intro gb486 hg w12 hbox hb; have n0_ := am (blk_below (g := gb485) (o := .cells #[.int .i64 a0_0, .int .i64 a0_1, .slice A0_2 l0_2.length c0_2, .int .i64 a0_3, .int .i64 a0_4, .slice A0_5 l0_5.length c0_5] 52 (0, 0)) (zk BK485.out) hb); have n1_ := am (below_step zw hb); have n2_ := am (hbox); have n3_ := am ((by rw [hg]; exact (below_size zw) : w.heap.size ≤ gb486)); have n4_ := am ((by rw [hg]; exact (below_size zw) : w.heap.size ≤ gb486)); have n5_ := am ((by rw [hg]; exact Nat.ne_of_lt (blk_lt (g := gb485) (o := .cells #[.int .i64 a0_0, .int .i64 a0_1, .slice A0_2 l0_2.length c0_2, .int .i64 a0_3, .int .i64 a0_4, .slice A0_5 l0_5.length c0_5] 52 (0, 0)) (zk BK485.out)) : gb485 ≠ gb486)); have n6_ := am ((by rw [hg]; exact Nat.ne_of_gt (blk_lt (g := gb485) (o := .cells #[.int .i64 a0_0, .int .i64 a0_1, .slice A0_2 l0_2.length c0_2, .int .i64 a0_3, .int .i64 a0_4, .slice A0_5 l0_5.length c0_5] 52 (0, 0)) (zk BK485.out)) : gb486 ≠ gb485)); clear BK485; clear HB; have BK485 := n0_; have HB := n1_; have BK486 := n2_; have GW486 := n3_; have GE486 := n4_; have NB485_486 := n5_; have NB486_485 := n6_; clear n0_ n1_ n2_ n3_ n4_ n5_ n6_; clear hb hbox hg; have hnb13 := NB485_486.out; have hnc13 := NB486_485.out; have hcz14_0 : w12.cell? ⟨gb485, 0, none⟩ = some (.int .i64 a0_0) := (blk_cell BK485.out 0).trans rfl; have hcz14_1 : w12.cell? ⟨gb485, 1, none⟩ = some (.int .i64 a0_1) := (blk_cell BK485.out 1).trans rfl; have hcz14_2 : w12.cell? ⟨gb485, 2, none⟩ = some (.slice A0_2 l0_2.length c0_2) := (blk_cell BK485.out 2).trans rfl; have hcz14_3 : w12.cell? ⟨gb485, 3, none⟩ = some (.int .i64 a0_3) := (blk_cell BK485.out 3).trans rfl; have hcz14_4 : w12.cell? ⟨gb485, 4, none⟩ = some (.int .i64 a0_4) := (blk_cell BK485.out 4).trans rfl; have hcz14_5 : w12.cell? ⟨gb485, 5, none⟩ = some (.slice A0_5 l0_5.length c0_5) := (blk_cell BK485.out 5).trans rfl; have hfz14_0 := blk_frozen BK485.out 0; have hfz14_1 := blk_frozen BK485.out 1; have hfz14_2 := blk_frozen BK485.out 2; have hfz14_3 := blk_frozen BK485.out 3; have hfz14_4 := blk_frozen BK485.out 4; have hfz14_5 := blk_frozen BK485.out 5; have hcz15_0 : w12.cell? ⟨gb486, 0, none⟩ = some (.int .i64 a1_0) := (blk_cell BK486.out 0).trans rfl; have hcz15_1 : w12.cell? ⟨gb486, 1, none⟩ = some (.int .i64 a1_1) := (blk_cell BK486.out 1).trans rfl; have hcz15_2 : w12.cell? ⟨gb486, 2, none⟩ = some (.slice A1_2 l1_2.length c1_2) := (blk_cell BK486.out 2).trans rfl; have hcz15_3 : w12.cell? ⟨gb486, 3, none⟩ = some (.int .i64 a1_3) := (blk_cell BK486.out 3).trans rfl; have hcz15_4 : w12.cell? ⟨gb486, 4, none⟩ = some (.int .i64 a1_4) := (blk_cell BK486.out 4).trans rfl; have hcz15_5 : w12.cell? ⟨gb486, 5, none⟩ = some (.slice A1_5 l1_5.length c1_5) := (blk_cell BK486.out 5).trans rfl; have hfz15_0 := blk_frozen BK486.out 0; have hfz15_1 := blk_frozen BK486.out 1; have hfz15_2 := blk_frozen BK486.out 2; have hfz15_3 := blk_frozen BK486.out 3; have hfz15_4 := blk_frozen BK486.out 4; have hfz15_5 := blk_frozen BK486.out 5) | ((with_reducible refine gateC (f := 85) rfl ?_); refine goesL_ (some 19) rfl rfl Tryz.func85 (by kernel_rfl) rfl #[.slice A0_2 l0_2.length c0_2, .slice A1_2 l1_2.length c1_2] rfl zm ?_; (with_reducible refine (laws_eqStringS.calls k _ _ l0_2 _ _ l1_2 true _ ?side1 ?side2 ?side3 ?side4 A5.out).mono ?_); (case side1 => exact zq (Kd.C_below HR0_2.out HB.out)); (case side2 => exact HC0_2.out); (case side3 => exact zq (Kd.C_below HR1_2.out HB.out)); (case side4 => exact HC1_2.out); rintro e w' ⟨rfl, ⟨nd, rfl⟩⟩; refine ⟨_, rfl, ?_⟩) | ((with_reducible refine gateC (f := 85) rfl ?_); refine goesL_ (some 35) rfl rfl Tryz.func85 (by kernel_rfl) rfl #[.slice A0_5 l0_5.length c0_5, .slice A1_5 l1_5.length c1_5] rfl zm ?_; (with_reducible refine (laws_eqStringS.calls k _ _ l0_5 _ _ l1_5 true _ ?side1 ?side2 ?side3 ?side4 A9.out).mono ?_); (case side1 => repeat (first | exact (Kd.C_below HR0_5.out zw) | (with_reducible refine Kd.C_alloc ?_ _) | (with_reducible refine Kd.C_drewN ?_ _) | (with_reducible refine Kd.C_drew ?_))); (case side2 => exact HC0_5.out); (case side3 => repeat (first | exact (Kd.C_below HR1_5.out zw) | (with_reducible refine Kd.C_alloc ?_ _) | (with_reducible refine Kd.C_drewN ?_ _) | (with_reducible refine Kd.C_drew ?_))); (case side4 => exact HC1_5.out); rintro e w' ⟨rfl, ⟨nd, rfl⟩⟩; refine ⟨_, rfl, ?_⟩))
       go_ret
       exact ⟨by first | rfl | (simp [errW_none, errW_some] <;> rfl) | (simp [*, errW_none, errW_some] <;> rfl), zw⟩
      ·replace c10 := Bool.eq_false_iff.mpr c10
       subst c10
       have H1 : (some false) = some r := by rw [if_neg (show ¬ (false = true) by decide)] at H; exact H
       clear H
       have H := H1
       clear H1
       obtain rfl := Option.some.inj H
       go_enter Tryz.func52, Tryz.ntmps52
       go_wp2_with (first | ((with_reducible refine gate_dst (N := 2) rfl ?_); refine box_event ?hg (N := 2) ?hd (cs := #[.int .i64 a0_0, .int .i64 a0_1, .slice A0_2 l0_2.length c0_2, .int .i64 a0_3, .int .i64 a0_4, .slice A0_5 l0_5.length c0_5]) (t := 52) ?hr ?_; (case hd => rfl); (case hg => rfl); (case hr => first | (go_simp; done) | (go_simp; rfl)); intro gb485 hg w16 hbox hb; have n0_ := am (below_step zb hb); have n1_ := am (hbox); have n2_ := am ((by rw [hg]; exact (below_size zb) : w.heap.size ≤ gb485)); have n3_ := am ((by rw [hg]; exact (below_size zb) : w.heap.size ≤ gb485)); clear HB; have HB := n0_; have BK485 := n1_; have GW485 := n2_; have GE485 := n3_; clear n0_ n1_ n2_ n3_; clear hb hbox hg) | ((with_reducible refine gate_dst (N := 3) rfl ?_); refine box_event ?hg (N := 3) ?hd (cs := #[.int .i64 a1_0, .int .i64 a1_1, .slice A1_2 l1_2.length c1_2, .int .i64 a1_3, .int .i64 a1_4, .slice A1_5 l1_5.length c1_5]) (t := 52) ?hr ?_; (case hd => rfl); (case hg => rfl); (case hr => first | (go_simp; done) | (go_simp; rfl)); intro gb486 hg w17 hbox hb; have n0_ := am (blk_below (g := gb485) (o := .cells #[.int .i64 a0_0, .int .i64 a0_1, .slice A0_2 l0_2.length c0_2, .int .i64 a0_3, .int .i64 a0_4, .slice A0_5 l0_5.length c0_5] 52 (0, 0)) (zk BK485.out) hb); have n1_ := am (below_step zw hb); have n2_ := am (hbox); have n3_ := am ((by rw [hg]; exact (below_size zw) : w.heap.size ≤ gb486)); have n4_ := am ((by rw [hg]; exact (below_size zw) : w.heap.size ≤ gb486)); have n5_ := am ((by rw [hg]; exact Nat.ne_of_lt (blk_lt (g := gb485) (o := .cells #[.int .i64 a0_0, .int .i64 a0_1, .slice A0_2 l0_2.length c0_2, .int .i64 a0_3, .int .i64 a0_4, .slice A0_5 l0_5.length c0_5] 52 (0, 0)) (zk BK485.out)) : gb485 ≠ gb486)); have n6_ := am ((by rw [hg]; exact Nat.ne_of_gt (blk_lt (g := gb485) (o := .cells #[.int .i64 a0_0, .int .i64 a0_1, .slice A0_2 l0_2.length c0_2, .int .i64 a0_3, .int .i64 a0_4, .slice A0_5 l0_5.length c0_5] 52 (0, 0)) (zk BK485.out)) : gb486 ≠ gb485)); clear BK485; clear HB; have BK485 := n0_; have HB := n1_; have BK486 := n2_; have GW486 := n3_; have GE486 := n4_; have NB485_486 := n5_; have NB486_485 := n6_; clear n0_ n1_ n2_ n3_ n4_ n5_ n6_; clear hb hbox hg; have hnb18 := NB485_486.out; have hnc18 := NB486_485.out; have hcz19_0 : w17.cell? ⟨gb485, 0, none⟩ = some (.int .i64 a0_0) := (blk_cell BK485.out 0).trans rfl; have hcz19_1 : w17.cell? ⟨gb485, 1, none⟩ = some (.int .i64 a0_1) := (blk_cell BK485.out 1).trans rfl; have hcz19_2 : w17.cell? ⟨gb485, 2, none⟩ = some (.slice A0_2 l0_2.length c0_2) := (blk_cell BK485.out 2).trans rfl; have hcz19_3 : w17.cell? ⟨gb485, 3, none⟩ = some (.int .i64 a0_3) := (blk_cell BK485.out 3).trans rfl; have hcz19_4 : w17.cell? ⟨gb485, 4, none⟩ = some (.int .i64 a0_4) := (blk_cell BK485.out 4).trans rfl; have hcz19_5 : w17.cell? ⟨gb485, 5, none⟩ = some (.slice A0_5 l0_5.length c0_5) := (blk_cell BK485.out 5).trans rfl; have hfz19_0 := blk_frozen BK485.out 0; have hfz19_1 := blk_frozen BK485.out 1; have hfz19_2 := blk_frozen BK485.out 2; have hfz19_3 := blk_frozen BK485.out 3; have hfz19_4 := blk_frozen BK485.out 4; have hfz19_5 := blk_frozen BK485.out 5; have hcz20_0 : w17.cell? ⟨gb486, 0, none⟩ = some (.int .i64 a1_0) := (blk_cell BK486.out 0).trans rfl; have hcz20_1 : w17.cell? ⟨gb486, 1, none⟩ = some (.int .i64 a1_1) := (blk_cell BK486.out 1).trans rfl; have hcz20_2 : w17.cell? ⟨gb486, 2, none⟩ = some (.slice A1_2 l1_2.length c1_2) := (blk_cell BK486.out 2).trans rfl; have hcz20_3 : w17.cell? ⟨gb486, 3, none⟩ = some (.int .i64 a1_3) := (blk_cell BK486.out 3).trans rfl; have hcz20_4 : w17.cell? ⟨gb486, 4, none⟩ = some (.int .i64 a1_4) := (blk_cell BK486.out 4).trans rfl; have hcz20_5 : w17.cell? ⟨gb486, 5, none⟩ = some (.slice A1_5 l1_5.length c1_5) := (blk_cell BK486.out 5).trans rfl; have hfz20_0 := blk_frozen BK486.out 0; have hfz20_1 := blk_frozen BK486.out 1; have hfz20_2 := blk_frozen BK486.out 2; have hfz20_3 := blk_frozen BK486.out 3; have hfz20_4 := blk_frozen BK486.out 4; have hfz20_5 := blk_frozen BK486.out 5) | ((with_reducible refine gateC (f := 85) rfl ?_); refine goesL_ (some 19) rfl rfl Tryz.func85 (by kernel_rfl) rfl #[.slice A0_2 l0_2.length c0_2, .slice A1_2 l1_2.length c1_2] rfl zm ?_; (with_reducible refine (laws_eqStringS.calls k _ _ l0_2 _ _ l1_2 true _ ?side1 ?side2 ?side3 ?side4 A5.out).mono ?_); (case side1 => exact zq (Kd.C_below HR0_2.out HB.out)); (case side2 => exact HC0_2.out); (case side3 => exact zq (Kd.C_below HR1_2.out HB.out)); (case side4 => exact HC1_2.out); rintro e w' ⟨rfl, ⟨nd, rfl⟩⟩; refine ⟨_, rfl, ?_⟩) | ((with_reducible refine gateC (f := 85) rfl ?_); refine goesL_ (some 35) rfl rfl Tryz.func85 (by kernel_rfl) rfl #[.slice A0_5 l0_5.length c0_5, .slice A1_5 l1_5.length c1_5] rfl zm ?_; (with_reducible refine (laws_eqStringS.calls k _ _ l0_5 _ _ l1_5 false _ ?side1 ?side2 ?side3 ?side4 A9.out).mono ?_); (case side1 => repeat (first | exact (Kd.C_below HR0_5.out zw) | (with_reducible refine Kd.C_alloc ?_ _) | (with_reducible refine Kd.C_drewN ?_ _) | (with_reducible refine Kd.C_drew ?_))); (case side2 => exact HC0_5.out); (case side3 => repeat (first | exact (Kd.C_below HR1_5.out zw) | (with_reducible refine Kd.C_alloc ?_ _) | (with_reducible refine Kd.C_drewN ?_ _) | (with_reducible refine Kd.C_drew ?_))); (case side4 => exact HC1_5.out); rintro e w' ⟨rfl, ⟨nd, rfl⟩⟩; refine ⟨_, rfl, ?_⟩))
       go_ret
       exact ⟨by first | rfl | (simp [errW_none, errW_some] <;> rfl) | (simp [*, errW_none, errW_some] <;> rfl), zw⟩
     ·rw [if_neg c8] at H
      have c8b0 : (a0_4 == a1_4) = false := beq_eq_false_iff_ne.mpr c8
      have c8b1 : (a0_4 != a1_4) = true := bne_iff_ne.mpr c8
      obtain rfl := Option.some.inj H
      go_enter Tryz.func52, Tryz.ntmps52
      go_wp2_with (first | ((with_reducible refine gate_dst (N := 2) rfl ?_); refine box_event ?hg (N := 2) ?hd (cs := #[.int .i64 a0_0, .int .i64 a0_1, .slice A0_2 l0_2.length c0_2, .int .i64 a0_3, .int .i64 a0_4, .slice A0_5 l0_5.length c0_5]) (t := 52) ?hr ?_; (case hd => rfl); (case hg => rfl); (case hr => first | (go_simp; done) | (go_simp; rfl)); intro gb485 hg w21 hbox hb; have n0_ := am (below_step zb hb); have n1_ := am (hbox); have n2_ := am ((by rw [hg]; exact (below_size zb) : w.heap.size ≤ gb485)); have n3_ := am ((by rw [hg]; exact (below_size zb) : w.heap.size ≤ gb485)); clear HB; have HB := n0_; have BK485 := n1_; have GW485 := n2_; have GE485 := n3_; clear n0_ n1_ n2_ n3_; clear hb hbox hg) | ((with_reducible refine gate_dst (N := 3) rfl ?_); refine box_event ?hg (N := 3) ?hd (cs := #[.int .i64 a1_0, .int .i64 a1_1, .slice A1_2 l1_2.length c1_2, .int .i64 a1_3, .int .i64 a1_4, .slice A1_5 l1_5.length c1_5]) (t := 52) ?hr ?_; (case hd => rfl); (case hg => rfl); (case hr => first | (go_simp; done) | (go_simp; rfl)); intro gb486 hg w22 hbox hb; have n0_ := am (blk_below (g := gb485) (o := .cells #[.int .i64 a0_0, .int .i64 a0_1, .slice A0_2 l0_2.length c0_2, .int .i64 a0_3, .int .i64 a0_4, .slice A0_5 l0_5.length c0_5] 52 (0, 0)) (zk BK485.out) hb); have n1_ := am (below_step zw hb); have n2_ := am (hbox); have n3_ := am ((by rw [hg]; exact (below_size zw) : w.heap.size ≤ gb486)); have n4_ := am ((by rw [hg]; exact (below_size zw) : w.heap.size ≤ gb486)); have n5_ := am ((by rw [hg]; exact Nat.ne_of_lt (blk_lt (g := gb485) (o := .cells #[.int .i64 a0_0, .int .i64 a0_1, .slice A0_2 l0_2.length c0_2, .int .i64 a0_3, .int .i64 a0_4, .slice A0_5 l0_5.length c0_5] 52 (0, 0)) (zk BK485.out)) : gb485 ≠ gb486)); have n6_ := am ((by rw [hg]; exact Nat.ne_of_gt (blk_lt (g := gb485) (o := .cells #[.int .i64 a0_0, .int .i64 a0_1, .slice A0_2 l0_2.length c0_2, .int .i64 a0_3, .int .i64 a0_4, .slice A0_5 l0_5.length c0_5] 52 (0, 0)) (zk BK485.out)) : gb486 ≠ gb485)); clear BK485; clear HB; have BK485 := n0_; have HB := n1_; have BK486 := n2_; have GW486 := n3_; have GE486 := n4_; have NB485_486 := n5_; have NB486_485 := n6_; clear n0_ n1_ n2_ n3_ n4_ n5_ n6_; clear hb hbox hg; have hnb23 := NB485_486.out; have hnc23 := NB486_485.out; have hcz24_0 : w22.cell? ⟨gb485, 0, none⟩ = some (.int .i64 a0_0) := (blk_cell BK485.out 0).trans rfl; have hcz24_1 : w22.cell? ⟨gb485, 1, none⟩ = some (.int .i64 a0_1) := (blk_cell BK485.out 1).trans rfl; have hcz24_2 : w22.cell? ⟨gb485, 2, none⟩ = some (.slice A0_2 l0_2.length c0_2) := (blk_cell BK485.out 2).trans rfl; have hcz24_3 : w22.cell? ⟨gb485, 3, none⟩ = some (.int .i64 a0_3) := (blk_cell BK485.out 3).trans rfl; have hcz24_4 : w22.cell? ⟨gb485, 4, none⟩ = some (.int .i64 a0_4) := (blk_cell BK485.out 4).trans rfl; have hcz24_5 : w22.cell? ⟨gb485, 5, none⟩ = some (.slice A0_5 l0_5.length c0_5) := (blk_cell BK485.out 5).trans rfl; have hfz24_0 := blk_frozen BK485.out 0; have hfz24_1 := blk_frozen BK485.out 1; have hfz24_2 := blk_frozen BK485.out 2; have hfz24_3 := blk_frozen BK485.out 3; have hfz24_4 := blk_frozen BK485.out 4; have hfz24_5 := blk_frozen BK485.out 5; have hcz25_0 : w22.cell? ⟨gb486, 0, none⟩ = some (.int .i64 a1_0) := (blk_cell BK486.out 0).trans rfl; have hcz25_1 : w22.cell? ⟨gb486, 1, none⟩ = some (.int .i64 a1_1) := (blk_cell BK486.out 1).trans rfl; have hcz25_2 : w22.cell? ⟨gb486, 2, none⟩ = some (.slice A1_2 l1_2.length c1_2) := (blk_cell BK486.out 2).trans rfl; have hcz25_3 : w22.cell? ⟨gb486, 3, none⟩ = some (.int .i64 a1_3) := (blk_cell BK486.out 3).trans rfl; have hcz25_4 : w22.cell? ⟨gb486, 4, none⟩ = some (.int .i64 a1_4) := (blk_cell BK486.out 4).trans rfl; have hcz25_5 : w22.cell? ⟨gb486, 5, none⟩ = some (.slice A1_5 l1_5.length c1_5) := (blk_cell BK486.out 5).trans rfl; have hfz25_0 := blk_frozen BK486.out 0; have hfz25_1 := blk_frozen BK486.out 1; have hfz25_2 := blk_frozen BK486.out 2; have hfz25_3 := blk_frozen BK486.out 3; have hfz25_4 := blk_frozen BK486.out 4; have hfz25_5 := blk_frozen BK486.out 5) | ((with_reducible refine gateC (f := 85) rfl ?_); refine goesL_ (some 19) rfl rfl Tryz.func85 (by kernel_rfl) rfl #[.slice A0_2 l0_2.length c0_2, .slice A1_2 l1_2.length c1_2] rfl zm ?_; (with_reducible refine (laws_eqStringS.calls k _ _ l0_2 _ _ l1_2 true _ ?side1 ?side2 ?side3 ?side4 A5.out).mono ?_); (case side1 => exact zq (Kd.C_below HR0_2.out HB.out)); (case side2 => exact HC0_2.out); (case side3 => exact zq (Kd.C_below HR1_2.out HB.out)); (case side4 => exact HC1_2.out); rintro e w' ⟨rfl, ⟨nd, rfl⟩⟩; refine ⟨_, rfl, ?_⟩))
      go_ret
      exact ⟨by first | rfl | (simp [errW_none, errW_some] <;> rfl) | (simp [*, errW_none, errW_some] <;> rfl), zw⟩
    ·rw [if_neg c7] at H
     have c7b0 : (a0_3 == a1_3) = false := beq_eq_false_iff_ne.mpr c7
     have c7b1 : (a0_3 != a1_3) = true := bne_iff_ne.mpr c7
     obtain rfl := Option.some.inj H
     go_enter Tryz.func52, Tryz.ntmps52
     go_wp2_with (first | ((with_reducible refine gate_dst (N := 2) rfl ?_); refine box_event ?hg (N := 2) ?hd (cs := #[.int .i64 a0_0, .int .i64 a0_1, .slice A0_2 l0_2.length c0_2, .int .i64 a0_3, .int .i64 a0_4, .slice A0_5 l0_5.length c0_5]) (t := 52) ?hr ?_; (case hd => rfl); (case hg => rfl); (case hr => first | (go_simp; done) | (go_simp; rfl)); intro gb485 hg w26 hbox hb; have n0_ := am (below_step zb hb); have n1_ := am (hbox); have n2_ := am ((by rw [hg]; exact (below_size zb) : w.heap.size ≤ gb485)); have n3_ := am ((by rw [hg]; exact (below_size zb) : w.heap.size ≤ gb485)); clear HB; have HB := n0_; have BK485 := n1_; have GW485 := n2_; have GE485 := n3_; clear n0_ n1_ n2_ n3_; clear hb hbox hg) | ((with_reducible refine gate_dst (N := 3) rfl ?_); refine box_event ?hg (N := 3) ?hd (cs := #[.int .i64 a1_0, .int .i64 a1_1, .slice A1_2 l1_2.length c1_2, .int .i64 a1_3, .int .i64 a1_4, .slice A1_5 l1_5.length c1_5]) (t := 52) ?hr ?_; (case hd => rfl); (case hg => rfl); (case hr => first | (go_simp; done) | (go_simp; rfl)); intro gb486 hg w27 hbox hb; have n0_ := am (blk_below (g := gb485) (o := .cells #[.int .i64 a0_0, .int .i64 a0_1, .slice A0_2 l0_2.length c0_2, .int .i64 a0_3, .int .i64 a0_4, .slice A0_5 l0_5.length c0_5] 52 (0, 0)) (zk BK485.out) hb); have n1_ := am (below_step zw hb); have n2_ := am (hbox); have n3_ := am ((by rw [hg]; exact (below_size zw) : w.heap.size ≤ gb486)); have n4_ := am ((by rw [hg]; exact (below_size zw) : w.heap.size ≤ gb486)); have n5_ := am ((by rw [hg]; exact Nat.ne_of_lt (blk_lt (g := gb485) (o := .cells #[.int .i64 a0_0, .int .i64 a0_1, .slice A0_2 l0_2.length c0_2, .int .i64 a0_3, .int .i64 a0_4, .slice A0_5 l0_5.length c0_5] 52 (0, 0)) (zk BK485.out)) : gb485 ≠ gb486)); have n6_ := am ((by rw [hg]; exact Nat.ne_of_gt (blk_lt (g := gb485) (o := .cells #[.int .i64 a0_0, .int .i64 a0_1, .slice A0_2 l0_2.length c0_2, .int .i64 a0_3, .int .i64 a0_4, .slice A0_5 l0_5.length c0_5] 52 (0, 0)) (zk BK485.out)) : gb486 ≠ gb485)); clear BK485; clear HB; have BK485 := n0_; have HB := n1_; have BK486 := n2_; have GW486 := n3_; have GE486 := n4_; have NB485_486 := n5_; have NB486_485 := n6_; clear n0_ n1_ n2_ n3_ n4_ n5_ n6_; clear hb hbox hg; have hnb28 := NB485_486.out; have hnc28 := NB486_485.out; have hcz29_0 : w27.cell? ⟨gb485, 0, none⟩ = some (.int .i64 a0_0) := (blk_cell BK485.out 0).trans rfl; have hcz29_1 : w27.cell? ⟨gb485, 1, none⟩ = some (.int .i64 a0_1) := (blk_cell BK485.out 1).trans rfl; have hcz29_2 : w27.cell? ⟨gb485, 2, none⟩ = some (.slice A0_2 l0_2.length c0_2) := (blk_cell BK485.out 2).trans rfl; have hcz29_3 : w27.cell? ⟨gb485, 3, none⟩ = some (.int .i64 a0_3) := (blk_cell BK485.out 3).trans rfl; have hcz29_4 : w27.cell? ⟨gb485, 4, none⟩ = some (.int .i64 a0_4) := (blk_cell BK485.out 4).trans rfl; have hcz29_5 : w27.cell? ⟨gb485, 5, none⟩ = some (.slice A0_5 l0_5.length c0_5) := (blk_cell BK485.out 5).trans rfl; have hfz29_0 := blk_frozen BK485.out 0; have hfz29_1 := blk_frozen BK485.out 1; have hfz29_2 := blk_frozen BK485.out 2; have hfz29_3 := blk_frozen BK485.out 3; have hfz29_4 := blk_frozen BK485.out 4; have hfz29_5 := blk_frozen BK485.out 5; have hcz30_0 : w27.cell? ⟨gb486, 0, none⟩ = some (.int .i64 a1_0) := (blk_cell BK486.out 0).trans rfl; have hcz30_1 : w27.cell? ⟨gb486, 1, none⟩ = some (.int .i64 a1_1) := (blk_cell BK486.out 1).trans rfl; have hcz30_2 : w27.cell? ⟨gb486, 2, none⟩ = some (.slice A1_2 l1_2.length c1_2) := (blk_cell BK486.out 2).trans rfl; have hcz30_3 : w27.cell? ⟨gb486, 3, none⟩ = some (.int .i64 a1_3) := (blk_cell BK486.out 3).trans rfl; have hcz30_4 : w27.cell? ⟨gb486, 4, none⟩ = some (.int .i64 a1_4) := (blk_cell BK486.out 4).trans rfl; have hcz30_5 : w27.cell? ⟨gb486, 5, none⟩ = some (.slice A1_5 l1_5.length c1_5) := (blk_cell BK486.out 5).trans rfl; have hfz30_0 := blk_frozen BK486.out 0; have hfz30_1 := blk_frozen BK486.out 1; have hfz30_2 := blk_frozen BK486.out 2; have hfz30_3 := blk_frozen BK486.out 3; have hfz30_4 := blk_frozen BK486.out 4; have hfz30_5 := blk_frozen BK486.out 5) | ((with_reducible refine gateC (f := 85) rfl ?_); refine goesL_ (some 19) rfl rfl Tryz.func85 (by kernel_rfl) rfl #[.slice A0_2 l0_2.length c0_2, .slice A1_2 l1_2.length c1_2] rfl zm ?_; (with_reducible refine (laws_eqStringS.calls k _ _ l0_2 _ _ l1_2 true _ ?side1 ?side2 ?side3 ?side4 A5.out).mono ?_); (case side1 => exact zq (Kd.C_below HR0_2.out HB.out)); (case side2 => exact HC0_2.out); (case side3 => exact zq (Kd.C_below HR1_2.out HB.out)); (case side4 => exact HC1_2.out); rintro e w' ⟨rfl, ⟨nd, rfl⟩⟩; refine ⟨_, rfl, ?_⟩))
     go_ret
     exact ⟨by first | rfl | (simp [errW_none, errW_some] <;> rfl) | (simp [*, errW_none, errW_some] <;> rfl), zw⟩
   ·replace c6 := Bool.eq_false_iff.mpr c6
    subst c6
    have H1 : (some false) = some r := by rw [if_neg (show ¬ (false = true) by decide)] at H; exact H
    clear H
    have H := H1
    clear H1
    obtain rfl := Option.some.inj H
    go_enter Tryz.func52, Tryz.ntmps52
    go_wp2_with (first | ((with_reducible refine gate_dst (N := 2) rfl ?_); refine box_event ?hg (N := 2) ?hd (cs := #[.int .i64 a0_0, .int .i64 a0_1, .slice A0_2 l0_2.length c0_2, .int .i64 a0_3, .int .i64 a0_4, .slice A0_5 l0_5.length c0_5]) (t := 52) ?hr ?_; (case hd => rfl); (case hg => rfl); (case hr => first | (go_simp; done) | (go_simp; rfl)); intro gb485 hg w31 hbox hb; have n0_ := am (below_step zb hb); have n1_ := am (hbox); have n2_ := am ((by rw [hg]; exact (below_size zb) : w.heap.size ≤ gb485)); have n3_ := am ((by rw [hg]; exact (below_size zb) : w.heap.size ≤ gb485)); clear HB; have HB := n0_; have BK485 := n1_; have GW485 := n2_; have GE485 := n3_; clear n0_ n1_ n2_ n3_; clear hb hbox hg) | ((with_reducible refine gate_dst (N := 3) rfl ?_); refine box_event ?hg (N := 3) ?hd (cs := #[.int .i64 a1_0, .int .i64 a1_1, .slice A1_2 l1_2.length c1_2, .int .i64 a1_3, .int .i64 a1_4, .slice A1_5 l1_5.length c1_5]) (t := 52) ?hr ?_; (case hd => rfl); (case hg => rfl); (case hr => first | (go_simp; done) | (go_simp; rfl)); intro gb486 hg w32 hbox hb; have n0_ := am (blk_below (g := gb485) (o := .cells #[.int .i64 a0_0, .int .i64 a0_1, .slice A0_2 l0_2.length c0_2, .int .i64 a0_3, .int .i64 a0_4, .slice A0_5 l0_5.length c0_5] 52 (0, 0)) (zk BK485.out) hb); have n1_ := am (below_step zw hb); have n2_ := am (hbox); have n3_ := am ((by rw [hg]; exact (below_size zw) : w.heap.size ≤ gb486)); have n4_ := am ((by rw [hg]; exact (below_size zw) : w.heap.size ≤ gb486)); have n5_ := am ((by rw [hg]; exact Nat.ne_of_lt (blk_lt (g := gb485) (o := .cells #[.int .i64 a0_0, .int .i64 a0_1, .slice A0_2 l0_2.length c0_2, .int .i64 a0_3, .int .i64 a0_4, .slice A0_5 l0_5.length c0_5] 52 (0, 0)) (zk BK485.out)) : gb485 ≠ gb486)); have n6_ := am ((by rw [hg]; exact Nat.ne_of_gt (blk_lt (g := gb485) (o := .cells #[.int .i64 a0_0, .int .i64 a0_1, .slice A0_2 l0_2.length c0_2, .int .i64 a0_3, .int .i64 a0_4, .slice A0_5 l0_5.length c0_5] 52 (0, 0)) (zk BK485.out)) : gb486 ≠ gb485)); clear BK485; clear HB; have BK485 := n0_; have HB := n1_; have BK486 := n2_; have GW486 := n3_; have GE486 := n4_; have NB485_486 := n5_; have NB486_485 := n6_; clear n0_ n1_ n2_ n3_ n4_ n5_ n6_; clear hb hbox hg; have hnb33 := NB485_486.out; have hnc33 := NB486_485.out; have hcz34_0 : w32.cell? ⟨gb485, 0, none⟩ = some (.int .i64 a0_0) := (blk_cell BK485.out 0).trans rfl; have hcz34_1 : w32.cell? ⟨gb485, 1, none⟩ = some (.int .i64 a0_1) := (blk_cell BK485.out 1).trans rfl; have hcz34_2 : w32.cell? ⟨gb485, 2, none⟩ = some (.slice A0_2 l0_2.length c0_2) := (blk_cell BK485.out 2).trans rfl; have hcz34_3 : w32.cell? ⟨gb485, 3, none⟩ = some (.int .i64 a0_3) := (blk_cell BK485.out 3).trans rfl; have hcz34_4 : w32.cell? ⟨gb485, 4, none⟩ = some (.int .i64 a0_4) := (blk_cell BK485.out 4).trans rfl; have hcz34_5 : w32.cell? ⟨gb485, 5, none⟩ = some (.slice A0_5 l0_5.length c0_5) := (blk_cell BK485.out 5).trans rfl; have hfz34_0 := blk_frozen BK485.out 0; have hfz34_1 := blk_frozen BK485.out 1; have hfz34_2 := blk_frozen BK485.out 2; have hfz34_3 := blk_frozen BK485.out 3; have hfz34_4 := blk_frozen BK485.out 4; have hfz34_5 := blk_frozen BK485.out 5; have hcz35_0 : w32.cell? ⟨gb486, 0, none⟩ = some (.int .i64 a1_0) := (blk_cell BK486.out 0).trans rfl; have hcz35_1 : w32.cell? ⟨gb486, 1, none⟩ = some (.int .i64 a1_1) := (blk_cell BK486.out 1).trans rfl; have hcz35_2 : w32.cell? ⟨gb486, 2, none⟩ = some (.slice A1_2 l1_2.length c1_2) := (blk_cell BK486.out 2).trans rfl; have hcz35_3 : w32.cell? ⟨gb486, 3, none⟩ = some (.int .i64 a1_3) := (blk_cell BK486.out 3).trans rfl; have hcz35_4 : w32.cell? ⟨gb486, 4, none⟩ = some (.int .i64 a1_4) := (blk_cell BK486.out 4).trans rfl; have hcz35_5 : w32.cell? ⟨gb486, 5, none⟩ = some (.slice A1_5 l1_5.length c1_5) := (blk_cell BK486.out 5).trans rfl; have hfz35_0 := blk_frozen BK486.out 0; have hfz35_1 := blk_frozen BK486.out 1; have hfz35_2 := blk_frozen BK486.out 2; have hfz35_3 := blk_frozen BK486.out 3; have hfz35_4 := blk_frozen BK486.out 4; have hfz35_5 := blk_frozen BK486.out 5) | ((with_reducible refine gateC (f := 85) rfl ?_); refine goesL_ (some 19) rfl rfl Tryz.func85 (by kernel_rfl) rfl #[.slice A0_2 l0_2.length c0_2, .slice A1_2 l1_2.length c1_2] rfl zm ?_; (with_reducible refine (laws_eqStringS.calls k _ _ l0_2 _ _ l1_2 false _ ?side1 ?side2 ?side3 ?side4 A5.out).mono ?_); (case side1 => exact zq (Kd.C_below HR0_2.out HB.out)); (case side2 => exact HC0_2.out); (case side3 => exact zq (Kd.C_below HR1_2.out HB.out)); (case side4 => exact HC1_2.out); rintro e w' ⟨rfl, ⟨nd, rfl⟩⟩; refine ⟨_, rfl, ?_⟩))
    go_ret
    exact ⟨by first | rfl | (simp [errW_none, errW_some] <;> rfl) | (simp [*, errW_none, errW_some] <;> rfl), zw⟩
  ·rw [if_neg c4] at H
   have c4b0 : (a0_1 == a1_1) = false := beq_eq_false_iff_ne.mpr c4
   have c4b1 : (a0_1 != a1_1) = true := bne_iff_ne.mpr c4
   obtain rfl := Option.some.inj H
   go_enter Tryz.func52, Tryz.ntmps52
   go_wp2_with (first | ((with_reducible refine gate_dst (N := 2) rfl ?_); refine box_event ?hg (N := 2) ?hd (cs := #[.int .i64 a0_0, .int .i64 a0_1, .slice A0_2 l0_2.length c0_2, .int .i64 a0_3, .int .i64 a0_4, .slice A0_5 l0_5.length c0_5]) (t := 52) ?hr ?_; (case hd => rfl); (case hg => rfl); (case hr => first | (go_simp; done) | (go_simp; rfl)); intro gb485 hg w36 hbox hb; have n0_ := am (below_step zb hb); have n1_ := am (hbox); have n2_ := am ((by rw [hg]; exact (below_size zb) : w.heap.size ≤ gb485)); have n3_ := am ((by rw [hg]; exact (below_size zb) : w.heap.size ≤ gb485)); clear HB; have HB := n0_; have BK485 := n1_; have GW485 := n2_; have GE485 := n3_; clear n0_ n1_ n2_ n3_; clear hb hbox hg) | ((with_reducible refine gate_dst (N := 3) rfl ?_); refine box_event ?hg (N := 3) ?hd (cs := #[.int .i64 a1_0, .int .i64 a1_1, .slice A1_2 l1_2.length c1_2, .int .i64 a1_3, .int .i64 a1_4, .slice A1_5 l1_5.length c1_5]) (t := 52) ?hr ?_; (case hd => rfl); (case hg => rfl); (case hr => first | (go_simp; done) | (go_simp; rfl)); intro gb486 hg w37 hbox hb; have n0_ := am (blk_below (g := gb485) (o := .cells #[.int .i64 a0_0, .int .i64 a0_1, .slice A0_2 l0_2.length c0_2, .int .i64 a0_3, .int .i64 a0_4, .slice A0_5 l0_5.length c0_5] 52 (0, 0)) (zk BK485.out) hb); have n1_ := am (below_step zw hb); have n2_ := am (hbox); have n3_ := am ((by rw [hg]; exact (below_size zw) : w.heap.size ≤ gb486)); have n4_ := am ((by rw [hg]; exact (below_size zw) : w.heap.size ≤ gb486)); have n5_ := am ((by rw [hg]; exact Nat.ne_of_lt (blk_lt (g := gb485) (o := .cells #[.int .i64 a0_0, .int .i64 a0_1, .slice A0_2 l0_2.length c0_2, .int .i64 a0_3, .int .i64 a0_4, .slice A0_5 l0_5.length c0_5] 52 (0, 0)) (zk BK485.out)) : gb485 ≠ gb486)); have n6_ := am ((by rw [hg]; exact Nat.ne_of_gt (blk_lt (g := gb485) (o := .cells #[.int .i64 a0_0, .int .i64 a0_1, .slice A0_2 l0_2.length c0_2, .int .i64 a0_3, .int .i64 a0_4, .slice A0_5 l0_5.length c0_5] 52 (0, 0)) (zk BK485.out)) : gb486 ≠ gb485)); clear BK485; clear HB; have BK485 := n0_; have HB := n1_; have BK486 := n2_; have GW486 := n3_; have GE486 := n4_; have NB485_486 := n5_; have NB486_485 := n6_; clear n0_ n1_ n2_ n3_ n4_ n5_ n6_; clear hb hbox hg; have hnb38 := NB485_486.out; have hnc38 := NB486_485.out; have hcz39_0 : w37.cell? ⟨gb485, 0, none⟩ = some (.int .i64 a0_0) := (blk_cell BK485.out 0).trans rfl; have hcz39_1 : w37.cell? ⟨gb485, 1, none⟩ = some (.int .i64 a0_1) := (blk_cell BK485.out 1).trans rfl; have hcz39_2 : w37.cell? ⟨gb485, 2, none⟩ = some (.slice A0_2 l0_2.length c0_2) := (blk_cell BK485.out 2).trans rfl; have hcz39_3 : w37.cell? ⟨gb485, 3, none⟩ = some (.int .i64 a0_3) := (blk_cell BK485.out 3).trans rfl; have hcz39_4 : w37.cell? ⟨gb485, 4, none⟩ = some (.int .i64 a0_4) := (blk_cell BK485.out 4).trans rfl; have hcz39_5 : w37.cell? ⟨gb485, 5, none⟩ = some (.slice A0_5 l0_5.length c0_5) := (blk_cell BK485.out 5).trans rfl; have hfz39_0 := blk_frozen BK485.out 0; have hfz39_1 := blk_frozen BK485.out 1; have hfz39_2 := blk_frozen BK485.out 2; have hfz39_3 := blk_frozen BK485.out 3; have hfz39_4 := blk_frozen BK485.out 4; have hfz39_5 := blk_frozen BK485.out 5; have hcz40_0 : w37.cell? ⟨gb486, 0, none⟩ = some (.int .i64 a1_0) := (blk_cell BK486.out 0).trans rfl; have hcz40_1 : w37.cell? ⟨gb486, 1, none⟩ = some (.int .i64 a1_1) := (blk_cell BK486.out 1).trans rfl; have hcz40_2 : w37.cell? ⟨gb486, 2, none⟩ = some (.slice A1_2 l1_2.length c1_2) := (blk_cell BK486.out 2).trans rfl; have hcz40_3 : w37.cell? ⟨gb486, 3, none⟩ = some (.int .i64 a1_3) := (blk_cell BK486.out 3).trans rfl; have hcz40_4 : w37.cell? ⟨gb486, 4, none⟩ = some (.int .i64 a1_4) := (blk_cell BK486.out 4).trans rfl; have hcz40_5 : w37.cell? ⟨gb486, 5, none⟩ = some (.slice A1_5 l1_5.length c1_5) := (blk_cell BK486.out 5).trans rfl; have hfz40_0 := blk_frozen BK486.out 0; have hfz40_1 := blk_frozen BK486.out 1; have hfz40_2 := blk_frozen BK486.out 2; have hfz40_3 := blk_frozen BK486.out 3; have hfz40_4 := blk_frozen BK486.out 4; have hfz40_5 := blk_frozen BK486.out 5))
   go_ret
   exact ⟨by first | rfl | (simp [errW_none, errW_some] <;> rfl) | (simp [*, errW_none, errW_some] <;> rfl), zw⟩
 ·rw [if_neg c3] at H
  have c3b0 : (a0_0 == a1_0) = false := beq_eq_false_iff_ne.mpr c3
  have c3b1 : (a0_0 != a1_0) = true := bne_iff_ne.mpr c3
  obtain rfl := Option.some.inj H
  go_enter Tryz.func52, Tryz.ntmps52
  go_wp2_with (first | ((with_reducible refine gate_dst (N := 2) rfl ?_); refine box_event ?hg (N := 2) ?hd (cs := #[.int .i64 a0_0, .int .i64 a0_1, .slice A0_2 l0_2.length c0_2, .int .i64 a0_3, .int .i64 a0_4, .slice A0_5 l0_5.length c0_5]) (t := 52) ?hr ?_; (case hd => rfl); (case hg => rfl); (case hr => first | (go_simp; done) | (go_simp; rfl)); intro gb485 hg w41 hbox hb; have n0_ := am (below_step zb hb); have n1_ := am (hbox); have n2_ := am ((by rw [hg]; exact (below_size zb) : w.heap.size ≤ gb485)); have n3_ := am ((by rw [hg]; exact (below_size zb) : w.heap.size ≤ gb485)); clear HB; have HB := n0_; have BK485 := n1_; have GW485 := n2_; have GE485 := n3_; clear n0_ n1_ n2_ n3_; clear hb hbox hg) | ((with_reducible refine gate_dst (N := 3) rfl ?_); refine box_event ?hg (N := 3) ?hd (cs := #[.int .i64 a1_0, .int .i64 a1_1, .slice A1_2 l1_2.length c1_2, .int .i64 a1_3, .int .i64 a1_4, .slice A1_5 l1_5.length c1_5]) (t := 52) ?hr ?_; (case hd => rfl); (case hg => rfl); (case hr => first | (go_simp; done) | (go_simp; rfl)); intro gb486 hg w42 hbox hb; have n0_ := am (blk_below (g := gb485) (o := .cells #[.int .i64 a0_0, .int .i64 a0_1, .slice A0_2 l0_2.length c0_2, .int .i64 a0_3, .int .i64 a0_4, .slice A0_5 l0_5.length c0_5] 52 (0, 0)) (zk BK485.out) hb); have n1_ := am (below_step zw hb); have n2_ := am (hbox); have n3_ := am ((by rw [hg]; exact (below_size zw) : w.heap.size ≤ gb486)); have n4_ := am ((by rw [hg]; exact (below_size zw) : w.heap.size ≤ gb486)); have n5_ := am ((by rw [hg]; exact Nat.ne_of_lt (blk_lt (g := gb485) (o := .cells #[.int .i64 a0_0, .int .i64 a0_1, .slice A0_2 l0_2.length c0_2, .int .i64 a0_3, .int .i64 a0_4, .slice A0_5 l0_5.length c0_5] 52 (0, 0)) (zk BK485.out)) : gb485 ≠ gb486)); have n6_ := am ((by rw [hg]; exact Nat.ne_of_gt (blk_lt (g := gb485) (o := .cells #[.int .i64 a0_0, .int .i64 a0_1, .slice A0_2 l0_2.length c0_2, .int .i64 a0_3, .int .i64 a0_4, .slice A0_5 l0_5.length c0_5] 52 (0, 0)) (zk BK485.out)) : gb486 ≠ gb485)); clear BK485; clear HB; have BK485 := n0_; have HB := n1_; have BK486 := n2_; have GW486 := n3_; have GE486 := n4_; have NB485_486 := n5_; have NB486_485 := n6_; clear n0_ n1_ n2_ n3_ n4_ n5_ n6_; clear hb hbox hg; have hnb43 := NB485_486.out; have hnc43 := NB486_485.out; have hcz44_0 : w42.cell? ⟨gb485, 0, none⟩ = some (.int .i64 a0_0) := (blk_cell BK485.out 0).trans rfl; have hcz44_1 : w42.cell? ⟨gb485, 1, none⟩ = some (.int .i64 a0_1) := (blk_cell BK485.out 1).trans rfl; have hcz44_2 : w42.cell? ⟨gb485, 2, none⟩ = some (.slice A0_2 l0_2.length c0_2) := (blk_cell BK485.out 2).trans rfl; have hcz44_3 : w42.cell? ⟨gb485, 3, none⟩ = some (.int .i64 a0_3) := (blk_cell BK485.out 3).trans rfl; have hcz44_4 : w42.cell? ⟨gb485, 4, none⟩ = some (.int .i64 a0_4) := (blk_cell BK485.out 4).trans rfl; have hcz44_5 : w42.cell? ⟨gb485, 5, none⟩ = some (.slice A0_5 l0_5.length c0_5) := (blk_cell BK485.out 5).trans rfl; have hfz44_0 := blk_frozen BK485.out 0; have hfz44_1 := blk_frozen BK485.out 1; have hfz44_2 := blk_frozen BK485.out 2; have hfz44_3 := blk_frozen BK485.out 3; have hfz44_4 := blk_frozen BK485.out 4; have hfz44_5 := blk_frozen BK485.out 5; have hcz45_0 : w42.cell? ⟨gb486, 0, none⟩ = some (.int .i64 a1_0) := (blk_cell BK486.out 0).trans rfl; have hcz45_1 : w42.cell? ⟨gb486, 1, none⟩ = some (.int .i64 a1_1) := (blk_cell BK486.out 1).trans rfl; have hcz45_2 : w42.cell? ⟨gb486, 2, none⟩ = some (.slice A1_2 l1_2.length c1_2) := (blk_cell BK486.out 2).trans rfl; have hcz45_3 : w42.cell? ⟨gb486, 3, none⟩ = some (.int .i64 a1_3) := (blk_cell BK486.out 3).trans rfl; have hcz45_4 : w42.cell? ⟨gb486, 4, none⟩ = some (.int .i64 a1_4) := (blk_cell BK486.out 4).trans rfl; have hcz45_5 : w42.cell? ⟨gb486, 5, none⟩ = some (.slice A1_5 l1_5.length c1_5) := (blk_cell BK486.out 5).trans rfl; have hfz45_0 := blk_frozen BK486.out 0; have hfz45_1 := blk_frozen BK486.out 1; have hfz45_2 := blk_frozen BK486.out 2; have hfz45_3 := blk_frozen BK486.out 3; have hfz45_4 := blk_frozen BK486.out 4; have hfz45_5 := blk_frozen BK486.out 5))
  go_ret
  exact ⟨by first | rfl | (simp [errW_none, errW_some] <;> rfl) | (simp [*, errW_none, errW_some] <;> rfl), zw⟩

def laws_eqStepS.l0 : Nat → List (S52) → List (S52) → Int → Option (Bool)
 | 0, _, _, _ => none
 | k + 1, x0, x1, x5 => if x5 < (x0.length : Int) then (if 0 ≤ x5 then (if x5 < (x1.length : Int) then ((laws_eqStep.f k ((rd_T52 x0 x5).f0) ((rd_T52 x0 x5).f1) ((rd_T52 x0 x5).f2) ((rd_T52 x0 x5).f3) ((rd_T52 x0 x5).f4) ((rd_T52 x0 x5).f5) ((rd_T52 x1 x5).f0) ((rd_T52 x1 x5).f1) ((rd_T52 x1 x5).f2) ((rd_T52 x1 x5).f3) ((rd_T52 x1 x5).f4) ((rd_T52 x1 x5).f5)).bind fun t491 => (if t491 = true then (laws_eqStepS.l0 k x0 x1 (wrap64 (x5 + 1))) else (some false))) else (none)) else (none)) else (some true)
def laws_eqStepS.f (k : Nat) (l0 : List (S52)) (l1 : List (S52)) : Option (Bool) := if (l0.length : Int) = (l1.length : Int) then (laws_eqStepS.l0 k l0 l1 0) else (some false)
def laws_eqStepS.T6 : Bool × List (List Nat × List Nat) := (true, [([], []), ([], []), ([0, 1], [0, 1]), ([2], [2]), ([], []), ([], []), ([4, 5], [4, 5]), ([6], [6]), ([3, 7], [3, 7]), ([8], [8])])
def laws_eqStepS.B6 : List Nat := [0, 0, 3, 7, 0, 0, 48, 112, 255, 511]
theorem laws_eqStepS.tab6 : rtab .any (opsOf Tryz.f23 6) = laws_eqStepS.T6 := by kernel_rfl
theorem laws_eqStepS.bits6 : waitsOk laws_eqStepS.T6.2 laws_eqStepS.B6 = true := by kernel_rfl
set_option maxHeartbeats 8000000 in
set_option maxRecDepth 100000 in
theorem laws_eqStepS.calls (k : Nat) (A0 : Option Addr) (c0 : Nat) (l0 : List (S52)) (A1 : Option Addr) (c1 : Nat) (l1 : List (S52)) (r : Bool) (w : World) (hr0 : Kd.C k52 w A0 l0.length l0) (hc0 : l0.length ≤ c0) (hr1 : Kd.C k52 w A1 l1.length l1) (hc1 : l1.length ≤ c1) (h : laws_eqStepS.f k l0 l1 = some r) :
  Calls Tryz.prog 23 #[.slice A0 l0.length c0, .slice A1 l1.length c1] w fun e w' => e = .returned (.bool r) ∧ Below w.heap.size w w' := by
 have hu52 := Tryz.underlying52
 have HR0 := am hr0
 have HC0 := am hc0
 clear hr0 hc0
 have HR1 := am hr1
 have HC1 := am hc1
 clear hr1 hc1
 have HB := am (Below.refl w.heap.size w)
 have H : (if (l0.length : Int) = (l1.length : Int) then (laws_eqStepS.l0 k l0 l1 0) else (some false)) = some r := h
 clear h
 by_cases c3 : (l0.length : Int) = (l1.length : Int)
 ·rw [if_pos c3] at H
  have c3b0 : ((l0.length : Int) == (l1.length : Int)) = true := beq_iff_eq.mpr c3
  have c3b1 : ((l0.length : Int) != (l1.length : Int)) = false := bne_eq_false_iff_eq.mpr c3
  have c3b2 : (l0.length == l1.length) = true := by first | simpa using c3 | (simp at c3 ⊢; omega)
  clear c3
  have H' := am H
  clear H
  go_enter Tryz.func23, Tryz.ntmps23
  go_wp2
  go_loopg [5] k (fun kq v5 w' => ∃ (x5_1 : Int), v5 = .int .i64 x5_1 ∧ Aside0 (laws_eqStepS.l0 kq l0 l1 x5_1 = some r) ∧ Aside0 (kq ≤ k) ∧ Aside0 (Below w.heap.size w w'))
  case atStart => exact ⟨(0), zf, H', ⟨Nat.le_refl _⟩, ⟨zb⟩⟩
  case round =>
   clear H'
   try clear c1
   try clear c2
   try clear p2
   try clear c3
   try clear c3b0
   try clear c3b1
   try clear c3b2
   obtain ⟨x5_1, rfl, HA, HK1, HB⟩ := hrel
   cases gk with
   | zero => exact absurd HA.out (by simp [laws_eqStepS.l0])
   | succ k1 =>
    have H := HA.out
    clear HA
    simp only [laws_eqStepS.l0] at H
    by_cases c4 : x5_1 < (l0.length : Int)
    ·rw [if_pos c4] at H
     have c4b0 : decide (x5_1 < (l0.length : Int)) = true := decide_eq_true c4
     clear c4
     by_cases c5 : 0 ≤ x5_1
     ·rw [if_pos c5] at H
      have c5b0 : decide (0 ≤ x5_1) = true := decide_eq_true c5
      clear c5
      by_cases c6 : x5_1 < (l1.length : Int)
      ·rw [if_pos c6] at H
       have c6b0 : decide (x5_1 < (l1.length : Int)) = true := decide_eq_true c6
       clear c6
       replace H := Option.bind_eq_some_iff.mp H
       obtain ⟨t491, A70, H⟩ := H
       replace H : (if t491 = true then (laws_eqStepS.l0 k1 l0 l1 (wrap64 (x5_1 + 1))) else (some false)) = some r := H
       have A7 := am A70
       clear A70
       by_cases c8 : t491 = true
       ·subst c8
        have H1 : (laws_eqStepS.l0 k1 l0 l1 (wrap64 (x5_1 + 1))) = some r := by rw [if_pos rfl] at H; exact H
        clear H
        have H := H1
        clear H1
        have H' := am H
        clear H
        try go_wp2
        have n0_ := am (below_drew1 HB.out)
        clear HB
        have HB := n0_
        clear n0_
        have p489 : 0 ≤ (x5_1 : Int) := oa
        have q489 : x5_1 < (l0.length : Int) := oa
        obtain ⟨ad489, A489_2, c489_2, A489_5, c489_5, e489, hx489_0, hx489_1, hx489_2, hx489_3, hx489_4, hx489_5, hl489_2, hi489_2, hl489_5, hi489_5⟩ := at_T52 HR0.out x5_1 p489 q489
        have hw489_5 := hx489_5
        have hw489_4 := hx489_4
        have hw489_3 := hx489_3
        have hw489_2 := hx489_2
        have hw489_1 := hx489_1
        have hw489_0 := hx489_0
        cases e489
        replace hx489_0 := (HB.out.cell (World.block_lt_of_cell? w _ hx489_0)).trans hx489_0
        replace hx489_1 := (HB.out.cell (World.block_lt_of_cell? w _ hx489_1)).trans hx489_1
        replace hx489_2 := (HB.out.cell (World.block_lt_of_cell? w _ hx489_2)).trans hx489_2
        replace hx489_3 := (HB.out.cell (World.block_lt_of_cell? w _ hx489_3)).trans hx489_3
        replace hx489_4 := (HB.out.cell (World.block_lt_of_cell? w _ hx489_4)).trans hx489_4
        replace hx489_5 := (HB.out.cell (World.block_lt_of_cell? w _ hx489_5)).trans hx489_5
        have HR489_2 := am hi489_2
        have HC489_2 := am hl489_2
        clear hi489_2 hl489_2
        have HR489_5 := am hi489_5
        have HC489_5 := am hl489_5
        clear hi489_5 hl489_5
        replace p489 := eq_true p489
        replace q489 := eq_true q489
        have p490 : 0 ≤ (x5_1 : Int) := oa
        have q490 : x5_1 < (l1.length : Int) := oa
        obtain ⟨ad490, A490_2, c490_2, A490_5, c490_5, e490, hx490_0, hx490_1, hx490_2, hx490_3, hx490_4, hx490_5, hl490_2, hi490_2, hl490_5, hi490_5⟩ := at_T52 HR1.out x5_1 p490 q490
        have hw490_5 := hx490_5
        have hw490_4 := hx490_4
        have hw490_3 := hx490_3
        have hw490_2 := hx490_2
        have hw490_1 := hx490_1
        have hw490_0 := hx490_0
        cases e490
        replace hx490_0 := (HB.out.cell (World.block_lt_of_cell? w _ hx490_0)).trans hx490_0
        replace hx490_1 := (HB.out.cell (World.block_lt_of_cell? w _ hx490_1)).trans hx490_1
        replace hx490_2 := (HB.out.cell (World.block_lt_of_cell? w _ hx490_2)).trans hx490_2
        replace hx490_3 := (HB.out.cell (World.block_lt_of_cell? w _ hx490_3)).trans hx490_3
        replace hx490_4 := (HB.out.cell (World.block_lt_of_cell? w _ hx490_4)).trans hx490_4
        replace hx490_5 := (HB.out.cell (World.block_lt_of_cell? w _ hx490_5)).trans hx490_5
        have HR490_2 := am hi490_2
        have HC490_2 := am hl490_2
        clear hi490_2 hl490_2
        have HR490_5 := am hi490_5
        have HC490_5 := am hl490_5
        clear hi490_5 hl490_5
        replace p490 := eq_true p490
        replace q490 := eq_true q490
        refine start_ (n := 10) (S := fun w' => w'.cell? (ad489.add ((x5_1).toNat * 6)) = some (.int .i64 ((rd_T52 l0 x5_1).f0)) ∧ w'.cell? ⟨(ad489.add ((x5_1).toNat * 6)).block, (ad489.add ((x5_1).toNat * 6)).off + 1, none⟩ = some (.int .i64 ((rd_T52 l0 x5_1).f1)) ∧ w'.cell? ⟨(ad489.add ((x5_1).toNat * 6)).block, (ad489.add ((x5_1).toNat * 6)).off + 2, none⟩ = some (.slice A489_2 ((rd_T52 l0 x5_1).f2).length c489_2) ∧ w'.cell? ⟨(ad489.add ((x5_1).toNat * 6)).block, (ad489.add ((x5_1).toNat * 6)).off + 3, none⟩ = some (.int .i64 ((rd_T52 l0 x5_1).f3)) ∧ w'.cell? ⟨(ad489.add ((x5_1).toNat * 6)).block, (ad489.add ((x5_1).toNat * 6)).off + 4, none⟩ = some (.int .i64 ((rd_T52 l0 x5_1).f4)) ∧ w'.cell? ⟨(ad489.add ((x5_1).toNat * 6)).block, (ad489.add ((x5_1).toNat * 6)).off + 5, none⟩ = some (.slice A489_5 ((rd_T52 l0 x5_1).f5).length c489_5) ∧ w'.cell? (ad490.add ((x5_1).toNat * 6)) = some (.int .i64 ((rd_T52 l1 x5_1).f0)) ∧ w'.cell? ⟨(ad490.add ((x5_1).toNat * 6)).block, (ad490.add ((x5_1).toNat * 6)).off + 1, none⟩ = some (.int .i64 ((rd_T52 l1 x5_1).f1)) ∧ w'.cell? ⟨(ad490.add ((x5_1).toNat * 6)).block, (ad490.add ((x5_1).toNat * 6)).off + 2, none⟩ = some (.slice A490_2 ((rd_T52 l1 x5_1).f2).length c490_2) ∧ w'.cell? ⟨(ad490.add ((x5_1).toNat * 6)).block, (ad490.add ((x5_1).toNat * 6)).off + 3, none⟩ = some (.int .i64 ((rd_T52 l1 x5_1).f3)) ∧ w'.cell? ⟨(ad490.add ((x5_1).toNat * 6)).block, (ad490.add ((x5_1).toNat * 6)).off + 4, none⟩ = some (.int .i64 ((rd_T52 l1 x5_1).f4)) ∧ w'.cell? ⟨(ad490.add ((x5_1).toNat * 6)).block, (ad490.add ((x5_1).toNat * 6)).off + 5, none⟩ = some (.slice A490_5 ((rd_T52 l1 x5_1).f5).length c490_5)) (ds := []) #[O,O,O,O,O,O,O,O,O,O] (by kernel_rfl) rfl rfl ⟨((HB.out.cell (World.block_lt_of_cell? w _ hw489_0)).trans hw489_0), ((HB.out.cell (World.block_lt_of_cell? w _ hw489_1)).trans hw489_1), ((HB.out.cell (World.block_lt_of_cell? w _ hw489_2)).trans hw489_2), ((HB.out.cell (World.block_lt_of_cell? w _ hw489_3)).trans hw489_3), ((HB.out.cell (World.block_lt_of_cell? w _ hw489_4)).trans hw489_4), ((HB.out.cell (World.block_lt_of_cell? w _ hw489_5)).trans hw489_5), ((HB.out.cell (World.block_lt_of_cell? w _ hw490_0)).trans hw490_0), ((HB.out.cell (World.block_lt_of_cell? w _ hw490_1)).trans hw490_1), ((HB.out.cell (World.block_lt_of_cell? w _ hw490_2)).trans hw490_2), ((HB.out.cell (World.block_lt_of_cell? w _ hw490_3)).trans hw490_3), ((HB.out.cell (World.block_lt_of_cell? w _ hw490_4)).trans hw490_4), ((HB.out.cell (World.block_lt_of_cell? w _ hw490_5)).trans hw490_5)⟩ (fun hHeld => ?_); refine with_tabW laws_eqStepS.tab6 laws_eqStepS.bits6 (fun HT_ HW_ => ?_)
        generalize wr.drew = w9 at HB HR489_2 HR489_5 HR490_2 HR490_5 hx489_0 hx489_1 hx489_2 hx489_3 hx489_4 hx489_5 hx490_0 hx490_1 hx490_2 hx490_3 hx490_4 hx490_5 hHeld ⊢
        refine pure_ (i := 0) (N := some 17) (v := ?_) (a' := ?_) #[Y,O,O,O,O,O,O,O,O,O] rfl rfl zx (fun _ _ _ h => h) (Or.inl ⟨by rfl, ?_⟩) ?_ ?_
        rotate_left; (intro w'; go_simp; with_reducible rfl); rotate_left; (simp only [Act.put,qa,qb,qc,i64_w,i32_w]; rfl)
        refine pure_ (i := 1) (N := some 18) (v := ?_) (a' := ?_) #[Y,Y,O,O,O,O,O,O,O,O] rfl rfl zx (fun _ _ _ h => h) (Or.inl ⟨by rfl, ?_⟩) ?_ ?_
        rotate_left; (intro w'; go_simp; with_reducible rfl); rotate_left; (simp only [Act.put,qa,qb,qc,i64_w,i32_w]; rfl)
        refine pure_ (i := 2) (N := some 19) (v := ?_) (a' := ?_) #[Y,Y,Y,O,O,O,O,O,O,O] rfl rfl zx (fun _ _ _ h => h) (Or.inl ⟨by rfl, ?_⟩) ?_ ?_
        rotate_left; (intro w'; go_simp; with_reducible rfl); rotate_left; (simp only [Act.put,qa,qb,qc,i64_w,i32_w]; rfl)
        refine pure_ (i := 4) (N := some 21) (v := ?_) (a' := ?_) #[Y,Y,Y,O,Y,O,O,O,O,O] rfl rfl zx (fun _ _ _ h => h) (Or.inl ⟨by rfl, ?_⟩) ?_ ?_
        rotate_left; (intro w'; go_simp; with_reducible rfl); rotate_left; (simp only [Act.put,qa,qb,qc,i64_w,i32_w]; rfl)
        refine pure_ (i := 5) (N := some 22) (v := ?_) (a' := ?_) #[Y,Y,Y,O,Y,Y,O,O,O,O] rfl rfl zx (fun _ _ _ h => h) (Or.inl ⟨by rfl, ?_⟩) ?_ ?_
        rotate_left; (intro w'; go_simp; with_reducible rfl); rotate_left; (simp only [Act.put,qa,qb,qc,i64_w,i32_w]; rfl)
        refine pure_ (i := 6) (N := some 23) (v := ?_) (a' := ?_) #[Y,Y,Y,O,Y,Y,Y,O,O,O] rfl rfl zx (fun _ _ _ h => h) (Or.inl ⟨by rfl, ?_⟩) ?_ ?_
        rotate_left; (intro w'; go_simp; with_reducible rfl); rotate_left; (simp only [Act.put,qa,qb,qc,i64_w,i32_w]; rfl)
        refine take_ (i := 3) (N := some 20) (v := ?_) (a' := ?_) #[Y,Y,Y,Y,Y,Y,Y,O,O,O] rfl rfl (take_ofW HT_.out HW_.out (by kernel_rfl)) (fun _ _ _ h => h) (Or.inl ⟨by rfl, ?_⟩) hHeld ?_ ?_
        rotate_left; (rintro w' ⟨s0, s1, s2, s3, s4, s5, s6, s7, s8, s9, s10, s11⟩; go_simp; with_reducible rfl); rotate_left; (simp only [Act.put,qa,qb,qc,i64_w,i32_w]; rfl)
        refine take_ (i := 7) (N := some 24) (v := ?_) (a' := ?_) #[Y,Y,Y,Y,Y,Y,Y,Y,O,O] rfl rfl (take_ofW HT_.out HW_.out (by kernel_rfl)) (fun _ _ _ h => h) (Or.inl ⟨by rfl, ?_⟩) hHeld ?_ ?_
        rotate_left; (rintro w' ⟨s0, s1, s2, s3, s4, s5, s6, s7, s8, s9, s10, s11⟩; go_simp; with_reducible rfl); rotate_left; (simp only [Act.put,qa,qb,qc,i64_w,i32_w]; rfl)
        refine one_ (i := 8) (N := some 25) #[Y,Y,Y,Y,Y,Y,Y,Y,Y,O] rfl rfl (one_of HT_.out (by kernel_rfl)) (by decide) (fun K hK => ?_)
        refine goes_ Tryz.func52 (by kernel_rfl) rfl #[.agg #[.int .i64 ((rd_T52 l0 x5_1).f0), .int .i64 ((rd_T52 l0 x5_1).f1), .slice A489_2 ((rd_T52 l0 x5_1).f2).length c489_2, .int .i64 ((rd_T52 l0 x5_1).f3), .int .i64 ((rd_T52 l0 x5_1).f4), .slice A489_5 ((rd_T52 l0 x5_1).f5).length c489_5], .agg #[.int .i64 ((rd_T52 l1 x5_1).f0), .int .i64 ((rd_T52 l1 x5_1).f1), .slice A490_2 ((rd_T52 l1 x5_1).f2).length c490_2, .int .i64 ((rd_T52 l1 x5_1).f3), .int .i64 ((rd_T52 l1 x5_1).f4), .slice A490_5 ((rd_T52 l1 x5_1).f5).length c490_5]] (by rfl) rfl rfl zm ?_
        with_reducible refine (laws_eqStep.calls k1 ((rd_T52 l0 x5_1).f0) ((rd_T52 l0 x5_1).f1) _ _ ((rd_T52 l0 x5_1).f2) ((rd_T52 l0 x5_1).f3) ((rd_T52 l0 x5_1).f4) _ _ ((rd_T52 l0 x5_1).f5) ((rd_T52 l1 x5_1).f0) ((rd_T52 l1 x5_1).f1) _ _ ((rd_T52 l1 x5_1).f2) ((rd_T52 l1 x5_1).f3) ((rd_T52 l1 x5_1).f4) _ _ ((rd_T52 l1 x5_1).f5) true _ ?side1 ?side2 ?side3 ?side4 ?side5 ?side6 ?side7 ?side8 A7.out).mono ?_
        (case side1 => exact zq (Kd.C_below HR489_2.out HB.out))
        (case side2 => exact HC489_2.out)
        (case side3 => exact zq (Kd.C_below HR489_5.out HB.out))
        (case side4 => exact HC489_5.out)
        (case side5 => exact zq (Kd.C_below HR490_2.out HB.out))
        (case side6 => exact HC490_2.out)
        (case side7 => exact zq (Kd.C_below HR490_5.out HB.out))
        (case side8 => exact HC490_5.out)
        rintro e w10 ⟨rfl, hb⟩
        refine ⟨_, rfl, ?_⟩
        have n0_ := am (below_step zb hb)
        clear HB
        have HB := n0_
        clear n0_
        (try clear hb)
        (try clear hb2)
        (try clear hk)
        (try clear hi)
        refine hK.out _ _ ⟨((HB.out.cell (World.block_lt_of_cell? w _ hw489_0)).trans hw489_0), ((HB.out.cell (World.block_lt_of_cell? w _ hw489_1)).trans hw489_1), ((HB.out.cell (World.block_lt_of_cell? w _ hw489_2)).trans hw489_2), ((HB.out.cell (World.block_lt_of_cell? w _ hw489_3)).trans hw489_3), ((HB.out.cell (World.block_lt_of_cell? w _ hw489_4)).trans hw489_4), ((HB.out.cell (World.block_lt_of_cell? w _ hw489_5)).trans hw489_5), ((HB.out.cell (World.block_lt_of_cell? w _ hw490_0)).trans hw490_0), ((HB.out.cell (World.block_lt_of_cell? w _ hw490_1)).trans hw490_1), ((HB.out.cell (World.block_lt_of_cell? w _ hw490_2)).trans hw490_2), ((HB.out.cell (World.block_lt_of_cell? w _ hw490_3)).trans hw490_3), ((HB.out.cell (World.block_lt_of_cell? w _ hw490_4)).trans hw490_4), ((HB.out.cell (World.block_lt_of_cell? w _ hw490_5)).trans hw490_5)⟩ (fun hHeld => ?_)
        clear hK K
        refine norm_ (a' := ?_) ?_ ?_
        rotate_left
        ·show Act.put _ (some 25) _ = _
         simp only [Act.put,qa,qb,qc,i64_w,i32_w]
         rfl
        refine pure_ (i := 9) (N := some 26) (v := ?_) (a' := ?_) #[Y,Y,Y,Y,Y,Y,Y,Y,Y,Y] rfl rfl zx (fun _ _ _ h => h) (Or.inl ⟨by rfl, ?_⟩) ?_ ?_
        rotate_left; (intro w'; go_simp; with_reducible rfl); rotate_left; (simp only [Act.put,qa,qb,qc,i64_w,i32_w]; rfl)
        refine done_ (done_of HT_.out (by kernel_rfl)) ?_
        try go_wp2
        go_roundg k1
        case measure => have := HK1.out; omega
        case rel => exact ⟨(wrap64 (x5_1 + 1)), zf, H', ⟨by have := HK1.out; omega⟩, ⟨zb⟩⟩
       ·replace c8 := Bool.eq_false_iff.mpr c8
        subst c8
        have H1 : (some false) = some r := by rw [if_neg (show ¬ (false = true) by decide)] at H; exact H
        clear H
        have H := H1
        clear H1
        obtain rfl := Option.some.inj H
        try go_wp2
        have n0_ := am (below_drew1 HB.out)
        clear HB
        have HB := n0_
        clear n0_
        have p489 : 0 ≤ (x5_1 : Int) := oa
        have q489 : x5_1 < (l0.length : Int) := oa
        obtain ⟨ad489, A489_2, c489_2, A489_5, c489_5, e489, hx489_0, hx489_1, hx489_2, hx489_3, hx489_4, hx489_5, hl489_2, hi489_2, hl489_5, hi489_5⟩ := at_T52 HR0.out x5_1 p489 q489
        have hw489_5 := hx489_5
        have hw489_4 := hx489_4
        have hw489_3 := hx489_3
        have hw489_2 := hx489_2
        have hw489_1 := hx489_1
        have hw489_0 := hx489_0
        cases e489
        replace hx489_0 := (HB.out.cell (World.block_lt_of_cell? w _ hx489_0)).trans hx489_0
        replace hx489_1 := (HB.out.cell (World.block_lt_of_cell? w _ hx489_1)).trans hx489_1
        replace hx489_2 := (HB.out.cell (World.block_lt_of_cell? w _ hx489_2)).trans hx489_2
        replace hx489_3 := (HB.out.cell (World.block_lt_of_cell? w _ hx489_3)).trans hx489_3
        replace hx489_4 := (HB.out.cell (World.block_lt_of_cell? w _ hx489_4)).trans hx489_4
        replace hx489_5 := (HB.out.cell (World.block_lt_of_cell? w _ hx489_5)).trans hx489_5
        have HR489_2 := am hi489_2
        have HC489_2 := am hl489_2
        clear hi489_2 hl489_2
        have HR489_5 := am hi489_5
        have HC489_5 := am hl489_5
        clear hi489_5 hl489_5
        replace p489 := eq_true p489
        replace q489 := eq_true q489
        have p490 : 0 ≤ (x5_1 : Int) := oa
        have q490 : x5_1 < (l1.length : Int) := oa
        obtain ⟨ad490, A490_2, c490_2, A490_5, c490_5, e490, hx490_0, hx490_1, hx490_2, hx490_3, hx490_4, hx490_5, hl490_2, hi490_2, hl490_5, hi490_5⟩ := at_T52 HR1.out x5_1 p490 q490
        have hw490_5 := hx490_5
        have hw490_4 := hx490_4
        have hw490_3 := hx490_3
        have hw490_2 := hx490_2
        have hw490_1 := hx490_1
        have hw490_0 := hx490_0
        cases e490
        replace hx490_0 := (HB.out.cell (World.block_lt_of_cell? w _ hx490_0)).trans hx490_0
        replace hx490_1 := (HB.out.cell (World.block_lt_of_cell? w _ hx490_1)).trans hx490_1
        replace hx490_2 := (HB.out.cell (World.block_lt_of_cell? w _ hx490_2)).trans hx490_2
        replace hx490_3 := (HB.out.cell (World.block_lt_of_cell? w _ hx490_3)).trans hx490_3
        replace hx490_4 := (HB.out.cell (World.block_lt_of_cell? w _ hx490_4)).trans hx490_4
        replace hx490_5 := (HB.out.cell (World.block_lt_of_cell? w _ hx490_5)).trans hx490_5
        have HR490_2 := am hi490_2
        have HC490_2 := am hl490_2
        clear hi490_2 hl490_2
        have HR490_5 := am hi490_5
        have HC490_5 := am hl490_5
        clear hi490_5 hl490_5
        replace p490 := eq_true p490
        replace q490 := eq_true q490
        refine start_ (n := 10) (S := fun w' => w'.cell? (ad489.add ((x5_1).toNat * 6)) = some (.int .i64 ((rd_T52 l0 x5_1).f0)) ∧ w'.cell? ⟨(ad489.add ((x5_1).toNat * 6)).block, (ad489.add ((x5_1).toNat * 6)).off + 1, none⟩ = some (.int .i64 ((rd_T52 l0 x5_1).f1)) ∧ w'.cell? ⟨(ad489.add ((x5_1).toNat * 6)).block, (ad489.add ((x5_1).toNat * 6)).off + 2, none⟩ = some (.slice A489_2 ((rd_T52 l0 x5_1).f2).length c489_2) ∧ w'.cell? ⟨(ad489.add ((x5_1).toNat * 6)).block, (ad489.add ((x5_1).toNat * 6)).off + 3, none⟩ = some (.int .i64 ((rd_T52 l0 x5_1).f3)) ∧ w'.cell? ⟨(ad489.add ((x5_1).toNat * 6)).block, (ad489.add ((x5_1).toNat * 6)).off + 4, none⟩ = some (.int .i64 ((rd_T52 l0 x5_1).f4)) ∧ w'.cell? ⟨(ad489.add ((x5_1).toNat * 6)).block, (ad489.add ((x5_1).toNat * 6)).off + 5, none⟩ = some (.slice A489_5 ((rd_T52 l0 x5_1).f5).length c489_5) ∧ w'.cell? (ad490.add ((x5_1).toNat * 6)) = some (.int .i64 ((rd_T52 l1 x5_1).f0)) ∧ w'.cell? ⟨(ad490.add ((x5_1).toNat * 6)).block, (ad490.add ((x5_1).toNat * 6)).off + 1, none⟩ = some (.int .i64 ((rd_T52 l1 x5_1).f1)) ∧ w'.cell? ⟨(ad490.add ((x5_1).toNat * 6)).block, (ad490.add ((x5_1).toNat * 6)).off + 2, none⟩ = some (.slice A490_2 ((rd_T52 l1 x5_1).f2).length c490_2) ∧ w'.cell? ⟨(ad490.add ((x5_1).toNat * 6)).block, (ad490.add ((x5_1).toNat * 6)).off + 3, none⟩ = some (.int .i64 ((rd_T52 l1 x5_1).f3)) ∧ w'.cell? ⟨(ad490.add ((x5_1).toNat * 6)).block, (ad490.add ((x5_1).toNat * 6)).off + 4, none⟩ = some (.int .i64 ((rd_T52 l1 x5_1).f4)) ∧ w'.cell? ⟨(ad490.add ((x5_1).toNat * 6)).block, (ad490.add ((x5_1).toNat * 6)).off + 5, none⟩ = some (.slice A490_5 ((rd_T52 l1 x5_1).f5).length c490_5)) (ds := []) #[O,O,O,O,O,O,O,O,O,O] (by kernel_rfl) rfl rfl ⟨((HB.out.cell (World.block_lt_of_cell? w _ hw489_0)).trans hw489_0), ((HB.out.cell (World.block_lt_of_cell? w _ hw489_1)).trans hw489_1), ((HB.out.cell (World.block_lt_of_cell? w _ hw489_2)).trans hw489_2), ((HB.out.cell (World.block_lt_of_cell? w _ hw489_3)).trans hw489_3), ((HB.out.cell (World.block_lt_of_cell? w _ hw489_4)).trans hw489_4), ((HB.out.cell (World.block_lt_of_cell? w _ hw489_5)).trans hw489_5), ((HB.out.cell (World.block_lt_of_cell? w _ hw490_0)).trans hw490_0), ((HB.out.cell (World.block_lt_of_cell? w _ hw490_1)).trans hw490_1), ((HB.out.cell (World.block_lt_of_cell? w _ hw490_2)).trans hw490_2), ((HB.out.cell (World.block_lt_of_cell? w _ hw490_3)).trans hw490_3), ((HB.out.cell (World.block_lt_of_cell? w _ hw490_4)).trans hw490_4), ((HB.out.cell (World.block_lt_of_cell? w _ hw490_5)).trans hw490_5)⟩ (fun hHeld => ?_); refine with_tabW laws_eqStepS.tab6 laws_eqStepS.bits6 (fun HT_ HW_ => ?_)
        generalize wr.drew = w11 at HB HR489_2 HR489_5 HR490_2 HR490_5 hx489_0 hx489_1 hx489_2 hx489_3 hx489_4 hx489_5 hx490_0 hx490_1 hx490_2 hx490_3 hx490_4 hx490_5 hHeld ⊢
        refine pure_ (i := 0) (N := some 17) (v := ?_) (a' := ?_) #[Y,O,O,O,O,O,O,O,O,O] rfl rfl zx (fun _ _ _ h => h) (Or.inl ⟨by rfl, ?_⟩) ?_ ?_
        rotate_left; (intro w'; go_simp; with_reducible rfl); rotate_left; (simp only [Act.put,qa,qb,qc,i64_w,i32_w]; rfl)
        refine pure_ (i := 1) (N := some 18) (v := ?_) (a' := ?_) #[Y,Y,O,O,O,O,O,O,O,O] rfl rfl zx (fun _ _ _ h => h) (Or.inl ⟨by rfl, ?_⟩) ?_ ?_
        rotate_left; (intro w'; go_simp; with_reducible rfl); rotate_left; (simp only [Act.put,qa,qb,qc,i64_w,i32_w]; rfl)
        refine pure_ (i := 2) (N := some 19) (v := ?_) (a' := ?_) #[Y,Y,Y,O,O,O,O,O,O,O] rfl rfl zx (fun _ _ _ h => h) (Or.inl ⟨by rfl, ?_⟩) ?_ ?_
        rotate_left; (intro w'; go_simp; with_reducible rfl); rotate_left; (simp only [Act.put,qa,qb,qc,i64_w,i32_w]; rfl)
        refine pure_ (i := 4) (N := some 21) (v := ?_) (a' := ?_) #[Y,Y,Y,O,Y,O,O,O,O,O] rfl rfl zx (fun _ _ _ h => h) (Or.inl ⟨by rfl, ?_⟩) ?_ ?_
        rotate_left; (intro w'; go_simp; with_reducible rfl); rotate_left; (simp only [Act.put,qa,qb,qc,i64_w,i32_w]; rfl)
        refine pure_ (i := 5) (N := some 22) (v := ?_) (a' := ?_) #[Y,Y,Y,O,Y,Y,O,O,O,O] rfl rfl zx (fun _ _ _ h => h) (Or.inl ⟨by rfl, ?_⟩) ?_ ?_
        rotate_left; (intro w'; go_simp; with_reducible rfl); rotate_left; (simp only [Act.put,qa,qb,qc,i64_w,i32_w]; rfl)
        refine pure_ (i := 6) (N := some 23) (v := ?_) (a' := ?_) #[Y,Y,Y,O,Y,Y,Y,O,O,O] rfl rfl zx (fun _ _ _ h => h) (Or.inl ⟨by rfl, ?_⟩) ?_ ?_
        rotate_left; (intro w'; go_simp; with_reducible rfl); rotate_left; (simp only [Act.put,qa,qb,qc,i64_w,i32_w]; rfl)
        refine take_ (i := 3) (N := some 20) (v := ?_) (a' := ?_) #[Y,Y,Y,Y,Y,Y,Y,O,O,O] rfl rfl (take_ofW HT_.out HW_.out (by kernel_rfl)) (fun _ _ _ h => h) (Or.inl ⟨by rfl, ?_⟩) hHeld ?_ ?_
        rotate_left; (rintro w' ⟨s0, s1, s2, s3, s4, s5, s6, s7, s8, s9, s10, s11⟩; go_simp; with_reducible rfl); rotate_left; (simp only [Act.put,qa,qb,qc,i64_w,i32_w]; rfl)
        refine take_ (i := 7) (N := some 24) (v := ?_) (a' := ?_) #[Y,Y,Y,Y,Y,Y,Y,Y,O,O] rfl rfl (take_ofW HT_.out HW_.out (by kernel_rfl)) (fun _ _ _ h => h) (Or.inl ⟨by rfl, ?_⟩) hHeld ?_ ?_
        rotate_left; (rintro w' ⟨s0, s1, s2, s3, s4, s5, s6, s7, s8, s9, s10, s11⟩; go_simp; with_reducible rfl); rotate_left; (simp only [Act.put,qa,qb,qc,i64_w,i32_w]; rfl)
        refine one_ (i := 8) (N := some 25) #[Y,Y,Y,Y,Y,Y,Y,Y,Y,O] rfl rfl (one_of HT_.out (by kernel_rfl)) (by decide) (fun K hK => ?_)
        refine goes_ Tryz.func52 (by kernel_rfl) rfl #[.agg #[.int .i64 ((rd_T52 l0 x5_1).f0), .int .i64 ((rd_T52 l0 x5_1).f1), .slice A489_2 ((rd_T52 l0 x5_1).f2).length c489_2, .int .i64 ((rd_T52 l0 x5_1).f3), .int .i64 ((rd_T52 l0 x5_1).f4), .slice A489_5 ((rd_T52 l0 x5_1).f5).length c489_5], .agg #[.int .i64 ((rd_T52 l1 x5_1).f0), .int .i64 ((rd_T52 l1 x5_1).f1), .slice A490_2 ((rd_T52 l1 x5_1).f2).length c490_2, .int .i64 ((rd_T52 l1 x5_1).f3), .int .i64 ((rd_T52 l1 x5_1).f4), .slice A490_5 ((rd_T52 l1 x5_1).f5).length c490_5]] (by rfl) rfl rfl zm ?_
        with_reducible refine (laws_eqStep.calls k1 ((rd_T52 l0 x5_1).f0) ((rd_T52 l0 x5_1).f1) _ _ ((rd_T52 l0 x5_1).f2) ((rd_T52 l0 x5_1).f3) ((rd_T52 l0 x5_1).f4) _ _ ((rd_T52 l0 x5_1).f5) ((rd_T52 l1 x5_1).f0) ((rd_T52 l1 x5_1).f1) _ _ ((rd_T52 l1 x5_1).f2) ((rd_T52 l1 x5_1).f3) ((rd_T52 l1 x5_1).f4) _ _ ((rd_T52 l1 x5_1).f5) false _ ?side1 ?side2 ?side3 ?side4 ?side5 ?side6 ?side7 ?side8 A7.out).mono ?_
        (case side1 => exact zq (Kd.C_below HR489_2.out HB.out))
        (case side2 => exact HC489_2.out)
        (case side3 => exact zq (Kd.C_below HR489_5.out HB.out))
        (case side4 => exact HC489_5.out)
        (case side5 => exact zq (Kd.C_below HR490_2.out HB.out))
        (case side6 => exact HC490_2.out)
        (case side7 => exact zq (Kd.C_below HR490_5.out HB.out))
        (case side8 => exact HC490_5.out)
        rintro e w12 ⟨rfl, hb⟩
        refine ⟨_, rfl, ?_⟩
        have n0_ := am (below_step zb hb)
        clear HB
        have HB := n0_
        clear n0_
        (try clear hb)
        (try clear hb2)
        (try clear hk)
        (try clear hi)
        refine hK.out _ _ ⟨((HB.out.cell (World.block_lt_of_cell? w _ hw489_0)).trans hw489_0), ((HB.out.cell (World.block_lt_of_cell? w _ hw489_1)).trans hw489_1), ((HB.out.cell (World.block_lt_of_cell? w _ hw489_2)).trans hw489_2), ((HB.out.cell (World.block_lt_of_cell? w _ hw489_3)).trans hw489_3), ((HB.out.cell (World.block_lt_of_cell? w _ hw489_4)).trans hw489_4), ((HB.out.cell (World.block_lt_of_cell? w _ hw489_5)).trans hw489_5), ((HB.out.cell (World.block_lt_of_cell? w _ hw490_0)).trans hw490_0), ((HB.out.cell (World.block_lt_of_cell? w _ hw490_1)).trans hw490_1), ((HB.out.cell (World.block_lt_of_cell? w _ hw490_2)).trans hw490_2), ((HB.out.cell (World.block_lt_of_cell? w _ hw490_3)).trans hw490_3), ((HB.out.cell (World.block_lt_of_cell? w _ hw490_4)).trans hw490_4), ((HB.out.cell (World.block_lt_of_cell? w _ hw490_5)).trans hw490_5)⟩ (fun hHeld => ?_)
        clear hK K
        refine norm_ (a' := ?_) ?_ ?_
        rotate_left
        ·show Act.put _ (some 25) _ = _
         simp only [Act.put,qa,qb,qc,i64_w,i32_w]
         rfl
        refine pure_ (i := 9) (N := some 26) (v := ?_) (a' := ?_) #[Y,Y,Y,Y,Y,Y,Y,Y,Y,Y] rfl rfl zx (fun _ _ _ h => h) (Or.inl ⟨by rfl, ?_⟩) ?_ ?_
        rotate_left; (intro w'; go_simp; with_reducible rfl); rotate_left; (simp only [Act.put,qa,qb,qc,i64_w,i32_w]; rfl)
        refine done_ (done_of HT_.out (by kernel_rfl)) ?_
        try go_wp2
        go_ret
        exact ⟨by first | rfl | (simp [errW_none, errW_some] <;> rfl) | (simp [*, errW_none, errW_some] <;> rfl), zb⟩
      ·rw [if_neg c6] at H
       exact absurd H (by simp)
     ·rw [if_neg c5] at H
      exact absurd H (by simp)
    ·rw [if_neg c4] at H
     have c4b0 : decide (x5_1 < (l0.length : Int)) = false := decide_eq_false c4
     clear c4
     obtain rfl := Option.some.inj H
     go_wp2
     go_ret
     exact ⟨by first | rfl | (simp [errW_none, errW_some] <;> rfl) | (simp [*, errW_none, errW_some] <;> rfl), zb⟩
 ·rw [if_neg c3] at H
  have c3b0 : ((l0.length : Int) == (l1.length : Int)) = false := beq_eq_false_iff_ne.mpr c3
  have c3b1 : ((l0.length : Int) != (l1.length : Int)) = true := bne_iff_ne.mpr c3
  have c3b2 : (l0.length == l1.length) = false := by first | simpa using c3 | (simp at c3 ⊢; omega)
  obtain rfl := Option.some.inj H
  go_enter Tryz.func23, Tryz.ntmps23
  go_wp2
  go_ret
  exact ⟨by first | rfl | (simp [errW_none, errW_some] <;> rfl) | (simp [*, errW_none, errW_some] <;> rfl), zb⟩

def laws_markText.l0 : Nat → Int → ByteArray → Option (ByteArray)
 | 0, _, _ => none
 | k + 1, x0, x3 => if x0 > 0 then ((some (([(wrap64 (48 + (Int.tmod x0 10))) % 256] : List Int) : List Int)).bind fun y492 => (if (strOfNums y492).size + x3.size ≤ 9223372036854775807 then (laws_markText.l0 k (wrap64 (Int.tdiv x0 10)) ((strOfNums y492) ++ x3)) else (none))) else (if 1 + x3.size ≤ 9223372036854775807 then (some ((⟨#[109]⟩ : ByteArray) ++ x3)) else (none))
def laws_markText.f (k : Nat) (a0 : Int) : Option (ByteArray) := if a0 ≤ 0 then (some (⟨#[109, 48]⟩ : ByteArray)) else (laws_markText.l0 k a0 (⟨#[]⟩ : ByteArray))
set_option maxHeartbeats 8000000 in
set_option maxRecDepth 100000 in
theorem laws_markText.calls (k : Nat) (a0 : Int) (r : ByteArray) (w : World) (h : laws_markText.f k a0 = some r) :
  Calls Tryz.prog 86 #[.int .i64 a0] w fun e w' => e = .returned (.string r) ∧ Below w.heap.size w w' := by
 have HB := am (Below.refl w.heap.size w)
 have H : (if a0 ≤ 0 then (some (⟨#[109, 48]⟩ : ByteArray)) else (laws_markText.l0 k a0 (⟨#[]⟩ : ByteArray))) = some r := h
 clear h
 by_cases c2 : a0 ≤ 0
 ·rw [if_pos c2] at H
  have c2b0 : decide (a0 ≤ 0) = true := decide_eq_true c2
  clear c2
  obtain rfl := Option.some.inj H
  go_enter Tryz.func86, Tryz.ntmps86
  go_wp2
  go_ret
  exact ⟨by first | rfl | (simp [errW_none, errW_some] <;> rfl) | (simp [*, errW_none, errW_some] <;> rfl), zb⟩
 ·rw [if_neg c2] at H
  have c2b0 : decide (a0 ≤ 0) = false := decide_eq_false c2
  clear c2
  have H' := am H
  clear H
  go_enter Tryz.func86, Tryz.ntmps86
  go_wp2
  go_loopg [0, 3] k (fun kq v0 v3 w' => ∃ (x0_1 : Int) (x3_1 : ByteArray), v0 = .int .i64 x0_1 ∧ v3 = .string x3_1 ∧ Aside0 (laws_markText.l0 kq x0_1 x3_1 = some r) ∧ Aside0 (kq ≤ k) ∧ Aside0 (Below w.heap.size w w'))
  case atStart => exact ⟨(a0), ((⟨#[]⟩ : ByteArray)), zf, zf, H', ⟨Nat.le_refl _⟩, ⟨zb⟩⟩
  case round =>
   clear H'
   try clear c2
   try clear c2b0
   try clear p2
   obtain ⟨x0_1, x3_1, rfl, rfl, HA, HK1, HB⟩ := hrel
   cases gk with
   | zero => exact absurd HA.out (by simp [laws_markText.l0])
   | succ k1 =>
    have H := HA.out
    clear HA
    simp only [laws_markText.l0] at H
    by_cases c3 : x0_1 > 0
    ·rw [if_pos c3] at H
     have c3b0 : decide (0 < x0_1) = true := decide_eq_true c3
     clear c3
     obtain ⟨y492, hy492⟩ : ∃ y_ : List Int, y_ = (([(wrap64 (48 + (Int.tmod x0_1 10))) % 256] : List Int)) := ⟨_, rfl⟩
     replace H : (if (strOfNums y492).size + x3_1.size ≤ 9223372036854775807 then (laws_markText.l0 k1 (wrap64 (Int.tdiv x0_1 10)) ((strOfNums y492) ++ x3_1)) else (none)) = some r := by first | (rw [hy492]; with_reducible exact H) | (have H2_ := (Option.bind_some _ _).symm.trans H; rw [hy492]; with_reducible exact H2_) | (have H2_ := (Option.bind_some _ _).symm.trans H; with_reducible exact H2_) | with_reducible exact H | (rw [hy492]; exact H) | exact H
     have Ny492 := am hy492
     clear hy492
     by_cases c4 : (strOfNums y492).size + x3_1.size ≤ 9223372036854775807
     ·rw [if_pos c4] at H
      have c4b0 := eq_true c4
      have c4b1 : decide ((strOfNums y492).size + x3_1.size ≤ 9223372036854775807) = true := decide_eq_true c4
      try have c4b2 : (9223372036854775807 < (strOfNums y492).size + x3_1.size) = False := eq_false (Nat.not_lt.2 c4)
      have H' := am H
      clear H
      go_wp2_with (first | ((with_reducible refine gate_dst (N := 12) rfl ?_); refine Kd.R_lit (Kd.int .u8) _ 5 ?hg (N := 12) ?hd (xs := ([(wrap64 (48 + (Int.tmod x0_1 10))) % 256] : List Int)) (inner := [.int .u8 ((wrap64 (48 + (Int.tmod x0_1 10))) % 256)]) (ok := fun _ => True) (okp := fun _ => True) ?hr ?hp (fun _ hk => hk) trivial (Below.refl _ _) (Nat.le_refl _) (by simp) ?_; (case hd => rfl); (case hg => rfl); (case hr => first | (go_simp; done) | (go_simp; rfl)); (case hp => exact (Reps.one (show Kd.M (Kd.int .u8) _ _ _ ((wrap64 (48 + (Int.tmod x0_1 10))) % 256) [.int .u8 ((wrap64 (48 + (Int.tmod x0_1 10))) % 256)] from rfl) (Reps.none _ _))); intro v493 w5 ho6 hb hg_ hnew_; clear hg_ hnew_; (first | rw [← Ny492.out] at ho6 | (simp only [Int.reduceToNat] at ho6; rw [← Ny492.out] at ho6)); have n0_ := am (Kd.R_lower ho6 (below_size zb)); have n1_ := am (below_step zb hb); clear HB; have HO494 := n0_; have HB := n1_; clear n0_ n1_; clear hb ho6; have hcv7 := own_string (P := Tryz.prog) Tryz.underlying22 Tryz.underlying5 Tryz.underlying9 (Kd.own_of_R HO494.out)))
      go_roundg k1
      case measure => have := HK1.out; omega
      case rel => exact ⟨(wrap64 (Int.tdiv x0_1 10)), ((strOfNums y492) ++ x3_1), zf, zf, H', ⟨by have := HK1.out; omega⟩, ⟨zb⟩⟩
     ·rw [if_neg c4] at H
      exact absurd H (by simp)
    ·rw [if_neg c3] at H
     have c3b0 : decide (0 < x0_1) = false := decide_eq_false c3
     clear c3
     by_cases c8 : 1 + x3_1.size ≤ 9223372036854775807
     ·rw [if_pos c8] at H
      have c8b0 := eq_true c8
      have c8b1 : decide (1 + x3_1.size ≤ 9223372036854775807) = true := decide_eq_true c8
      try have c8b2 : (9223372036854775807 < 1 + x3_1.size) = False := eq_false (Nat.not_lt.2 c8)
      obtain rfl := Option.some.inj H
      go_wp2
      go_ret
      exact ⟨by first | rfl | (simp [errW_none, errW_some] <;> rfl) | (simp [*, errW_none, errW_some] <;> rfl), zb⟩
     ·rw [if_neg c8] at H
      exact absurd H (by simp)

def laws_heldStringS.l0 : Nat → List ByteArray → Int → Int → Option (Int)
 | 0, _, _, _ => none
 | k + 1, x0, x1, x5 => if x5 < (x0.length : Int) then (if 0 ≤ x5 then ((laws_markText.f k x1).bind fun t498 => (if (rdOf ByteArray.empty x0 x5).toList = t498.toList then (laws_heldStringS.l0 k x0 (wrap64 (x1 + 1)) (wrap64 (x5 + 1))) else (some (-1)))) else (none)) else (some x1)
def laws_heldStringS.f (k : Nat) (l0 : List ByteArray) (a1 : Int) : Option (Int) := laws_heldStringS.l0 k l0 a1 0
set_option maxHeartbeats 8000000 in
set_option maxRecDepth 100000 in
theorem laws_heldStringS.calls (k : Nat) (A0 : Option Addr) (c0 : Nat) (l0 : List ByteArray) (a1 : Int) (r : Int) (w : World) (hr0 : Kd.C Kd.string w A0 l0.length l0) (hc0 : l0.length ≤ c0) (h : laws_heldStringS.f k l0 a1 = some r) :
  Calls Tryz.prog 54 #[.slice A0 l0.length c0, .int .i64 a1] w fun e w' => e = .returned (.int .i64 r) ∧ Below w.heap.size w w' := by
 have HR0 := am hr0
 have HC0 := am hc0
 clear hr0 hc0
 have HB := am (Below.refl w.heap.size w)
 have H : (laws_heldStringS.l0 k l0 a1 0) = some r := h
 clear h
 have H' := am H
 clear H
 go_enter Tryz.func54, Tryz.ntmps54
 go_wp2
 go_loopg [1, 5] k (fun kq v1 v5 w' => ∃ (x1_1 : Int) (x5_1 : Int), v1 = .int .i64 x1_1 ∧ v5 = .int .i64 x5_1 ∧ Aside0 (laws_heldStringS.l0 kq l0 x1_1 x5_1 = some r) ∧ Aside0 (kq ≤ k) ∧ Aside0 (Below w.heap.size w w'))
 case atStart => exact ⟨(a1), (0), zf, zf, H', ⟨Nat.le_refl _⟩, ⟨zb⟩⟩
 case round =>
  clear H'
  try clear p2
  obtain ⟨x1_1, x5_1, rfl, rfl, HA, HK1, HB⟩ := hrel
  cases gk with
  | zero => exact absurd HA.out (by simp [laws_heldStringS.l0])
  | succ k1 =>
   have H := HA.out
   clear HA
   simp only [laws_heldStringS.l0] at H
   by_cases c3 : x5_1 < (l0.length : Int)
   ·rw [if_pos c3] at H
    have c3b0 : decide (x5_1 < (l0.length : Int)) = true := decide_eq_true c3
    clear c3
    by_cases c4 : 0 ≤ x5_1
    ·rw [if_pos c4] at H
     have c4b0 : decide (0 ≤ x5_1) = true := decide_eq_true c4
     clear c4
     replace H := Option.bind_eq_some_iff.mp H
     obtain ⟨t498, A50, H⟩ := H
     replace H : (if (rdOf ByteArray.empty l0 x5_1).toList = t498.toList then (laws_heldStringS.l0 k1 l0 (wrap64 (x1_1 + 1)) (wrap64 (x5_1 + 1))) else (some (-1))) = some r := H
     have A5 := am A50
     clear A50
     by_cases c6 : (rdOf ByteArray.empty l0 x5_1).toList = t498.toList
     ·rw [if_pos c6] at H
      have c6b0 : ((rdOf ByteArray.empty l0 x5_1).toList == t498.toList) = true := beq_iff_eq.mpr c6
      have c6b1 : ((rdOf ByteArray.empty l0 x5_1).toList != t498.toList) = false := bne_eq_false_iff_eq.mpr c6
      clear c6
      have H' := am H
      clear H
      try go_wp2
      have n0_ := am (below_drew1 HB.out)
      clear HB
      have HB := n0_
      clear n0_
      have p497 : 0 ≤ (x5_1 : Int) := oa
      have q497 : x5_1 < (l0.length : Int) := oa
      obtain ⟨ad497, e497, hx497_0⟩ := Kd.at_string HR0.out x5_1 p497 q497
      have hw497_0 := hx497_0
      cases e497
      replace hx497_0 := (HB.out.cell (World.block_lt_of_cell? w _ hx497_0)).trans hx497_0
      replace p497 := eq_true p497
      replace q497 := eq_true q497
      refine start_ (n := 7) (S := fun w' => w'.cell? (ad497.add (x5_1).toNat) = some (.string (rdOf ByteArray.empty l0 x5_1))) (ds := []) #[O,O,O,O,O,O,O] (by kernel_rfl) rfl rfl (((HB.out.cell (World.block_lt_of_cell? w _ hw497_0)).trans hw497_0)) (fun hHeld => ?_)
      generalize wr.drew = w7 at HB hx497_0 hHeld ⊢
      refine pure_ (i := 0) (N := some 12) (v := ?_) (a' := ?_) #[Y,O,O,O,O,O,O] rfl rfl (by kernel_rfl) (fun _ _ _ h => h) (Or.inl ⟨by rfl, ?_⟩) ?_ ?_
      rotate_left; (intro w'; go_simp; with_reducible rfl); rotate_left; (simp only [Act.put,qa,qb,qc,i64_w,i32_w]; rfl)
      refine pure_ (i := 1) (N := some 13) (v := ?_) (a' := ?_) #[Y,Y,O,O,O,O,O] rfl rfl (by kernel_rfl) (fun _ _ _ h => h) (Or.inl ⟨by rfl, ?_⟩) ?_ ?_
      rotate_left; (intro w'; go_simp; with_reducible rfl); rotate_left; (simp only [Act.put,qa,qb,qc,i64_w,i32_w]; rfl)
      refine pure_ (i := 2) (N := some 14) (v := ?_) (a' := ?_) #[Y,Y,Y,O,O,O,O] rfl rfl (by kernel_rfl) (fun _ _ _ h => h) (Or.inl ⟨by rfl, ?_⟩) ?_ ?_
      rotate_left; (intro w'; go_simp; with_reducible rfl); rotate_left; (simp only [Act.put,qa,qb,qc,i64_w,i32_w]; rfl)
      refine pure_ (i := 4) (N := some 16) (v := ?_) (a' := ?_) #[Y,Y,Y,O,Y,O,O] rfl rfl (by kernel_rfl) (fun _ _ _ h => h) (Or.inl ⟨by rfl, ?_⟩) ?_ ?_
      rotate_left; (intro w'; go_simp; with_reducible rfl); rotate_left; (simp only [Act.put,qa,qb,qc,i64_w,i32_w]; rfl)
      refine take_ (i := 3) (N := some 15) (v := ?_) (a' := ?_) #[Y,Y,Y,Y,Y,O,O] rfl rfl (by kernel_rfl) (fun _ _ _ h => h) (Or.inl ⟨by rfl, ?_⟩) hHeld ?_ ?_
      rotate_left
      ·intro w' s0
       go_simp
       with_reducible rfl
      rotate_left
      ·simp only [Act.put,qa,qb,qc,i64_w,i32_w]
       rfl
      refine one_ (i := 5) (N := some 17) #[Y,Y,Y,Y,Y,Y,O] rfl rfl (by kernel_rfl) (by decide) (fun K hK => ?_)
      refine goes_ Tryz.func86 (by kernel_rfl) rfl #[.int .i64 x1_1] (by rfl) rfl rfl zm ?_
      with_reducible refine (laws_markText.calls k1 x1_1 t498 _ A5.out).mono ?_
      rintro e w8 ⟨rfl, hb⟩
      refine ⟨_, rfl, ?_⟩
      have n0_ := am (below_step zb hb)
      clear HB
      have HB := n0_
      clear n0_
      (try clear hb)
      (try clear hb2)
      (try clear hk)
      (try clear hi)
      refine hK.out _ _ (((HB.out.cell (World.block_lt_of_cell? w _ hw497_0)).trans hw497_0)) (fun hHeld => ?_)
      clear hK K
      refine norm_ (a' := ?_) ?_ ?_
      rotate_left
      ·show Act.put _ (some 17) _ = _
       simp only [Act.put,qa,qb,qc,i64_w,i32_w]
       rfl
      refine pure_ (i := 6) (N := some 18) (v := ?_) (a' := ?_) #[Y,Y,Y,Y,Y,Y,Y] rfl rfl (by kernel_rfl) (fun _ _ _ h => h) (Or.inl ⟨by rfl, ?_⟩) ?_ ?_
      rotate_left; (intro w'; go_simp; with_reducible rfl); rotate_left; (simp only [Act.put,qa,qb,qc,i64_w,i32_w]; rfl)
      refine done_ (by kernel_rfl) ?_
      try go_wp2
      go_roundg k1
      case measure => have := HK1.out; omega
      case rel => exact ⟨(wrap64 (x1_1 + 1)), (wrap64 (x5_1 + 1)), zf, zf, H', ⟨by have := HK1.out; omega⟩, ⟨zb⟩⟩
     ·rw [if_neg c6] at H
      have c6b0 : ((rdOf ByteArray.empty l0 x5_1).toList == t498.toList) = false := beq_eq_false_iff_ne.mpr c6
      have c6b1 : ((rdOf ByteArray.empty l0 x5_1).toList != t498.toList) = true := bne_iff_ne.mpr c6
      obtain rfl := Option.some.inj H
      try go_wp2
      have n0_ := am (below_drew1 HB.out)
      clear HB
      have HB := n0_
      clear n0_
      have p497 : 0 ≤ (x5_1 : Int) := oa
      have q497 : x5_1 < (l0.length : Int) := oa
      obtain ⟨ad497, e497, hx497_0⟩ := Kd.at_string HR0.out x5_1 p497 q497
      have hw497_0 := hx497_0
      cases e497
      replace hx497_0 := (HB.out.cell (World.block_lt_of_cell? w _ hx497_0)).trans hx497_0
      replace p497 := eq_true p497
      replace q497 := eq_true q497
      refine start_ (n := 7) (S := fun w' => w'.cell? (ad497.add (x5_1).toNat) = some (.string (rdOf ByteArray.empty l0 x5_1))) (ds := []) #[O,O,O,O,O,O,O] (by kernel_rfl) rfl rfl (((HB.out.cell (World.block_lt_of_cell? w _ hw497_0)).trans hw497_0)) (fun hHeld => ?_)
      generalize wr.drew = w9 at HB hx497_0 hHeld ⊢
      refine pure_ (i := 0) (N := some 12) (v := ?_) (a' := ?_) #[Y,O,O,O,O,O,O] rfl rfl (by kernel_rfl) (fun _ _ _ h => h) (Or.inl ⟨by rfl, ?_⟩) ?_ ?_
      rotate_left; (intro w'; go_simp; with_reducible rfl); rotate_left; (simp only [Act.put,qa,qb,qc,i64_w,i32_w]; rfl)
      refine pure_ (i := 1) (N := some 13) (v := ?_) (a' := ?_) #[Y,Y,O,O,O,O,O] rfl rfl (by kernel_rfl) (fun _ _ _ h => h) (Or.inl ⟨by rfl, ?_⟩) ?_ ?_
      rotate_left; (intro w'; go_simp; with_reducible rfl); rotate_left; (simp only [Act.put,qa,qb,qc,i64_w,i32_w]; rfl)
      refine pure_ (i := 2) (N := some 14) (v := ?_) (a' := ?_) #[Y,Y,Y,O,O,O,O] rfl rfl (by kernel_rfl) (fun _ _ _ h => h) (Or.inl ⟨by rfl, ?_⟩) ?_ ?_
      rotate_left; (intro w'; go_simp; with_reducible rfl); rotate_left; (simp only [Act.put,qa,qb,qc,i64_w,i32_w]; rfl)
      refine pure_ (i := 4) (N := some 16) (v := ?_) (a' := ?_) #[Y,Y,Y,O,Y,O,O] rfl rfl (by kernel_rfl) (fun _ _ _ h => h) (Or.inl ⟨by rfl, ?_⟩) ?_ ?_
      rotate_left; (intro w'; go_simp; with_reducible rfl); rotate_left; (simp only [Act.put,qa,qb,qc,i64_w,i32_w]; rfl)
      refine take_ (i := 3) (N := some 15) (v := ?_) (a' := ?_) #[Y,Y,Y,Y,Y,O,O] rfl rfl (by kernel_rfl) (fun _ _ _ h => h) (Or.inl ⟨by rfl, ?_⟩) hHeld ?_ ?_
      rotate_left
      ·intro w' s0
       go_simp
       with_reducible rfl
      rotate_left
      ·simp only [Act.put,qa,qb,qc,i64_w,i32_w]
       rfl
      refine one_ (i := 5) (N := some 17) #[Y,Y,Y,Y,Y,Y,O] rfl rfl (by kernel_rfl) (by decide) (fun K hK => ?_)
      refine goes_ Tryz.func86 (by kernel_rfl) rfl #[.int .i64 x1_1] (by rfl) rfl rfl zm ?_
      with_reducible refine (laws_markText.calls k1 x1_1 t498 _ A5.out).mono ?_
      rintro e w10 ⟨rfl, hb⟩
      refine ⟨_, rfl, ?_⟩
      have n0_ := am (below_step zb hb)
      clear HB
      have HB := n0_
      clear n0_
      (try clear hb)
      (try clear hb2)
      (try clear hk)
      (try clear hi)
      refine hK.out _ _ (((HB.out.cell (World.block_lt_of_cell? w _ hw497_0)).trans hw497_0)) (fun hHeld => ?_)
      clear hK K
      refine norm_ (a' := ?_) ?_ ?_
      rotate_left
      ·show Act.put _ (some 17) _ = _
       simp only [Act.put,qa,qb,qc,i64_w,i32_w]
       rfl
      refine pure_ (i := 6) (N := some 18) (v := ?_) (a' := ?_) #[Y,Y,Y,Y,Y,Y,Y] rfl rfl (by kernel_rfl) (fun _ _ _ h => h) (Or.inl ⟨by rfl, ?_⟩) ?_ ?_
      rotate_left; (intro w'; go_simp; with_reducible rfl); rotate_left; (simp only [Act.put,qa,qb,qc,i64_w,i32_w]; rfl)
      refine done_ (by kernel_rfl) ?_
      try go_wp2
      go_ret
      exact ⟨by first | rfl | (simp [errW_none, errW_some] <;> rfl) | (simp [*, errW_none, errW_some] <;> rfl), zb⟩
    ·rw [if_neg c4] at H
     exact absurd H (by simp)
   ·rw [if_neg c3] at H
    have c3b0 : decide (x5_1 < (l0.length : Int)) = false := decide_eq_false c3
    clear c3
    obtain rfl := Option.some.inj H
    go_wp2
    go_ret
    exact ⟨by first | rfl | (simp [errW_none, errW_some] <;> rfl) | (simp [*, errW_none, errW_some] <;> rfl), zb⟩

def laws_heldStepS.l0 : Nat → List (S52) → Int → Int → Option (Int)
 | 0, _, _, _ => none
 | k + 1, x0, x1, x5 => if x5 < (x0.length : Int) then (if 0 ≤ x5 then (if ((rd_T52 x0 x5).f0) = x1 then (if ((rd_T52 x0 x5).f1) = (wrap64 (x1 + 1)) then ((laws_heldStringS.f k ((rd_T52 x0 x5).f2) (wrap64 ((wrap64 (x1 + 1)) + 1))).bind fun t502 => (if t502 < 0 then (some (-1)) else (if ((rd_T52 x0 x5).f3) = t502 then (if ((rd_T52 x0 x5).f4) = (wrap64 (t502 + 1)) then ((laws_heldStringS.f k ((rd_T52 x0 x5).f5) (wrap64 ((wrap64 (t502 + 1)) + 1))).bind fun t506 => (if t506 < 0 then (some (-1)) else (laws_heldStepS.l0 k x0 t506 (wrap64 (x5 + 1))))) else (some (-1))) else (some (-1))))) else (some (-1))) else (some (-1))) else (none)) else (some x1)
def laws_heldStepS.f (k : Nat) (l0 : List (S52)) (a1 : Int) : Option (Int) := laws_heldStepS.l0 k l0 a1 0
set_option maxHeartbeats 8000000 in
set_option maxRecDepth 100000 in
theorem laws_heldStepS.calls (k : Nat) (A0 : Option Addr) (c0 : Nat) (l0 : List (S52)) (a1 : Int) (r : Int) (w : World) (hr0 : Kd.C k52 w A0 l0.length l0) (hc0 : l0.length ≤ c0) (h : laws_heldStepS.f k l0 a1 = some r) :
  Calls Tryz.prog 25 #[.slice A0 l0.length c0, .int .i64 a1] w fun e w' => e = .returned (.int .i64 r) ∧ Below w.heap.size w w' := by
 have HR0 := am hr0
 have HC0 := am hc0
 clear hr0 hc0
 have HB := am (Below.refl w.heap.size w)
 have H : (laws_heldStepS.l0 k l0 a1 0) = some r := h
 clear h
 have H' := am H
 clear H
 go_enter Tryz.func25, Tryz.ntmps25
 go_wp2
 go_loopg [1, 5] k (fun kq v1 v5 w' => ∃ (x1_1 : Int) (x5_1 : Int), v1 = .int .i64 x1_1 ∧ v5 = .int .i64 x5_1 ∧ Aside0 (laws_heldStepS.l0 kq l0 x1_1 x5_1 = some r) ∧ Aside0 (kq ≤ k) ∧ Aside0 (Below w.heap.size w w'))
 case atStart => exact ⟨(a1), (0), zf, zf, H', ⟨Nat.le_refl _⟩, ⟨zb⟩⟩
 case round =>
  clear H'
  try clear c2
  try clear p2
  obtain ⟨x1_1, x5_1, rfl, rfl, HA, HK1, HB⟩ := hrel
  cases gk with
  | zero => exact absurd HA.out (by simp [laws_heldStepS.l0])
  | succ k1 =>
   have H := HA.out
   clear HA
   simp only [laws_heldStepS.l0] at H
   by_cases c3 : x5_1 < (l0.length : Int)
   ·rw [if_pos c3] at H
    have c3b0 : decide (x5_1 < (l0.length : Int)) = true := decide_eq_true c3
    clear c3
    by_cases c4 : 0 ≤ x5_1
    ·rw [if_pos c4] at H
     have c4b0 : decide (0 ≤ x5_1) = true := decide_eq_true c4
     clear c4
     by_cases c5 : ((rd_T52 l0 x5_1).f0) = x1_1
     ·rw [if_pos c5] at H
      have c5b0 : (((rd_T52 l0 x5_1).f0) == x1_1) = true := beq_iff_eq.mpr c5
      have c5b1 : (((rd_T52 l0 x5_1).f0) != x1_1) = false := bne_eq_false_iff_eq.mpr c5
      clear c5
      by_cases c6 : ((rd_T52 l0 x5_1).f1) = (wrap64 (x1_1 + 1))
      ·rw [if_pos c6] at H
       have c6b0 : (((rd_T52 l0 x5_1).f1) == (wrap64 (x1_1 + 1))) = true := beq_iff_eq.mpr c6
       have c6b1 : (((rd_T52 l0 x5_1).f1) != (wrap64 (x1_1 + 1))) = false := bne_eq_false_iff_eq.mpr c6
       clear c6
       replace H := Option.bind_eq_some_iff.mp H
       obtain ⟨t502, A70, H⟩ := H
       replace H : (if t502 < 0 then (some (-1)) else (if ((rd_T52 l0 x5_1).f3) = t502 then (if ((rd_T52 l0 x5_1).f4) = (wrap64 (t502 + 1)) then ((laws_heldStringS.f k1 ((rd_T52 l0 x5_1).f5) (wrap64 ((wrap64 (t502 + 1)) + 1))).bind fun t506 => (if t506 < 0 then (some (-1)) else (laws_heldStepS.l0 k1 l0 t506 (wrap64 (x5_1 + 1))))) else (some (-1))) else (some (-1)))) = some r := H
       have A7 := am A70
       clear A70
       by_cases c8 : t502 < 0
       ·rw [if_pos c8] at H
        have c8b0 : decide (t502 < 0) = true := decide_eq_true c8
        clear c8
        obtain rfl := Option.some.inj H
        have p499 : 0 ≤ (x5_1 : Int) := oa
        have q499 : x5_1 < (l0.length : Int) := oa
        obtain ⟨ad499, A499_2, c499_2, A499_5, c499_5, e499, hx499_0, hx499_1, hx499_2, hx499_3, hx499_4, hx499_5, hl499_2, hi499_2, hl499_5, hi499_5⟩ := at_T52 HR0.out x5_1 p499 q499
        cases e499
        replace hx499_0 := (HB.out.cell (World.block_lt_of_cell? w _ hx499_0)).trans hx499_0
        replace hx499_1 := (HB.out.cell (World.block_lt_of_cell? w _ hx499_1)).trans hx499_1
        replace hx499_2 := (HB.out.cell (World.block_lt_of_cell? w _ hx499_2)).trans hx499_2
        replace hx499_3 := (HB.out.cell (World.block_lt_of_cell? w _ hx499_3)).trans hx499_3
        replace hx499_4 := (HB.out.cell (World.block_lt_of_cell? w _ hx499_4)).trans hx499_4
        replace hx499_5 := (HB.out.cell (World.block_lt_of_cell? w _ hx499_5)).trans hx499_5
        have HR499_2 := am hi499_2
        have HC499_2 := am hl499_2
        clear hi499_2 hl499_2
        have HR499_5 := am hi499_5
        have HC499_5 := am hl499_5
        clear hi499_5 hl499_5
        replace p499 := eq_true p499
        replace q499 := eq_true q499
        have p500 : 0 ≤ (x5_1 : Int) := oa
        have q500 : x5_1 < (l0.length : Int) := oa
        obtain ⟨ad500, A500_2, c500_2, A500_5, c500_5, e500, hx500_0, hx500_1, hx500_2, hx500_3, hx500_4, hx500_5, hl500_2, hi500_2, hl500_5, hi500_5⟩ := at_T52 HR0.out x5_1 p500 q500
        obtain rfl : ad499 = ad500 := (by injection e500)
        replace hx500_0 := (HB.out.cell (World.block_lt_of_cell? w _ hx500_0)).trans hx500_0
        replace hx500_1 := (HB.out.cell (World.block_lt_of_cell? w _ hx500_1)).trans hx500_1
        replace hx500_2 := (HB.out.cell (World.block_lt_of_cell? w _ hx500_2)).trans hx500_2
        replace hx500_3 := (HB.out.cell (World.block_lt_of_cell? w _ hx500_3)).trans hx500_3
        replace hx500_4 := (HB.out.cell (World.block_lt_of_cell? w _ hx500_4)).trans hx500_4
        replace hx500_5 := (HB.out.cell (World.block_lt_of_cell? w _ hx500_5)).trans hx500_5
        have HR500_2 := am hi500_2
        have HC500_2 := am hl500_2
        clear hi500_2 hl500_2
        have HR500_5 := am hi500_5
        have HC500_5 := am hl500_5
        clear hi500_5 hl500_5
        replace p500 := eq_true p500
        replace q500 := eq_true q500
        have ea_ := Option.some.inj (hx499_2.symm.trans hx500_2)
        injection ea_ with ea_ en_ ec_
        subst ea_
        subst ec_
        clear en_
        have ea_ := Option.some.inj (hx499_5.symm.trans hx500_5)
        injection ea_ with ea_ en_ ec_
        subst ea_
        subst ec_
        clear en_
        have p501 : 0 ≤ (x5_1 : Int) := oa
        have q501 : x5_1 < (l0.length : Int) := oa
        obtain ⟨ad501, A501_2, c501_2, A501_5, c501_5, e501, hx501_0, hx501_1, hx501_2, hx501_3, hx501_4, hx501_5, hl501_2, hi501_2, hl501_5, hi501_5⟩ := at_T52 HR0.out x5_1 p501 q501
        obtain rfl : ad499 = ad501 := (by injection e501)
        replace hx501_0 := (HB.out.cell (World.block_lt_of_cell? w _ hx501_0)).trans hx501_0
        replace hx501_1 := (HB.out.cell (World.block_lt_of_cell? w _ hx501_1)).trans hx501_1
        replace hx501_2 := (HB.out.cell (World.block_lt_of_cell? w _ hx501_2)).trans hx501_2
        replace hx501_3 := (HB.out.cell (World.block_lt_of_cell? w _ hx501_3)).trans hx501_3
        replace hx501_4 := (HB.out.cell (World.block_lt_of_cell? w _ hx501_4)).trans hx501_4
        replace hx501_5 := (HB.out.cell (World.block_lt_of_cell? w _ hx501_5)).trans hx501_5
        have HR501_2 := am hi501_2
        have HC501_2 := am hl501_2
        clear hi501_2 hl501_2
        have HR501_5 := am hi501_5
        have HC501_5 := am hl501_5
        clear hi501_5 hl501_5
        replace p501 := eq_true p501
        replace q501 := eq_true q501
        have ea_ := Option.some.inj (hx499_2.symm.trans hx501_2)
        injection ea_ with ea_ en_ ec_
        subst ea_
        subst ec_
        clear en_
        have ea_ := Option.some.inj (hx499_5.symm.trans hx501_5)
        injection ea_ with ea_ en_ ec_
        subst ea_
        subst ec_
        clear en_
        go_wp2_with (first | ((with_reducible refine gateC (f := 54) rfl ?_); refine goesL_ (some 36) rfl rfl Tryz.func54 (by kernel_rfl) rfl #[.slice A499_2 ((rd_T52 l0 x5_1).f2).length c499_2, .int .i64 (wrap64 ((wrap64 (x1_1 + 1)) + 1))] rfl zm ?_; (with_reducible refine (laws_heldStringS.calls k1 _ _ ((rd_T52 l0 x5_1).f2) (wrap64 ((wrap64 (x1_1 + 1)) + 1)) t502 _ ?side1 ?side2 A7.out).mono ?_); (case side1 => exact zq (Kd.C_below HR501_2.out HB.out)); (case side2 => exact HC501_2.out); rintro e w9 ⟨rfl, hb⟩; refine ⟨_, rfl, ?_⟩; have n0_ := am (below_step zb hb); clear HB; have HB := n0_; clear n0_; (try clear hb)))
        go_ret
        exact ⟨by first | rfl | (simp [errW_none, errW_some] <;> rfl) | (simp [*, errW_none, errW_some] <;> rfl), zb⟩
       ·rw [if_neg c8] at H
        have c8b0 : decide (t502 < 0) = false := decide_eq_false c8
        clear c8
        by_cases c10 : ((rd_T52 l0 x5_1).f3) = t502
        ·rw [if_pos c10] at H
         have c10b0 : (((rd_T52 l0 x5_1).f3) == t502) = true := beq_iff_eq.mpr c10
         have c10b1 : (((rd_T52 l0 x5_1).f3) != t502) = false := bne_eq_false_iff_eq.mpr c10
         clear c10
         by_cases c11 : ((rd_T52 l0 x5_1).f4) = (wrap64 (t502 + 1))
         ·rw [if_pos c11] at H
          have c11b0 : (((rd_T52 l0 x5_1).f4) == (wrap64 (t502 + 1))) = true := beq_iff_eq.mpr c11
          have c11b1 : (((rd_T52 l0 x5_1).f4) != (wrap64 (t502 + 1))) = false := bne_eq_false_iff_eq.mpr c11
          clear c11
          replace H := Option.bind_eq_some_iff.mp H
          obtain ⟨t506, A120, H⟩ := H
          replace H : (if t506 < 0 then (some (-1)) else (laws_heldStepS.l0 k1 l0 t506 (wrap64 (x5_1 + 1)))) = some r := H
          have A12 := am A120
          clear A120
          by_cases c13 : t506 < 0
          ·rw [if_pos c13] at H
           have c13b0 : decide (t506 < 0) = true := decide_eq_true c13
           clear c13
           obtain rfl := Option.some.inj H
           have p499 : 0 ≤ (x5_1 : Int) := oa
           have q499 : x5_1 < (l0.length : Int) := oa
           obtain ⟨ad499, A499_2, c499_2, A499_5, c499_5, e499, hx499_0, hx499_1, hx499_2, hx499_3, hx499_4, hx499_5, hl499_2, hi499_2, hl499_5, hi499_5⟩ := at_T52 HR0.out x5_1 p499 q499
           cases e499
           replace hx499_0 := (HB.out.cell (World.block_lt_of_cell? w _ hx499_0)).trans hx499_0
           replace hx499_1 := (HB.out.cell (World.block_lt_of_cell? w _ hx499_1)).trans hx499_1
           replace hx499_2 := (HB.out.cell (World.block_lt_of_cell? w _ hx499_2)).trans hx499_2
           replace hx499_3 := (HB.out.cell (World.block_lt_of_cell? w _ hx499_3)).trans hx499_3
           replace hx499_4 := (HB.out.cell (World.block_lt_of_cell? w _ hx499_4)).trans hx499_4
           replace hx499_5 := (HB.out.cell (World.block_lt_of_cell? w _ hx499_5)).trans hx499_5
           have HR499_2 := am hi499_2
           have HC499_2 := am hl499_2
           clear hi499_2 hl499_2
           have HR499_5 := am hi499_5
           have HC499_5 := am hl499_5
           clear hi499_5 hl499_5
           replace p499 := eq_true p499
           replace q499 := eq_true q499
           have p500 : 0 ≤ (x5_1 : Int) := oa
           have q500 : x5_1 < (l0.length : Int) := oa
           obtain ⟨ad500, A500_2, c500_2, A500_5, c500_5, e500, hx500_0, hx500_1, hx500_2, hx500_3, hx500_4, hx500_5, hl500_2, hi500_2, hl500_5, hi500_5⟩ := at_T52 HR0.out x5_1 p500 q500
           obtain rfl : ad499 = ad500 := (by injection e500)
           replace hx500_0 := (HB.out.cell (World.block_lt_of_cell? w _ hx500_0)).trans hx500_0
           replace hx500_1 := (HB.out.cell (World.block_lt_of_cell? w _ hx500_1)).trans hx500_1
           replace hx500_2 := (HB.out.cell (World.block_lt_of_cell? w _ hx500_2)).trans hx500_2
           replace hx500_3 := (HB.out.cell (World.block_lt_of_cell? w _ hx500_3)).trans hx500_3
           replace hx500_4 := (HB.out.cell (World.block_lt_of_cell? w _ hx500_4)).trans hx500_4
           replace hx500_5 := (HB.out.cell (World.block_lt_of_cell? w _ hx500_5)).trans hx500_5
           have HR500_2 := am hi500_2
           have HC500_2 := am hl500_2
           clear hi500_2 hl500_2
           have HR500_5 := am hi500_5
           have HC500_5 := am hl500_5
           clear hi500_5 hl500_5
           replace p500 := eq_true p500
           replace q500 := eq_true q500
           have ea_ := Option.some.inj (hx499_2.symm.trans hx500_2)
           injection ea_ with ea_ en_ ec_
           subst ea_
           subst ec_
           clear en_
           have ea_ := Option.some.inj (hx499_5.symm.trans hx500_5)
           injection ea_ with ea_ en_ ec_
           subst ea_
           subst ec_
           clear en_
           have p501 : 0 ≤ (x5_1 : Int) := oa
           have q501 : x5_1 < (l0.length : Int) := oa
           obtain ⟨ad501, A501_2, c501_2, A501_5, c501_5, e501, hx501_0, hx501_1, hx501_2, hx501_3, hx501_4, hx501_5, hl501_2, hi501_2, hl501_5, hi501_5⟩ := at_T52 HR0.out x5_1 p501 q501
           obtain rfl : ad499 = ad501 := (by injection e501)
           replace hx501_0 := (HB.out.cell (World.block_lt_of_cell? w _ hx501_0)).trans hx501_0
           replace hx501_1 := (HB.out.cell (World.block_lt_of_cell? w _ hx501_1)).trans hx501_1
           replace hx501_2 := (HB.out.cell (World.block_lt_of_cell? w _ hx501_2)).trans hx501_2
           replace hx501_3 := (HB.out.cell (World.block_lt_of_cell? w _ hx501_3)).trans hx501_3
           replace hx501_4 := (HB.out.cell (World.block_lt_of_cell? w _ hx501_4)).trans hx501_4
           replace hx501_5 := (HB.out.cell (World.block_lt_of_cell? w _ hx501_5)).trans hx501_5
           have HR501_2 := am hi501_2
           have HC501_2 := am hl501_2
           clear hi501_2 hl501_2
           have HR501_5 := am hi501_5
           have HC501_5 := am hl501_5
           clear hi501_5 hl501_5
           replace p501 := eq_true p501
           replace q501 := eq_true q501
           have ea_ := Option.some.inj (hx499_2.symm.trans hx501_2)
           injection ea_ with ea_ en_ ec_
           subst ea_
           subst ec_
           clear en_
           have ea_ := Option.some.inj (hx499_5.symm.trans hx501_5)
           injection ea_ with ea_ en_ ec_
           subst ea_
           subst ec_
           clear en_
           go_wp2_with (first | ((with_reducible refine gateC (f := 54) rfl ?_); refine goesL_ (some 36) rfl rfl Tryz.func54 (by kernel_rfl) rfl #[.slice A499_2 ((rd_T52 l0 x5_1).f2).length c499_2, .int .i64 (wrap64 ((wrap64 (x1_1 + 1)) + 1))] rfl zm ?_; (with_reducible refine (laws_heldStringS.calls k1 _ _ ((rd_T52 l0 x5_1).f2) (wrap64 ((wrap64 (x1_1 + 1)) + 1)) t502 _ ?side1 ?side2 A7.out).mono ?_); (case side1 => exact zq (Kd.C_below HR501_2.out HB.out)); (case side2 => exact HC501_2.out); rintro e w14 ⟨rfl, hb⟩; refine ⟨_, rfl, ?_⟩; have n0_ := am (below_step zb hb); clear HB; have HB := n0_; clear n0_; (try clear hb); have p503 : 0 ≤ (x5_1 : Int) := oa; have q503 : x5_1 < (l0.length : Int) := oa; obtain ⟨ad503, A503_2, c503_2, A503_5, c503_5, e503, hx503_0, hx503_1, hx503_2, hx503_3, hx503_4, hx503_5, hl503_2, hi503_2, hl503_5, hi503_5⟩ := at_T52 HR0.out x5_1 p503 q503; obtain rfl : ad499 = ad503 := (by injection e503); replace hx503_0 := (HB.out.cell (World.block_lt_of_cell? w _ hx503_0)).trans hx503_0; replace hx503_1 := (HB.out.cell (World.block_lt_of_cell? w _ hx503_1)).trans hx503_1; replace hx503_2 := (HB.out.cell (World.block_lt_of_cell? w _ hx503_2)).trans hx503_2; replace hx503_3 := (HB.out.cell (World.block_lt_of_cell? w _ hx503_3)).trans hx503_3; replace hx503_4 := (HB.out.cell (World.block_lt_of_cell? w _ hx503_4)).trans hx503_4; replace hx503_5 := (HB.out.cell (World.block_lt_of_cell? w _ hx503_5)).trans hx503_5; have HR503_2 := am hi503_2; have HC503_2 := am hl503_2; clear hi503_2 hl503_2; have HR503_5 := am hi503_5; have HC503_5 := am hl503_5; clear hi503_5 hl503_5; replace p503 := eq_true p503; replace q503 := eq_true q503; have p504 : 0 ≤ (x5_1 : Int) := oa; have q504 : x5_1 < (l0.length : Int) := oa; obtain ⟨ad504, A504_2, c504_2, A504_5, c504_5, e504, hx504_0, hx504_1, hx504_2, hx504_3, hx504_4, hx504_5, hl504_2, hi504_2, hl504_5, hi504_5⟩ := at_T52 HR0.out x5_1 p504 q504; obtain rfl : ad499 = ad504 := (by injection e504); replace hx504_0 := (HB.out.cell (World.block_lt_of_cell? w _ hx504_0)).trans hx504_0; replace hx504_1 := (HB.out.cell (World.block_lt_of_cell? w _ hx504_1)).trans hx504_1; replace hx504_2 := (HB.out.cell (World.block_lt_of_cell? w _ hx504_2)).trans hx504_2; replace hx504_3 := (HB.out.cell (World.block_lt_of_cell? w _ hx504_3)).trans hx504_3; replace hx504_4 := (HB.out.cell (World.block_lt_of_cell? w _ hx504_4)).trans hx504_4; replace hx504_5 := (HB.out.cell (World.block_lt_of_cell? w _ hx504_5)).trans hx504_5; have HR504_2 := am hi504_2; have HC504_2 := am hl504_2; clear hi504_2 hl504_2; have HR504_5 := am hi504_5; have HC504_5 := am hl504_5; clear hi504_5 hl504_5; replace p504 := eq_true p504; replace q504 := eq_true q504; have ea_ := Option.some.inj (hx503_2.symm.trans hx504_2); injection ea_ with ea_ en_ ec_; subst ea_; subst ec_; clear en_; have ea_ := Option.some.inj (hx503_5.symm.trans hx504_5); injection ea_ with ea_ en_ ec_; subst ea_; subst ec_; clear en_; have p505 : 0 ≤ (x5_1 : Int) := oa; have q505 : x5_1 < (l0.length : Int) := oa; obtain ⟨ad505, A505_2, c505_2, A505_5, c505_5, e505, hx505_0, hx505_1, hx505_2, hx505_3, hx505_4, hx505_5, hl505_2, hi505_2, hl505_5, hi505_5⟩ := at_T52 HR0.out x5_1 p505 q505; obtain rfl : ad499 = ad505 := (by injection e505); replace hx505_0 := (HB.out.cell (World.block_lt_of_cell? w _ hx505_0)).trans hx505_0; replace hx505_1 := (HB.out.cell (World.block_lt_of_cell? w _ hx505_1)).trans hx505_1; replace hx505_2 := (HB.out.cell (World.block_lt_of_cell? w _ hx505_2)).trans hx505_2; replace hx505_3 := (HB.out.cell (World.block_lt_of_cell? w _ hx505_3)).trans hx505_3; replace hx505_4 := (HB.out.cell (World.block_lt_of_cell? w _ hx505_4)).trans hx505_4; replace hx505_5 := (HB.out.cell (World.block_lt_of_cell? w _ hx505_5)).trans hx505_5; have HR505_2 := am hi505_2; have HC505_2 := am hl505_2; clear hi505_2 hl505_2; have HR505_5 := am hi505_5; have HC505_5 := am hl505_5; clear hi505_5 hl505_5; replace p505 := eq_true p505; replace q505 := eq_true q505; have ea_ := Option.some.inj (hx503_2.symm.trans hx505_2); injection ea_ with ea_ en_ ec_; subst ea_; subst ec_; clear en_; have ea_ := Option.some.inj (hx503_5.symm.trans hx505_5); injection ea_ with ea_ en_ ec_; subst ea_; subst ec_; clear en_) | ((with_reducible refine gateC (f := 54) rfl ?_); refine goesL_ (some 63) rfl rfl Tryz.func54 (by kernel_rfl) rfl #[.slice A503_5 ((rd_T52 l0 x5_1).f5).length c503_5, .int .i64 (wrap64 ((wrap64 (t502 + 1)) + 1))] rfl zm ?_; (with_reducible refine (laws_heldStringS.calls k1 _ _ ((rd_T52 l0 x5_1).f5) (wrap64 ((wrap64 (t502 + 1)) + 1)) t506 _ ?side1 ?side2 A12.out).mono ?_); (case side1 => exact zq (Kd.C_below HR505_5.out HB.out)); (case side2 => exact HC505_5.out); rintro e w15 ⟨rfl, hb⟩; refine ⟨_, rfl, ?_⟩; have n0_ := am (below_step zb hb); clear HB; have HB := n0_; clear n0_; (try clear hb)))
           go_ret
           exact ⟨by first | rfl | (simp [errW_none, errW_some] <;> rfl) | (simp [*, errW_none, errW_some] <;> rfl), zb⟩
          ·rw [if_neg c13] at H
           have c13b0 : decide (t506 < 0) = false := decide_eq_false c13
           clear c13
           have H' := am H
           clear H
           have p499 : 0 ≤ (x5_1 : Int) := oa
           have q499 : x5_1 < (l0.length : Int) := oa
           obtain ⟨ad499, A499_2, c499_2, A499_5, c499_5, e499, hx499_0, hx499_1, hx499_2, hx499_3, hx499_4, hx499_5, hl499_2, hi499_2, hl499_5, hi499_5⟩ := at_T52 HR0.out x5_1 p499 q499
           cases e499
           replace hx499_0 := (HB.out.cell (World.block_lt_of_cell? w _ hx499_0)).trans hx499_0
           replace hx499_1 := (HB.out.cell (World.block_lt_of_cell? w _ hx499_1)).trans hx499_1
           replace hx499_2 := (HB.out.cell (World.block_lt_of_cell? w _ hx499_2)).trans hx499_2
           replace hx499_3 := (HB.out.cell (World.block_lt_of_cell? w _ hx499_3)).trans hx499_3
           replace hx499_4 := (HB.out.cell (World.block_lt_of_cell? w _ hx499_4)).trans hx499_4
           replace hx499_5 := (HB.out.cell (World.block_lt_of_cell? w _ hx499_5)).trans hx499_5
           have HR499_2 := am hi499_2
           have HC499_2 := am hl499_2
           clear hi499_2 hl499_2
           have HR499_5 := am hi499_5
           have HC499_5 := am hl499_5
           clear hi499_5 hl499_5
           replace p499 := eq_true p499
           replace q499 := eq_true q499
           have p500 : 0 ≤ (x5_1 : Int) := oa
           have q500 : x5_1 < (l0.length : Int) := oa
           obtain ⟨ad500, A500_2, c500_2, A500_5, c500_5, e500, hx500_0, hx500_1, hx500_2, hx500_3, hx500_4, hx500_5, hl500_2, hi500_2, hl500_5, hi500_5⟩ := at_T52 HR0.out x5_1 p500 q500
           obtain rfl : ad499 = ad500 := (by injection e500)
           replace hx500_0 := (HB.out.cell (World.block_lt_of_cell? w _ hx500_0)).trans hx500_0
           replace hx500_1 := (HB.out.cell (World.block_lt_of_cell? w _ hx500_1)).trans hx500_1
           replace hx500_2 := (HB.out.cell (World.block_lt_of_cell? w _ hx500_2)).trans hx500_2
           replace hx500_3 := (HB.out.cell (World.block_lt_of_cell? w _ hx500_3)).trans hx500_3
           replace hx500_4 := (HB.out.cell (World.block_lt_of_cell? w _ hx500_4)).trans hx500_4
           replace hx500_5 := (HB.out.cell (World.block_lt_of_cell? w _ hx500_5)).trans hx500_5
           have HR500_2 := am hi500_2
           have HC500_2 := am hl500_2
           clear hi500_2 hl500_2
           have HR500_5 := am hi500_5
           have HC500_5 := am hl500_5
           clear hi500_5 hl500_5
           replace p500 := eq_true p500
           replace q500 := eq_true q500
           have ea_ := Option.some.inj (hx499_2.symm.trans hx500_2)
           injection ea_ with ea_ en_ ec_
           subst ea_
           subst ec_
           clear en_
           have ea_ := Option.some.inj (hx499_5.symm.trans hx500_5)
           injection ea_ with ea_ en_ ec_
           subst ea_
           subst ec_
           clear en_
           have p501 : 0 ≤ (x5_1 : Int) := oa
           have q501 : x5_1 < (l0.length : Int) := oa
           obtain ⟨ad501, A501_2, c501_2, A501_5, c501_5, e501, hx501_0, hx501_1, hx501_2, hx501_3, hx501_4, hx501_5, hl501_2, hi501_2, hl501_5, hi501_5⟩ := at_T52 HR0.out x5_1 p501 q501
           obtain rfl : ad499 = ad501 := (by injection e501)
           replace hx501_0 := (HB.out.cell (World.block_lt_of_cell? w _ hx501_0)).trans hx501_0
           replace hx501_1 := (HB.out.cell (World.block_lt_of_cell? w _ hx501_1)).trans hx501_1
           replace hx501_2 := (HB.out.cell (World.block_lt_of_cell? w _ hx501_2)).trans hx501_2
           replace hx501_3 := (HB.out.cell (World.block_lt_of_cell? w _ hx501_3)).trans hx501_3
           replace hx501_4 := (HB.out.cell (World.block_lt_of_cell? w _ hx501_4)).trans hx501_4
           replace hx501_5 := (HB.out.cell (World.block_lt_of_cell? w _ hx501_5)).trans hx501_5
           have HR501_2 := am hi501_2
           have HC501_2 := am hl501_2
           clear hi501_2 hl501_2
           have HR501_5 := am hi501_5
           have HC501_5 := am hl501_5
           clear hi501_5 hl501_5
           replace p501 := eq_true p501
           replace q501 := eq_true q501
           have ea_ := Option.some.inj (hx499_2.symm.trans hx501_2)
           injection ea_ with ea_ en_ ec_
           subst ea_
           subst ec_
           clear en_
           have ea_ := Option.some.inj (hx499_5.symm.trans hx501_5)
           injection ea_ with ea_ en_ ec_
           subst ea_
           subst ec_
           clear en_
           go_wp2_with (first | ((with_reducible refine gateC (f := 54) rfl ?_); refine goesL_ (some 36) rfl rfl Tryz.func54 (by kernel_rfl) rfl #[.slice A499_2 ((rd_T52 l0 x5_1).f2).length c499_2, .int .i64 (wrap64 ((wrap64 (x1_1 + 1)) + 1))] rfl zm ?_; (with_reducible refine (laws_heldStringS.calls k1 _ _ ((rd_T52 l0 x5_1).f2) (wrap64 ((wrap64 (x1_1 + 1)) + 1)) t502 _ ?side1 ?side2 A7.out).mono ?_); (case side1 => exact zq (Kd.C_below HR501_2.out HB.out)); (case side2 => exact HC501_2.out); rintro e w16 ⟨rfl, hb⟩; refine ⟨_, rfl, ?_⟩; have n0_ := am (below_step zb hb); clear HB; have HB := n0_; clear n0_; (try clear hb); have p503 : 0 ≤ (x5_1 : Int) := oa; have q503 : x5_1 < (l0.length : Int) := oa; obtain ⟨ad503, A503_2, c503_2, A503_5, c503_5, e503, hx503_0, hx503_1, hx503_2, hx503_3, hx503_4, hx503_5, hl503_2, hi503_2, hl503_5, hi503_5⟩ := at_T52 HR0.out x5_1 p503 q503; obtain rfl : ad499 = ad503 := (by injection e503); replace hx503_0 := (HB.out.cell (World.block_lt_of_cell? w _ hx503_0)).trans hx503_0; replace hx503_1 := (HB.out.cell (World.block_lt_of_cell? w _ hx503_1)).trans hx503_1; replace hx503_2 := (HB.out.cell (World.block_lt_of_cell? w _ hx503_2)).trans hx503_2; replace hx503_3 := (HB.out.cell (World.block_lt_of_cell? w _ hx503_3)).trans hx503_3; replace hx503_4 := (HB.out.cell (World.block_lt_of_cell? w _ hx503_4)).trans hx503_4; replace hx503_5 := (HB.out.cell (World.block_lt_of_cell? w _ hx503_5)).trans hx503_5; have HR503_2 := am hi503_2; have HC503_2 := am hl503_2; clear hi503_2 hl503_2; have HR503_5 := am hi503_5; have HC503_5 := am hl503_5; clear hi503_5 hl503_5; replace p503 := eq_true p503; replace q503 := eq_true q503; have p504 : 0 ≤ (x5_1 : Int) := oa; have q504 : x5_1 < (l0.length : Int) := oa; obtain ⟨ad504, A504_2, c504_2, A504_5, c504_5, e504, hx504_0, hx504_1, hx504_2, hx504_3, hx504_4, hx504_5, hl504_2, hi504_2, hl504_5, hi504_5⟩ := at_T52 HR0.out x5_1 p504 q504; obtain rfl : ad499 = ad504 := (by injection e504); replace hx504_0 := (HB.out.cell (World.block_lt_of_cell? w _ hx504_0)).trans hx504_0; replace hx504_1 := (HB.out.cell (World.block_lt_of_cell? w _ hx504_1)).trans hx504_1; replace hx504_2 := (HB.out.cell (World.block_lt_of_cell? w _ hx504_2)).trans hx504_2; replace hx504_3 := (HB.out.cell (World.block_lt_of_cell? w _ hx504_3)).trans hx504_3; replace hx504_4 := (HB.out.cell (World.block_lt_of_cell? w _ hx504_4)).trans hx504_4; replace hx504_5 := (HB.out.cell (World.block_lt_of_cell? w _ hx504_5)).trans hx504_5; have HR504_2 := am hi504_2; have HC504_2 := am hl504_2; clear hi504_2 hl504_2; have HR504_5 := am hi504_5; have HC504_5 := am hl504_5; clear hi504_5 hl504_5; replace p504 := eq_true p504; replace q504 := eq_true q504; have ea_ := Option.some.inj (hx503_2.symm.trans hx504_2); injection ea_ with ea_ en_ ec_; subst ea_; subst ec_; clear en_; have ea_ := Option.some.inj (hx503_5.symm.trans hx504_5); injection ea_ with ea_ en_ ec_; subst ea_; subst ec_; clear en_; have p505 : 0 ≤ (x5_1 : Int) := oa; have q505 : x5_1 < (l0.length : Int) := oa; obtain ⟨ad505, A505_2, c505_2, A505_5, c505_5, e505, hx505_0, hx505_1, hx505_2, hx505_3, hx505_4, hx505_5, hl505_2, hi505_2, hl505_5, hi505_5⟩ := at_T52 HR0.out x5_1 p505 q505; obtain rfl : ad499 = ad505 := (by injection e505); replace hx505_0 := (HB.out.cell (World.block_lt_of_cell? w _ hx505_0)).trans hx505_0; replace hx505_1 := (HB.out.cell (World.block_lt_of_cell? w _ hx505_1)).trans hx505_1; replace hx505_2 := (HB.out.cell (World.block_lt_of_cell? w _ hx505_2)).trans hx505_2; replace hx505_3 := (HB.out.cell (World.block_lt_of_cell? w _ hx505_3)).trans hx505_3; replace hx505_4 := (HB.out.cell (World.block_lt_of_cell? w _ hx505_4)).trans hx505_4; replace hx505_5 := (HB.out.cell (World.block_lt_of_cell? w _ hx505_5)).trans hx505_5; have HR505_2 := am hi505_2; have HC505_2 := am hl505_2; clear hi505_2 hl505_2; have HR505_5 := am hi505_5; have HC505_5 := am hl505_5; clear hi505_5 hl505_5; replace p505 := eq_true p505; replace q505 := eq_true q505; have ea_ := Option.some.inj (hx503_2.symm.trans hx505_2); injection ea_ with ea_ en_ ec_; subst ea_; subst ec_; clear en_; have ea_ := Option.some.inj (hx503_5.symm.trans hx505_5); injection ea_ with ea_ en_ ec_; subst ea_; subst ec_; clear en_) | ((with_reducible refine gateC (f := 54) rfl ?_); refine goesL_ (some 63) rfl rfl Tryz.func54 (by kernel_rfl) rfl #[.slice A503_5 ((rd_T52 l0 x5_1).f5).length c503_5, .int .i64 (wrap64 ((wrap64 (t502 + 1)) + 1))] rfl zm ?_; (with_reducible refine (laws_heldStringS.calls k1 _ _ ((rd_T52 l0 x5_1).f5) (wrap64 ((wrap64 (t502 + 1)) + 1)) t506 _ ?side1 ?side2 A12.out).mono ?_); (case side1 => exact zq (Kd.C_below HR505_5.out HB.out)); (case side2 => exact HC505_5.out); rintro e w17 ⟨rfl, hb⟩; refine ⟨_, rfl, ?_⟩; have n0_ := am (below_step zb hb); clear HB; have HB := n0_; clear n0_; (try clear hb)))
           go_roundg k1
           case measure => have := HK1.out; omega
           case rel => exact ⟨(t506), (wrap64 (x5_1 + 1)), zf, zf, H', ⟨by have := HK1.out; omega⟩, ⟨zb⟩⟩
         ·rw [if_neg c11] at H
          have c11b0 : (((rd_T52 l0 x5_1).f4) == (wrap64 (t502 + 1))) = false := beq_eq_false_iff_ne.mpr c11
          have c11b1 : (((rd_T52 l0 x5_1).f4) != (wrap64 (t502 + 1))) = true := bne_iff_ne.mpr c11
          obtain rfl := Option.some.inj H
          have p499 : 0 ≤ (x5_1 : Int) := oa
          have q499 : x5_1 < (l0.length : Int) := oa
          obtain ⟨ad499, A499_2, c499_2, A499_5, c499_5, e499, hx499_0, hx499_1, hx499_2, hx499_3, hx499_4, hx499_5, hl499_2, hi499_2, hl499_5, hi499_5⟩ := at_T52 HR0.out x5_1 p499 q499
          cases e499
          replace hx499_0 := (HB.out.cell (World.block_lt_of_cell? w _ hx499_0)).trans hx499_0
          replace hx499_1 := (HB.out.cell (World.block_lt_of_cell? w _ hx499_1)).trans hx499_1
          replace hx499_2 := (HB.out.cell (World.block_lt_of_cell? w _ hx499_2)).trans hx499_2
          replace hx499_3 := (HB.out.cell (World.block_lt_of_cell? w _ hx499_3)).trans hx499_3
          replace hx499_4 := (HB.out.cell (World.block_lt_of_cell? w _ hx499_4)).trans hx499_4
          replace hx499_5 := (HB.out.cell (World.block_lt_of_cell? w _ hx499_5)).trans hx499_5
          have HR499_2 := am hi499_2
          have HC499_2 := am hl499_2
          clear hi499_2 hl499_2
          have HR499_5 := am hi499_5
          have HC499_5 := am hl499_5
          clear hi499_5 hl499_5
          replace p499 := eq_true p499
          replace q499 := eq_true q499
          have p500 : 0 ≤ (x5_1 : Int) := oa
          have q500 : x5_1 < (l0.length : Int) := oa
          obtain ⟨ad500, A500_2, c500_2, A500_5, c500_5, e500, hx500_0, hx500_1, hx500_2, hx500_3, hx500_4, hx500_5, hl500_2, hi500_2, hl500_5, hi500_5⟩ := at_T52 HR0.out x5_1 p500 q500
          obtain rfl : ad499 = ad500 := (by injection e500)
          replace hx500_0 := (HB.out.cell (World.block_lt_of_cell? w _ hx500_0)).trans hx500_0
          replace hx500_1 := (HB.out.cell (World.block_lt_of_cell? w _ hx500_1)).trans hx500_1
          replace hx500_2 := (HB.out.cell (World.block_lt_of_cell? w _ hx500_2)).trans hx500_2
          replace hx500_3 := (HB.out.cell (World.block_lt_of_cell? w _ hx500_3)).trans hx500_3
          replace hx500_4 := (HB.out.cell (World.block_lt_of_cell? w _ hx500_4)).trans hx500_4
          replace hx500_5 := (HB.out.cell (World.block_lt_of_cell? w _ hx500_5)).trans hx500_5
          have HR500_2 := am hi500_2
          have HC500_2 := am hl500_2
          clear hi500_2 hl500_2
          have HR500_5 := am hi500_5
          have HC500_5 := am hl500_5
          clear hi500_5 hl500_5
          replace p500 := eq_true p500
          replace q500 := eq_true q500
          have ea_ := Option.some.inj (hx499_2.symm.trans hx500_2)
          injection ea_ with ea_ en_ ec_
          subst ea_
          subst ec_
          clear en_
          have ea_ := Option.some.inj (hx499_5.symm.trans hx500_5)
          injection ea_ with ea_ en_ ec_
          subst ea_
          subst ec_
          clear en_
          have p501 : 0 ≤ (x5_1 : Int) := oa
          have q501 : x5_1 < (l0.length : Int) := oa
          obtain ⟨ad501, A501_2, c501_2, A501_5, c501_5, e501, hx501_0, hx501_1, hx501_2, hx501_3, hx501_4, hx501_5, hl501_2, hi501_2, hl501_5, hi501_5⟩ := at_T52 HR0.out x5_1 p501 q501
          obtain rfl : ad499 = ad501 := (by injection e501)
          replace hx501_0 := (HB.out.cell (World.block_lt_of_cell? w _ hx501_0)).trans hx501_0
          replace hx501_1 := (HB.out.cell (World.block_lt_of_cell? w _ hx501_1)).trans hx501_1
          replace hx501_2 := (HB.out.cell (World.block_lt_of_cell? w _ hx501_2)).trans hx501_2
          replace hx501_3 := (HB.out.cell (World.block_lt_of_cell? w _ hx501_3)).trans hx501_3
          replace hx501_4 := (HB.out.cell (World.block_lt_of_cell? w _ hx501_4)).trans hx501_4
          replace hx501_5 := (HB.out.cell (World.block_lt_of_cell? w _ hx501_5)).trans hx501_5
          have HR501_2 := am hi501_2
          have HC501_2 := am hl501_2
          clear hi501_2 hl501_2
          have HR501_5 := am hi501_5
          have HC501_5 := am hl501_5
          clear hi501_5 hl501_5
          replace p501 := eq_true p501
          replace q501 := eq_true q501
          have ea_ := Option.some.inj (hx499_2.symm.trans hx501_2)
          injection ea_ with ea_ en_ ec_
          subst ea_
          subst ec_
          clear en_
          have ea_ := Option.some.inj (hx499_5.symm.trans hx501_5)
          injection ea_ with ea_ en_ ec_
          subst ea_
          subst ec_
          clear en_
          go_wp2_with (first | ((with_reducible refine gateC (f := 54) rfl ?_); refine goesL_ (some 36) rfl rfl Tryz.func54 (by kernel_rfl) rfl #[.slice A499_2 ((rd_T52 l0 x5_1).f2).length c499_2, .int .i64 (wrap64 ((wrap64 (x1_1 + 1)) + 1))] rfl zm ?_; (with_reducible refine (laws_heldStringS.calls k1 _ _ ((rd_T52 l0 x5_1).f2) (wrap64 ((wrap64 (x1_1 + 1)) + 1)) t502 _ ?side1 ?side2 A7.out).mono ?_); (case side1 => exact zq (Kd.C_below HR501_2.out HB.out)); (case side2 => exact HC501_2.out); rintro e w18 ⟨rfl, hb⟩; refine ⟨_, rfl, ?_⟩; have n0_ := am (below_step zb hb); clear HB; have HB := n0_; clear n0_; (try clear hb); have p503 : 0 ≤ (x5_1 : Int) := oa; have q503 : x5_1 < (l0.length : Int) := oa; obtain ⟨ad503, A503_2, c503_2, A503_5, c503_5, e503, hx503_0, hx503_1, hx503_2, hx503_3, hx503_4, hx503_5, hl503_2, hi503_2, hl503_5, hi503_5⟩ := at_T52 HR0.out x5_1 p503 q503; obtain rfl : ad499 = ad503 := (by injection e503); replace hx503_0 := (HB.out.cell (World.block_lt_of_cell? w _ hx503_0)).trans hx503_0; replace hx503_1 := (HB.out.cell (World.block_lt_of_cell? w _ hx503_1)).trans hx503_1; replace hx503_2 := (HB.out.cell (World.block_lt_of_cell? w _ hx503_2)).trans hx503_2; replace hx503_3 := (HB.out.cell (World.block_lt_of_cell? w _ hx503_3)).trans hx503_3; replace hx503_4 := (HB.out.cell (World.block_lt_of_cell? w _ hx503_4)).trans hx503_4; replace hx503_5 := (HB.out.cell (World.block_lt_of_cell? w _ hx503_5)).trans hx503_5; have HR503_2 := am hi503_2; have HC503_2 := am hl503_2; clear hi503_2 hl503_2; have HR503_5 := am hi503_5; have HC503_5 := am hl503_5; clear hi503_5 hl503_5; replace p503 := eq_true p503; replace q503 := eq_true q503; have p504 : 0 ≤ (x5_1 : Int) := oa; have q504 : x5_1 < (l0.length : Int) := oa; obtain ⟨ad504, A504_2, c504_2, A504_5, c504_5, e504, hx504_0, hx504_1, hx504_2, hx504_3, hx504_4, hx504_5, hl504_2, hi504_2, hl504_5, hi504_5⟩ := at_T52 HR0.out x5_1 p504 q504; obtain rfl : ad499 = ad504 := (by injection e504); replace hx504_0 := (HB.out.cell (World.block_lt_of_cell? w _ hx504_0)).trans hx504_0; replace hx504_1 := (HB.out.cell (World.block_lt_of_cell? w _ hx504_1)).trans hx504_1; replace hx504_2 := (HB.out.cell (World.block_lt_of_cell? w _ hx504_2)).trans hx504_2; replace hx504_3 := (HB.out.cell (World.block_lt_of_cell? w _ hx504_3)).trans hx504_3; replace hx504_4 := (HB.out.cell (World.block_lt_of_cell? w _ hx504_4)).trans hx504_4; replace hx504_5 := (HB.out.cell (World.block_lt_of_cell? w _ hx504_5)).trans hx504_5; have HR504_2 := am hi504_2; have HC504_2 := am hl504_2; clear hi504_2 hl504_2; have HR504_5 := am hi504_5; have HC504_5 := am hl504_5; clear hi504_5 hl504_5; replace p504 := eq_true p504; replace q504 := eq_true q504; have ea_ := Option.some.inj (hx503_2.symm.trans hx504_2); injection ea_ with ea_ en_ ec_; subst ea_; subst ec_; clear en_; have ea_ := Option.some.inj (hx503_5.symm.trans hx504_5); injection ea_ with ea_ en_ ec_; subst ea_; subst ec_; clear en_))
          go_ret
          exact ⟨by first | rfl | (simp [errW_none, errW_some] <;> rfl) | (simp [*, errW_none, errW_some] <;> rfl), zb⟩
        ·rw [if_neg c10] at H
         have c10b0 : (((rd_T52 l0 x5_1).f3) == t502) = false := beq_eq_false_iff_ne.mpr c10
         have c10b1 : (((rd_T52 l0 x5_1).f3) != t502) = true := bne_iff_ne.mpr c10
         obtain rfl := Option.some.inj H
         have p499 : 0 ≤ (x5_1 : Int) := oa
         have q499 : x5_1 < (l0.length : Int) := oa
         obtain ⟨ad499, A499_2, c499_2, A499_5, c499_5, e499, hx499_0, hx499_1, hx499_2, hx499_3, hx499_4, hx499_5, hl499_2, hi499_2, hl499_5, hi499_5⟩ := at_T52 HR0.out x5_1 p499 q499
         cases e499
         replace hx499_0 := (HB.out.cell (World.block_lt_of_cell? w _ hx499_0)).trans hx499_0
         replace hx499_1 := (HB.out.cell (World.block_lt_of_cell? w _ hx499_1)).trans hx499_1
         replace hx499_2 := (HB.out.cell (World.block_lt_of_cell? w _ hx499_2)).trans hx499_2
         replace hx499_3 := (HB.out.cell (World.block_lt_of_cell? w _ hx499_3)).trans hx499_3
         replace hx499_4 := (HB.out.cell (World.block_lt_of_cell? w _ hx499_4)).trans hx499_4
         replace hx499_5 := (HB.out.cell (World.block_lt_of_cell? w _ hx499_5)).trans hx499_5
         have HR499_2 := am hi499_2
         have HC499_2 := am hl499_2
         clear hi499_2 hl499_2
         have HR499_5 := am hi499_5
         have HC499_5 := am hl499_5
         clear hi499_5 hl499_5
         replace p499 := eq_true p499
         replace q499 := eq_true q499
         have p500 : 0 ≤ (x5_1 : Int) := oa
         have q500 : x5_1 < (l0.length : Int) := oa
         obtain ⟨ad500, A500_2, c500_2, A500_5, c500_5, e500, hx500_0, hx500_1, hx500_2, hx500_3, hx500_4, hx500_5, hl500_2, hi500_2, hl500_5, hi500_5⟩ := at_T52 HR0.out x5_1 p500 q500
         obtain rfl : ad499 = ad500 := (by injection e500)
         replace hx500_0 := (HB.out.cell (World.block_lt_of_cell? w _ hx500_0)).trans hx500_0
         replace hx500_1 := (HB.out.cell (World.block_lt_of_cell? w _ hx500_1)).trans hx500_1
         replace hx500_2 := (HB.out.cell (World.block_lt_of_cell? w _ hx500_2)).trans hx500_2
         replace hx500_3 := (HB.out.cell (World.block_lt_of_cell? w _ hx500_3)).trans hx500_3
         replace hx500_4 := (HB.out.cell (World.block_lt_of_cell? w _ hx500_4)).trans hx500_4
         replace hx500_5 := (HB.out.cell (World.block_lt_of_cell? w _ hx500_5)).trans hx500_5
         have HR500_2 := am hi500_2
         have HC500_2 := am hl500_2
         clear hi500_2 hl500_2
         have HR500_5 := am hi500_5
         have HC500_5 := am hl500_5
         clear hi500_5 hl500_5
         replace p500 := eq_true p500
         replace q500 := eq_true q500
         have ea_ := Option.some.inj (hx499_2.symm.trans hx500_2)
         injection ea_ with ea_ en_ ec_
         subst ea_
         subst ec_
         clear en_
         have ea_ := Option.some.inj (hx499_5.symm.trans hx500_5)
         injection ea_ with ea_ en_ ec_
         subst ea_
         subst ec_
         clear en_
         have p501 : 0 ≤ (x5_1 : Int) := oa
         have q501 : x5_1 < (l0.length : Int) := oa
         obtain ⟨ad501, A501_2, c501_2, A501_5, c501_5, e501, hx501_0, hx501_1, hx501_2, hx501_3, hx501_4, hx501_5, hl501_2, hi501_2, hl501_5, hi501_5⟩ := at_T52 HR0.out x5_1 p501 q501
         obtain rfl : ad499 = ad501 := (by injection e501)
         replace hx501_0 := (HB.out.cell (World.block_lt_of_cell? w _ hx501_0)).trans hx501_0
         replace hx501_1 := (HB.out.cell (World.block_lt_of_cell? w _ hx501_1)).trans hx501_1
         replace hx501_2 := (HB.out.cell (World.block_lt_of_cell? w _ hx501_2)).trans hx501_2
         replace hx501_3 := (HB.out.cell (World.block_lt_of_cell? w _ hx501_3)).trans hx501_3
         replace hx501_4 := (HB.out.cell (World.block_lt_of_cell? w _ hx501_4)).trans hx501_4
         replace hx501_5 := (HB.out.cell (World.block_lt_of_cell? w _ hx501_5)).trans hx501_5
         have HR501_2 := am hi501_2
         have HC501_2 := am hl501_2
         clear hi501_2 hl501_2
         have HR501_5 := am hi501_5
         have HC501_5 := am hl501_5
         clear hi501_5 hl501_5
         replace p501 := eq_true p501
         replace q501 := eq_true q501
         have ea_ := Option.some.inj (hx499_2.symm.trans hx501_2)
         injection ea_ with ea_ en_ ec_
         subst ea_
         subst ec_
         clear en_
         have ea_ := Option.some.inj (hx499_5.symm.trans hx501_5)
         injection ea_ with ea_ en_ ec_
         subst ea_
         subst ec_
         clear en_
         go_wp2_with (first | ((with_reducible refine gateC (f := 54) rfl ?_); refine goesL_ (some 36) rfl rfl Tryz.func54 (by kernel_rfl) rfl #[.slice A499_2 ((rd_T52 l0 x5_1).f2).length c499_2, .int .i64 (wrap64 ((wrap64 (x1_1 + 1)) + 1))] rfl zm ?_; (with_reducible refine (laws_heldStringS.calls k1 _ _ ((rd_T52 l0 x5_1).f2) (wrap64 ((wrap64 (x1_1 + 1)) + 1)) t502 _ ?side1 ?side2 A7.out).mono ?_); (case side1 => exact zq (Kd.C_below HR501_2.out HB.out)); (case side2 => exact HC501_2.out); rintro e w19 ⟨rfl, hb⟩; refine ⟨_, rfl, ?_⟩; have n0_ := am (below_step zb hb); clear HB; have HB := n0_; clear n0_; (try clear hb); have p503 : 0 ≤ (x5_1 : Int) := oa; have q503 : x5_1 < (l0.length : Int) := oa; obtain ⟨ad503, A503_2, c503_2, A503_5, c503_5, e503, hx503_0, hx503_1, hx503_2, hx503_3, hx503_4, hx503_5, hl503_2, hi503_2, hl503_5, hi503_5⟩ := at_T52 HR0.out x5_1 p503 q503; obtain rfl : ad499 = ad503 := (by injection e503); replace hx503_0 := (HB.out.cell (World.block_lt_of_cell? w _ hx503_0)).trans hx503_0; replace hx503_1 := (HB.out.cell (World.block_lt_of_cell? w _ hx503_1)).trans hx503_1; replace hx503_2 := (HB.out.cell (World.block_lt_of_cell? w _ hx503_2)).trans hx503_2; replace hx503_3 := (HB.out.cell (World.block_lt_of_cell? w _ hx503_3)).trans hx503_3; replace hx503_4 := (HB.out.cell (World.block_lt_of_cell? w _ hx503_4)).trans hx503_4; replace hx503_5 := (HB.out.cell (World.block_lt_of_cell? w _ hx503_5)).trans hx503_5; have HR503_2 := am hi503_2; have HC503_2 := am hl503_2; clear hi503_2 hl503_2; have HR503_5 := am hi503_5; have HC503_5 := am hl503_5; clear hi503_5 hl503_5; replace p503 := eq_true p503; replace q503 := eq_true q503))
         go_ret
         exact ⟨by first | rfl | (simp [errW_none, errW_some] <;> rfl) | (simp [*, errW_none, errW_some] <;> rfl), zb⟩
      ·rw [if_neg c6] at H
       have c6b0 : (((rd_T52 l0 x5_1).f1) == (wrap64 (x1_1 + 1))) = false := beq_eq_false_iff_ne.mpr c6
       have c6b1 : (((rd_T52 l0 x5_1).f1) != (wrap64 (x1_1 + 1))) = true := bne_iff_ne.mpr c6
       obtain rfl := Option.some.inj H
       have p499 : 0 ≤ (x5_1 : Int) := oa
       have q499 : x5_1 < (l0.length : Int) := oa
       obtain ⟨ad499, A499_2, c499_2, A499_5, c499_5, e499, hx499_0, hx499_1, hx499_2, hx499_3, hx499_4, hx499_5, hl499_2, hi499_2, hl499_5, hi499_5⟩ := at_T52 HR0.out x5_1 p499 q499
       cases e499
       replace hx499_0 := (HB.out.cell (World.block_lt_of_cell? w _ hx499_0)).trans hx499_0
       replace hx499_1 := (HB.out.cell (World.block_lt_of_cell? w _ hx499_1)).trans hx499_1
       replace hx499_2 := (HB.out.cell (World.block_lt_of_cell? w _ hx499_2)).trans hx499_2
       replace hx499_3 := (HB.out.cell (World.block_lt_of_cell? w _ hx499_3)).trans hx499_3
       replace hx499_4 := (HB.out.cell (World.block_lt_of_cell? w _ hx499_4)).trans hx499_4
       replace hx499_5 := (HB.out.cell (World.block_lt_of_cell? w _ hx499_5)).trans hx499_5
       have HR499_2 := am hi499_2
       have HC499_2 := am hl499_2
       clear hi499_2 hl499_2
       have HR499_5 := am hi499_5
       have HC499_5 := am hl499_5
       clear hi499_5 hl499_5
       replace p499 := eq_true p499
       replace q499 := eq_true q499
       have p500 : 0 ≤ (x5_1 : Int) := oa
       have q500 : x5_1 < (l0.length : Int) := oa
       obtain ⟨ad500, A500_2, c500_2, A500_5, c500_5, e500, hx500_0, hx500_1, hx500_2, hx500_3, hx500_4, hx500_5, hl500_2, hi500_2, hl500_5, hi500_5⟩ := at_T52 HR0.out x5_1 p500 q500
       obtain rfl : ad499 = ad500 := (by injection e500)
       replace hx500_0 := (HB.out.cell (World.block_lt_of_cell? w _ hx500_0)).trans hx500_0
       replace hx500_1 := (HB.out.cell (World.block_lt_of_cell? w _ hx500_1)).trans hx500_1
       replace hx500_2 := (HB.out.cell (World.block_lt_of_cell? w _ hx500_2)).trans hx500_2
       replace hx500_3 := (HB.out.cell (World.block_lt_of_cell? w _ hx500_3)).trans hx500_3
       replace hx500_4 := (HB.out.cell (World.block_lt_of_cell? w _ hx500_4)).trans hx500_4
       replace hx500_5 := (HB.out.cell (World.block_lt_of_cell? w _ hx500_5)).trans hx500_5
       have HR500_2 := am hi500_2
       have HC500_2 := am hl500_2
       clear hi500_2 hl500_2
       have HR500_5 := am hi500_5
       have HC500_5 := am hl500_5
       clear hi500_5 hl500_5
       replace p500 := eq_true p500
       replace q500 := eq_true q500
       have ea_ := Option.some.inj (hx499_2.symm.trans hx500_2)
       injection ea_ with ea_ en_ ec_
       subst ea_
       subst ec_
       clear en_
       have ea_ := Option.some.inj (hx499_5.symm.trans hx500_5)
       injection ea_ with ea_ en_ ec_
       subst ea_
       subst ec_
       clear en_
       go_wp2
       go_ret
       exact ⟨by first | rfl | (simp [errW_none, errW_some] <;> rfl) | (simp [*, errW_none, errW_some] <;> rfl), zb⟩
     ·rw [if_neg c5] at H
      have c5b0 : (((rd_T52 l0 x5_1).f0) == x1_1) = false := beq_eq_false_iff_ne.mpr c5
      have c5b1 : (((rd_T52 l0 x5_1).f0) != x1_1) = true := bne_iff_ne.mpr c5
      obtain rfl := Option.some.inj H
      have p499 : 0 ≤ (x5_1 : Int) := oa
      have q499 : x5_1 < (l0.length : Int) := oa
      obtain ⟨ad499, A499_2, c499_2, A499_5, c499_5, e499, hx499_0, hx499_1, hx499_2, hx499_3, hx499_4, hx499_5, hl499_2, hi499_2, hl499_5, hi499_5⟩ := at_T52 HR0.out x5_1 p499 q499
      cases e499
      replace hx499_0 := (HB.out.cell (World.block_lt_of_cell? w _ hx499_0)).trans hx499_0
      replace hx499_1 := (HB.out.cell (World.block_lt_of_cell? w _ hx499_1)).trans hx499_1
      replace hx499_2 := (HB.out.cell (World.block_lt_of_cell? w _ hx499_2)).trans hx499_2
      replace hx499_3 := (HB.out.cell (World.block_lt_of_cell? w _ hx499_3)).trans hx499_3
      replace hx499_4 := (HB.out.cell (World.block_lt_of_cell? w _ hx499_4)).trans hx499_4
      replace hx499_5 := (HB.out.cell (World.block_lt_of_cell? w _ hx499_5)).trans hx499_5
      have HR499_2 := am hi499_2
      have HC499_2 := am hl499_2
      clear hi499_2 hl499_2
      have HR499_5 := am hi499_5
      have HC499_5 := am hl499_5
      clear hi499_5 hl499_5
      replace p499 := eq_true p499
      replace q499 := eq_true q499
      go_wp2
      go_ret
      exact ⟨by first | rfl | (simp [errW_none, errW_some] <;> rfl) | (simp [*, errW_none, errW_some] <;> rfl), zb⟩
    ·rw [if_neg c4] at H
     exact absurd H (by simp)
   ·rw [if_neg c3] at H
    have c3b0 : decide (x5_1 < (l0.length : Int)) = false := decide_eq_false c3
    clear c3
    obtain rfl := Option.some.inj H
    go_wp2
    go_ret
    exact ⟨by first | rfl | (simp [errW_none, errW_some] <;> rfl) | (simp [*, errW_none, errW_some] <;> rfl), zb⟩
end Go.Proofs.YtmcldkobejhaeaaGreatDoor.My