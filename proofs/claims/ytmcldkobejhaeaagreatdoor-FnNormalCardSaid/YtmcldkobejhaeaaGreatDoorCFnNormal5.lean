/- Part 5 of 7 of a proof of this sentence: The Go function loop.example/g00825/laws.FnNormal returns true for every input, and each argument reads afterwards as it read before. No condition. -/
import Derived.Test.YtmcldkobejhaeaaGreatDoorCFnNormal4
namespace Go.Proofs.YtmcldkobejhaeaaGreatDoor.My
open Go.RowKit Go.Proofs.YtmcldkobejhaeaaGreatDoorW.PrintWords Go.Proofs.YtmcldkobejhaeaaGreatDoorW.PrintLast Go.Proofs.YtmcldkobejhaeaaGreatDoorW.PrintMore
attribute [local go_sem] max2_int min2_int max_two min_two max_three min_three max_four min_four
set_option linter.unusedVariables false
set_option linter.unusedSimpArgs false
mutual
def spec_l1Cur_other.l0 : Nat → List ByteArray → Int → List Int → Int → Int → Option (List ByteArray × Int × Int)
 | 0, _, _, _, _, _ => none
 | k + 1, x5, x6, x1000, x1001, x1002 => if x6 > 0 then ((spec_l1Cur_pick.f x1000 x1001 x1002 (wrap64 ((x5.length : Int) + 1))).bind fun bt851 => ((spec_l1Cur_pick.f x1000 bt851.2.1 bt851.2.2 3).bind fun bt854 => (if bt854.1 = 0 then (if bt851.1 < (x5.length : Int) then (if 0 ≤ bt851.1 then (if bt851.1 ≤ (x5.length : Int) then ((spec_l1OwnT.f (x5.take (bt851.1 : Int).toNat)).bind fun t861 => (if 0 ≤ (wrap64 (bt851.1 + 1)) then (if (wrap64 (bt851.1 + 1)) ≤ (x5.length : Int) then ((some (x5.drop ((wrap64 (bt851.1 + 1)) : Int).toNat : List ByteArray)).bind fun y864 => (if t861.length + y864.length < 8796093022208 then (spec_l1Cur_other.l0 k (t861 ++ y864) (wrap64 (x6 - 1)) x1000 bt854.2.1 bt854.2.2) else (none))) else (none)) else (none))) else (none)) else (none)) else (spec_l1Cur_other.l0 k x5 (wrap64 (x6 - 1)) x1000 bt854.2.1 bt854.2.2)) else (if bt854.1 = 1 then (if bt851.1 < (x5.length : Int) then (if 0 ≤ bt851.1 then ((spec_l1Ends.f (rdOf ByteArray.empty x5 bt851.1)).bind fun t872 => (if t872 = true then ((spec_l1Cur_line.f x1000 bt854.2.1 bt854.2.2).bind fun bt873 => (if bt873.1.size + 1 ≤ 9223372036854775807 then (spec_l1Cur_other.l0 k (x5.set (bt851.1 : Int).toNat (bt873.1 ++ (⟨#[10]⟩ : ByteArray))) (wrap64 (x6 - 1)) x1000 bt873.2.1 bt873.2.2) else (none))) else (spec_l1Cur_other.l0 k x5 (wrap64 (x6 - 1)) x1000 bt854.2.1 bt854.2.2))) else (none)) else (spec_l1Cur_other.l0 k x5 (wrap64 (x6 - 1)) x1000 bt854.2.1 bt854.2.2)) else (if bt851.1 < (x5.length : Int) then (spec_l1Cur_other.j1 k x5 x6 bt851.1 true x1000 bt854.2.1 bt854.2.2) else ((spec_l1Whole.f x5).bind fun t877 => (spec_l1Cur_other.j1 k x5 x6 bt851.1 t877 x1000 bt854.2.1 bt854.2.2))))))) else (if (x5.length : Int) > 0 then ((spec_l1Cur_one.f x1000 x1001 x1002 6).bind fun bt898 => (spec_l1Cur_other.j2 k x5 bt898.1 x1000 bt898.2.1 bt898.2.2)) else (spec_l1Cur_other.j2 k x5 false x1000 x1001 x1002))
def spec_l1Cur_other.j1 : Nat → List ByteArray → Int → Int → Bool → List Int → Int → Int → Option (List ByteArray × Int × Int)
 | 0, _, _, _, _, _, _, _ => none
 | k + 1, x5, x6, x7, x31, x1000, x1001, x1002 => if x31 = true then (if 0 ≤ x7 then (if x7 ≤ (x5.length : Int) then ((spec_l1OwnT.f (x5.take (x7 : Int).toNat)).bind fun t882 => ((spec_l1Cur_line.f x1000 x1001 x1002).bind fun bt885 => (if bt885.1.size + 1 ≤ 9223372036854775807 then (if t882.length < 8796093022208 then ((some (t882 ++ [bt885.1 ++ (⟨#[10]⟩ : ByteArray)] : List ByteArray)).bind fun y888 => ((some (x5.drop (x7 : Int).toNat : List ByteArray)).bind fun y891 => (if y888.length + y891.length < 8796093022208 then (spec_l1Cur_other.l0 k (y888 ++ y891) (wrap64 (x6 - 1)) x1000 bt885.2.1 bt885.2.2) else (none)))) else (none)) else (none)))) else (none)) else (none)) else (spec_l1Cur_other.l0 k x5 (wrap64 (x6 - 1)) x1000 x1001 x1002)
def spec_l1Cur_other.j2 : Nat → List ByteArray → Bool → List Int → Int → Int → Option (List ByteArray × Int × Int)
 | 0, _, _, _, _, _ => none
 | k + 1, x5, x85, x1000, x1001, x1002 => if x85 = true then (if 0 ≤ (wrap64 ((x5.length : Int) - 1)) then (if (wrap64 ((x5.length : Int) - 1)) < (x5.length : Int) then ((spec_l1Plain.f (rdOf ByteArray.empty x5 (wrap64 ((x5.length : Int) - 1)))).bind fun t902 => ((spec_l1Ends.f (rdOf ByteArray.empty x5 (wrap64 ((x5.length : Int) - 1)))).bind fun t904 => (if t904 = true then (if t902.toList = ([] : List UInt8) then (some (x5, x1001, x1002)) else (some ((x5.set ((wrap64 ((x5.length : Int) - 1)) : Int).toNat t902), x1001, x1002))) else (if t902.size + 1 ≤ 9223372036854775807 then (some ((x5.set ((wrap64 ((x5.length : Int) - 1)) : Int).toNat (t902 ++ (⟨#[10]⟩ : ByteArray))), x1001, x1002)) else (none))))) else (none)) else (none)) else (some (x5, x1001, x1002))
end
def spec_l1Cur_other.f (k : Nat) (s0_0 : List Int) (s0_1 : Int) (s0_2 : Int) (l1 : List ByteArray) : Option (List ByteArray × Int × Int) := (spec_l1OwnT.f l1).bind fun t845 => ((spec_l1Cur_pick.f s0_0 s0_1 s0_2 4).bind fun bt848 => (spec_l1Cur_other.l0 k t845 bt848.1 s0_0 bt848.2.1 bt848.2.2))
def spec_l1Cur_other.T8 : Bool × List (List Nat × List Nat) := (true, [([], []), ([], []), ([0, 1], [0, 1]), ([2], [2]), ([], []), ([4, 3], [4]), ([5], [5]), ([6], [6]), ([3, 7, 5], [3, 7]), ([], []), ([], []), ([9, 10], [9, 10]), ([8, 11, 8], [8, 11]), ([12, 12, 0, 1, 2, 3, 4, 5, 6, 7, 8, 9, 10, 11, 12], [0, 9, 12])])
def spec_l1Cur_other.B8 : List Nat := [0, 0, 3, 7, 0, 31, 63, 127, 255, 0, 0, 1536, 4095, 8191]
theorem spec_l1Cur_other.tab8 : rtab .any (opsOf Tryz.f99 8) = spec_l1Cur_other.T8 := by kernel_rfl
theorem spec_l1Cur_other.bits8 : waitsOk spec_l1Cur_other.T8.2 spec_l1Cur_other.B8 = true := by kernel_rfl
def spec_l1Cur_other.T11 : Bool × List (List Nat × List Nat) := (true, [([], []), ([], []), ([0, 1], [0, 1]), ([2], [2]), ([], []), ([], []), ([5], [5]), ([4, 6], [4, 6]), ([3, 7, 3], [3, 7]), ([8, 8, 0, 1, 2, 3, 4, 5, 6, 7, 8], [0, 4, 8])])
def spec_l1Cur_other.B11 : List Nat := [0, 0, 3, 7, 0, 0, 32, 112, 255, 511]
theorem spec_l1Cur_other.tab11 : rtab .any (opsOf Tryz.f99 11) = spec_l1Cur_other.T11 := by kernel_rfl
theorem spec_l1Cur_other.bits11 : waitsOk spec_l1Cur_other.T11.2 spec_l1Cur_other.B11 = true := by kernel_rfl
set_option maxHeartbeats 8000000 in
set_option maxRecDepth 100000 in
theorem spec_l1Cur_other.calls (k : Nat) (g : Nat) (s0_0 : List Int) (s0_1 : Int) (s0_2 : Int) (A1 : Option Addr) (c1 : Nat) (l1 : List ByteArray) (r1 : List ByteArray) (r2 : Int) (r3 : Int) (w0 w : World) (hI : IsS77 w0 w g s0_0 s0_1 s0_2) (hB : Below w0.heap.size w0 w) (hr1 : Kd.C Kd.string w A1 l1.length l1) (hc1 : l1.length ≤ c1) (hf1 : ∀ ad, A1 = some ad → 0 < l1.length → ad.block ≠ g) (h : spec_l1Cur_other.f k s0_0 s0_1 s0_2 l1 = some (r1, r2, r3)) :
  Calls Tryz.prog 99 #[.pointer (some ⟨g, 0, none⟩), .slice A1 l1.length c1] w fun e w' => ∃ v0_ : Value, e = .returned (v0_) ∧ Kd.R Kd.string 9 w' w.heap.size (fun _ => True) v0_ r1 ∧ IsS77 w0 w' g s0_0 r2 r3 ∧ Below w0.heap.size w0 w' ∧ KeepBut w w' g none := by
 have HR1 := am hr1
 have HC1 := am hc1
 clear hr1 hc1
 have HI0 := am hI
 have HK := am (KeepBut.refl w g none)
 have HL := am hB.size
 clear hI
 have HW0 := am hB.size
 have HB := am hB
 clear hB
 have H := h
 clear h
 unfold spec_l1Cur_other.f at H
 replace H := Option.bind_eq_some_iff.mp H
 obtain ⟨t845, A30, H⟩ := H
 replace H : ((spec_l1Cur_pick.f s0_0 s0_1 s0_2 4).bind fun bt848 => (spec_l1Cur_other.l0 k t845 bt848.1 s0_0 bt848.2.1 bt848.2.2)) = some (r1, r2, r3) := H
 have A3 := am A30
 clear A30
 replace H := Option.bind_eq_some_iff.mp H
 obtain ⟨⟨t848, t849, t850⟩, A40, H⟩ := H
 dsimp only at H
 have A4 := am A40
 clear A40
 have H' := am H
 clear H
 go_enter Tryz.func99, Tryz.ntmps99
 go_wp2_with (first | ((with_reducible refine gateC (f := 48) rfl ?_); refine goesL_ (some 10) rfl rfl Tryz.func48 (by kernel_rfl) rfl #[.slice A1 l1.length c1] rfl zm ?_; (with_reducible refine (spec_l1OwnT.calls _ _ l1 t845 _ ?side1 ?side2 A3.out).mono ?_); (case side1 => exact Kd.C_keep (⟨#[]⟩ : ByteArray) HR1.out zh hf1); (case side2 => exact HC1.out); rintro e w5 ⟨v846, rfl, ho0, hb⟩; refine ⟨_, rfl, ?_⟩; have HO847 := am (Kd.R_lower ho0 (keep_size (w := w) (g := g) (row := none) zh)); replace HK := am (KeepBut.trans zh (KeepBut.of_below hb g none) (.inl rfl)); replace HB := am (below_step zj hb); replace HI0 := am (IsS77.below zi hb); (try clear hb); (try clear ho0)) | ((with_reducible refine gateC (f := 97) rfl ?_); refine goesL_ (some 12) rfl rfl Tryz.func97 (by kernel_rfl) rfl #[.pointer (some ⟨g, 0, none⟩), .int .i64 4] rfl zm ?_; (with_reducible refine (spec_l1Cur_pick.calls g s0_0 s0_1 s0_2 4 t848 t849 t850 w0 _ ?side1 ?side2 A4.out).mono ?_); (case side1 => exact zi); (case side2 => exact zj); rintro e w6 ⟨rfl, hi, hb, hk⟩; refine ⟨_, rfl, ?_⟩; replace HO847 := am (Kd.R_mono (Kd.R_keep (IsS77.apart (show IsS77 w0 _ g s0_0 s0_1 s0_2 from zi) (zr HO847.out) (by decide)) hk (fun _ h => h.2)) (fun _ h => h.1)); replace HK := am (KeepBut.trans zh hk (.inl rfl)); replace HB := am (hb); replace HI0 := am (hi); (try clear hb); (try clear hk); (try clear hi)))
 go_loopg [5, 6] k (fun kq v5 v6 w' => ∃ (x5_1 : List ByteArray) (x6_1 : Int) (x1001_1 : Int) (x1002_1 : Int), v6 = .int .i64 x6_1 ∧ Aside0 (spec_l1Cur_other.l0 kq x5_1 x6_1 s0_0 x1001_1 x1002_1 = some (r1, r2, r3)) ∧ Aside0 (kq ≤ k) ∧ Aside0 (Kd.R Kd.string 9 w' w.heap.size (fun _ => True) v5 x5_1) ∧ Aside0 (IsS77 w0 w' g s0_0 x1001_1 x1002_1) ∧ Aside0 (KeepBut w w' g none) ∧ Aside0 (Below w0.heap.size w0 w'))
 case atStart => exact ⟨(t845), (t848), (t849), (t850), zf, H', ⟨Nat.le_refl _⟩, ⟨zr HO847.out⟩, ⟨by repeat ((with_reducible exact HI0.out))⟩, ⟨by repeat ((with_reducible exact HK.out))⟩, ⟨by repeat ((with_reducible exact HB.out))⟩⟩
 case round =>
  clear H'
  obtain ⟨x5_1, x6_1, x1001_1, x1002_1, rfl, HA, HK1, HO_5, HI0, HK, HB⟩ := hrel
  cases gk with
  | zero => exact absurd HA.out (by simp [spec_l1Cur_other.l0])
  | succ k1 =>
   have H := HA.out
   clear HA
   simp only [spec_l1Cur_other.l0] at H
   by_cases c7 : x6_1 > 0
   ·rw [if_pos c7] at H
    have c7b0 : decide (0 < x6_1) = true := decide_eq_true c7
    clear c7
    replace H := Option.bind_eq_some_iff.mp H
    obtain ⟨⟨t851, t852, t853⟩, A80, H⟩ := H
    dsimp only at H
    have A8 := am A80
    clear A80
    replace H := Option.bind_eq_some_iff.mp H
    obtain ⟨⟨t854, t855, t856⟩, A90, H⟩ := H
    dsimp only at H
    have A9 := am A90
    clear A90
    by_cases c10 : t854 = 0
    ·rw [if_pos c10] at H
     have c10b0 : (t854 == 0) = true := beq_iff_eq.mpr c10
     have c10b1 : (t854 != 0) = false := bne_eq_false_iff_eq.mpr c10
     clear c10
     by_cases c11 : t851 < (x5_1.length : Int)
     ·rw [if_pos c11] at H
      have c11b0 : decide (t851 < (x5_1.length : Int)) = true := decide_eq_true c11
      clear c11
      obtain ⟨c12, H⟩ := itn H
      have c12b0 := eq_true c12
      have c12b1 := decide_eq_true c12
      clear c12
      obtain ⟨c13, H⟩ := itn H
      have c13b0 := eq_true c13
      have c13b1 := decide_eq_true c13
      clear c13
      obtain ⟨y857, hy857⟩ : ∃ y_ : List ByteArray, y_ = (x5_1.take (t851 : Int).toNat) := ⟨_, rfl⟩
      rw [← hy857] at H
      have Ny857 := am hy857
      clear hy857
      replace H := Option.bind_eq_some_iff.mp H
      obtain ⟨t861, A140, H⟩ := H
      replace H : (if 0 ≤ (wrap64 (t851 + 1)) then (if (wrap64 (t851 + 1)) ≤ (x5_1.length : Int) then ((some (x5_1.drop ((wrap64 (t851 + 1)) : Int).toNat : List ByteArray)).bind fun y864 => (if t861.length + y864.length < 8796093022208 then (spec_l1Cur_other.l0 k1 (t861 ++ y864) (wrap64 (x6_1 - 1)) s0_0 t855 t856) else (none))) else (none)) else (none)) = some (r1, r2, r3) := H
      have A14 := am A140
      clear A140
      obtain ⟨ji15, hji15⟩ : ∃ j_ : Int, (wrap64 (t851 + 1)) = j_ := ⟨_, rfl⟩
      rw [hji15] at H
      have hji15w : (IntKind.i64.wrap (t851 + 1)) = ji15 := (i64_w _).trans hji15
      obtain ⟨c16, H⟩ := itn H
      have c16b0 := eq_true c16
      have c16b1 := decide_eq_true c16
      clear c16
      obtain ⟨c17, H⟩ := itn H
      have c17b0 := eq_true c17
      have c17b1 := decide_eq_true c17
      clear c17
      obtain ⟨y864, hy864⟩ : ∃ y_ : List ByteArray, y_ = (x5_1.drop ((ji15) : Int).toNat) := ⟨_, rfl⟩
      replace H : (if t861.length + y864.length < 8796093022208 then (spec_l1Cur_other.l0 k1 (t861 ++ y864) (wrap64 (x6_1 - 1)) s0_0 t855 t856) else (none)) = some (r1, r2, r3) := by (have H2_ := (Option.bind_some _ _).symm.trans H; rw [hy864]; with_reducible exact H2_)
      have Ny864 := am hy864
      clear hy864
      obtain ⟨c18, H⟩ := itn H
      have LMc18 := am c18
      clear c18
      obtain ⟨y868, hy868⟩ : ∃ y_ : List ByteArray, y_ = (t861 ++ y864) := ⟨_, rfl⟩
      rw [← hy868] at H
      have Ny868 := am hy868
      clear hy868
      have H' := am H
      clear H
      obtain ⟨Ao19, co19, eo19⟩ := Kd.R_slice HO_5.out
      subst eo19
      try go_wp2_with (first | ((with_reducible refine gateC (f := 97) rfl ?_); refine goesL_ (some 21) rfl rfl Tryz.func97 (by kernel_rfl) rfl #[.pointer (some ⟨g, 0, none⟩), .int .i64 (wrap64 ((x5_1.length : Int) + 1))] rfl zm ?_; (with_reducible refine (spec_l1Cur_pick.calls g s0_0 x1001_1 x1002_1 (wrap64 ((x5_1.length : Int) + 1)) t851 t852 t853 w0 _ ?side1 ?side2 A8.out).mono ?_); (case side1 => exact zi); (case side2 => exact zj); rintro e w20 ⟨rfl, hi, hb, hk⟩; refine ⟨_, rfl, ?_⟩; replace HO_5 := am (Kd.R_mono (Kd.R_keep (IsS77.apart (show IsS77 w0 _ g s0_0 x1001_1 x1002_1 from zi) (zr HO_5.out) (by decide)) hk (fun _ h => h.2)) (fun _ h => h.1)); replace HK := am (KeepBut.trans zh hk (.inl rfl)); replace HB := am (hb); replace HI0 := am (hi); (try clear hb); (try clear hk); (try clear hi)) | ((with_reducible refine gateC (f := 97) rfl ?_); refine goesL_ (some 23) rfl rfl Tryz.func97 (by kernel_rfl) rfl #[.pointer (some ⟨g, 0, none⟩), .int .i64 3] rfl zm ?_; (with_reducible refine (spec_l1Cur_pick.calls g s0_0 t852 t853 3 t854 t855 t856 w0 _ ?side1 ?side2 A9.out).mono ?_); (case side1 => exact zi); (case side2 => exact zj); rintro e w21 ⟨rfl, hi, hb, hk⟩; refine ⟨_, rfl, ?_⟩; replace HO_5 := am (Kd.R_mono (Kd.R_keep (IsS77.apart (show IsS77 w0 _ g s0_0 t852 t853 from zi) (zr HO_5.out) (by decide)) hk (fun _ h => h.2)) (fun _ h => h.1)); replace HK := am (KeepBut.trans zh hk (.inl rfl)); replace HB := am (hb); replace HI0 := am (hi); (try clear hb); (try clear hk); (try clear hi)))
      replace HO_5 := am (Kd.R_drew HO_5.out)
      replace HI0 := am (IsS77.drew HI0.out)
      replace HK := am (keep_drew HK.out)
      replace HB := am (below_drew1 HB.out)
      have q23 : (t851 : Int) ≤ ((x5_1.length : Int) : Int) := oa
      obtain ⟨i023, hi023, _, hsz23, _⟩ := info_parts info9
      have hroom23 : x5_1.length ≤ co19 := (Kd.R_reads' HO_5.out).2.1
      have hC23 : Kd.C Kd.string _ Ao19 x5_1.length x5_1 := (Kd.R_reads' HO_5.out).2.2
      have hcut23 := cut_to (P := Tryz.prog) 24 9 .i64 Tryz.underlying24 hi023 Ao19 x5_1.length co19 t851 oa q23 hroom23
      have hr23 := Kd.C_take (m := (t851 : Int).toNat) hC23 (by omega)
      have hy23 : y857.length = (t851 : Int).toNat := (by rw [Ny857.out, List.length_take]; omega)
      rw [← Ny857.out] at hr23
      rw [← hy23] at hcut23
      have HR860 := am hr23
      have HC860 := am (show y857.length ≤ co19 from by omega)
      clear hr23 hC23 hroom23 hi023 hsz23
      have KY23 := am hy23
      clear hy23
      have KL23 := am (show (t851 : Int).toNat ≤ x5_1.length from by omega)
      replace q23 := eq_true q23
      refine start_ (n := 10) (S := fun w' => True) (ds := []) #[O,O,O,O,O,O,O,O,O,O] (by kernel_rfl) rfl rfl trivial (fun hHeld => ?_); refine with_tabW spec_l1Cur_other.tab11 spec_l1Cur_other.bits11 (fun HT_ HW_ => ?_)
      generalize w21.drew = w22 at HO_5 HI0 HK HB HR860 hHeld ⊢
      refine pu 0 (some 51) ?_
      refine pu 1 (some 52) ?_
      refine pu 2 (some 53) ?_
      refine pu 4 (some 55) ?_
      refine pu 5 (some 56) ?_
      refine pu 6 (some 57) ?_
      -- cut ahead
      have q25 : ((ji15) : Int) ≤ ((x5_1.length : Int) : Int) := oa
      obtain ⟨i025, hi025, _, hsz25, _⟩ := info_parts info9
      have hroom25 : x5_1.length ≤ co19 := (Kd.R_reads' HO_5.out).2.1
      have hC25 : Kd.C Kd.string _ Ao19 x5_1.length x5_1 := (Kd.R_reads' HO_5.out).2.2
      have q025 : (0 : Int) ≤ ((ji15) : Int) := oa
      have hcut25 := cut_from (P := Tryz.prog) 24 9 .i64 Tryz.underlying24 hi025 1 hsz25 Ao19 x5_1.length co19 (ji15) q025 q25
      obtain ⟨A25, hA25⟩ : ∃ A1, A1 = (if co19 = ((ji15) : Int).toNat then Ao19 else (Ao19 : Option Addr).map (·.add (((ji15) : Int).toNat * 1))) := ⟨_, rfl⟩
      obtain ⟨c25, hc25⟩ : ∃ c1, c1 = co19 - ((ji15) : Int).toNat := ⟨_, rfl⟩
      have hy25 : y864.length = x5_1.length - ((ji15) : Int).toNat := (by rw [Ny864.out, List.length_drop] <;> omega)
      rw [← hy25, ← hA25, ← hc25] at hcut25
      have HC867 := am (show y864.length ≤ c25 from by rw [hy25, hc25]; exact Nat.sub_le_sub_right hroom25 _)
      clear hC25 hroom25 hi025 hsz25 hc25
      have KY25 := am hy25
      have KA25 := am hA25
      clear hy25 hA25
      have KL25 := am (show ((ji15) : Int).toNat ≤ x5_1.length from by omega)
      replace q25 := eq_true q25
      refine pu 7 (some 58) ?_
      refine one_ (i := 3) (N := some 54) #[Y,Y,Y,Y,Y,Y,Y,Y,O,O] rfl rfl (one_of HT_.out (by kernel_rfl)) (by decide) (fun K hK => ?_)
      refine goes_ Tryz.func48 (by kernel_rfl) rfl #[.slice Ao19 y857.length co19] (by rfl) rfl rfl zm ?_
      with_reducible refine (spec_l1OwnT.calls _ _ y857 t861 _ ?side1 ?side2 A14.out).mono ?_
      (case side1 => repeat (exact (by repeat ((with_reducible exact HR860.out)))))
      (case side2 => exact HC860.out)
      rintro e w24 ⟨v862, rfl, ho0, hb⟩
      refine ⟨_, rfl, ?_⟩
      have HO863 := am (Kd.R_lower (Kd.R_new' ho0 (Kd.R_lt (zr HO_5.out))) (keep_size (w := w) (g := g) (row := none) zh))
      replace HO_5 := am (Kd.R_elder' (zr HO_5.out) (Kd.R_base ho0) hb)
      replace HR860 := am (Kd.C_below (by repeat ((with_reducible exact HR860.out))) hb)
      replace HK := am (KeepBut.trans zh (KeepBut.of_below hb g none) (.inl rfl))
      replace HB := am (below_step zj hb)
      replace HI0 := am (IsS77.below zi hb)
      (try clear hb)
      (try clear ho0)
      have hr25 := Kd.C_drop (m := ((ji15) : Int).toNat) (c := co19) (Kd.R_reads' HO_5.out).2.2 (by have := KL25.out; omega) (Kd.R_reads' HO_5.out).2.1
      rw [show (x5_1).drop ((ji15) : Int).toNat = y864 from Ny864.out.symm] at hr25
      replace hr25 : Kd.C Kd.string _ A25 y864.length y864 := (by rw [KA25.out]; exact hr25)
      have HR867 := am hr25
      clear hr25
      refine hK.out _ _ trivial (fun hHeld => ?_)
      clear hK K
      refine norm_ (a' := ?_) ?_ ?_
      rotate_left
      ·show Act.put _ (some 54) _ = _
       simp only [Act.put,qa,qb,qc,i64_w,i32_w]
       rfl
      refine one_ (i := 8) (N := some 59) #[Y,Y,Y,Y,Y,Y,Y,Y,Y,O] rfl rfl (one_of HT_.out (by kernel_rfl)) (by decide) (fun K hK => ?_)
      refine Kd.R_append_rows_step Kd.string w.heap.size (by rfl) (.tmp 54) (.tmp 58) 24 9 (.string ⟨#[]⟩) 16 rfl Tryz.underlying24 info9 rfl (by decide) (by omega) v862 t861 y864 _ _ _ (fun k_ => some k_ ≠ (.slice Ao19 x5_1.length co19 : Value).ownBlock) (fun _ => False) rfl rfl ?aO ?aR (fun _ _ h => h) (fun _ h => h.elim) ?aF (Below.refl _ _) ?aS ?aL ?_
      (case aR => repeat (exact (by repeat (exact HR867.out))))
      (case aF => exact (fun k_ hk => Kd.fresh' (Kd.R_lt (zr HO_5.out)) k_ hk))
      (case aO => exact (by exact Kd.R_mono HO863.out (fun _ hk => hk.2)))
      (case aS => exact (keep_size (w := w) (g := g) (row := none) zh))
      (case aL => have := LMc18.out; omega)
      intro v869 w26 ho hb hg hat
      rw [← Ny868.out] at ho
      replace HB := am (below_weaken zj HL.out hb)
      replace HI0 := am (IsS77.grown zi hg (IsS77.own_ne HI0.out HO863.out (by decide)))
      replace HK := am (KeepBut.trans zh (KeepBut.of_grown hg g) (Kd.R_base2 HO863.out))
      replace HR860 := am ((show Kd.C Kd.string w26 Ao19 y857.length y857 from by rw [Ny857.out]; exact Kd.C_take (m := (t851 : Int).toNat) ((Kd.R_reads' (Kd.R_after (ok := (fun _ => True)) (zr HO_5.out) hg hat)).2.2) KL23.out))
      replace HR867 := am ((show Kd.C Kd.string w26 A25 y864.length y864 from by rw [Ny864.out, KA25.out]; exact Kd.C_drop (m := ((ji15) : Int).toNat) (c := co19) ((Kd.R_reads' (Kd.R_after (ok := (fun _ => True)) (zr HO_5.out) hg hat)).2.2) KL25.out ((Kd.R_reads' (Kd.R_after (ok := (fun _ => True)) (zr HO_5.out) hg hat)).2.1)))
      replace HO_5 := am (Kd.R_after (ok := (fun _ => True)) (zr HO_5.out) hg hat)
      have HO870 := am (ho)
      clear HO863
      clear ho hb hg hat
      refine hK.out _ _ trivial (fun hHeld => ?_)
      clear hK K
      refine norm_ (a' := ?_) ?_ ?_
      rotate_left
      ·show Act.put _ (some 59) _ = _
       simp only [Act.put,qa,qb,qc,i64_w,i32_w]
       rfl
      refine pu 9 (some 5) ?_
      refine done_ (done_of HT_.out (by kernel_rfl)) ?_
      try go_wp2
      go_roundg k1
      case measure => have := HK1.out; omega
      case rel => exact ⟨(y868), (wrap64 (x6_1 - 1)), (t855), (t856), zf, H', ⟨by have := HK1.out; omega⟩, ⟨by exact Kd.R_mono HO870.out (fun _ hk => trivial)⟩, ⟨by repeat ((with_reducible exact HI0.out))⟩, ⟨by repeat ((with_reducible exact HK.out))⟩, ⟨by repeat ((with_reducible exact HB.out))⟩⟩
     ·rw [if_neg c11] at H
      have c11b0 : decide (t851 < (x5_1.length : Int)) = false := decide_eq_false c11
      clear c11
      have H' := am H
      clear H
      obtain ⟨Ao27, co27, eo27⟩ := Kd.R_slice HO_5.out
      subst eo27
      go_wp2_with (first | ((with_reducible refine gateC (f := 97) rfl ?_); refine goesL_ (some 21) rfl rfl Tryz.func97 (by kernel_rfl) rfl #[.pointer (some ⟨g, 0, none⟩), .int .i64 (wrap64 ((x5_1.length : Int) + 1))] rfl zm ?_; (with_reducible refine (spec_l1Cur_pick.calls g s0_0 x1001_1 x1002_1 (wrap64 ((x5_1.length : Int) + 1)) t851 t852 t853 w0 _ ?side1 ?side2 A8.out).mono ?_); (case side1 => exact zi); (case side2 => exact zj); rintro e w28 ⟨rfl, hi, hb, hk⟩; refine ⟨_, rfl, ?_⟩; replace HO_5 := am (Kd.R_mono (Kd.R_keep (IsS77.apart (show IsS77 w0 _ g s0_0 x1001_1 x1002_1 from zi) (zr HO_5.out) (by decide)) hk (fun _ h => h.2)) (fun _ h => h.1)); replace HK := am (KeepBut.trans zh hk (.inl rfl)); replace HB := am (hb); replace HI0 := am (hi); (try clear hb); (try clear hk); (try clear hi)) | ((with_reducible refine gateC (f := 97) rfl ?_); refine goesL_ (some 23) rfl rfl Tryz.func97 (by kernel_rfl) rfl #[.pointer (some ⟨g, 0, none⟩), .int .i64 3] rfl zm ?_; (with_reducible refine (spec_l1Cur_pick.calls g s0_0 t852 t853 3 t854 t855 t856 w0 _ ?side1 ?side2 A9.out).mono ?_); (case side1 => exact zi); (case side2 => exact zj); rintro e w29 ⟨rfl, hi, hb, hk⟩; refine ⟨_, rfl, ?_⟩; replace HO_5 := am (Kd.R_mono (Kd.R_keep (IsS77.apart (show IsS77 w0 _ g s0_0 t852 t853 from zi) (zr HO_5.out) (by decide)) hk (fun _ h => h.2)) (fun _ h => h.1)); replace HK := am (KeepBut.trans zh hk (.inl rfl)); replace HB := am (hb); replace HI0 := am (hi); (try clear hb); (try clear hk); (try clear hi)))
      go_roundg k1
      case measure => have := HK1.out; omega
      case rel => exact ⟨(x5_1), (wrap64 (x6_1 - 1)), (t855), (t856), zf, H', ⟨by have := HK1.out; omega⟩, ⟨zr HO_5.out⟩, ⟨by repeat ((with_reducible exact HI0.out))⟩, ⟨by repeat ((with_reducible exact HK.out))⟩, ⟨by repeat ((with_reducible exact HB.out))⟩⟩
    ·rw [if_neg c10] at H
     have c10b0 : (t854 == 0) = false := beq_eq_false_iff_ne.mpr c10
     have c10b1 : (t854 != 0) = true := bne_iff_ne.mpr c10
     by_cases c30 : t854 = 1
     ·rw [if_pos c30] at H
      have c30b0 : (t854 == 1) = true := beq_iff_eq.mpr c30
      have c30b1 : (t854 != 1) = false := bne_eq_false_iff_eq.mpr c30
      clear c30
      by_cases c31 : t851 < (x5_1.length : Int)
      ·rw [if_pos c31] at H
       have c31b0 : decide (t851 < (x5_1.length : Int)) = true := decide_eq_true c31
       clear c31
       obtain ⟨c32, H⟩ := itn H
       have c32b0 := decide_eq_true c32
       clear c32
       replace H := Option.bind_eq_some_iff.mp H
       obtain ⟨t872, A330, H⟩ := H
       replace H : (if t872 = true then ((spec_l1Cur_line.f s0_0 t855 t856).bind fun bt873 => (if bt873.1.size + 1 ≤ 9223372036854775807 then (spec_l1Cur_other.l0 k1 (x5_1.set (t851 : Int).toNat (bt873.1 ++ (⟨#[10]⟩ : ByteArray))) (wrap64 (x6_1 - 1)) s0_0 bt873.2.1 bt873.2.2) else (none))) else (spec_l1Cur_other.l0 k1 x5_1 (wrap64 (x6_1 - 1)) s0_0 t855 t856)) = some (r1, r2, r3) := H
       have A33 := am A330
       clear A330
       by_cases c34 : t872 = true
       ·subst c34
        rw [if_pos rfl] at H
        replace H := Option.bind_eq_some_iff.mp H
        obtain ⟨⟨t873, t874, t875⟩, A350, H⟩ := H
        dsimp only at H
        have A35 := am A350
        clear A350
        obtain ⟨c36, H⟩ := itn H
        have c36b0 := eq_true c36
        have c36b1 := decide_eq_true c36
        try have c36b2 : (9223372036854775807 < t873.size + 1) = False := eq_false (Nat.not_lt.2 c36)
        obtain ⟨y876, hy876⟩ : ∃ y_ : List ByteArray, y_ = (x5_1.set (t851 : Int).toNat (t873 ++ (⟨#[10]⟩ : ByteArray))) := ⟨_, rfl⟩
        rw [← hy876] at H
        have Ny876 := am hy876
        clear hy876
        have H' := am H
        clear H
        obtain ⟨Ao38, co38, eo38⟩ := Kd.R_slice HO_5.out
        subst eo38
        go_wp2_with (first | ((with_reducible refine gateC (f := 97) rfl ?_); refine goesL_ (some 21) rfl rfl Tryz.func97 (by kernel_rfl) rfl #[.pointer (some ⟨g, 0, none⟩), .int .i64 (wrap64 ((x5_1.length : Int) + 1))] rfl zm ?_; (with_reducible refine (spec_l1Cur_pick.calls g s0_0 x1001_1 x1002_1 (wrap64 ((x5_1.length : Int) + 1)) t851 t852 t853 w0 _ ?side1 ?side2 A8.out).mono ?_); (case side1 => exact zi); (case side2 => exact zj); rintro e w39 ⟨rfl, hi, hb, hk⟩; refine ⟨_, rfl, ?_⟩; replace HO_5 := am (Kd.R_mono (Kd.R_keep (IsS77.apart (show IsS77 w0 _ g s0_0 x1001_1 x1002_1 from zi) (zr HO_5.out) (by decide)) hk (fun _ h => h.2)) (fun _ h => h.1)); replace HK := am (KeepBut.trans zh hk (.inl rfl)); replace HB := am (hb); replace HI0 := am (hi); (try clear hb); (try clear hk); (try clear hi)) | ((with_reducible refine gateC (f := 97) rfl ?_); refine goesL_ (some 23) rfl rfl Tryz.func97 (by kernel_rfl) rfl #[.pointer (some ⟨g, 0, none⟩), .int .i64 3] rfl zm ?_; (with_reducible refine (spec_l1Cur_pick.calls g s0_0 t852 t853 3 t854 t855 t856 w0 _ ?side1 ?side2 A9.out).mono ?_); (case side1 => exact zi); (case side2 => exact zj); rintro e w40 ⟨rfl, hi, hb, hk⟩; refine ⟨_, rfl, ?_⟩; replace HO_5 := am (Kd.R_mono (Kd.R_keep (IsS77.apart (show IsS77 w0 _ g s0_0 t852 t853 from zi) (zr HO_5.out) (by decide)) hk (fun _ h => h.2)) (fun _ h => h.1)); replace HK := am (KeepBut.trans zh hk (.inl rfl)); replace HB := am (hb); replace HI0 := am (hi); (try clear hb); (try clear hk); (try clear hi); have p871 : 0 ≤ (t851 : Int) := oa; have q871 : t851 < (x5_1.length : Int) := oa; obtain ⟨ad871, e871, hx871_0⟩ := Kd.at_string (Kd.R_reads' HO_5.out).2.2 t851 p871 q871; cases e871; replace p871 := eq_true p871; replace q871 := eq_true q871) | (go_at_call 72; (with_reducible refine (spec_l1Ends.calls (rdOf ByteArray.empty x5_1 t851) true _ A33.out).mono ?_); rintro e w' ⟨rfl, ⟨nd, rfl⟩⟩; (try (rw [drewN_self w40]; generalize hq_ : World.drewN w40 _ = w40; have n0_ : Aside0 (Kd.R Kd.string 9 w40 w.heap.size (fun _ => True) (.slice (some ad871) x5_1.length co38) x5_1) := ⟨by rw [← hq_]; exact (zr HO_5.out)⟩; have n1_ : Aside0 (IsS77 w0 w40 g s0_0 t855 t856) := ⟨by rw [← hq_]; exact zi⟩; have n2_ : Aside0 (KeepBut w w40 g none) := ⟨by rw [← hq_]; exact zh⟩; have n3_ : Aside0 (Below w0.heap.size w0 w40) := ⟨by rw [← hq_]; exact zj⟩; clear HO_5 HI0 HK HB hq_; have HO_5 := n0_; have HI0 := n1_; have HK := n2_; have HB := n3_; clear n0_ n1_ n2_ n3_))) | ((with_reducible refine gateC (f := 120) rfl ?_); refine goesL_ (some 76) rfl rfl Tryz.func120 (by kernel_rfl) rfl #[.pointer (some ⟨g, 0, none⟩)] rfl zm ?_; (with_reducible refine (spec_l1Cur_line.calls g s0_0 t855 t856 t873 t874 t875 w0 _ ?side1 ?side2 A35.out).mono ?_); (case side1 => exact zi); (case side2 => exact zj); rintro e w41 ⟨rfl, hi, hb, hk⟩; refine ⟨_, rfl, ?_⟩; replace HO_5 := am (Kd.R_mono (Kd.R_keep (IsS77.apart (show IsS77 w0 _ g s0_0 t855 t856 from zi) (zr HO_5.out) (by decide)) hk (fun _ h => h.2)) (fun _ h => h.1)); replace HK := am (KeepBut.trans zh hk (.inl rfl)); replace HB := am (hb); replace HI0 := am (hi); (try clear hb); (try clear hk); (try clear hi); have p37 : 0 ≤ (t851 : Int) := oa; have q37 : (t851 : Int) < ((x5_1.length : Int) : Int) := oa; obtain ⟨go37, co37, eo37, gb37, gl37, cl37, HG37⟩ := Kd.R_form HO_5.out (by omega); (cases eo37); have GB37 := am gb37; have GG37 := am HG37; clear gb37 gl37 HG37; (simp only [add_plain] at hx871_0); obtain ⟨hx37_0, hf37_0⟩ := Kd.R_celln (⟨#[]⟩ : ByteArray) HO_5.out (t851 : Int) p37 q37; replace p37 := eq_true p37; replace q37 := eq_true q37; obtain ⟨hy42_, hz42_⟩ := Kd.R_celln (⟨#[]⟩ : ByteArray) HO_5.out (t851 : Int) oa oa; have HP42 := Kd.R_putg HO_5.out (t851 : Int) (t873 ++ (⟨#[10]⟩ : ByteArray))) | ((with_reducible refine gate_store (t := 9) (p := 78) rfl ?_); refine store_event (t := 9) (p := 78) (v := ?vo_w43) (w1 := (w41.setCell ⟨go37, (t851 : Int).toNat, none⟩ (.string (t873 ++ (⟨#[10]⟩ : ByteArray))))) ?hg ?ho ?hn ?hr ?_; (case ho => rfl); (case hg => rfl); (case hn => rfl); (case hr => (go_simp; done)); intro w43 hw; have hg : w41.grownBy w43 (some go37) := (by rw [hw]; exact HP42.2); have hp_ : Kd.R Kd.string 9 w43 w.heap.size (fun _ => True) (.slice (some ⟨go37, 0, none⟩) x5_1.length co38) y876 := (by rw [hw, Ny876.out]; exact HP42.1); clear HP42; replace HI0 := am (IsS77.grown zi hg (IsS77.own_ne HI0.out HO_5.out (by decide))); replace HB := am ((by rw [hw]; exact below_set (HB.out) (Nat.le_trans HL.out GB37.out) : Below w0.heap.size w0 w43)); replace HK := am (KeepBut.trans zh (KeepBut.of_grown hg g) (Kd.R_base2 HO_5.out)); replace HO_5 := am (hp_); clear hg hw hp_))
        go_roundg k1
        case measure => have := HK1.out; omega
        case rel => exact ⟨(y876), (wrap64 (x6_1 - 1)), (t874), (t875), zf, H', ⟨by have := HK1.out; omega⟩, ⟨zr HO_5.out⟩, ⟨by repeat ((with_reducible exact HI0.out))⟩, ⟨by repeat ((with_reducible exact HK.out))⟩, ⟨by repeat ((with_reducible exact HB.out))⟩⟩
       ·replace c34 := Bool.eq_false_iff.mpr c34
        subst c34
        rw [if_neg nofun] at H
        have H' := am H
        clear H
        obtain ⟨Ao44, co44, eo44⟩ := Kd.R_slice HO_5.out
        subst eo44
        go_wp2_with (first | ((with_reducible refine gateC (f := 97) rfl ?_); refine goesL_ (some 21) rfl rfl Tryz.func97 (by kernel_rfl) rfl #[.pointer (some ⟨g, 0, none⟩), .int .i64 (wrap64 ((x5_1.length : Int) + 1))] rfl zm ?_; (with_reducible refine (spec_l1Cur_pick.calls g s0_0 x1001_1 x1002_1 (wrap64 ((x5_1.length : Int) + 1)) t851 t852 t853 w0 _ ?side1 ?side2 A8.out).mono ?_); (case side1 => exact zi); (case side2 => exact zj); rintro e w45 ⟨rfl, hi, hb, hk⟩; refine ⟨_, rfl, ?_⟩; replace HO_5 := am (Kd.R_mono (Kd.R_keep (IsS77.apart (show IsS77 w0 _ g s0_0 x1001_1 x1002_1 from zi) (zr HO_5.out) (by decide)) hk (fun _ h => h.2)) (fun _ h => h.1)); replace HK := am (KeepBut.trans zh hk (.inl rfl)); replace HB := am (hb); replace HI0 := am (hi); (try clear hb); (try clear hk); (try clear hi)) | ((with_reducible refine gateC (f := 97) rfl ?_); refine goesL_ (some 23) rfl rfl Tryz.func97 (by kernel_rfl) rfl #[.pointer (some ⟨g, 0, none⟩), .int .i64 3] rfl zm ?_; (with_reducible refine (spec_l1Cur_pick.calls g s0_0 t852 t853 3 t854 t855 t856 w0 _ ?side1 ?side2 A9.out).mono ?_); (case side1 => exact zi); (case side2 => exact zj); rintro e w46 ⟨rfl, hi, hb, hk⟩; refine ⟨_, rfl, ?_⟩; replace HO_5 := am (Kd.R_mono (Kd.R_keep (IsS77.apart (show IsS77 w0 _ g s0_0 t852 t853 from zi) (zr HO_5.out) (by decide)) hk (fun _ h => h.2)) (fun _ h => h.1)); replace HK := am (KeepBut.trans zh hk (.inl rfl)); replace HB := am (hb); replace HI0 := am (hi); (try clear hb); (try clear hk); (try clear hi); have p871 : 0 ≤ (t851 : Int) := oa; have q871 : t851 < (x5_1.length : Int) := oa; obtain ⟨ad871, e871, hx871_0⟩ := Kd.at_string (Kd.R_reads' HO_5.out).2.2 t851 p871 q871; cases e871; replace p871 := eq_true p871; replace q871 := eq_true q871) | (go_at_call 72; (with_reducible refine (spec_l1Ends.calls (rdOf ByteArray.empty x5_1 t851) false _ A33.out).mono ?_); rintro e w' ⟨rfl, ⟨nd, rfl⟩⟩))
        go_roundg k1
        case measure => have := HK1.out; omega
        case rel => exact ⟨(x5_1), (wrap64 (x6_1 - 1)), (t855), (t856), zf, H', ⟨by have := HK1.out; omega⟩, ⟨zr HO_5.out⟩, ⟨by repeat ((with_reducible first | exact HI0.out | apply IsS77.drewN))⟩, ⟨by repeat ((with_reducible first | exact HK.out | apply keep_drewN))⟩, ⟨by repeat ((with_reducible first | exact HB.out | apply pw_below_drewN))⟩⟩
      ·rw [if_neg c31] at H
       have c31b0 : decide (t851 < (x5_1.length : Int)) = false := decide_eq_false c31
       clear c31
       have H' := am H
       clear H
       obtain ⟨Ao47, co47, eo47⟩ := Kd.R_slice HO_5.out
       subst eo47
       go_wp2_with (first | ((with_reducible refine gateC (f := 97) rfl ?_); refine goesL_ (some 21) rfl rfl Tryz.func97 (by kernel_rfl) rfl #[.pointer (some ⟨g, 0, none⟩), .int .i64 (wrap64 ((x5_1.length : Int) + 1))] rfl zm ?_; (with_reducible refine (spec_l1Cur_pick.calls g s0_0 x1001_1 x1002_1 (wrap64 ((x5_1.length : Int) + 1)) t851 t852 t853 w0 _ ?side1 ?side2 A8.out).mono ?_); (case side1 => exact zi); (case side2 => exact zj); rintro e w48 ⟨rfl, hi, hb, hk⟩; refine ⟨_, rfl, ?_⟩; replace HO_5 := am (Kd.R_mono (Kd.R_keep (IsS77.apart (show IsS77 w0 _ g s0_0 x1001_1 x1002_1 from zi) (zr HO_5.out) (by decide)) hk (fun _ h => h.2)) (fun _ h => h.1)); replace HK := am (KeepBut.trans zh hk (.inl rfl)); replace HB := am (hb); replace HI0 := am (hi); (try clear hb); (try clear hk); (try clear hi)) | ((with_reducible refine gateC (f := 97) rfl ?_); refine goesL_ (some 23) rfl rfl Tryz.func97 (by kernel_rfl) rfl #[.pointer (some ⟨g, 0, none⟩), .int .i64 3] rfl zm ?_; (with_reducible refine (spec_l1Cur_pick.calls g s0_0 t852 t853 3 t854 t855 t856 w0 _ ?side1 ?side2 A9.out).mono ?_); (case side1 => exact zi); (case side2 => exact zj); rintro e w49 ⟨rfl, hi, hb, hk⟩; refine ⟨_, rfl, ?_⟩; replace HO_5 := am (Kd.R_mono (Kd.R_keep (IsS77.apart (show IsS77 w0 _ g s0_0 t852 t853 from zi) (zr HO_5.out) (by decide)) hk (fun _ h => h.2)) (fun _ h => h.1)); replace HK := am (KeepBut.trans zh hk (.inl rfl)); replace HB := am (hb); replace HI0 := am (hi); (try clear hb); (try clear hk); (try clear hi)))
       go_roundg k1
       case measure => have := HK1.out; omega
       case rel => exact ⟨(x5_1), (wrap64 (x6_1 - 1)), (t855), (t856), zf, H', ⟨by have := HK1.out; omega⟩, ⟨zr HO_5.out⟩, ⟨by repeat ((with_reducible exact HI0.out))⟩, ⟨by repeat ((with_reducible exact HK.out))⟩, ⟨by repeat ((with_reducible exact HB.out))⟩⟩
     ·rw [if_neg c30] at H
      have c30b0 : (t854 == 1) = false := beq_eq_false_iff_ne.mpr c30
      have c30b1 : (t854 != 1) = true := bne_iff_ne.mpr c30
      have HC50 := am H
      clear H
      obtain ⟨Ao51, co51, eo51⟩ := Kd.R_slice HO_5.out
      subst eo51
      go_upto_region 7 with (first | ((with_reducible refine gateC (f := 97) rfl ?_); refine goesL_ (some 21) rfl rfl Tryz.func97 (by kernel_rfl) rfl #[.pointer (some ⟨g, 0, none⟩), .int .i64 (wrap64 ((x5_1.length : Int) + 1))] rfl zm ?_; (with_reducible refine (spec_l1Cur_pick.calls g s0_0 x1001_1 x1002_1 (wrap64 ((x5_1.length : Int) + 1)) t851 t852 t853 w0 _ ?side1 ?side2 A8.out).mono ?_); (case side1 => exact zi); (case side2 => exact zj); rintro e w52 ⟨rfl, hi, hb, hk⟩; refine ⟨_, rfl, ?_⟩; replace HO_5 := am (Kd.R_mono (Kd.R_keep (IsS77.apart (show IsS77 w0 _ g s0_0 x1001_1 x1002_1 from zi) (zr HO_5.out) (by decide)) hk (fun _ h => h.2)) (fun _ h => h.1)); replace HK := am (KeepBut.trans zh hk (.inl rfl)); replace HB := am (hb); replace HI0 := am (hi); (try clear hb); (try clear hk); (try clear hi)) | ((with_reducible refine gateC (f := 97) rfl ?_); refine goesL_ (some 23) rfl rfl Tryz.func97 (by kernel_rfl) rfl #[.pointer (some ⟨g, 0, none⟩), .int .i64 3] rfl zm ?_; (with_reducible refine (spec_l1Cur_pick.calls g s0_0 t852 t853 3 t854 t855 t856 w0 _ ?side1 ?side2 A9.out).mono ?_); (case side1 => exact zi); (case side2 => exact zj); rintro e w53 ⟨rfl, hi, hb, hk⟩; refine ⟨_, rfl, ?_⟩; replace HO_5 := am (Kd.R_mono (Kd.R_keep (IsS77.apart (show IsS77 w0 _ g s0_0 t852 t853 from zi) (zr HO_5.out) (by decide)) hk (fun _ h => h.2)) (fun _ h => h.1)); replace HK := am (KeepBut.trans zh hk (.inl rfl)); replace HB := am (hb); replace HI0 := am (hi); (try clear hb); (try clear hk); (try clear hi)))
      go_cut [31] (fun v31 wc => ∃ (kq : Nat) (x31_49 : Bool), v31 = .bool x31_49 ∧ Aside0 (spec_l1Cur_other.j1 kq x5_1 x6_1 t851 x31_49 s0_0 t855 t856 = some (r1, r2, r3)) ∧ Aside0 (kq ≤ k1) ∧ Aside0 (Kd.R Kd.string 9 wc w.heap.size (fun _ => True) (.slice Ao51 x5_1.length co51) x5_1) ∧ Aside0 (IsS77 w0 wc g s0_0 t855 t856) ∧ Aside0 (KeepBut w wc g none) ∧ Aside0 (Below w0.heap.size w0 wc))
      case first =>
       have H := HC50.out
       clear HC50
       by_cases c54 : t851 < (x5_1.length : Int)
       ·rw [if_pos c54] at H
        have c54b0 : decide (t851 < (x5_1.length : Int)) = true := decide_eq_true c54
        clear c54
        (skip)
        have H' := am H
        clear H
        go_wp2
        go_meet
        case rel => exact ⟨_, (true), zf, H', ⟨by have := HK1.out; omega⟩, ⟨zr HO_5.out⟩, ⟨by repeat ((with_reducible exact HI0.out))⟩, ⟨by repeat ((with_reducible exact HK.out))⟩, ⟨by repeat ((with_reducible exact HB.out))⟩⟩
       ·rw [if_neg c54] at H
        have c54b0 : decide (t851 < (x5_1.length : Int)) = false := decide_eq_false c54
        clear c54
        (skip)
        replace H := Option.bind_eq_some_iff.mp H
        obtain ⟨t877, A550, H⟩ := H
        replace H : (spec_l1Cur_other.j1 k1 x5_1 x6_1 t851 t877 s0_0 t855 t856) = some (r1, r2, r3) := H
        have A55 := am A550
        clear A550
        have H' := am H
        clear H
        go_wp2_with ((go_at_call 123; (with_reducible refine (spec_l1Whole.calls _ _ x5_1 t877 _ ?side1 ?side2 A55.out).mono ?_); (case side1 => repeat (exact (Kd.R_reads' HO_5.out).2.2)); (case side2 => exact (Kd.R_reads' HO_5.out).2.1); rintro e w' ⟨rfl, ⟨nd, rfl⟩⟩))
        go_meet
        case rel => exact ⟨_, (t877), zf, H', ⟨by have := HK1.out; omega⟩, ⟨zr HO_5.out⟩, ⟨by repeat ((with_reducible first | exact HI0.out | apply IsS77.drewN))⟩, ⟨by repeat ((with_reducible first | exact HK.out | apply keep_drewN))⟩, ⟨by repeat ((with_reducible first | exact HB.out | apply pw_below_drewN))⟩⟩
      case rest =>
       clear HC50
       try clear c7b0
       try clear c10
       try clear c10b0
       try clear c10b1
       try clear c30
       try clear c30b0
       try clear c30b1
       obtain ⟨kq, x31_49, rfl, HA, HJ49, HO_5, HI0, HK, HB⟩ := hcut
       cases kq with
       | zero => exact absurd HA.out (by simp [spec_l1Cur_other.j1])
       | succ kj49 =>
        have H := HA.out
        clear HA
        simp only [spec_l1Cur_other.j1] at H
        by_cases c56 : x31_49 = true
        ·subst c56
         rw [if_pos rfl] at H
         obtain ⟨c57, H⟩ := itn H
         have c57b0 := eq_true c57
         have c57b1 := decide_eq_true c57
         clear c57
         obtain ⟨c58, H⟩ := itn H
         have c58b0 := eq_true c58
         have c58b1 := decide_eq_true c58
         clear c58
         obtain ⟨y878, hy878⟩ : ∃ y_ : List ByteArray, y_ = (x5_1.take (t851 : Int).toNat) := ⟨_, rfl⟩
         rw [← hy878] at H
         have Ny878 := am hy878
         clear hy878
         replace H := Option.bind_eq_some_iff.mp H
         obtain ⟨t882, A590, H⟩ := H
         replace H : ((spec_l1Cur_line.f s0_0 t855 t856).bind fun bt885 => (if bt885.1.size + 1 ≤ 9223372036854775807 then (if t882.length < 8796093022208 then ((some (t882 ++ [bt885.1 ++ (⟨#[10]⟩ : ByteArray)] : List ByteArray)).bind fun y888 => ((some (x5_1.drop (t851 : Int).toNat : List ByteArray)).bind fun y891 => (if y888.length + y891.length < 8796093022208 then (spec_l1Cur_other.l0 kj49 (y888 ++ y891) (wrap64 (x6_1 - 1)) s0_0 bt885.2.1 bt885.2.2) else (none)))) else (none)) else (none))) = some (r1, r2, r3) := H
         have A59 := am A590
         clear A590
         replace H := Option.bind_eq_some_iff.mp H
         obtain ⟨⟨t885, t886, t887⟩, A600, H⟩ := H
         dsimp only at H
         have A60 := am A600
         clear A600
         obtain ⟨c61, H⟩ := itn H
         have c61b0 := eq_true c61
         have c61b1 := decide_eq_true c61
         try have c61b2 : (9223372036854775807 < t885.size + 1) = False := eq_false (Nat.not_lt.2 c61)
         obtain ⟨c62, H⟩ := itn H
         have LMc62 := am c62
         clear c62
         obtain ⟨y888, hy888⟩ : ∃ y_ : List ByteArray, y_ = (t882 ++ [t885 ++ (⟨#[10]⟩ : ByteArray)]) := ⟨_, rfl⟩
         replace H : ((some (x5_1.drop (t851 : Int).toNat : List ByteArray)).bind fun y891 => (if y888.length + y891.length < 8796093022208 then (spec_l1Cur_other.l0 kj49 (y888 ++ y891) (wrap64 (x6_1 - 1)) s0_0 t886 t887) else (none))) = some (r1, r2, r3) := by (have H2_ := (Option.bind_some _ _).symm.trans H; rw [hy888]; with_reducible exact H2_)
         have Ny888 := am hy888
         clear hy888
         have c63b0 := eq_true (oa : 0 ≤ t851)
         have c64b0 := eq_true (oa : t851 ≤ (x5_1.length : Int))
         obtain ⟨y891, hy891⟩ : ∃ y_ : List ByteArray, y_ = (x5_1.drop (t851 : Int).toNat) := ⟨_, rfl⟩
         replace H : (if y888.length + y891.length < 8796093022208 then (spec_l1Cur_other.l0 kj49 (y888 ++ y891) (wrap64 (x6_1 - 1)) s0_0 t886 t887) else (none)) = some (r1, r2, r3) := by (have H2_ := (Option.bind_some _ _).symm.trans H; rw [hy891]; with_reducible exact H2_)
         have Ny891 := am hy891
         clear hy891
         obtain ⟨c65, H⟩ := itn H
         have LMc65 := am c65
         clear c65
         obtain ⟨y895, hy895⟩ : ∃ y_ : List ByteArray, y_ = (y888 ++ y891) := ⟨_, rfl⟩
         rw [← hy895] at H
         have Ny895 := am hy895
         clear hy895
         have H' := am H
         clear H
         try go_wp2
         replace HO_5 := am (Kd.R_drew HO_5.out)
         replace HI0 := am (IsS77.drew HI0.out)
         replace HK := am (keep_drew HK.out)
         replace HB := am (below_drew1 HB.out)
         have q67 : (t851 : Int) ≤ ((x5_1.length : Int) : Int) := oa
         obtain ⟨i067, hi067, _, hsz67, _⟩ := info_parts info9
         have hroom67 : x5_1.length ≤ co51 := (Kd.R_reads' HO_5.out).2.1
         have hC67 : Kd.C Kd.string _ Ao51 x5_1.length x5_1 := (Kd.R_reads' HO_5.out).2.2
         have hcut67 := cut_to (P := Tryz.prog) 24 9 .i64 Tryz.underlying24 hi067 Ao51 x5_1.length co51 t851 oa q67 hroom67
         have hr67 := Kd.C_take (m := (t851 : Int).toNat) hC67 (by omega)
         have hy67 : y878.length = (t851 : Int).toNat := (by rw [Ny878.out, List.length_take]; omega)
         rw [← Ny878.out] at hr67
         rw [← hy67] at hcut67
         have HR881 := am hr67
         have HC881 := am (show y878.length ≤ co51 from by omega)
         clear hr67 hC67 hroom67 hi067 hsz67
         have KY67 := am hy67
         clear hy67
         have KL67 := am (show (t851 : Int).toNat ≤ x5_1.length from by omega)
         replace q67 := eq_true q67
         refine start_ (n := 14) (S := fun w' => True) (ds := []) #[O,O,O,O,O,O,O,O,O,O,O,O,O,O] (by kernel_rfl) rfl rfl trivial (fun hHeld => ?_); refine with_tabW spec_l1Cur_other.tab8 spec_l1Cur_other.bits8 (fun HT_ HW_ => ?_)
         generalize wc.drew = w66 at HO_5 HI0 HK HB HR881 hHeld ⊢
         refine pu 0 (some 32) ?_
         refine pu 1 (some 33) ?_
         refine pu 2 (some 34) ?_
         refine pu 4 (some 36) ?_
         refine pu 9 (some 41) ?_
         refine pu 10 (some 42) ?_
         -- cut ahead
         have q71 : (t851 : Int) ≤ ((x5_1.length : Int) : Int) := oa
         obtain ⟨i071, hi071, _, hsz71, _⟩ := info_parts info9
         have hroom71 : x5_1.length ≤ co51 := (Kd.R_reads' HO_5.out).2.1
         have hC71 : Kd.C Kd.string _ Ao51 x5_1.length x5_1 := (Kd.R_reads' HO_5.out).2.2
         have q071 : (0 : Int) ≤ (t851 : Int) := oa
         have hcut71 := cut_from (P := Tryz.prog) 24 9 .i64 Tryz.underlying24 hi071 1 hsz71 Ao51 x5_1.length co51 t851 q071 q71
         obtain ⟨A71, hA71⟩ : ∃ A1, A1 = (if co51 = (t851 : Int).toNat then Ao51 else (Ao51 : Option Addr).map (·.add ((t851 : Int).toNat * 1))) := ⟨_, rfl⟩
         obtain ⟨c71, hc71⟩ : ∃ c1, c1 = co51 - (t851 : Int).toNat := ⟨_, rfl⟩
         have hy71 : y891.length = x5_1.length - (t851 : Int).toNat := (by rw [Ny891.out, List.length_drop] <;> omega)
         rw [← hy71, ← hA71, ← hc71] at hcut71
         have HC894 := am (show y891.length ≤ c71 from by rw [hy71, hc71]; exact Nat.sub_le_sub_right hroom71 _)
         clear hC71 hroom71 hi071 hsz71 hc71
         have KY71 := am hy71
         have KA71 := am hA71
         clear hy71 hA71
         have KL71 := am (show (t851 : Int).toNat ≤ x5_1.length from by omega)
         replace q71 := eq_true q71
         refine pu 11 (some 43) ?_
         refine one_ (i := 3) (N := some 35) #[Y,Y,Y,Y,Y,O,O,O,O,Y,Y,Y,O,O] rfl rfl (one_of HT_.out (by kernel_rfl)) (by decide) (fun K hK => ?_)
         refine goes_ Tryz.func48 (by kernel_rfl) rfl #[.slice Ao51 y878.length co51] (by rfl) rfl rfl zm ?_
         with_reducible refine (spec_l1OwnT.calls _ _ y878 t882 _ ?side1 ?side2 A59.out).mono ?_
         (case side1 => repeat (exact (by repeat ((with_reducible exact HR881.out)))))
         (case side2 => exact HC881.out)
         rintro e w68 ⟨v883, rfl, ho0, hb⟩
         refine ⟨_, rfl, ?_⟩
         have HO884 := am (Kd.R_lower (Kd.R_new' ho0 (Kd.R_lt (zr HO_5.out))) (keep_size (w := w) (g := g) (row := none) zh))
         replace HO_5 := am (Kd.R_elder' (zr HO_5.out) (Kd.R_base ho0) hb)
         replace HR881 := am (Kd.C_below (by repeat ((with_reducible exact HR881.out))) hb)
         replace HK := am (KeepBut.trans zh (KeepBut.of_below hb g none) (.inl rfl))
         replace HB := am (below_step zj hb)
         replace HI0 := am (IsS77.below zi hb)
         (try clear hb)
         (try clear ho0)
         refine hK.out _ _ trivial (fun hHeld => ?_)
         clear hK K
         refine norm_ (a' := ?_) ?_ ?_
         rotate_left
         ·show Act.put _ (some 35) _ = _
          simp only [Act.put,qa,qb,qc,i64_w,i32_w]
          rfl
         refine one_ (i := 5) (N := some 37) #[Y,Y,Y,Y,Y,Y,O,O,O,Y,Y,Y,O,O] rfl rfl (one_of HT_.out (by kernel_rfl)) (by decide) (fun K hK => ?_)
         refine goes_ Tryz.func120 (by kernel_rfl) rfl #[.pointer (some ⟨g, 0, none⟩)] (by rfl) rfl rfl zm ?_
         with_reducible refine (spec_l1Cur_line.calls g s0_0 t855 t856 t885 t886 t887 w0 _ ?side1 ?side2 A60.out).mono ?_
         (case side1 => exact zi)
         (case side2 => exact zj)
         rintro e w69 ⟨rfl, hi, hb, hk⟩
         refine ⟨_, rfl, ?_⟩
         replace HO_5 := am (Kd.R_mono (Kd.R_keep (IsS77.apart (show IsS77 w0 _ g s0_0 t855 t856 from zi) (zr HO_5.out) (by decide)) hk (fun _ h => h.2)) (fun _ h => h.1))
         replace HO884 := am (Kd.R_mono (Kd.R_keep (IsS77.apart (show IsS77 w0 _ g s0_0 t855 t856 from zi) (zr HO884.out) (by decide)) hk (fun _ h => h.2)) (fun _ h => h.1))
         replace HK := am (KeepBut.trans zh hk (.inl rfl))
         replace HB := am (hb)
         replace HI0 := am (hi)
         (try clear hb)
         (try clear hk)
         (try clear hi)
         refine hK.out _ _ trivial (fun hHeld => ?_)
         clear hK K
         refine norm_ (a' := ?_) ?_ ?_
         rotate_left
         ·show Act.put _ (some 37) _ = _
          simp only [Act.put,qa,qb,qc,i64_w,i32_w]
          rfl
         refine pu 6 (some 38) ?_
         refine one_ (i := 7) (N := some 39) #[Y,Y,Y,Y,Y,Y,Y,Y,O,Y,Y,Y,O,O] rfl rfl (one_of HT_.out (by kernel_rfl)) (by decide) (fun K hK => ?_)
         refine value_ (w1 := ?_) (v := ?_) (by rfl) rfl ?_ ?_
         rotate_left 2
         ·go_simp
          constructor
          ·rfl
          ·rfl
         refine hK.out _ _ trivial (fun hHeld => ?_)
         clear hK K
         refine norm_ (a' := ?_) ?_ ?_
         rotate_left
         ·show Act.put _ (some 39) _ = _
          simp only [Act.put,qa,qb,qc,i64_w,i32_w]
          rfl
         refine one_ (i := 8) (N := some 40) #[Y,Y,Y,Y,Y,Y,Y,Y,Y,Y,Y,Y,O,O] rfl rfl (one_of HT_.out (by kernel_rfl)) (by decide) (fun K hK => ?_)
         refine Kd.R_append_step Kd.string w.heap.size (by rfl) (.tmp 35) (.tmp 39) 24 9 (.string ⟨#[]⟩) 16 rfl Tryz.underlying24 info9 rfl (by decide) (by omega) v883 t882 (t885 ++ (⟨#[10]⟩ : ByteArray)) [.string (t885 ++ (⟨#[10]⟩ : ByteArray))] (fun k_ => some k_ ≠ (.slice Ao51 x5_1.length co51 : Value).ownBlock) (fun _ => False) rfl rfl ?aP (fun _ hk => hk.elim) ?aF ?aO (Below.refl _ _) ?aS ?aL ?_
         (case aP => exact rfl)
         (case aF => exact (fun k_ hk => Kd.fresh' (Kd.R_lt (zr HO_5.out)) k_ hk))
         (case aO => exact (by exact Kd.R_mono HO884.out (fun _ hk => hk.2)))
         (case aS => exact (keep_size (w := w) (g := g) (row := none) zh))
         (case aL => have := LMc62.out; omega)
         intro v889 w70 ho hb hg hat
         rw [← Ny888.out] at ho
         replace HO_5 := am (Kd.R_after (ok := (fun _ => True)) (zr HO_5.out) hg hat)
         replace HB := am (below_weaken zj HL.out hb)
         replace HI0 := am (IsS77.grown zi hg (IsS77.own_ne HI0.out HO884.out (by decide)))
         replace HK := am (KeepBut.trans zh (KeepBut.of_grown hg g) (Kd.R_base2 HO884.out))
         have HO890 := am (ho)
         clear HO884
         clear ho hb hg hat
         have hr71 := Kd.C_drop (m := (t851 : Int).toNat) (c := co51) (Kd.R_reads' HO_5.out).2.2 (by have := KL71.out; omega) (Kd.R_reads' HO_5.out).2.1
         rw [show (x5_1).drop (t851 : Int).toNat = y891 from Ny891.out.symm] at hr71
         replace hr71 : Kd.C Kd.string _ A71 y891.length y891 := (by rw [KA71.out]; exact hr71)
         have HR894 := am hr71
         clear hr71
         refine hK.out _ _ trivial (fun hHeld => ?_)
         clear hK K
         refine norm_ (a' := ?_) ?_ ?_
         rotate_left
         ·show Act.put _ (some 40) _ = _
          simp only [Act.put,qa,qb,qc,i64_w,i32_w]
          rfl
         refine one_ (i := 12) (N := some 44) #[Y,Y,Y,Y,Y,Y,Y,Y,Y,Y,Y,Y,Y,O] rfl rfl (one_of HT_.out (by kernel_rfl)) (by decide) (fun K hK => ?_)
         refine Kd.R_append_rows_step Kd.string w.heap.size (by rfl) (.tmp 40) (.tmp 43) 24 9 (.string ⟨#[]⟩) 16 rfl Tryz.underlying24 info9 rfl (by decide) (by omega) v889 y888 y891 _ _ _ (fun k_ => some k_ ≠ (.slice Ao51 x5_1.length co51 : Value).ownBlock) (fun _ => False) rfl rfl ?aO ?aR (fun _ _ h => h) (fun _ h => h.elim) ?aF (Below.refl _ _) ?aS ?aL ?_
         (case aR => repeat (exact (by repeat (exact HR894.out))))
         (case aF => exact (fun k_ hk => Kd.fresh' (Kd.R_lt (zr HO_5.out)) k_ hk))
         (case aO => exact (zr HO890.out))
         (case aS => exact (keep_size (w := w) (g := g) (row := none) zh))
         (case aL => have := LMc65.out; omega)
         intro v896 w72 ho hb hg hat
         rw [← Ny895.out] at ho
         replace HB := am (below_weaken zj HL.out hb)
         replace HI0 := am (IsS77.grown zi hg (IsS77.own_ne HI0.out HO890.out (by decide)))
         replace HK := am (KeepBut.trans zh (KeepBut.of_grown hg g) (Kd.R_base2 HO890.out))
         replace HR894 := am ((show Kd.C Kd.string w72 A71 y891.length y891 from by rw [Ny891.out, KA71.out]; exact Kd.C_drop (m := (t851 : Int).toNat) (c := co51) ((Kd.R_reads' (Kd.R_after (ok := (fun _ => True)) (zr HO_5.out) hg hat)).2.2) KL71.out ((Kd.R_reads' (Kd.R_after (ok := (fun _ => True)) (zr HO_5.out) hg hat)).2.1)))
         replace HO_5 := am (Kd.R_after (ok := (fun _ => True)) (zr HO_5.out) hg hat)
         have HO897 := am (ho)
         clear HO890
         clear ho hb hg hat
         refine hK.out _ _ trivial (fun hHeld => ?_)
         clear hK K
         refine norm_ (a' := ?_) ?_ ?_
         rotate_left
         ·show Act.put _ (some 44) _ = _
          simp only [Act.put,qa,qb,qc,i64_w,i32_w]
          rfl
         refine pu 13 (some 5) ?_
         refine done_ (done_of HT_.out (by kernel_rfl)) ?_
         try go_wp2
         go_roundg kj49
         case measure => have := HK1.out; have := HJ49.out; omega
         case rel => exact ⟨(y895), (wrap64 (x6_1 - 1)), (t886), (t887), zf, H', ⟨by have := HK1.out; have := HJ49.out; omega⟩, ⟨by exact Kd.R_mono HO897.out (fun _ hk => trivial)⟩, ⟨by repeat ((with_reducible exact HI0.out))⟩, ⟨by repeat ((with_reducible exact HK.out))⟩, ⟨by repeat ((with_reducible exact HB.out))⟩⟩
        ·replace c56 := Bool.eq_false_iff.mpr c56
         subst c56
         rw [if_neg nofun] at H
         have H' := am H
         clear H
         go_wp2
         go_roundg kj49
         case measure => have := HK1.out; have := HJ49.out; omega
         case rel => exact ⟨(x5_1), (wrap64 (x6_1 - 1)), (t855), (t856), zf, H', ⟨by have := HK1.out; have := HJ49.out; omega⟩, ⟨zr HO_5.out⟩, ⟨by repeat ((with_reducible exact HI0.out))⟩, ⟨by repeat ((with_reducible exact HK.out))⟩, ⟨by repeat ((with_reducible exact HB.out))⟩⟩
   ·rw [if_neg c7] at H
    have c7b0 : decide (0 < x6_1) = false := decide_eq_false c7
    clear c7
    have HC73 := am H
    clear H
    go_upto_region 15 with (fail)
    go_cut [85] (fun v85 wc => ∃ (kq : Nat) (x85_72 : Bool) (x1001_72 : Int) (x1002_72 : Int), v85 = .bool x85_72 ∧ Aside0 (spec_l1Cur_other.j2 kq x5_1 x85_72 s0_0 x1001_72 x1002_72 = some (r1, r2, r3)) ∧ Aside0 (kq ≤ k1) ∧ Aside0 (Kd.R Kd.string 9 wc w.heap.size (fun _ => True) u5 x5_1) ∧ Aside0 (IsS77 w0 wc g s0_0 x1001_72 x1002_72) ∧ Aside0 (KeepBut w wc g none) ∧ Aside0 (Below w0.heap.size w0 wc))
    case first =>
     have H := HC73.out
     clear HC73
     by_cases c74 : (x5_1.length : Int) > 0
     ·rw [if_pos c74] at H
      have c74b0 : decide (0 < (x5_1.length : Int)) = true := decide_eq_true c74
      have c74b1 : decide (0 < x5_1.length) = true := decide_eq_true (by omega)
      clear c74
      (skip)
      replace H := Option.bind_eq_some_iff.mp H
      obtain ⟨⟨t898, t899, t900⟩, A750, H⟩ := H
      dsimp only at H
      have A75 := am A750
      clear A750
      have H' := am H
      clear H
      obtain ⟨Ao76, co76, eo76⟩ := Kd.R_slice HO_5.out
      subst eo76
      go_wp2_with ((go_at_call 98; (with_reducible refine (spec_l1Cur_one.calls g s0_0 x1001_1 x1002_1 6 t898 t899 t900 w0 _ ?side1 ?side2 A75.out).mono ?_); (case side1 => exact zi); (case side2 => exact zj); rintro e w77 ⟨rfl, hi, hb, hk⟩; replace HO_5 := am (Kd.R_mono (Kd.R_keep (IsS77.apart (show IsS77 w0 _ g s0_0 x1001_1 x1002_1 from zi) (zr HO_5.out) (by decide)) hk (fun _ h => h.2)) (fun _ h => h.1)); replace HK := am (KeepBut.trans zh hk (.inl rfl)); replace HB := am (hb); replace HI0 := am (hi); (try clear hb); (try clear hk); (try clear hi)))
      go_meet
      case rel => exact ⟨_, (t898), (t899), (t900), zf, H', ⟨by have := HK1.out; omega⟩, ⟨zr HO_5.out⟩, ⟨by repeat ((with_reducible exact HI0.out))⟩, ⟨by repeat ((with_reducible exact HK.out))⟩, ⟨by repeat ((with_reducible exact HB.out))⟩⟩
     ·rw [if_neg c74] at H
      have c74b0 : decide (0 < (x5_1.length : Int)) = false := decide_eq_false c74
      have c74b1 : decide (0 < x5_1.length) = false := decide_eq_false (by omega)
      clear c74
      (skip)
      have H' := am H
      clear H
      obtain ⟨Ao78, co78, eo78⟩ := Kd.R_slice HO_5.out
      subst eo78
      go_wp2
      go_meet
      case rel => exact ⟨_, (false), (x1001_1), (x1002_1), zf, H', ⟨by have := HK1.out; omega⟩, ⟨zr HO_5.out⟩, ⟨by repeat ((with_reducible exact HI0.out))⟩, ⟨by repeat ((with_reducible exact HK.out))⟩, ⟨by repeat ((with_reducible exact HB.out))⟩⟩
    case rest =>
     clear HC73
     try clear c7b0
     obtain ⟨kq, x85_72, x1001_72, x1002_72, rfl, HA, HJ72, HO_5, HI0, HK, HB⟩ := hcut
     cases kq with
     | zero => exact absurd HA.out (by simp [spec_l1Cur_other.j2])
     | succ kj72 =>
      have H := HA.out
      clear HA
      simp only [spec_l1Cur_other.j2] at H
      by_cases c79 : x85_72 = true
      ·subst c79
       rw [if_pos rfl] at H
       obtain ⟨ji80, hji80⟩ : ∃ j_ : Int, (wrap64 ((x5_1.length : Int) - 1)) = j_ := ⟨_, rfl⟩
       rw [hji80] at H
       have hji80w : (IntKind.i64.wrap ((x5_1.length : Int) - 1)) = ji80 := (i64_w _).trans hji80
       obtain ⟨c81, H⟩ := itn H
       have c81b0 := decide_eq_true c81
       clear c81
       obtain ⟨c82, H⟩ := itn H
       have c82b0 := decide_eq_true c82
       clear c82
       replace H := Option.bind_eq_some_iff.mp H
       obtain ⟨t902, A830, H⟩ := H
       replace H : ((spec_l1Ends.f (rdOf ByteArray.empty x5_1 (ji80))).bind fun t904 => (if t904 = true then (if t902.toList = ([] : List UInt8) then (some (x5_1, x1001_72, x1002_72)) else (some ((x5_1.set ((ji80) : Int).toNat t902), x1001_72, x1002_72))) else (if t902.size + 1 ≤ 9223372036854775807 then (some ((x5_1.set ((ji80) : Int).toNat (t902 ++ (⟨#[10]⟩ : ByteArray))), x1001_72, x1002_72)) else (none)))) = some (r1, r2, r3) := H
       have A83 := am A830
       clear A830
       replace H := Option.bind_eq_some_iff.mp H
       obtain ⟨t904, A840, H⟩ := H
       replace H : (if t904 = true then (if t902.toList = ([] : List UInt8) then (some (x5_1, x1001_72, x1002_72)) else (some ((x5_1.set ((ji80) : Int).toNat t902), x1001_72, x1002_72))) else (if t902.size + 1 ≤ 9223372036854775807 then (some ((x5_1.set ((ji80) : Int).toNat (t902 ++ (⟨#[10]⟩ : ByteArray))), x1001_72, x1002_72)) else (none))) = some (r1, r2, r3) := H
       have A84 := am A840
       clear A840
       by_cases c85 : t904 = true
       ·subst c85
        rw [if_pos rfl] at H
        by_cases c86 : t902.toList = ([] : List UInt8)
        ·rw [if_pos c86] at H
         have c86b0 : (t902.toList == ([] : List UInt8)) = true := beq_iff_eq.mpr c86
         have c86b1 : (t902.toList != ([] : List UInt8)) = false := bne_eq_false_iff_eq.mpr c86
         clear c86
         simp only [Option.some.injEq, Prod.mk.injEq] at H
         obtain ⟨rfl, rfl, rfl⟩ := H
         obtain ⟨Ao87, co87, eo87⟩ := Kd.R_slice HO_5.out
         subst eo87
         have p901 : 0 ≤ ((ji80) : Int) := oa
         have q901 : (ji80) < (x5_1.length : Int) := oa
         obtain ⟨ad901, e901, hx901_0⟩ := Kd.at_string (Kd.R_reads' HO_5.out).2.2 (ji80) p901 q901
         cases e901
         replace p901 := eq_true p901
         replace q901 := eq_true q901
         go_wp2_with (first | ((with_reducible refine gateC (f := 46) rfl ?_); refine goesL_ (some 92) rfl rfl Tryz.func46 (by kernel_rfl) rfl #[.string (rdOf ByteArray.empty x5_1 (ji80))] rfl (by (try simp only [List.map_toArray, List.map_cons, List.map_nil]); rfl) ?_; (with_reducible refine (spec_l1Plain.calls (rdOf ByteArray.empty x5_1 (ji80)) t902 _ A83.out).mono ?_); rintro e w' ⟨rfl, ⟨nd, rfl⟩⟩; refine ⟨_, rfl, ?_⟩; have p903 : 0 ≤ ((ji80) : Int) := oa; have q903 : (ji80) < (x5_1.length : Int) := oa; obtain ⟨ad903, e903, hx903_0⟩ := Kd.at_string (Kd.R_reads' HO_5.out).2.2 (ji80) p903 q903; obtain rfl : ad901 = ad903 := (by injection e903); replace p903 := eq_true p903; replace q903 := eq_true q903) | ((with_reducible refine gateC (f := 72) rfl ?_); refine goesL_ (some 100) rfl rfl Tryz.func72 (by kernel_rfl) rfl #[.string (rdOf ByteArray.empty x5_1 (ji80))] rfl (by (try simp only [List.map_toArray, List.map_cons, List.map_nil]); rfl) ?_; (with_reducible refine (spec_l1Ends.calls (rdOf ByteArray.empty x5_1 (ji80)) true _ A84.out).mono ?_); rintro e w' ⟨rfl, ⟨nd, rfl⟩⟩; refine ⟨_, rfl, ?_⟩))
         go_ret
         exact ⟨_, by rfl, zr HO_5.out, zi, zj, zh⟩
        ·rw [if_neg c86] at H
         have c86b0 : (t902.toList == ([] : List UInt8)) = false := beq_eq_false_iff_ne.mpr c86
         have c86b1 : (t902.toList != ([] : List UInt8)) = true := bne_iff_ne.mpr c86
         obtain ⟨y905, hy905⟩ : ∃ y_ : List ByteArray, y_ = (x5_1.set ((ji80) : Int).toNat t902) := ⟨_, rfl⟩
         rw [← hy905] at H
         have Ny905 := am hy905
         clear hy905
         simp only [Option.some.injEq, Prod.mk.injEq] at H
         obtain ⟨rfl, rfl, rfl⟩ := H
         obtain ⟨Ao89, co89, eo89⟩ := Kd.R_slice HO_5.out
         subst eo89
         have p901 : 0 ≤ ((ji80) : Int) := oa
         have q901 : (ji80) < (x5_1.length : Int) := oa
         obtain ⟨ad901, e901, hx901_0⟩ := Kd.at_string (Kd.R_reads' HO_5.out).2.2 (ji80) p901 q901
         cases e901
         replace p901 := eq_true p901
         replace q901 := eq_true q901
         go_wp2_with (first | ((with_reducible refine gateC (f := 46) rfl ?_); refine goesL_ (some 92) rfl rfl Tryz.func46 (by kernel_rfl) rfl #[.string (rdOf ByteArray.empty x5_1 (ji80))] rfl (by (try simp only [List.map_toArray, List.map_cons, List.map_nil]); rfl) ?_; (with_reducible refine (spec_l1Plain.calls (rdOf ByteArray.empty x5_1 (ji80)) t902 _ A83.out).mono ?_); rintro e w' ⟨rfl, ⟨nd, rfl⟩⟩; refine ⟨_, rfl, ?_⟩; (try (rw [drewN_self wc]; generalize hq_ : World.drewN wc _ = wc; have n0_ : Aside0 (Kd.R Kd.string 9 wc w.heap.size (fun _ => True) (.slice (some ad901) x5_1.length co89) x5_1) := ⟨by rw [← hq_]; exact (zr HO_5.out)⟩; have n1_ : Aside0 (IsS77 w0 wc g s0_0 x1001_72 x1002_72) := ⟨by rw [← hq_]; exact zi⟩; have n2_ : Aside0 (KeepBut w wc g none) := ⟨by rw [← hq_]; exact zh⟩; have n3_ : Aside0 (Below w0.heap.size w0 wc) := ⟨by rw [← hq_]; exact zj⟩; clear HO_5 HI0 HK HB hq_; have HO_5 := n0_; have HI0 := n1_; have HK := n2_; have HB := n3_; clear n0_ n1_ n2_ n3_)); have p903 : 0 ≤ ((ji80) : Int) := oa; have q903 : (ji80) < (x5_1.length : Int) := oa; obtain ⟨ad903, e903, hx903_0⟩ := Kd.at_string (Kd.R_reads' HO_5.out).2.2 (ji80) p903 q903; obtain rfl : ad901 = ad903 := (by injection e903); replace p903 := eq_true p903; replace q903 := eq_true q903) | ((with_reducible refine gateC (f := 72) rfl ?_); refine goesL_ (some 100) rfl rfl Tryz.func72 (by kernel_rfl) rfl #[.string (rdOf ByteArray.empty x5_1 (ji80))] rfl (by (try simp only [List.map_toArray, List.map_cons, List.map_nil]); rfl) ?_; (with_reducible refine (spec_l1Ends.calls (rdOf ByteArray.empty x5_1 (ji80)) true _ A84.out).mono ?_); rintro e w' ⟨rfl, ⟨nd, rfl⟩⟩; refine ⟨_, rfl, ?_⟩; (try (rw [drewN_self wc]; generalize hq_ : World.drewN wc _ = wc; have n0_ : Aside0 (Kd.R Kd.string 9 wc w.heap.size (fun _ => True) (.slice (some ad901) x5_1.length co89) x5_1) := ⟨by rw [← hq_]; exact (zr HO_5.out)⟩; have n1_ : Aside0 (IsS77 w0 wc g s0_0 x1001_72 x1002_72) := ⟨by rw [← hq_]; exact zi⟩; have n2_ : Aside0 (KeepBut w wc g none) := ⟨by rw [← hq_]; exact zh⟩; have n3_ : Aside0 (Below w0.heap.size w0 wc) := ⟨by rw [← hq_]; exact zj⟩; clear HO_5 HI0 HK HB hq_; have HO_5 := n0_; have HI0 := n1_; have HK := n2_; have HB := n3_; clear n0_ n1_ n2_ n3_)); have p88 : 0 ≤ ((ji80) : Int) := oa; have q88 : ((ji80) : Int) < ((x5_1.length : Int) : Int) := oa; obtain ⟨go88, co88, eo88, gb88, gl88, cl88, HG88⟩ := Kd.R_form HO_5.out (by omega); (cases eo88); have GB88 := am gb88; have GG88 := am HG88; clear gb88 gl88 HG88; (simp only [add_plain] at hx901_0); (simp only [add_plain] at hx903_0); obtain ⟨hx88_0, hf88_0⟩ := Kd.R_celln (⟨#[]⟩ : ByteArray) HO_5.out ((ji80) : Int) p88 q88; replace p88 := eq_true p88; replace q88 := eq_true q88; obtain ⟨hy90_, hz90_⟩ := Kd.R_celln (⟨#[]⟩ : ByteArray) HO_5.out ((ji80) : Int) oa oa; have HP90 := Kd.R_putg HO_5.out ((ji80) : Int) t902) | ((with_reducible refine gate_store (t := 9) (p := 117) rfl ?_); refine store_event (t := 9) (p := 117) (v := ?vo_w91) (w1 := (wc.setCell ⟨go88, ((ji80) : Int).toNat, none⟩ (.string t902))) ?hg ?ho ?hn ?hr ?_; (case ho => rfl); (case hg => rfl); (case hn => rfl); (case hr => (go_simp; done)); intro w91 hw; have hg : wc.grownBy w91 (some go88) := (by rw [hw]; exact HP90.2); have hp_ : Kd.R Kd.string 9 w91 w.heap.size (fun _ => True) (.slice (some ⟨go88, 0, none⟩) x5_1.length co89) y905 := (by rw [hw, Ny905.out]; exact HP90.1); clear HP90; replace HI0 := am (IsS77.grown zi hg (IsS77.own_ne HI0.out HO_5.out (by decide))); replace HB := am ((by rw [hw]; exact below_set (HB.out) (Nat.le_trans HL.out GB88.out) : Below w0.heap.size w0 w91)); replace HK := am (KeepBut.trans zh (KeepBut.of_grown hg g) (Kd.R_base2 HO_5.out)); replace HO_5 := am (hp_); clear hg hw hp_))
         go_ret
         exact ⟨_, by rfl, zr HO_5.out, zi, zj, zh⟩
       ·replace c85 := Bool.eq_false_iff.mpr c85
        subst c85
        rw [if_neg nofun] at H
        obtain ⟨c92, H⟩ := itn H
        have c92b0 := eq_true c92
        have c92b1 := decide_eq_true c92
        try have c92b2 : (9223372036854775807 < t902.size + 1) = False := eq_false (Nat.not_lt.2 c92)
        obtain ⟨y906, hy906⟩ : ∃ y_ : List ByteArray, y_ = (x5_1.set ((ji80) : Int).toNat (t902 ++ (⟨#[10]⟩ : ByteArray))) := ⟨_, rfl⟩
        rw [← hy906] at H
        have Ny906 := am hy906
        clear hy906
        simp only [Option.some.injEq, Prod.mk.injEq] at H
        obtain ⟨rfl, rfl, rfl⟩ := H
        obtain ⟨Ao94, co94, eo94⟩ := Kd.R_slice HO_5.out
        subst eo94
        have p901 : 0 ≤ ((ji80) : Int) := oa
        have q901 : (ji80) < (x5_1.length : Int) := oa
        obtain ⟨ad901, e901, hx901_0⟩ := Kd.at_string (Kd.R_reads' HO_5.out).2.2 (ji80) p901 q901
        cases e901
        replace p901 := eq_true p901
        replace q901 := eq_true q901
        go_wp2_with (first | ((with_reducible refine gateC (f := 46) rfl ?_); refine goesL_ (some 92) rfl rfl Tryz.func46 (by kernel_rfl) rfl #[.string (rdOf ByteArray.empty x5_1 (ji80))] rfl (by (try simp only [List.map_toArray, List.map_cons, List.map_nil]); rfl) ?_; (with_reducible refine (spec_l1Plain.calls (rdOf ByteArray.empty x5_1 (ji80)) t902 _ A83.out).mono ?_); rintro e w' ⟨rfl, ⟨nd, rfl⟩⟩; refine ⟨_, rfl, ?_⟩; (try (rw [drewN_self wc]; generalize hq_ : World.drewN wc _ = wc; have n0_ : Aside0 (Kd.R Kd.string 9 wc w.heap.size (fun _ => True) (.slice (some ad901) x5_1.length co94) x5_1) := ⟨by rw [← hq_]; exact (zr HO_5.out)⟩; have n1_ : Aside0 (IsS77 w0 wc g s0_0 x1001_72 x1002_72) := ⟨by rw [← hq_]; exact zi⟩; have n2_ : Aside0 (KeepBut w wc g none) := ⟨by rw [← hq_]; exact zh⟩; have n3_ : Aside0 (Below w0.heap.size w0 wc) := ⟨by rw [← hq_]; exact zj⟩; clear HO_5 HI0 HK HB hq_; have HO_5 := n0_; have HI0 := n1_; have HK := n2_; have HB := n3_; clear n0_ n1_ n2_ n3_)); have p903 : 0 ≤ ((ji80) : Int) := oa; have q903 : (ji80) < (x5_1.length : Int) := oa; obtain ⟨ad903, e903, hx903_0⟩ := Kd.at_string (Kd.R_reads' HO_5.out).2.2 (ji80) p903 q903; obtain rfl : ad901 = ad903 := (by injection e903); replace p903 := eq_true p903; replace q903 := eq_true q903) | ((with_reducible refine gateC (f := 72) rfl ?_); refine goesL_ (some 100) rfl rfl Tryz.func72 (by kernel_rfl) rfl #[.string (rdOf ByteArray.empty x5_1 (ji80))] rfl (by (try simp only [List.map_toArray, List.map_cons, List.map_nil]); rfl) ?_; (with_reducible refine (spec_l1Ends.calls (rdOf ByteArray.empty x5_1 (ji80)) false _ A84.out).mono ?_); rintro e w' ⟨rfl, ⟨nd, rfl⟩⟩; refine ⟨_, rfl, ?_⟩; (try (rw [drewN_self wc]; generalize hq_ : World.drewN wc _ = wc; have n0_ : Aside0 (Kd.R Kd.string 9 wc w.heap.size (fun _ => True) (.slice (some ad901) x5_1.length co94) x5_1) := ⟨by rw [← hq_]; exact (zr HO_5.out)⟩; have n1_ : Aside0 (IsS77 w0 wc g s0_0 x1001_72 x1002_72) := ⟨by rw [← hq_]; exact zi⟩; have n2_ : Aside0 (KeepBut w wc g none) := ⟨by rw [← hq_]; exact zh⟩; have n3_ : Aside0 (Below w0.heap.size w0 wc) := ⟨by rw [← hq_]; exact zj⟩; clear HO_5 HI0 HK HB hq_; have HO_5 := n0_; have HI0 := n1_; have HK := n2_; have HB := n3_; clear n0_ n1_ n2_ n3_)); have p93 : 0 ≤ ((ji80) : Int) := oa; have q93 : ((ji80) : Int) < ((x5_1.length : Int) : Int) := oa; obtain ⟨go93, co93, eo93, gb93, gl93, cl93, HG93⟩ := Kd.R_form HO_5.out (by omega); (cases eo93); have GB93 := am gb93; have GG93 := am HG93; clear gb93 gl93 HG93; (simp only [add_plain] at hx901_0); (simp only [add_plain] at hx903_0); obtain ⟨hx93_0, hf93_0⟩ := Kd.R_celln (⟨#[]⟩ : ByteArray) HO_5.out ((ji80) : Int) p93 q93; replace p93 := eq_true p93; replace q93 := eq_true q93; obtain ⟨hy95_, hz95_⟩ := Kd.R_celln (⟨#[]⟩ : ByteArray) HO_5.out ((ji80) : Int) oa oa; have HP95 := Kd.R_putg HO_5.out ((ji80) : Int) (t902 ++ (⟨#[10]⟩ : ByteArray))) | ((with_reducible refine gate_store (t := 9) (p := 108) rfl ?_); refine store_event (t := 9) (p := 108) (v := ?vo_w96) (w1 := (wc.setCell ⟨go93, ((ji80) : Int).toNat, none⟩ (.string (t902 ++ (⟨#[10]⟩ : ByteArray))))) ?hg ?ho ?hn ?hr ?_; (case ho => rfl); (case hg => rfl); (case hn => rfl); (case hr => (go_simp; done)); intro w96 hw; have hg : wc.grownBy w96 (some go93) := (by rw [hw]; exact HP95.2); have hp_ : Kd.R Kd.string 9 w96 w.heap.size (fun _ => True) (.slice (some ⟨go93, 0, none⟩) x5_1.length co94) y906 := (by rw [hw, Ny906.out]; exact HP95.1); clear HP95; replace HI0 := am (IsS77.grown zi hg (IsS77.own_ne HI0.out HO_5.out (by decide))); replace HB := am ((by rw [hw]; exact below_set (HB.out) (Nat.le_trans HL.out GB93.out) : Below w0.heap.size w0 w96)); replace HK := am (KeepBut.trans zh (KeepBut.of_grown hg g) (Kd.R_base2 HO_5.out)); replace HO_5 := am (hp_); clear hg hw hp_))
        go_ret
        exact ⟨_, by rfl, zr HO_5.out, zi, zj, zh⟩
      ·replace c79 := Bool.eq_false_iff.mpr c79
       subst c79
       rw [if_neg nofun] at H
       simp only [Option.some.injEq, Prod.mk.injEq] at H
       obtain ⟨rfl, rfl, rfl⟩ := H
       go_wp2
       go_ret
       exact ⟨_, by rfl, zr HO_5.out, zi, zj, zh⟩

def spec_l1Cur_text.l0 : Nat → List ByteArray → Int → List Int → Int → Int → Option (List ByteArray × Int × Int)
 | 0, _, _, _, _, _ => none
 | k + 1, x3, x4, x1000, x1001, x1002 => if x4 > 0 then ((spec_l1Cur_line.f x1000 x1001 x1002).bind fun bt550 => (if bt550.1.size + 1 ≤ 9223372036854775807 then (if x3.length < 8796093022208 then (spec_l1Cur_text.l0 k (x3 ++ [bt550.1 ++ (⟨#[10]⟩ : ByteArray)]) (wrap64 (x4 - 1)) x1000 bt550.2.1 bt550.2.2) else (none)) else (none))) else ((spec_l1Cur_one.f x1000 x1001 x1002 5).bind fun bt556 => (if bt556.1 = true then ((spec_l1Cur_of.f x1000 bt556.2.1 bt556.2.2 (([(⟨#[97]⟩ : ByteArray), (⟨#[101, 110, 100]⟩ : ByteArray), (⟨#[46]⟩ : ByteArray)] : List ByteArray))).bind fun bt562 => (if x3.length < 8796093022208 then (some ((x3 ++ [bt562.1]), bt562.2.1, bt562.2.2)) else (none))) else (some (x3, bt556.2.1, bt556.2.2))))
def spec_l1Cur_text.f (k : Nat) (s0_0 : List Int) (s0_1 : Int) (s0_2 : Int) : Option (List ByteArray × Int × Int) := (spec_l1Cur_pick.f s0_0 s0_1 s0_2 9).bind fun bt547 => (spec_l1Cur_text.l0 k ([] : List ByteArray) bt547.1 s0_0 bt547.2.1 bt547.2.2)
set_option maxHeartbeats 8000000 in
set_option maxRecDepth 100000 in
theorem spec_l1Cur_text.calls (k : Nat) (g : Nat) (s0_0 : List Int) (s0_1 : Int) (s0_2 : Int) (r1 : List ByteArray) (r2 : Int) (r3 : Int) (w0 w : World) (hI : IsS77 w0 w g s0_0 s0_1 s0_2) (hB : Below w0.heap.size w0 w) (h : spec_l1Cur_text.f k s0_0 s0_1 s0_2 = some (r1, r2, r3)) :
  Calls Tryz.prog 95 #[.pointer (some ⟨g, 0, none⟩)] w fun e w' => ∃ v0_ : Value, e = .returned (v0_) ∧ Kd.R Kd.string 9 w' w.heap.size (fun _ => True) v0_ r1 ∧ IsS77 w0 w' g s0_0 r2 r3 ∧ Below w0.heap.size w0 w' ∧ KeepBut w w' g none := by
 have HI0 := am hI
 have HK := am (KeepBut.refl w g none)
 have HL := am hB.size
 clear hI
 have HW0 := am hB.size
 have HB := am hB
 clear hB
 have H := h
 clear h
 unfold spec_l1Cur_text.f at H
 replace H := Option.bind_eq_some_iff.mp H
 obtain ⟨⟨t547, t548, t549⟩, A20, H⟩ := H
 dsimp only at H
 have A2 := am A20
 clear A20
 have H' := am H
 clear H
 go_enter Tryz.func95, Tryz.ntmps95
 go_wp2_with (((with_reducible refine gateC (f := 97) rfl ?_); refine goesL_ (some 6) rfl rfl Tryz.func97 (by kernel_rfl) rfl #[.pointer (some ⟨g, 0, none⟩), .int .i64 9] rfl zm ?_; (with_reducible refine (spec_l1Cur_pick.calls g s0_0 s0_1 s0_2 9 t547 t548 t549 w0 _ ?side1 ?side2 A2.out).mono ?_); (case side1 => exact zi); (case side2 => exact zj); rintro e w3 ⟨rfl, hi, hb, hk⟩; refine ⟨_, rfl, ?_⟩; replace HK := am (KeepBut.trans zh hk (.inl rfl)); replace HB := am (hb); replace HI0 := am (hi); (try clear hb); (try clear hk); (try clear hi)))
 go_loopg [3, 4] k (fun kq v3 v4 w' => ∃ (x3_1 : List ByteArray) (x4_1 : Int) (x1001_1 : Int) (x1002_1 : Int), v4 = .int .i64 x4_1 ∧ Aside0 (spec_l1Cur_text.l0 kq x3_1 x4_1 s0_0 x1001_1 x1002_1 = some (r1, r2, r3)) ∧ Aside0 (kq ≤ k) ∧ Aside0 (Kd.R Kd.string 9 w' w.heap.size (fun _ => True) v3 x3_1) ∧ Aside0 (IsS77 w0 w' g s0_0 x1001_1 x1002_1) ∧ Aside0 (KeepBut w w' g none) ∧ Aside0 (Below w0.heap.size w0 w'))
 case atStart => exact ⟨(([] : List ByteArray)), (t547), (t548), (t549), zf, H', ⟨Nat.le_refl _⟩, ⟨by exact Kd.R_nil _ _ _ _ _⟩, ⟨by repeat ((with_reducible exact HI0.out))⟩, ⟨by repeat ((with_reducible exact HK.out))⟩, ⟨by repeat ((with_reducible exact HB.out))⟩⟩
 case round =>
  clear H'
  obtain ⟨x3_1, x4_1, x1001_1, x1002_1, rfl, HA, HK1, HO_3, HI0, HK, HB⟩ := hrel
  cases gk with
  | zero => exact absurd HA.out (by simp [spec_l1Cur_text.l0])
  | succ k1 =>
   have H := HA.out
   clear HA
   simp only [spec_l1Cur_text.l0] at H
   by_cases c4 : x4_1 > 0
   ·rw [if_pos c4] at H
    have c4b0 : decide (0 < x4_1) = true := decide_eq_true c4
    clear c4
    replace H := Option.bind_eq_some_iff.mp H
    obtain ⟨⟨t550, t551, t552⟩, A50, H⟩ := H
    dsimp only at H
    have A5 := am A50
    clear A50
    obtain ⟨c6, H⟩ := itn H
    have c6b0 := eq_true c6
    have c6b1 := decide_eq_true c6
    try have c6b2 : (9223372036854775807 < t550.size + 1) = False := eq_false (Nat.not_lt.2 c6)
    obtain ⟨c7, H⟩ := itn H
    have LMc7 := am c7
    clear c7
    obtain ⟨y553, hy553⟩ : ∃ y_ : List ByteArray, y_ = (x3_1 ++ [t550 ++ (⟨#[10]⟩ : ByteArray)]) := ⟨_, rfl⟩
    rw [← hy553] at H
    have Ny553 := am hy553
    clear hy553
    have H' := am H
    clear H
    go_wp2_with (first | ((with_reducible refine gateC (f := 120) rfl ?_); refine goesL_ (some 13) rfl rfl Tryz.func120 (by kernel_rfl) rfl #[.pointer (some ⟨g, 0, none⟩)] rfl zm ?_; (with_reducible refine (spec_l1Cur_line.calls g s0_0 x1001_1 x1002_1 t550 t551 t552 w0 _ ?side1 ?side2 A5.out).mono ?_); (case side1 => exact zi); (case side2 => exact zj); rintro e w8 ⟨rfl, hi, hb, hk⟩; refine ⟨_, rfl, ?_⟩; replace HO_3 := am (Kd.R_mono (Kd.R_keep (IsS77.apart (show IsS77 w0 _ g s0_0 x1001_1 x1002_1 from zi) (zr HO_3.out) (by decide)) hk (fun _ h => h.2)) (fun _ h => h.1)); replace HK := am (KeepBut.trans zh hk (.inl rfl)); replace HB := am (hb); replace HI0 := am (hi); (try clear hb); (try clear hk); (try clear hi)) | ((with_reducible refine gateB (b := .append) (xs := #[.tmp 11, .tmp 15]) rfl ?_); at_builtin; refine Kd.R_append Kd.string w.heap.size rfl (.tmp 11) (.tmp 15) 24 9 (.string ⟨#[]⟩) 16 rfl Tryz.underlying24 info9 rfl (by decide) (by omega) u3 x3_1 (t550 ++ (⟨#[10]⟩ : ByteArray)) [.string (t550 ++ (⟨#[10]⟩ : ByteArray))] (fun _ => True) (fun _ => False) rfl rfl ?aP (fun _ hk => hk.elim) ?aF ?aO (Below.refl _ _) ?aS ?aL ?_; (case aP => exact rfl); (case aF => exact (fun _ _ => trivial)); (case aO => exact (zr HO_3.out)); (case aS => exact (keep_size (w := w) (g := g) (row := none) zh)); (case aL => have := LMc7.out; omega); intro v554 w9 ho hb hg hat; rw [← Ny553.out] at ho; replace HB := am (below_weaken zj HL.out hb); replace HI0 := am (IsS77.grown zi hg (IsS77.own_ne HI0.out HO_3.out (by decide))); replace HK := am (KeepBut.trans zh (KeepBut.of_grown hg g) (Kd.R_base2 HO_3.out)); have HO555 := am (ho); clear HO_3; clear ho hb hg hat))
    go_roundg k1
    case measure => have := HK1.out; omega
    case rel => exact ⟨(y553), (wrap64 (x4_1 - 1)), (t551), (t552), zf, H', ⟨by have := HK1.out; omega⟩, ⟨zr HO555.out⟩, ⟨by repeat ((with_reducible exact HI0.out))⟩, ⟨by repeat ((with_reducible exact HK.out))⟩, ⟨by repeat ((with_reducible exact HB.out))⟩⟩
   ·rw [if_neg c4] at H
    have c4b0 : decide (0 < x4_1) = false := decide_eq_false c4
    clear c4
    replace H := Option.bind_eq_some_iff.mp H
    obtain ⟨⟨t556, t557, t558⟩, A100, H⟩ := H
    dsimp only at H
    have A10 := am A100
    clear A100
    by_cases c11 : t556 = true
    ·subst c11
     rw [if_pos rfl] at H
     obtain ⟨y559, hy559⟩ : ∃ y_ : List ByteArray, y_ = (([(⟨#[97]⟩ : ByteArray), (⟨#[101, 110, 100]⟩ : ByteArray), (⟨#[46]⟩ : ByteArray)] : List ByteArray)) := ⟨_, rfl⟩
     rw [← hy559] at H
     have Ny559 := am hy559
     clear hy559
     replace H := Option.bind_eq_some_iff.mp H
     obtain ⟨⟨t562, t563, t564⟩, A120, H⟩ := H
     dsimp only at H
     have A12 := am A120
     clear A120
     obtain ⟨c13, H⟩ := itn H
     have LMc13 := am c13
     clear c13
     obtain ⟨y565, hy565⟩ : ∃ y_ : List ByteArray, y_ = (x3_1 ++ [t562]) := ⟨_, rfl⟩
     rw [← hy565] at H
     have Ny565 := am hy565
     clear hy565
     simp only [Option.some.injEq, Prod.mk.injEq] at H
     obtain ⟨rfl, rfl, rfl⟩ := H
     go_wp2_with (first | ((with_reducible refine gateC (f := 98) rfl ?_); refine goesL_ (some 18) rfl rfl Tryz.func98 (by kernel_rfl) rfl #[.pointer (some ⟨g, 0, none⟩), .int .i64 5] rfl zm ?_; (with_reducible refine (spec_l1Cur_one.calls g s0_0 x1001_1 x1002_1 5 true t557 t558 w0 _ ?side1 ?side2 A10.out).mono ?_); (case side1 => exact zi); (case side2 => exact zj); rintro e w14 ⟨rfl, hi, hb, hk⟩; refine ⟨_, rfl, ?_⟩; replace HO_3 := am (Kd.R_mono (Kd.R_keep (IsS77.apart (show IsS77 w0 _ g s0_0 x1001_1 x1002_1 from zi) (zr HO_3.out) (by decide)) hk (fun _ h => h.2)) (fun _ h => h.1)); replace HK := am (KeepBut.trans zh hk (.inl rfl)); replace HB := am (hb); replace HI0 := am (hi); (try clear hb); (try clear hk); (try clear hi)) | ((with_reducible refine gate_dst (N := 21) rfl ?_); refine Kd.R_lit Kd.string _ 9 ?hg (N := 21) ?hd (xs := ([(⟨#[97]⟩ : ByteArray), (⟨#[101, 110, 100]⟩ : ByteArray), (⟨#[46]⟩ : ByteArray)] : List ByteArray)) (inner := [.string (⟨#[97]⟩ : ByteArray), .string (⟨#[101, 110, 100]⟩ : ByteArray), .string (⟨#[46]⟩ : ByteArray)]) (ok := fun _ => True) (okp := fun _ => True) ?hr ?hp (fun _ hk => hk) trivial (Below.refl _ _) (Nat.le_refl _) (by simp) ?_; (case hd => rfl); (case hg => rfl); (case hr => (go_simp; done)); (case hp => exact (Reps.one (show Kd.M Kd.string _ _ _ (⟨#[97]⟩ : ByteArray) [.string (⟨#[97]⟩ : ByteArray)] from rfl) (Reps.one (show Kd.M Kd.string _ _ _ (⟨#[101, 110, 100]⟩ : ByteArray) [.string (⟨#[101, 110, 100]⟩ : ByteArray)] from rfl) (Reps.one (show Kd.M Kd.string _ _ _ (⟨#[46]⟩ : ByteArray) [.string (⟨#[46]⟩ : ByteArray)] from rfl) (Reps.none _ _))))); intro v560 w15 ho16 hb hg_ hnew_; clear hg_ hnew_; (rw [← Ny559.out] at ho16); have HO561 := am (Kd.R_lower (Kd.R_new' ho16 (Kd.R_lt (zr HO_3.out))) (keep_size (w := w) (g := g) (row := none) zh)); replace HO_3 := am (Kd.R_elder' (zr HO_3.out) (Kd.R_base ho16) hb); replace HK := am (KeepBut.trans zh (KeepBut.of_below hb g none) (.inl rfl)); replace HB := am (below_step zj hb); replace HI0 := am (IsS77.below zi hb); clear hb ho16; obtain ⟨Ao17, co17, eo17⟩ := Kd.R_slice HO561.out; subst eo17) | ((with_reducible refine gateC (f := 121) rfl ?_); refine goesL_ (some 22) rfl rfl Tryz.func121 (by kernel_rfl) rfl #[.pointer (some ⟨g, 0, none⟩), .slice Ao17 y559.length co17] rfl zm ?_; (with_reducible refine (spec_l1Cur_of.calls g s0_0 t557 t558 _ _ y559 t562 t563 t564 w0 _ ?side1 ?side2 ?side3 ?side4 ?side5 A12.out).mono ?_); (case side1 => exact zi); (case side2 => exact zj); (case side3 => repeat (exact (Kd.R_reads' HO561.out).2.2)); (case side4 => exact (Kd.R_reads' HO561.out).2.1); (case side5 => exact far_slice (IsS77.own_ne HI0.out HO561.out (by decide))); rintro e w18 ⟨rfl, hi, hb, hk⟩; refine ⟨_, rfl, ?_⟩; replace HO_3 := am (Kd.R_mono (Kd.R_keep (IsS77.apart (show IsS77 w0 _ g s0_0 t557 t558 from zi) (zr HO_3.out) (by decide)) hk (fun _ h => h.2)) (fun _ h => h.1)); replace HO561 := am (Kd.R_mono (Kd.R_keep (IsS77.apart (show IsS77 w0 _ g s0_0 t557 t558 from zi) (zr HO561.out) (by decide)) hk (fun _ h => h.2)) (fun _ h => h.1)); replace HK := am (KeepBut.trans zh hk (.inl rfl)); replace HB := am (hb); replace HI0 := am (hi); (try clear hb); (try clear hk); (try clear hi)) | ((with_reducible refine gateB (b := .append) (xs := #[.tmp 19, .tmp 23]) rfl ?_); at_builtin; refine Kd.R_append Kd.string w.heap.size rfl (.tmp 19) (.tmp 23) 24 9 (.string ⟨#[]⟩) 16 rfl Tryz.underlying24 info9 rfl (by decide) (by omega) u3 x3_1 t562 [.string t562] (fun k_ => some k_ ≠ (.slice Ao17 y559.length co17 : Value).ownBlock) (fun _ => False) rfl rfl ?aP (fun _ hk => hk.elim) ?aF ?aO (Below.refl _ _) ?aS ?aL ?_; (case aP => exact rfl); (case aF => exact (fun k_ hk => Kd.fresh' (Kd.R_lt (zr HO561.out)) k_ hk)); (case aO => exact (by exact Kd.R_mono HO_3.out (fun _ hk => hk.2))); (case aS => exact (keep_size (w := w) (g := g) (row := none) zh)); (case aL => have := LMc13.out; omega); intro v566 w19 ho hb hg hat; rw [← Ny565.out] at ho; replace HO561 := am (Kd.R_after (ok := (fun _ => True)) (zr HO561.out) hg hat); replace HB := am (below_weaken zj HL.out hb); replace HI0 := am (IsS77.grown zi hg (IsS77.own_ne HI0.out HO_3.out (by decide))); replace HK := am (KeepBut.trans zh (KeepBut.of_grown hg g) (Kd.R_base2 HO_3.out)); have HO567 := am (ho); clear HO_3; clear ho hb hg hat))
     go_ret
     exact ⟨_, by rfl, by exact Kd.R_mono HO567.out (fun _ hk => trivial), zi, zj, zh⟩
    ·replace c11 := Bool.eq_false_iff.mpr c11
     subst c11
     rw [if_neg nofun] at H
     simp only [Option.some.injEq, Prod.mk.injEq] at H
     obtain ⟨rfl, rfl, rfl⟩ := H
     go_wp2_with (((with_reducible refine gateC (f := 98) rfl ?_); refine goesL_ (some 18) rfl rfl Tryz.func98 (by kernel_rfl) rfl #[.pointer (some ⟨g, 0, none⟩), .int .i64 5] rfl zm ?_; (with_reducible refine (spec_l1Cur_one.calls g s0_0 x1001_1 x1002_1 5 false t557 t558 w0 _ ?side1 ?side2 A10.out).mono ?_); (case side1 => exact zi); (case side2 => exact zj); rintro e w20 ⟨rfl, hi, hb, hk⟩; refine ⟨_, rfl, ?_⟩; replace HO_3 := am (Kd.R_mono (Kd.R_keep (IsS77.apart (show IsS77 w0 _ g s0_0 x1001_1 x1002_1 from zi) (zr HO_3.out) (by decide)) hk (fun _ h => h.2)) (fun _ h => h.1)); replace HK := am (KeepBut.trans zh hk (.inl rfl)); replace HB := am (hb); replace HI0 := am (hi); (try clear hb); (try clear hk); (try clear hi)))
     go_ret
     exact ⟨_, by rfl, zr HO_3.out, zi, zj, zh⟩

def spec_l1Cur_steps.j0 : Nat → List ByteArray → List (S52) → List Int → Int → Int → Option (List ByteArray × (List (S52)) × Int × Int)
 | 0, _, _, _, _, _ => none
 | k + 1, x4, x5, x1000, x1001, x1002 => (spec_l1Cur_one.f x1000 x1001 x1002 4).bind fun bt944 => (if bt944.1 = true then ((spec_l1Cur_other.f k x1000 bt944.2.1 bt944.2.2 x4).bind fun bt947 => (some (bt947.1, x5, bt947.2.1, bt947.2.2))) else (some (x4, x5, bt944.2.1, bt944.2.2)))
def spec_l1Cur_steps.f (k : Nat) (s0_0 : List Int) (s0_1 : Int) (s0_2 : Int) : Option (List ByteArray × (List (S52)) × Int × Int) := (spec_l1Cur_text.f k s0_0 s0_1 s0_2).bind fun bt907 => ((spec_l1Cur_hunks.f k s0_0 bt907.2.1 bt907.2.2 bt907.1).bind fun bt912 => ((spec_NormalSteps.f k bt907.1 bt912.1).bind fun bt917 => (if (bt917.1.length : Int) > 0 then ((spec_l1Cur_pick.f s0_0 bt912.2.1 bt912.2.2 (bt917.1.length : Int)).bind fun bt921 => ((spec_l1Cur_pick.f s0_0 bt921.2.1 bt921.2.2 15).bind fun bt924 => (if bt924.1 = 0 then (if 0 ≤ bt921.1 then (if bt921.1 < (bt917.1.length : Int) then (spec_l1Cur_steps.j0 k bt907.1 (bt917.1.set (bt921.1 : Int).toNat (⟨wrap64 (((T52 bt917.1 bt921.1).f0) + 1), (T52 bt917.1 bt921.1).f1, (T52 bt917.1 bt921.1).f2, (T52 bt917.1 bt921.1).f3, (T52 bt917.1 bt921.1).f4, (T52 bt917.1 bt921.1).f5⟩ : S52)) s0_0 bt924.2.1 bt924.2.2) else (none)) else (none)) else (if bt924.1 = 1 then (if 0 ≤ bt921.1 then (if bt921.1 < (bt917.1.length : Int) then (spec_l1Cur_steps.j0 k bt907.1 (bt917.1.set (bt921.1 : Int).toNat (⟨(T52 bt917.1 bt921.1).f0, (T52 bt917.1 bt921.1).f1, (T52 bt917.1 bt921.1).f2, wrap64 (((T52 bt917.1 bt921.1).f3) + 1), (T52 bt917.1 bt921.1).f4, (T52 bt917.1 bt921.1).f5⟩ : S52)) s0_0 bt924.2.1 bt924.2.2) else (none)) else (none)) else (if bt924.1 = 2 then (if 0 ≤ bt921.1 then (if bt921.1 < (bt917.1.length : Int) then (if ((T52 bt917.1 bt921.1).f2).length < 8796093022208 then (spec_l1Cur_steps.j0 k bt907.1 (bt917.1.set (bt921.1 : Int).toNat (⟨(T52 bt917.1 bt921.1).f0, (T52 bt917.1 bt921.1).f1, (((T52 bt917.1 bt921.1).f2) ++ [(⟨#[122, 10]⟩ : ByteArray)]), (T52 bt917.1 bt921.1).f3, (T52 bt917.1 bt921.1).f4, (T52 bt917.1 bt921.1).f5⟩ : S52)) s0_0 bt924.2.1 bt924.2.2) else (none)) else (none)) else (none)) else (if bt924.1 = 3 then (if 0 ≤ bt921.1 then (if bt921.1 < (bt917.1.length : Int) then ((some (bt917.1.set (bt921.1 : Int).toNat (⟨wrap64 (((T52 bt917.1 bt921.1).f0) + 30), (T52 bt917.1 bt921.1).f1, (T52 bt917.1 bt921.1).f2, (T52 bt917.1 bt921.1).f3, (T52 bt917.1 bt921.1).f4, (T52 bt917.1 bt921.1).f5⟩ : S52) : List (S52))).bind fun y937 => (spec_l1Cur_steps.j0 k bt907.1 (y937.set (bt921.1 : Int).toNat (⟨(T52 y937 bt921.1).f0, wrap64 (((T52 y937 bt921.1).f1) + 30), (T52 y937 bt921.1).f2, (T52 y937 bt921.1).f3, (T52 y937 bt921.1).f4, (T52 y937 bt921.1).f5⟩ : S52)) s0_0 bt924.2.1 bt924.2.2)) else (none)) else (none)) else (if bt924.1 = 4 then (if 0 ≤ bt921.1 then (if bt921.1 < (bt917.1.length : Int) then (spec_l1Cur_steps.j0 k bt907.1 (bt917.1.set (bt921.1 : Int).toNat (⟨(T52 bt917.1 bt921.1).f0, (T52 bt917.1 bt921.1).f1, (T52 bt917.1 bt921.1).f2, (T52 bt917.1 bt921.1).f3, (T52 bt917.1 bt921.1).f4, (([(⟨#[108, 97, 115, 116]⟩ : ByteArray)] : List ByteArray))⟩ : S52)) s0_0 bt924.2.1 bt924.2.2) else (none)) else (none)) else (spec_l1Cur_steps.j0 k bt907.1 bt917.1 s0_0 bt924.2.1 bt924.2.2)))))))) else (spec_l1Cur_steps.j0 k bt907.1 bt917.1 s0_0 bt912.2.1 bt912.2.2))))
set_option maxHeartbeats 8000000 in
set_option maxRecDepth 100000 in
theorem spec_l1Cur_steps.calls (k : Nat) (g : Nat) (s0_0 : List Int) (s0_1 : Int) (s0_2 : Int) (r1 : List ByteArray) (r2 : List (S52)) (r3 : Int) (r4 : Int) (w0 w : World) (hI : IsS77 w0 w g s0_0 s0_1 s0_2) (hB : Below w0.heap.size w0 w) (h : spec_l1Cur_steps.f k s0_0 s0_1 s0_2 = some (r1, r2, r3, r4)) :
  Calls Tryz.prog 70 #[.pointer (some ⟨g, 0, none⟩)] w fun e w' => ∃ v0_ v1_ : Value, e = .returned (.tuple #[v0_, v1_]) ∧ Kd.R Kd.string 9 w' w.heap.size (fun _ => True) v0_ r1 ∧ Kd.S k52 52 w' w.heap.size (fun k_ => some k_ ≠ (v0_ : Value).ownBlock) v1_ r2 ∧ IsS77 w0 w' g s0_0 r3 r4 ∧ Below w0.heap.size w0 w' ∧ KeepBut w w' g none := by
 have HI0 := am hI
 have HK := am (KeepBut.refl w g none)
 have HL := am hB.size
 clear hI
 have HW0 := am hB.size
 have HB := am hB
 clear hB
 have H := h
 clear h
 unfold spec_l1Cur_steps.f at H
 replace H := Option.bind_eq_some_iff.mp H
 obtain ⟨⟨t907, t910, t911⟩, A20, H⟩ := H
 dsimp only at H
 have A2 := am A20
 clear A20
 replace H := Option.bind_eq_some_iff.mp H
 obtain ⟨⟨t912, t915, t916⟩, A30, H⟩ := H
 dsimp only at H
 have A3 := am A30
 clear A30
 replace H := Option.bind_eq_some_iff.mp H
 obtain ⟨⟨t917, t918⟩, A40, H⟩ := H
 dsimp only at H
 have A4 := am A40
 clear A40
 have HC5 := am H
 clear H
 go_enter Tryz.func70, Tryz.ntmps70
 go_upto_if 20 with (first | ((with_reducible refine gateC (f := 95) rfl ?_); refine goesL_ (some 9) rfl rfl Tryz.func95 (by kernel_rfl) rfl #[.pointer (some ⟨g, 0, none⟩)] rfl zm ?_; (with_reducible refine (spec_l1Cur_text.calls k g s0_0 s0_1 s0_2 t907 t910 t911 w0 _ ?side1 ?side2 A2.out).mono ?_); (case side1 => exact zi); (case side2 => exact zj); rintro e w6 ⟨v908, rfl, ho0, hi, hb, hk⟩; refine ⟨_, rfl, ?_⟩; have HO909 := am (Kd.R_lower ho0 (keep_size (w := w) (g := g) (row := none) zh)); replace HK := am (KeepBut.trans zh hk (.inl rfl)); replace HB := am (hb); replace HI0 := am (hi); (try clear hb); (try clear hk); (try clear hi); (try clear ho0); obtain ⟨Ao7, co7, eo7⟩ := Kd.R_slice HO909.out; subst eo7) | ((with_reducible refine gateC (f := 96) rfl ?_); refine goesL_ (some 14) rfl rfl Tryz.func96 (by kernel_rfl) rfl #[.pointer (some ⟨g, 0, none⟩), .slice Ao7 t907.length co7] rfl zm ?_; (with_reducible refine (spec_l1Cur_hunks.calls k g s0_0 t910 t911 _ _ t907 t912 t915 t916 w0 _ ?side1 ?side2 ?side3 ?side4 ?side5 A3.out).mono ?_); (case side1 => exact zi); (case side2 => exact zj); (case side3 => repeat (exact (Kd.R_reads' HO909.out).2.2)); (case side4 => exact (Kd.R_reads' HO909.out).2.1); (case side5 => exact far_slice (IsS77.own_ne HI0.out HO909.out (by decide))); rintro e w8 ⟨v913, rfl, ho0, hi, hb, hk⟩; refine ⟨_, rfl, ?_⟩; have HO914 := am (Kd.S_lower (Kd.S_new' ho0 (Kd.R_lt (zr HO909.out))) (keep_size (w := w) (g := g) (row := none) zh)); replace HO909 := am (Kd.R_mono (Kd.R_keep (IsS77.apart (show IsS77 w0 _ g s0_0 t910 t911 from zi) (zr HO909.out) (by decide)) hk (fun _ h => h.2)) (fun _ h => h.1)); replace HK := am (KeepBut.trans zh hk (.inl rfl)); replace HB := am (hb); replace HI0 := am (hi); (try clear hb); (try clear hk); (try clear hi); (try clear ho0); obtain ⟨Ao9, co9, eo9⟩ := Kd.S_slice HO914.out; subst eo9) | ((with_reducible refine gateC (f := 8) rfl ?_); refine goesL_ (some 15) rfl rfl Tryz.func8 (by kernel_rfl) rfl #[.slice Ao7 t907.length co7, .slice Ao9 t912.length co9] rfl zm ?_; (with_reducible refine (spec_NormalSteps.calls k _ _ t907 _ _ t912 t917 t918 _ ?side1 ?side2 ?side3 ?side4 A4.out).mono ?_); (case side1 => repeat (exact (Kd.R_reads' HO909.out).2.2)); (case side2 => exact (Kd.R_reads' HO909.out).2.1); (case side3 => repeat (exact (Kd.S_reads' HO914.out).2.2)); (case side4 => exact (Kd.S_reads' HO914.out).2.1); rintro e w10 ⟨v919, rfl, ho0, hb⟩; refine ⟨_, rfl, ?_⟩; replace HO914 := am (Kd.S_below (zs HO914.out) hb); have HO920 := am (Kd.S_lower (Kd.S_new' ho0 (Kd.R_lt (zr HO909.out))) (keep_size (w := w) (g := g) (row := none) zh)); replace HO909 := am (Kd.R_below (zr HO909.out) hb); replace HK := am (KeepBut.trans zh (KeepBut.of_below hb g none) (.inl rfl)); replace HB := am (below_step zj hb); replace HI0 := am (IsS77.below zi hb); (try clear hb); (try clear ho0); obtain ⟨Ao11, co11, eo11⟩ := Kd.S_slice HO920.out; subst eo11))
 go_cut [] (fun wc => ∃ (kq : Nat) (x5_4 : List (S52)) (x1001_4 : Int) (x1002_4 : Int), Aside0 (spec_l1Cur_steps.j0 kq t907 x5_4 s0_0 x1001_4 x1002_4 = some (r1, r2, r3, r4)) ∧ Aside0 (kq ≤ k) ∧ Aside0 (Kd.R Kd.string 9 wc w.heap.size (fun _ => True) (.slice Ao7 t907.length co7) t907) ∧ Aside0 (Kd.S k52 52 wc w.heap.size (fun k_ => some k_ ≠ ((.slice Ao7 t907.length co7) : Value).ownBlock) (.slice Ao11 t917.length co11) x5_4) ∧ Aside0 (IsS77 w0 wc g s0_0 x1001_4 x1002_4) ∧ Aside0 (KeepBut w wc g none) ∧ Aside0 (Below w0.heap.size w0 wc))
 case first =>
  have H := HC5.out
  clear HC5
  by_cases c12 : (t917.length : Int) > 0
  ·rw [if_pos c12] at H
   have c12b0 : decide (0 < (t917.length : Int)) = true := decide_eq_true c12
   have c12b1 : decide (0 < t917.length) = true := decide_eq_true (by omega)
   clear c12
   (rw [c12b1])
   replace H := Option.bind_eq_some_iff.mp H
   obtain ⟨⟨t921, t922, t923⟩, A130, H⟩ := H
   dsimp only at H
   have A13 := am A130
   clear A130
   replace H := Option.bind_eq_some_iff.mp H
   obtain ⟨⟨t924, t925, t926⟩, A140, H⟩ := H
   dsimp only at H
   have A14 := am A140
   clear A140
   by_cases c15 : t924 = 0
   ·rw [if_pos c15] at H
    have c15b0 : (t924 == 0) = true := beq_iff_eq.mpr c15
    have c15b1 : (t924 != 0) = false := bne_eq_false_iff_eq.mpr c15
    clear c15
    obtain ⟨c16, H⟩ := itn H
    have c16b0 := decide_eq_true c16
    clear c16
    obtain ⟨c17, H⟩ := itn H
    have c17b0 := decide_eq_true c17
    clear c17
    obtain ⟨y928, hy928⟩ : ∃ y_ : List (S52), y_ = (t917.set (t921 : Int).toNat (⟨wrap64 (((T52 t917 t921).f0) + 1), (T52 t917 t921).f1, (T52 t917 t921).f2, (T52 t917 t921).f3, (T52 t917 t921).f4, (T52 t917 t921).f5⟩ : S52)) := ⟨_, rfl⟩
    rw [← hy928] at H
    have Ny928 := am hy928
    clear hy928
    have H' := am H
    clear H
    go_wp2_with (first | ((with_reducible refine gateC (f := 97) rfl ?_); refine goesL_ (some 24) rfl rfl Tryz.func97 (by kernel_rfl) rfl #[.pointer (some ⟨g, 0, none⟩), .int .i64 (t917.length : Int)] rfl zm ?_; (with_reducible refine (spec_l1Cur_pick.calls g s0_0 t915 t916 (t917.length : Int) t921 t922 t923 w0 _ ?side1 ?side2 A13.out).mono ?_); (case side1 => exact zi); (case side2 => exact zj); rintro e w19 ⟨rfl, hi, hb, hk⟩; refine ⟨_, rfl, ?_⟩; replace HO909 := am (Kd.R_mono (Kd.R_keep (IsS77.apart (show IsS77 w0 _ g s0_0 t915 t916 from zi) (zr HO909.out) (by decide)) hk (fun _ h => h.2)) (fun _ h => h.1)); replace HO914 := am (Kd.S_mono (Kd.S_keep (IsS77.apartS (show IsS77 w0 _ g s0_0 t915 t916 from zi) (zs HO914.out) (by decide)) hk (fun _ h => h.2)) (fun _ h => h.1)); replace HO920 := am (Kd.S_mono (Kd.S_keep (IsS77.apartS (show IsS77 w0 _ g s0_0 t915 t916 from zi) (zs HO920.out) (by decide)) hk (fun _ h => h.2)) (fun _ h => h.1)); replace HK := am (KeepBut.trans zh hk (.inl rfl)); replace HB := am (hb); replace HI0 := am (hi); (try clear hb); (try clear hk); (try clear hi)) | ((with_reducible refine gateC (f := 97) rfl ?_); refine goesL_ (some 26) rfl rfl Tryz.func97 (by kernel_rfl) rfl #[.pointer (some ⟨g, 0, none⟩), .int .i64 15] rfl zm ?_; (with_reducible refine (spec_l1Cur_pick.calls g s0_0 t922 t923 15 t924 t925 t926 w0 _ ?side1 ?side2 A14.out).mono ?_); (case side1 => exact zi); (case side2 => exact zj); rintro e w20 ⟨rfl, hi, hb, hk⟩; refine ⟨_, rfl, ?_⟩; replace HO909 := am (Kd.R_mono (Kd.R_keep (IsS77.apart (show IsS77 w0 _ g s0_0 t922 t923 from zi) (zr HO909.out) (by decide)) hk (fun _ h => h.2)) (fun _ h => h.1)); replace HO914 := am (Kd.S_mono (Kd.S_keep (IsS77.apartS (show IsS77 w0 _ g s0_0 t922 t923 from zi) (zs HO914.out) (by decide)) hk (fun _ h => h.2)) (fun _ h => h.1)); replace HO920 := am (Kd.S_mono (Kd.S_keep (IsS77.apartS (show IsS77 w0 _ g s0_0 t922 t923 from zi) (zs HO920.out) (by decide)) hk (fun _ h => h.2)) (fun _ h => h.1)); replace HK := am (KeepBut.trans zh hk (.inl rfl)); replace HB := am (hb); replace HI0 := am (hi); (try clear hb); (try clear hk); (try clear hi); have p927 : 0 ≤ (t921 : Int) := oa; have q927 : t921 < (t917.length : Int) := oa; obtain ⟨ad927, A927_2, c927_2, A927_5, c927_5, e927, hx927_0, hx927_1, hx927_2, hx927_3, hx927_4, hx927_5, hl927_2, hi927_2, hl927_5, hi927_5⟩ := at_T52 (Kd.S_reads' HO920.out).2.2 t921 p927 q927; cases e927; obtain ⟨ce927, hce927, hMe927, hcc927⟩ := Kd.S_get HO920.out z52 t921 p927 (by exact q927); obtain ⟨ve927_2, ve927_5, rfl, ge927_2, ge927_5⟩ := k52_openM hMe927; have hv927_2 := hcc927 2 _ rfl; rw [add_field _ _ 2 (by omega)] at hv927_2; replace hv927_2 := Option.some.inj (hv927_2.symm.trans hx927_2); rw [hv927_2] at ge927_2; have HL927_2 := am (show Kd.R Kd.string 9 _ _ _ _ ((T52 t917 t921).f2) from ge927_2); clear hv927_2 ge927_2; have HX927_2 := am hx927_2; have hv927_5 := hcc927 5 _ rfl; rw [add_field _ _ 5 (by omega)] at hv927_5; replace hv927_5 := Option.some.inj (hv927_5.symm.trans hx927_5); rw [hv927_5] at ge927_5; have HL927_5 := am (show Kd.R Kd.string 9 _ _ _ _ ((T52 t917 t921).f5) from ge927_5); clear hv927_5 ge927_5; have HX927_5 := am hx927_5; clear hcc927 hce927; have HR927_2 := am hi927_2; have HC927_2 := am hl927_2; clear hi927_2 hl927_2; have HR927_5 := am hi927_5; have HC927_5 := am hl927_5; clear hi927_5 hl927_5; replace p927 := eq_true p927; replace q927 := eq_true q927; have p18 : 0 ≤ (t921 : Int) := oa; have q18 : (t921 : Int) < ((t917.length : Int) : Int) := oa; obtain ⟨go18, co18, eo18, gb18, gl18, cl18, HG18⟩ := Kd.S_form HO920.out (by omega); (cases eo18); have GB18 := am gb18; have GG18 := am HG18; clear gb18 gl18 HG18; (simp only [add_plain] at hx927_0); (simp only [add_plain] at hx927_1); (simp only [add_plain] at hx927_2); (simp only [add_plain] at hx927_3); (simp only [add_plain] at hx927_4); (simp only [add_plain] at hx927_5); obtain ⟨_, ce18, hcl18, hM18, hcc18, hfr18, _, _⟩ := Kd.S_elem HO920.out z52 (t921 : Int) p18 q18; obtain ⟨ve18_2, ve18_5, rfl, ge18_2, ge18_5, hsp18⟩ := k52_openMS hM18; have HSP18 := am hsp18; clear hsp18; have hx18_0 : w20.cell? ⟨go18, (t921 : Int).toNat * 6, none⟩ = some (.int .i64 ((T52 t917 t921).f0)) := hcc18 0 _ rfl; have hx18_1 : w20.cell? ⟨go18, (t921 : Int).toNat * 6 + 1, none⟩ = some (.int .i64 ((T52 t917 t921).f1)) := hcc18 1 _ rfl; have hx18_2 : w20.cell? ⟨go18, (t921 : Int).toNat * 6 + 2, none⟩ = some (ve18_2) := hcc18 2 _ rfl; have hx18_3 : w20.cell? ⟨go18, (t921 : Int).toNat * 6 + 3, none⟩ = some (.int .i64 ((T52 t917 t921).f3)) := hcc18 3 _ rfl; have hx18_4 : w20.cell? ⟨go18, (t921 : Int).toNat * 6 + 4, none⟩ = some (.int .i64 ((T52 t917 t921).f4)) := hcc18 4 _ rfl; have hx18_5 : w20.cell? ⟨go18, (t921 : Int).toNat * 6 + 5, none⟩ = some (ve18_5) := hcc18 5 _ rfl; have hf18_0 : w20.frozen? ⟨go18, (t921 : Int).toNat * 6, none⟩ = false := hfr18 0; have hf18_1 : w20.frozen? ⟨go18, (t921 : Int).toNat * 6 + 1, none⟩ = false := hfr18 1; have hf18_2 : w20.frozen? ⟨go18, (t921 : Int).toNat * 6 + 2, none⟩ = false := hfr18 2; have hf18_3 : w20.frozen? ⟨go18, (t921 : Int).toNat * 6 + 3, none⟩ = false := hfr18 3; have hf18_4 : w20.frozen? ⟨go18, (t921 : Int).toNat * 6 + 4, none⟩ = false := hfr18 4; have hf18_5 : w20.frozen? ⟨go18, (t921 : Int).toNat * 6 + 5, none⟩ = false := hfr18 5; clear hcl18 hcc18 hfr18; (try clear hM18); replace p18 := eq_true p18; replace q18 := eq_true q18; have n_ := am (Kd.S_mono (ok' := (fun k_ => some k_ ≠ (.slice Ao7 t907.length co7 : Value).ownBlock)) HO920.out (fun k_ hk => hk.2)); clear HO920; have HO920 := n_; clear n_; have HX21 := am (show Kd.S k52 52 w20 w.heap.size (fun k_ => ((fun k_ => some k_ ≠ (.slice Ao7 t907.length co7 : Value).ownBlock)) k_ ∧ ¬ ((fun _ => False)) k_) (.slice (some ⟨go18, 0, none⟩) t917.length co11) t917 from (by exact Kd.S_mono HO920.out (fun k_ hk => ⟨hk, fun e_ => e_⟩))); obtain ⟨oki21, ce21, hcl21, hM21, hcc21, hfr21, hoki21, hH21⟩ := Kd.S_elem HX21.out z52 (t921 : Int) oa (by have h_ : (t921 : Int) < ((t917.length : Int) : Int) := oa; exact h_); obtain ⟨ve21_2, ve21_5, rfl, ge21_2, ge21_5, hsp21⟩ := k52_openMS hM21; have HSP21 := am hsp21; clear hsp21; have HP21 := Kd.S_seg hH21 oa (by have h_ : (t921 : Int) < ((t917.length : Int) : Int) := oa; exact h_) (seg := [.int .i64 (wrap64 (((T52 t917 t921).f0) + 1))]) (j := 0) (show 1 ≤ 6 from by decide) (x' := (⟨wrap64 (((T52 t917 t921).f0) + 1), (T52 t917 t921).f1, (T52 t917 t921).f2, (T52 t917 t921).f3, (T52 t917 t921).f4, (T52 t917 t921).f5⟩ : S52)) (k52_mkM zy _ _ _ (⟨wrap64 (((T52 t917 t921).f0) + 1), (T52 t917 t921).f1, (T52 t917 t921).f2, (T52 t917 t921).f3, (T52 t917 t921).f4, (T52 t917 t921).f5⟩ : S52) (Kd.R_mono ge21_2 (fun _ h_ => Or.inl h_)) (Kd.R_mono ge21_5 (fun _ h_ => Or.inl h_))) (fun _ hk => hk) (fun k_ hk_ => hk_.elim); have hx21_0 := hcc21 0 _ rfl; (try simp only [show (k52).sz = 6 from rfl, Nat.mul_one, Nat.add_zero] at hx21_0); have hf21_0 := hfr21 0; (try simp only [show (k52).sz = 6 from rfl, Nat.mul_one, Nat.add_zero] at hf21_0); clear hcl21 hcc21 hfr21 hoki21 hH21; (try clear hM21)) | ((with_reducible refine gate_store (t := 3) (p := 36) rfl ?_); refine store_event (t := 3) (p := 36) (v := ?vo_w22) (w1 := (w20.setCell ⟨go18, (t921 : Int).toNat * 6, none⟩ (.int .i64 (wrap64 (((T52 t917 t921).f0) + 1))))) ?hg ?ho ?hn ?hr ?_; (case ho => rfl); (case hg => rfl); (case hn => rfl); (case hr => (go_simp; done)); intro w22 hw; have hg : w20.grownBy w22 (some go18) := (by rw [hw]; exact HP21.2); have hp_ : Kd.S k52 52 w22 w.heap.size (fun k_ => some k_ ≠ (.slice Ao7 t907.length co7 : Value).ownBlock) (.slice (some ⟨go18, 0, none⟩) t917.length co11) y928 := (by rw [hw, Ny928.out]; exact HP21.1); clear HP21; replace HI0 := am (IsS77.grown zi hg (IsS77.own_neS HI0.out HO920.out (by decide))); replace HO909 := am (Kd.R_over' (v := (.slice (some ⟨go18, 0, none⟩) t917.length co11)) (zr HO909.out) (Kd.S_typed HO920.out) (by decide) hg); replace HO914 := am (Kd.S_over' (v := (.slice (some ⟨go18, 0, none⟩) t917.length co11)) (zs HO914.out) (Kd.S_typed HO920.out) (by decide) hg); replace HL927_2 := am (Kd.R_after (v := (.slice (some ⟨go18, 0, none⟩) t917.length co11)) (v1 := (.slice (some ⟨go18, 0, none⟩) t917.length co11)) (ok := (fun k_ => some k_ ≠ (.slice Ao7 t907.length co7 : Value).ownBlock)) (by exact Kd.R_mono HL927_2.out (fun _ hk => ⟨hk.1.2, hk.2⟩)) hg (.inl rfl)); replace HL927_5 := am (Kd.R_after (v := (.slice (some ⟨go18, 0, none⟩) t917.length co11)) (v1 := (.slice (some ⟨go18, 0, none⟩) t917.length co11)) (ok := (fun k_ => some k_ ≠ (.slice Ao7 t907.length co7 : Value).ownBlock)) (by exact Kd.R_mono HL927_5.out (fun _ hk => ⟨hk.1.2, hk.2⟩)) hg (.inl rfl)); replace HB := am ((by rw [hw]; exact below_set (HB.out) (Nat.le_trans HL.out GB18.out) : Below w0.heap.size w0 w22)); replace HK := am (KeepBut.trans zh (KeepBut.of_grown hg g) (Kd.S_base2 HO920.out)); replace HO920 := am (hp_); clear hg hw hp_))
    go_meet
    case rel => exact ⟨_, (y928), (t925), (t926), H', ⟨by omega⟩, ⟨zr HO909.out⟩, ⟨zs HO920.out⟩, ⟨by repeat ((with_reducible exact HI0.out))⟩, ⟨by repeat ((with_reducible exact HK.out))⟩, ⟨by repeat ((with_reducible exact HB.out))⟩⟩
   ·rw [if_neg c15] at H
    have c15b0 : (t924 == 0) = false := beq_eq_false_iff_ne.mpr c15
    have c15b1 : (t924 != 0) = true := bne_iff_ne.mpr c15
    by_cases c23 : t924 = 1
    ·rw [if_pos c23] at H
     have c23b0 : (t924 == 1) = true := beq_iff_eq.mpr c23
     have c23b1 : (t924 != 1) = false := bne_eq_false_iff_eq.mpr c23
     clear c23
     obtain ⟨c24, H⟩ := itn H
     have c24b0 := decide_eq_true c24
     clear c24
     obtain ⟨c25, H⟩ := itn H
     have c25b0 := decide_eq_true c25
     clear c25
     obtain ⟨y930, hy930⟩ : ∃ y_ : List (S52), y_ = (t917.set (t921 : Int).toNat (⟨(T52 t917 t921).f0, (T52 t917 t921).f1, (T52 t917 t921).f2, wrap64 (((T52 t917 t921).f3) + 1), (T52 t917 t921).f4, (T52 t917 t921).f5⟩ : S52)) := ⟨_, rfl⟩
     rw [← hy930] at H
     have Ny930 := am hy930
     clear hy930
     have H' := am H
     clear H
     go_wp2_with (first | ((with_reducible refine gateC (f := 97) rfl ?_); refine goesL_ (some 24) rfl rfl Tryz.func97 (by kernel_rfl) rfl #[.pointer (some ⟨g, 0, none⟩), .int .i64 (t917.length : Int)] rfl zm ?_; (with_reducible refine (spec_l1Cur_pick.calls g s0_0 t915 t916 (t917.length : Int) t921 t922 t923 w0 _ ?side1 ?side2 A13.out).mono ?_); (case side1 => exact zi); (case side2 => exact zj); rintro e w27 ⟨rfl, hi, hb, hk⟩; refine ⟨_, rfl, ?_⟩; replace HO909 := am (Kd.R_mono (Kd.R_keep (IsS77.apart (show IsS77 w0 _ g s0_0 t915 t916 from zi) (zr HO909.out) (by decide)) hk (fun _ h => h.2)) (fun _ h => h.1)); replace HO914 := am (Kd.S_mono (Kd.S_keep (IsS77.apartS (show IsS77 w0 _ g s0_0 t915 t916 from zi) (zs HO914.out) (by decide)) hk (fun _ h => h.2)) (fun _ h => h.1)); replace HO920 := am (Kd.S_mono (Kd.S_keep (IsS77.apartS (show IsS77 w0 _ g s0_0 t915 t916 from zi) (zs HO920.out) (by decide)) hk (fun _ h => h.2)) (fun _ h => h.1)); replace HK := am (KeepBut.trans zh hk (.inl rfl)); replace HB := am (hb); replace HI0 := am (hi); (try clear hb); (try clear hk); (try clear hi)) | ((with_reducible refine gateC (f := 97) rfl ?_); refine goesL_ (some 26) rfl rfl Tryz.func97 (by kernel_rfl) rfl #[.pointer (some ⟨g, 0, none⟩), .int .i64 15] rfl zm ?_; (with_reducible refine (spec_l1Cur_pick.calls g s0_0 t922 t923 15 t924 t925 t926 w0 _ ?side1 ?side2 A14.out).mono ?_); (case side1 => exact zi); (case side2 => exact zj); rintro e w28 ⟨rfl, hi, hb, hk⟩; refine ⟨_, rfl, ?_⟩; replace HO909 := am (Kd.R_mono (Kd.R_keep (IsS77.apart (show IsS77 w0 _ g s0_0 t922 t923 from zi) (zr HO909.out) (by decide)) hk (fun _ h => h.2)) (fun _ h => h.1)); replace HO914 := am (Kd.S_mono (Kd.S_keep (IsS77.apartS (show IsS77 w0 _ g s0_0 t922 t923 from zi) (zs HO914.out) (by decide)) hk (fun _ h => h.2)) (fun _ h => h.1)); replace HO920 := am (Kd.S_mono (Kd.S_keep (IsS77.apartS (show IsS77 w0 _ g s0_0 t922 t923 from zi) (zs HO920.out) (by decide)) hk (fun _ h => h.2)) (fun _ h => h.1)); replace HK := am (KeepBut.trans zh hk (.inl rfl)); replace HB := am (hb); replace HI0 := am (hi); (try clear hb); (try clear hk); (try clear hi); have p929 : 0 ≤ (t921 : Int) := oa; have q929 : t921 < (t917.length : Int) := oa; obtain ⟨ad929, A929_2, c929_2, A929_5, c929_5, e929, hx929_0, hx929_1, hx929_2, hx929_3, hx929_4, hx929_5, hl929_2, hi929_2, hl929_5, hi929_5⟩ := at_T52 (Kd.S_reads' HO920.out).2.2 t921 p929 q929; cases e929; obtain ⟨ce929, hce929, hMe929, hcc929⟩ := Kd.S_get HO920.out z52 t921 p929 (by exact q929); obtain ⟨ve929_2, ve929_5, rfl, ge929_2, ge929_5⟩ := k52_openM hMe929; have hv929_2 := hcc929 2 _ rfl; rw [add_field _ _ 2 (by omega)] at hv929_2; replace hv929_2 := Option.some.inj (hv929_2.symm.trans hx929_2); rw [hv929_2] at ge929_2; have HL929_2 := am (show Kd.R Kd.string 9 _ _ _ _ ((T52 t917 t921).f2) from ge929_2); clear hv929_2 ge929_2; have HX929_2 := am hx929_2; have hv929_5 := hcc929 5 _ rfl; rw [add_field _ _ 5 (by omega)] at hv929_5; replace hv929_5 := Option.some.inj (hv929_5.symm.trans hx929_5); rw [hv929_5] at ge929_5; have HL929_5 := am (show Kd.R Kd.string 9 _ _ _ _ ((T52 t917 t921).f5) from ge929_5); clear hv929_5 ge929_5; have HX929_5 := am hx929_5; clear hcc929 hce929; have HR929_2 := am hi929_2; have HC929_2 := am hl929_2; clear hi929_2 hl929_2; have HR929_5 := am hi929_5; have HC929_5 := am hl929_5; clear hi929_5 hl929_5; replace p929 := eq_true p929; replace q929 := eq_true q929; have p26 : 0 ≤ (t921 : Int) := oa; have q26 : (t921 : Int) < ((t917.length : Int) : Int) := oa; obtain ⟨go26, co26, eo26, gb26, gl26, cl26, HG26⟩ := Kd.S_form HO920.out (by omega); (cases eo26); have GB26 := am gb26; have GG26 := am HG26; clear gb26 gl26 HG26; (simp only [add_plain] at hx929_0); (simp only [add_plain] at hx929_1); (simp only [add_plain] at hx929_2); (simp only [add_plain] at hx929_3); (simp only [add_plain] at hx929_4); (simp only [add_plain] at hx929_5); obtain ⟨_, ce26, hcl26, hM26, hcc26, hfr26, _, _⟩ := Kd.S_elem HO920.out z52 (t921 : Int) p26 q26; obtain ⟨ve26_2, ve26_5, rfl, ge26_2, ge26_5, hsp26⟩ := k52_openMS hM26; have HSP26 := am hsp26; clear hsp26; have hx26_0 : w28.cell? ⟨go26, (t921 : Int).toNat * 6, none⟩ = some (.int .i64 ((T52 t917 t921).f0)) := hcc26 0 _ rfl; have hx26_1 : w28.cell? ⟨go26, (t921 : Int).toNat * 6 + 1, none⟩ = some (.int .i64 ((T52 t917 t921).f1)) := hcc26 1 _ rfl; have hx26_2 : w28.cell? ⟨go26, (t921 : Int).toNat * 6 + 2, none⟩ = some (ve26_2) := hcc26 2 _ rfl; have hx26_3 : w28.cell? ⟨go26, (t921 : Int).toNat * 6 + 3, none⟩ = some (.int .i64 ((T52 t917 t921).f3)) := hcc26 3 _ rfl; have hx26_4 : w28.cell? ⟨go26, (t921 : Int).toNat * 6 + 4, none⟩ = some (.int .i64 ((T52 t917 t921).f4)) := hcc26 4 _ rfl; have hx26_5 : w28.cell? ⟨go26, (t921 : Int).toNat * 6 + 5, none⟩ = some (ve26_5) := hcc26 5 _ rfl; have hf26_0 : w28.frozen? ⟨go26, (t921 : Int).toNat * 6, none⟩ = false := hfr26 0; have hf26_1 : w28.frozen? ⟨go26, (t921 : Int).toNat * 6 + 1, none⟩ = false := hfr26 1; have hf26_2 : w28.frozen? ⟨go26, (t921 : Int).toNat * 6 + 2, none⟩ = false := hfr26 2; have hf26_3 : w28.frozen? ⟨go26, (t921 : Int).toNat * 6 + 3, none⟩ = false := hfr26 3; have hf26_4 : w28.frozen? ⟨go26, (t921 : Int).toNat * 6 + 4, none⟩ = false := hfr26 4; have hf26_5 : w28.frozen? ⟨go26, (t921 : Int).toNat * 6 + 5, none⟩ = false := hfr26 5; clear hcl26 hcc26 hfr26; (try clear hM26); replace p26 := eq_true p26; replace q26 := eq_true q26; have n_ := am (Kd.S_mono (ok' := (fun k_ => some k_ ≠ (.slice Ao7 t907.length co7 : Value).ownBlock)) HO920.out (fun k_ hk => hk.2)); clear HO920; have HO920 := n_; clear n_; have HX29 := am (show Kd.S k52 52 w28 w.heap.size (fun k_ => ((fun k_ => some k_ ≠ (.slice Ao7 t907.length co7 : Value).ownBlock)) k_ ∧ ¬ ((fun _ => False)) k_) (.slice (some ⟨go26, 0, none⟩) t917.length co11) t917 from (by exact Kd.S_mono HO920.out (fun k_ hk => ⟨hk, fun e_ => e_⟩))); obtain ⟨oki29, ce29, hcl29, hM29, hcc29, hfr29, hoki29, hH29⟩ := Kd.S_elem HX29.out z52 (t921 : Int) oa (by have h_ : (t921 : Int) < ((t917.length : Int) : Int) := oa; exact h_); obtain ⟨ve29_2, ve29_5, rfl, ge29_2, ge29_5, hsp29⟩ := k52_openMS hM29; have HSP29 := am hsp29; clear hsp29; have HP29 := Kd.S_seg hH29 oa (by have h_ : (t921 : Int) < ((t917.length : Int) : Int) := oa; exact h_) (seg := [.int .i64 (wrap64 (((T52 t917 t921).f3) + 1))]) (j := 3) (show 4 ≤ 6 from by decide) (x' := (⟨(T52 t917 t921).f0, (T52 t917 t921).f1, (T52 t917 t921).f2, wrap64 (((T52 t917 t921).f3) + 1), (T52 t917 t921).f4, (T52 t917 t921).f5⟩ : S52)) (k52_mkM zy _ _ _ (⟨(T52 t917 t921).f0, (T52 t917 t921).f1, (T52 t917 t921).f2, wrap64 (((T52 t917 t921).f3) + 1), (T52 t917 t921).f4, (T52 t917 t921).f5⟩ : S52) (Kd.R_mono ge29_2 (fun _ h_ => Or.inl h_)) (Kd.R_mono ge29_5 (fun _ h_ => Or.inl h_))) (fun _ hk => hk) (fun k_ hk_ => hk_.elim); have hx29_3 := hcc29 3 _ rfl; (try simp only [show (k52).sz = 6 from rfl, Nat.mul_one, Nat.add_zero] at hx29_3); have hf29_3 := hfr29 3; (try simp only [show (k52).sz = 6 from rfl, Nat.mul_one, Nat.add_zero] at hf29_3); clear hcl29 hcc29 hfr29 hoki29 hH29; (try clear hM29)) | ((with_reducible refine gate_store (t := 3) (p := 46) rfl ?_); refine store_event (t := 3) (p := 46) (v := ?vo_w30) (w1 := (w28.setCell ⟨go26, (t921 : Int).toNat * 6 + 3, none⟩ (.int .i64 (wrap64 (((T52 t917 t921).f3) + 1))))) ?hg ?ho ?hn ?hr ?_; (case ho => rfl); (case hg => rfl); (case hn => rfl); (case hr => (go_simp; done)); intro w30 hw; have hg : w28.grownBy w30 (some go26) := (by rw [hw]; exact HP29.2); have hp_ : Kd.S k52 52 w30 w.heap.size (fun k_ => some k_ ≠ (.slice Ao7 t907.length co7 : Value).ownBlock) (.slice (some ⟨go26, 0, none⟩) t917.length co11) y930 := (by rw [hw, Ny930.out]; exact HP29.1); clear HP29; replace HI0 := am (IsS77.grown zi hg (IsS77.own_neS HI0.out HO920.out (by decide))); replace HO909 := am (Kd.R_over' (v := (.slice (some ⟨go26, 0, none⟩) t917.length co11)) (zr HO909.out) (Kd.S_typed HO920.out) (by decide) hg); replace HO914 := am (Kd.S_over' (v := (.slice (some ⟨go26, 0, none⟩) t917.length co11)) (zs HO914.out) (Kd.S_typed HO920.out) (by decide) hg); replace HL929_2 := am (Kd.R_after (v := (.slice (some ⟨go26, 0, none⟩) t917.length co11)) (v1 := (.slice (some ⟨go26, 0, none⟩) t917.length co11)) (ok := (fun k_ => some k_ ≠ (.slice Ao7 t907.length co7 : Value).ownBlock)) (by exact Kd.R_mono HL929_2.out (fun _ hk => ⟨hk.1.2, hk.2⟩)) hg (.inl rfl)); replace HL929_5 := am (Kd.R_after (v := (.slice (some ⟨go26, 0, none⟩) t917.length co11)) (v1 := (.slice (some ⟨go26, 0, none⟩) t917.length co11)) (ok := (fun k_ => some k_ ≠ (.slice Ao7 t907.length co7 : Value).ownBlock)) (by exact Kd.R_mono HL929_5.out (fun _ hk => ⟨hk.1.2, hk.2⟩)) hg (.inl rfl)); replace HB := am ((by rw [hw]; exact below_set (HB.out) (Nat.le_trans HL.out GB26.out) : Below w0.heap.size w0 w30)); replace HK := am (KeepBut.trans zh (KeepBut.of_grown hg g) (Kd.S_base2 HO920.out)); replace HO920 := am (hp_); clear hg hw hp_))
     go_meet
     case rel => exact ⟨_, (y930), (t925), (t926), H', ⟨by omega⟩, ⟨zr HO909.out⟩, ⟨zs HO920.out⟩, ⟨by repeat ((with_reducible exact HI0.out))⟩, ⟨by repeat ((with_reducible exact HK.out))⟩, ⟨by repeat ((with_reducible exact HB.out))⟩⟩
    ·rw [if_neg c23] at H
     have c23b0 : (t924 == 1) = false := beq_eq_false_iff_ne.mpr c23
     have c23b1 : (t924 != 1) = true := bne_iff_ne.mpr c23
     by_cases c31 : t924 = 2
     ·rw [if_pos c31] at H
      have c31b0 : (t924 == 2) = true := beq_iff_eq.mpr c31
      have c31b1 : (t924 != 2) = false := bne_eq_false_iff_eq.mpr c31
      clear c31
      obtain ⟨c32, H⟩ := itn H
      have c32b0 := decide_eq_true c32
      clear c32
      obtain ⟨c33, H⟩ := itn H
      have c33b0 := decide_eq_true c33
      clear c33
      obtain ⟨c34, H⟩ := itn H
      have LMc34 := am c34
      clear c34
      obtain ⟨y932, hy932⟩ : ∃ y_ : List ByteArray, y_ = (((T52 t917 t921).f2) ++ [(⟨#[122, 10]⟩ : ByteArray)]) := ⟨_, rfl⟩
      rw [← hy932] at H
      have Ny932 := am hy932
      clear hy932
      obtain ⟨y935, hy935⟩ : ∃ y_ : List (S52), y_ = (t917.set (t921 : Int).toNat (⟨(T52 t917 t921).f0, (T52 t917 t921).f1, y932, (T52 t917 t921).f3, (T52 t917 t921).f4, (T52 t917 t921).f5⟩ : S52)) := ⟨_, rfl⟩
      rw [← hy935] at H
      have Ny935 := am hy935
      clear hy935
      have H' := am H
      clear H
      go_wp2_with (first | ((with_reducible refine gateC (f := 97) rfl ?_); refine goesL_ (some 24) rfl rfl Tryz.func97 (by kernel_rfl) rfl #[.pointer (some ⟨g, 0, none⟩), .int .i64 (t917.length : Int)] rfl zm ?_; (with_reducible refine (spec_l1Cur_pick.calls g s0_0 t915 t916 (t917.length : Int) t921 t922 t923 w0 _ ?side1 ?side2 A13.out).mono ?_); (case side1 => exact zi); (case side2 => exact zj); rintro e w36 ⟨rfl, hi, hb, hk⟩; refine ⟨_, rfl, ?_⟩; replace HO909 := am (Kd.R_mono (Kd.R_keep (IsS77.apart (show IsS77 w0 _ g s0_0 t915 t916 from zi) (zr HO909.out) (by decide)) hk (fun _ h => h.2)) (fun _ h => h.1)); replace HO914 := am (Kd.S_mono (Kd.S_keep (IsS77.apartS (show IsS77 w0 _ g s0_0 t915 t916 from zi) (zs HO914.out) (by decide)) hk (fun _ h => h.2)) (fun _ h => h.1)); replace HO920 := am (Kd.S_mono (Kd.S_keep (IsS77.apartS (show IsS77 w0 _ g s0_0 t915 t916 from zi) (zs HO920.out) (by decide)) hk (fun _ h => h.2)) (fun _ h => h.1)); replace HK := am (KeepBut.trans zh hk (.inl rfl)); replace HB := am (hb); replace HI0 := am (hi); (try clear hb); (try clear hk); (try clear hi)) | ((with_reducible refine gateC (f := 97) rfl ?_); refine goesL_ (some 26) rfl rfl Tryz.func97 (by kernel_rfl) rfl #[.pointer (some ⟨g, 0, none⟩), .int .i64 15] rfl zm ?_; (with_reducible refine (spec_l1Cur_pick.calls g s0_0 t922 t923 15 t924 t925 t926 w0 _ ?side1 ?side2 A14.out).mono ?_); (case side1 => exact zi); (case side2 => exact zj); rintro e w37 ⟨rfl, hi, hb, hk⟩; refine ⟨_, rfl, ?_⟩; replace HO909 := am (Kd.R_mono (Kd.R_keep (IsS77.apart (show IsS77 w0 _ g s0_0 t922 t923 from zi) (zr HO909.out) (by decide)) hk (fun _ h => h.2)) (fun _ h => h.1)); replace HO914 := am (Kd.S_mono (Kd.S_keep (IsS77.apartS (show IsS77 w0 _ g s0_0 t922 t923 from zi) (zs HO914.out) (by decide)) hk (fun _ h => h.2)) (fun _ h => h.1)); replace HO920 := am (Kd.S_mono (Kd.S_keep (IsS77.apartS (show IsS77 w0 _ g s0_0 t922 t923 from zi) (zs HO920.out) (by decide)) hk (fun _ h => h.2)) (fun _ h => h.1)); replace HK := am (KeepBut.trans zh hk (.inl rfl)); replace HB := am (hb); replace HI0 := am (hi); (try clear hb); (try clear hk); (try clear hi); have p931 : 0 ≤ (t921 : Int) := oa; have q931 : t921 < (t917.length : Int) := oa; obtain ⟨ad931, A931_2, c931_2, A931_5, c931_5, e931, hx931_0, hx931_1, hx931_2, hx931_3, hx931_4, hx931_5, hl931_2, hi931_2, hl931_5, hi931_5⟩ := at_T52 (Kd.S_reads' HO920.out).2.2 t921 p931 q931; cases e931; obtain ⟨ce931, hce931, hMe931, hcc931⟩ := Kd.S_get HO920.out z52 t921 p931 (by exact q931); obtain ⟨ve931_2, ve931_5, rfl, ge931_2, ge931_5⟩ := k52_openM hMe931; have hv931_2 := hcc931 2 _ rfl; rw [add_field _ _ 2 (by omega)] at hv931_2; replace hv931_2 := Option.some.inj (hv931_2.symm.trans hx931_2); rw [hv931_2] at ge931_2; have HL931_2 := am (show Kd.R Kd.string 9 _ _ _ _ ((T52 t917 t921).f2) from ge931_2); clear hv931_2 ge931_2; have HX931_2 := am hx931_2; have hv931_5 := hcc931 5 _ rfl; rw [add_field _ _ 5 (by omega)] at hv931_5; replace hv931_5 := Option.some.inj (hv931_5.symm.trans hx931_5); rw [hv931_5] at ge931_5; have HL931_5 := am (show Kd.R Kd.string 9 _ _ _ _ ((T52 t917 t921).f5) from ge931_5); clear hv931_5 ge931_5; have HX931_5 := am hx931_5; clear hcc931 hce931; have HR931_2 := am hi931_2; have HC931_2 := am hl931_2; clear hi931_2 hl931_2; have HR931_5 := am hi931_5; have HC931_5 := am hl931_5; clear hi931_5 hl931_5; replace p931 := eq_true p931; replace q931 := eq_true q931; have n_ := am (Kd.S_mono (ok' := (fun k_ => some k_ ≠ (.slice Ao7 t907.length co7 : Value).ownBlock)) HO920.out (fun k_ hk => hk.2)); clear HO920; have HO920 := n_; clear n_; obtain ⟨go38, co38, eo38, gb38, gl38, cl38, HG38⟩ := Kd.S_form HO920.out (by have h_ : (t921 : Int) < ((t917.length : Int) : Int) := oa; have h2_ : 0 ≤ (t921 : Int) := oa; omega); (cases eo38); have GB38 := am gb38; have GG38 := am HG38; clear gb38 gl38 HG38; (simp only [add_plain] at hx931_0); (simp only [add_plain] at hx931_1); (simp only [add_plain] at hx931_2); (simp only [add_plain] at hx931_3); (simp only [add_plain] at hx931_4); (simp only [add_plain] at hx931_5); obtain ⟨oki38, ce38, hcl38, hM38, hcc38, _, _, hH38⟩ := Kd.S_elem HO920.out z52 (t921 : Int) oa (by have h_ : (t921 : Int) < ((t917.length : Int) : Int) := oa; exact h_); obtain ⟨ve38_2, ve38_5, rfl, ge38_2, ge38_5, hsp38⟩ := k52_openMS hM38; have hv38 := hcc38 2 _ rfl; have hX38 := HX931_2.out; (try simp only [add_plain] at hX38); replace hv38 := Option.some.inj (hv38.symm.trans hX38); subst hv38; clear hX38 hcc38 hcl38; have UU38 := am (show Kd.R Kd.string 9 _ w.heap.size oki38 (.slice A931_2 ((T52 t917 t921).f2).length c931_2) ((T52 t917 t921).f2) from ge38_2); have HH38 := am hH38; have HN38 := am (Kd.S_reads' HO920.out).1; have HSP38 := am hsp38; clear hsp38; have HE38_5 := am ge38_5; clear hH38 ge38_2 ge38_5) | ((with_reducible refine gateB (b := .append) (xs := #[.tmp 55, .tmp 56]) rfl ?_); at_builtin; refine Kd.R_append Kd.string w.heap.size rfl (.tmp 55) (.tmp 56) 24 9 (.string ⟨#[]⟩) 16 rfl Tryz.underlying24 info9 rfl (by decide) (by omega) (.slice A931_2 ((T52 t917 t921).f2).length c931_2) ((T52 t917 t921).f2) (⟨#[122, 10]⟩ : ByteArray) [.string (⟨#[122, 10]⟩ : ByteArray)] (fun k_ => oki38 k_ ∨ ((fun k_ => some k_ ≠ (.slice Ao7 t907.length co7 : Value).ownBlock)) k_ ∧ w37.heap.size ≤ k_) (fun _ => False) rfl rfl ?aP (fun _ hk => hk.elim) ?aF ?aO (Below.refl _ _) ?aS ?aL ?_; (case aP => exact rfl); (case aF => exact (fun k_ hk => .inr ⟨Kd.fresh' (Kd.R_lt (zr HO909.out)) k_ hk, hk⟩)); (case aO => exact (by exact Kd.R_mono UU38.out (fun _ hk => .inl hk))); (case aS => exact (keep_size (w := w) (g := g) (row := none) zh)); (case aL => have := LMc34.out; omega); intro v933 w39 ho hb hg hat; rw [← Ny932.out] at ho; replace HO909 := am (Kd.R_grown2 (zr HO909.out) rfl hg (fun k_ e_ => (HL931_2.out.1 k_ e_).1.2)); replace HB := am (below_weaken zj HL.out hb); replace HI0 := am (IsS77.grown zi hg (IsS77.own_ne HI0.out HL931_2.out (by decide))); replace HK := am (KeepBut.trans zh (KeepBut.of_grown hg g) (Kd.R_base2 HL931_2.out)); replace HH38 := am (Kd.H_grown (Kd.H_widen (by repeat (exact HH38.out))) hg (fun k_ e_ => .inl (UU38.out.1 k_ e_))); have HSQ38 := am (sep_after HSP38.out hat (Kd.R_lt (zr HE38_5.out))); replace HE38_5 := am (Kd.R_grown2 (zr HE38_5.out) rfl hg (fun k_ e_ h_ => HSP38.out k_ h_.symm e_)); have HO934 := am (ho); clear HO920; clear UU38; clear HL931_2; clear HL931_5; clear ho hb hg hat; have p35 : 0 ≤ (t921 : Int) := oa; have q35 : (t921 : Int) < ((t917.length : Int) : Int) := oa; replace p35 := eq_true p35; replace q35 := eq_true q35; obtain ⟨Ao42, co42, eo42⟩ := Kd.R_slice HO934.out; subst eo42; obtain ⟨_, _, hraw40, _, _, hcc40, _⟩ := Kd.H_raw HH38.out oa (by have h_ : (t921 : Int) < ((t917.length : Int) : Int) := oa; exact h_); obtain ⟨_, hfr40⟩ := Kd.H_at HH38.out oa (by have h_ : (t921 : Int) < ((t917.length : Int) : Int) := oa; exact h_); have hx40_0 := hcc40 2 _ rfl; have hf40_0 := hfr40 2; (try rw [show (k52).sz = 6 from rfl] at hx40_0); (try rw [show (k52).sz = 6 from rfl] at hf40_0); have HP40 := Kd.S_seg0 HH38.out oa (by have h_ : (t921 : Int) < ((t917.length : Int) : Int) := oa; exact h_) (seg := [.slice Ao42 y932.length co42]) (j := 2) (show 3 ≤ 6 from by decide) (x' := (⟨(T52 t917 t921).f0, (T52 t917 t921).f1, y932, (T52 t917 t921).f3, (T52 t917 t921).f4, (T52 t917 t921).f5⟩ : S52)) (k52_mkM zy _ _ _ (⟨(T52 t917 t921).f0, (T52 t917 t921).f1, y932, (T52 t917 t921).f3, (T52 t917 t921).f4, (T52 t917 t921).f5⟩ : S52) HO934.out (Kd.R_mono HE38_5.out (fun _ h_ => .inl h_))) (fun _ hk => hk); clear hcc40 hfr40) | ((with_reducible refine gate_store (t := 24) (p := 59) rfl ?_); refine store_event (t := 24) (p := 59) (v := ?vo_w41) (w1 := (w39.setCell ⟨go38, (t921 : Int).toNat * 6 + 2, none⟩ (.slice Ao42 y932.length co42))) ?hg ?ho ?hn ?hr ?_; (case ho => rfl); (case hg => rfl); (case hn => rfl); (case hr => (go_simp; done)); intro w41 hw; have hg : w39.grownBy w41 (some go38) := (by rw [hw]; exact HP40.2); have hp_ : Kd.S k52 52 w41 w.heap.size (fun k_ => some k_ ≠ (.slice Ao7 t907.length co7 : Value).ownBlock) (.slice (some ⟨go38, 0, none⟩) t917.length co11) y935 := (by rw [hw, Ny935.out]; exact HP40.1); clear HP40; replace HI0 := am (IsS77.grown zi hg (IsS77.own_ne HI0.out hraw40 (by decide))); replace HO909 := am (Kd.R_over' (v := (.slice (some ⟨go38, 0, none⟩) t917.length co11)) (zr HO909.out) (Kd.R_typed hraw40) (by decide) hg); replace HB := am ((by rw [hw]; exact below_set HB.out (Nat.le_trans HL.out GB38.out) : Below w0.heap.size w0 w41)); replace HK := am (KeepBut.trans zh (KeepBut.of_grown hg g) (Kd.R_base2 hraw40)); have HO920 := am (hp_); clear HO934; clear HH38; clear HE38_5; clear hg hw hp_ hraw40))
      go_meet
      case rel => exact ⟨_, (y935), (t925), (t926), H', ⟨by omega⟩, ⟨zr HO909.out⟩, ⟨zs HO920.out⟩, ⟨by repeat ((with_reducible exact HI0.out))⟩, ⟨by repeat ((with_reducible exact HK.out))⟩, ⟨by repeat ((with_reducible exact HB.out))⟩⟩
     ·rw [if_neg c31] at H
      have c31b0 : (t924 == 2) = false := beq_eq_false_iff_ne.mpr c31
      have c31b1 : (t924 != 2) = true := bne_iff_ne.mpr c31
      by_cases c43 : t924 = 3
      ·rw [if_pos c43] at H
       have c43b0 : (t924 == 3) = true := beq_iff_eq.mpr c43
       have c43b1 : (t924 != 3) = false := bne_eq_false_iff_eq.mpr c43
       clear c43
       obtain ⟨c44, H⟩ := itn H
       have c44b0 := decide_eq_true c44
       clear c44
       obtain ⟨c45, H⟩ := itn H
       have c45b0 := decide_eq_true c45
       clear c45
       obtain ⟨y937, hy937⟩ : ∃ y_ : List (S52), y_ = (t917.set (t921 : Int).toNat (⟨wrap64 (((T52 t917 t921).f0) + 30), (T52 t917 t921).f1, (T52 t917 t921).f2, (T52 t917 t921).f3, (T52 t917 t921).f4, (T52 t917 t921).f5⟩ : S52)) := ⟨_, rfl⟩
       replace H : (spec_l1Cur_steps.j0 k t907 (y937.set (t921 : Int).toNat (⟨(T52 y937 t921).f0, wrap64 (((T52 y937 t921).f1) + 30), (T52 y937 t921).f2, (T52 y937 t921).f3, (T52 y937 t921).f4, (T52 y937 t921).f5⟩ : S52)) s0_0 t925 t926) = some (r1, r2, r3, r4) := by (have H2_ := (Option.bind_some _ _).symm.trans H; rw [hy937]; with_reducible exact H2_)
       have Ny937 := am hy937
       clear hy937
       obtain ⟨y939, hy939⟩ : ∃ y_ : List (S52), y_ = (y937.set (t921 : Int).toNat (⟨(T52 y937 t921).f0, wrap64 (((T52 y937 t921).f1) + 30), (T52 y937 t921).f2, (T52 y937 t921).f3, (T52 y937 t921).f4, (T52 y937 t921).f5⟩ : S52)) := ⟨_, rfl⟩
       rw [← hy939] at H
       have Ny939 := am hy939
       clear hy939
       have H' := am H
       clear H
       go_wp2_with (first | ((with_reducible refine gateC (f := 97) rfl ?_); refine goesL_ (some 24) rfl rfl Tryz.func97 (by kernel_rfl) rfl #[.pointer (some ⟨g, 0, none⟩), .int .i64 (t917.length : Int)] rfl zm ?_; (with_reducible refine (spec_l1Cur_pick.calls g s0_0 t915 t916 (t917.length : Int) t921 t922 t923 w0 _ ?side1 ?side2 A13.out).mono ?_); (case side1 => exact zi); (case side2 => exact zj); rintro e w48 ⟨rfl, hi, hb, hk⟩; refine ⟨_, rfl, ?_⟩; replace HO909 := am (Kd.R_mono (Kd.R_keep (IsS77.apart (show IsS77 w0 _ g s0_0 t915 t916 from zi) (zr HO909.out) (by decide)) hk (fun _ h => h.2)) (fun _ h => h.1)); replace HO914 := am (Kd.S_mono (Kd.S_keep (IsS77.apartS (show IsS77 w0 _ g s0_0 t915 t916 from zi) (zs HO914.out) (by decide)) hk (fun _ h => h.2)) (fun _ h => h.1)); replace HO920 := am (Kd.S_mono (Kd.S_keep (IsS77.apartS (show IsS77 w0 _ g s0_0 t915 t916 from zi) (zs HO920.out) (by decide)) hk (fun _ h => h.2)) (fun _ h => h.1)); replace HK := am (KeepBut.trans zh hk (.inl rfl)); replace HB := am (hb); replace HI0 := am (hi); (try clear hb); (try clear hk); (try clear hi)) | ((with_reducible refine gateC (f := 97) rfl ?_); refine goesL_ (some 26) rfl rfl Tryz.func97 (by kernel_rfl) rfl #[.pointer (some ⟨g, 0, none⟩), .int .i64 15] rfl zm ?_; (with_reducible refine (spec_l1Cur_pick.calls g s0_0 t922 t923 15 t924 t925 t926 w0 _ ?side1 ?side2 A14.out).mono ?_); (case side1 => exact zi); (case side2 => exact zj); rintro e w49 ⟨rfl, hi, hb, hk⟩; refine ⟨_, rfl, ?_⟩; replace HO909 := am (Kd.R_mono (Kd.R_keep (IsS77.apart (show IsS77 w0 _ g s0_0 t922 t923 from zi) (zr HO909.out) (by decide)) hk (fun _ h => h.2)) (fun _ h => h.1)); replace HO914 := am (Kd.S_mono (Kd.S_keep (IsS77.apartS (show IsS77 w0 _ g s0_0 t922 t923 from zi) (zs HO914.out) (by decide)) hk (fun _ h => h.2)) (fun _ h => h.1)); replace HO920 := am (Kd.S_mono (Kd.S_keep (IsS77.apartS (show IsS77 w0 _ g s0_0 t922 t923 from zi) (zs HO920.out) (by decide)) hk (fun _ h => h.2)) (fun _ h => h.1)); replace HK := am (KeepBut.trans zh hk (.inl rfl)); replace HB := am (hb); replace HI0 := am (hi); (try clear hb); (try clear hk); (try clear hi); have p936 : 0 ≤ (t921 : Int) := oa; have q936 : t921 < (t917.length : Int) := oa; obtain ⟨ad936, A936_2, c936_2, A936_5, c936_5, e936, hx936_0, hx936_1, hx936_2, hx936_3, hx936_4, hx936_5, hl936_2, hi936_2, hl936_5, hi936_5⟩ := at_T52 (Kd.S_reads' HO920.out).2.2 t921 p936 q936; cases e936; obtain ⟨ce936, hce936, hMe936, hcc936⟩ := Kd.S_get HO920.out z52 t921 p936 (by exact q936); obtain ⟨ve936_2, ve936_5, rfl, ge936_2, ge936_5⟩ := k52_openM hMe936; have hv936_2 := hcc936 2 _ rfl; rw [add_field _ _ 2 (by omega)] at hv936_2; replace hv936_2 := Option.some.inj (hv936_2.symm.trans hx936_2); rw [hv936_2] at ge936_2; have HL936_2 := am (show Kd.R Kd.string 9 _ _ _ _ ((T52 t917 t921).f2) from ge936_2); clear hv936_2 ge936_2; have HX936_2 := am hx936_2; have hv936_5 := hcc936 5 _ rfl; rw [add_field _ _ 5 (by omega)] at hv936_5; replace hv936_5 := Option.some.inj (hv936_5.symm.trans hx936_5); rw [hv936_5] at ge936_5; have HL936_5 := am (show Kd.R Kd.string 9 _ _ _ _ ((T52 t917 t921).f5) from ge936_5); clear hv936_5 ge936_5; have HX936_5 := am hx936_5; clear hcc936 hce936; have HR936_2 := am hi936_2; have HC936_2 := am hl936_2; clear hi936_2 hl936_2; have HR936_5 := am hi936_5; have HC936_5 := am hl936_5; clear hi936_5 hl936_5; replace p936 := eq_true p936; replace q936 := eq_true q936; have p46 : 0 ≤ (t921 : Int) := oa; have q46 : (t921 : Int) < ((t917.length : Int) : Int) := oa; obtain ⟨go46, co46, eo46, gb46, gl46, cl46, HG46⟩ := Kd.S_form HO920.out (by omega); (cases eo46); have GB46 := am gb46; have GG46 := am HG46; clear gb46 gl46 HG46; (simp only [add_plain] at hx936_0); (simp only [add_plain] at hx936_1); (simp only [add_plain] at hx936_2); (simp only [add_plain] at hx936_3); (simp only [add_plain] at hx936_4); (simp only [add_plain] at hx936_5); obtain ⟨_, ce46, hcl46, hM46, hcc46, hfr46, _, _⟩ := Kd.S_elem HO920.out z52 (t921 : Int) p46 q46; obtain ⟨ve46_2, ve46_5, rfl, ge46_2, ge46_5, hsp46⟩ := k52_openMS hM46; have HSP46 := am hsp46; clear hsp46; have hx46_0 : w49.cell? ⟨go46, (t921 : Int).toNat * 6, none⟩ = some (.int .i64 ((T52 t917 t921).f0)) := hcc46 0 _ rfl; have hx46_1 : w49.cell? ⟨go46, (t921 : Int).toNat * 6 + 1, none⟩ = some (.int .i64 ((T52 t917 t921).f1)) := hcc46 1 _ rfl; have hx46_2 : w49.cell? ⟨go46, (t921 : Int).toNat * 6 + 2, none⟩ = some (ve46_2) := hcc46 2 _ rfl; have hx46_3 : w49.cell? ⟨go46, (t921 : Int).toNat * 6 + 3, none⟩ = some (.int .i64 ((T52 t917 t921).f3)) := hcc46 3 _ rfl; have hx46_4 : w49.cell? ⟨go46, (t921 : Int).toNat * 6 + 4, none⟩ = some (.int .i64 ((T52 t917 t921).f4)) := hcc46 4 _ rfl; have hx46_5 : w49.cell? ⟨go46, (t921 : Int).toNat * 6 + 5, none⟩ = some (ve46_5) := hcc46 5 _ rfl; have hf46_0 : w49.frozen? ⟨go46, (t921 : Int).toNat * 6, none⟩ = false := hfr46 0; have hf46_1 : w49.frozen? ⟨go46, (t921 : Int).toNat * 6 + 1, none⟩ = false := hfr46 1; have hf46_2 : w49.frozen? ⟨go46, (t921 : Int).toNat * 6 + 2, none⟩ = false := hfr46 2; have hf46_3 : w49.frozen? ⟨go46, (t921 : Int).toNat * 6 + 3, none⟩ = false := hfr46 3; have hf46_4 : w49.frozen? ⟨go46, (t921 : Int).toNat * 6 + 4, none⟩ = false := hfr46 4; have hf46_5 : w49.frozen? ⟨go46, (t921 : Int).toNat * 6 + 5, none⟩ = false := hfr46 5; clear hcl46 hcc46 hfr46; (try clear hM46); replace p46 := eq_true p46; replace q46 := eq_true q46; have n_ := am (Kd.S_mono (ok' := (fun k_ => some k_ ≠ (.slice Ao7 t907.length co7 : Value).ownBlock)) HO920.out (fun k_ hk => hk.2)); clear HO920; have HO920 := n_; clear n_; have HX50 := am (show Kd.S k52 52 w49 w.heap.size (fun k_ => ((fun k_ => some k_ ≠ (.slice Ao7 t907.length co7 : Value).ownBlock)) k_ ∧ ¬ ((fun _ => False)) k_) (.slice (some ⟨go46, 0, none⟩) t917.length co11) t917 from (by exact Kd.S_mono HO920.out (fun k_ hk => ⟨hk, fun e_ => e_⟩))); obtain ⟨oki50, ce50, hcl50, hM50, hcc50, hfr50, hoki50, hH50⟩ := Kd.S_elem HX50.out z52 (t921 : Int) oa (by have h_ : (t921 : Int) < ((t917.length : Int) : Int) := oa; exact h_); obtain ⟨ve50_2, ve50_5, rfl, ge50_2, ge50_5, hsp50⟩ := k52_openMS hM50; have HSP50 := am hsp50; clear hsp50; have HP50 := Kd.S_seg hH50 oa (by have h_ : (t921 : Int) < ((t917.length : Int) : Int) := oa; exact h_) (seg := [.int .i64 (wrap64 (((T52 t917 t921).f0) + 30))]) (j := 0) (show 1 ≤ 6 from by decide) (x' := (⟨wrap64 (((T52 t917 t921).f0) + 30), (T52 t917 t921).f1, (T52 t917 t921).f2, (T52 t917 t921).f3, (T52 t917 t921).f4, (T52 t917 t921).f5⟩ : S52)) (k52_mkM zy _ _ _ (⟨wrap64 (((T52 t917 t921).f0) + 30), (T52 t917 t921).f1, (T52 t917 t921).f2, (T52 t917 t921).f3, (T52 t917 t921).f4, (T52 t917 t921).f5⟩ : S52) (Kd.R_mono ge50_2 (fun _ h_ => Or.inl h_)) (Kd.R_mono ge50_5 (fun _ h_ => Or.inl h_))) (fun _ hk => hk) (fun k_ hk_ => hk_.elim); have hx50_0 := hcc50 0 _ rfl; (try simp only [show (k52).sz = 6 from rfl, Nat.mul_one, Nat.add_zero] at hx50_0); have hf50_0 := hfr50 0; (try simp only [show (k52).sz = 6 from rfl, Nat.mul_one, Nat.add_zero] at hf50_0); clear hcl50 hcc50 hfr50 hoki50 hH50; (try clear hM50)) | ((with_reducible refine gate_store (t := 3) (p := 69) rfl ?_); refine store_event (t := 3) (p := 69) (v := ?vo_w51) (w1 := (w49.setCell ⟨go46, (t921 : Int).toNat * 6, none⟩ (.int .i64 (wrap64 (((T52 t917 t921).f0) + 30))))) ?hg ?ho ?hn ?hr ?_; (case ho => rfl); (case hg => rfl); (case hn => rfl); (case hr => (go_simp; done)); intro w51 hw; have hg : w49.grownBy w51 (some go46) := (by rw [hw]; exact HP50.2); have hp_ : Kd.S k52 52 w51 w.heap.size (fun k_ => some k_ ≠ (.slice Ao7 t907.length co7 : Value).ownBlock) (.slice (some ⟨go46, 0, none⟩) t917.length co11) y937 := (by rw [hw, Ny937.out]; exact HP50.1); clear HP50; replace HI0 := am (IsS77.grown zi hg (IsS77.own_neS HI0.out HO920.out (by decide))); replace HO909 := am (Kd.R_over' (v := (.slice (some ⟨go46, 0, none⟩) t917.length co11)) (zr HO909.out) (Kd.S_typed HO920.out) (by decide) hg); replace HO914 := am (Kd.S_over' (v := (.slice (some ⟨go46, 0, none⟩) t917.length co11)) (zs HO914.out) (Kd.S_typed HO920.out) (by decide) hg); replace HL936_2 := am (Kd.R_after (v := (.slice (some ⟨go46, 0, none⟩) t917.length co11)) (v1 := (.slice (some ⟨go46, 0, none⟩) t917.length co11)) (ok := (fun k_ => some k_ ≠ (.slice Ao7 t907.length co7 : Value).ownBlock)) (by exact Kd.R_mono HL936_2.out (fun _ hk => ⟨hk.1.2, hk.2⟩)) hg (.inl rfl)); replace HL936_5 := am (Kd.R_after (v := (.slice (some ⟨go46, 0, none⟩) t917.length co11)) (v1 := (.slice (some ⟨go46, 0, none⟩) t917.length co11)) (ok := (fun k_ => some k_ ≠ (.slice Ao7 t907.length co7 : Value).ownBlock)) (by exact Kd.R_mono HL936_5.out (fun _ hk => ⟨hk.1.2, hk.2⟩)) hg (.inl rfl)); replace HB := am ((by rw [hw]; exact below_set (HB.out) (Nat.le_trans HL.out GB46.out) : Below w0.heap.size w0 w51)); replace HK := am (KeepBut.trans zh (KeepBut.of_grown hg g) (Kd.S_base2 HO920.out)); replace HO920 := am (hp_); clear hg hw hp_; have p938 : 0 ≤ (t921 : Int) := oa; have q938 : t921 < (y937.length : Int) := (by have h_ : (t921 : Int) < ((t917.length : Int) : Int) := oa; (have e_ := (Kd.S_reads' HO920.out).1; omega)); have ql938 : ((t921 : Int) < ((t917.length : Int) : Int)) = True := eq_true oa; obtain ⟨ad938, A938_2, c938_2, A938_5, c938_5, e938, hx938_0, hx938_1, hx938_2, hx938_3, hx938_4, hx938_5, hl938_2, hi938_2, hl938_5, hi938_5⟩ := at_T52 (Kd.S_reads' HO920.out).2.2 t921 p938 q938; obtain rfl : (⟨go46, 0, none⟩ : Addr) = ad938 := (by injection e938); obtain ⟨ce938, hce938, hMe938, hcc938⟩ := Kd.S_get HO920.out z52 t921 p938 (by exact oa); obtain ⟨ve938_2, ve938_5, rfl, ge938_2, ge938_5⟩ := k52_openM hMe938; have hv938_2 := hcc938 2 _ rfl; rw [add_field _ _ 2 (by omega)] at hv938_2; replace hv938_2 := Option.some.inj (hv938_2.symm.trans hx938_2); rw [hv938_2] at ge938_2; have HL938_2 := am (show Kd.R Kd.string 9 _ _ _ _ ((T52 y937 t921).f2) from ge938_2); clear hv938_2 ge938_2; have HX938_2 := am hx938_2; have hv938_5 := hcc938 5 _ rfl; rw [add_field _ _ 5 (by omega)] at hv938_5; replace hv938_5 := Option.some.inj (hv938_5.symm.trans hx938_5); rw [hv938_5] at ge938_5; have HL938_5 := am (show Kd.R Kd.string 9 _ _ _ _ ((T52 y937 t921).f5) from ge938_5); clear hv938_5 ge938_5; have HX938_5 := am hx938_5; clear hcc938 hce938; (simp only [add_plain] at hx938_0); (simp only [add_plain] at hx938_1); (simp only [add_plain] at hx938_2); (simp only [add_plain] at hx938_3); (simp only [add_plain] at hx938_4); (simp only [add_plain] at hx938_5); have HR938_2 := am hi938_2; have HC938_2 := am hl938_2; clear hi938_2 hl938_2; have HR938_5 := am hi938_5; have HC938_5 := am hl938_5; clear hi938_5 hl938_5; replace p938 := eq_true p938; replace q938 := eq_true q938; have p47 : 0 ≤ (t921 : Int) := oa; have q47 : (t921 : Int) < ((t917.length : Int) : Int) := oa; obtain ⟨_, ce47, hcl47, hM47, hcc47, hfr47, _, _⟩ := Kd.S_elem HO920.out z52 (t921 : Int) p47 q47; obtain ⟨ve47_2, ve47_5, rfl, ge47_2, ge47_5, hsp47⟩ := k52_openMS hM47; have HSP47 := am hsp47; clear hsp47; have hx47_0 : w51.cell? ⟨go46, (t921 : Int).toNat * 6, none⟩ = some (.int .i64 ((T52 y937 t921).f0)) := hcc47 0 _ rfl; have hx47_1 : w51.cell? ⟨go46, (t921 : Int).toNat * 6 + 1, none⟩ = some (.int .i64 ((T52 y937 t921).f1)) := hcc47 1 _ rfl; have hx47_2 : w51.cell? ⟨go46, (t921 : Int).toNat * 6 + 2, none⟩ = some (ve47_2) := hcc47 2 _ rfl; have hx47_3 : w51.cell? ⟨go46, (t921 : Int).toNat * 6 + 3, none⟩ = some (.int .i64 ((T52 y937 t921).f3)) := hcc47 3 _ rfl; have hx47_4 : w51.cell? ⟨go46, (t921 : Int).toNat * 6 + 4, none⟩ = some (.int .i64 ((T52 y937 t921).f4)) := hcc47 4 _ rfl; have hx47_5 : w51.cell? ⟨go46, (t921 : Int).toNat * 6 + 5, none⟩ = some (ve47_5) := hcc47 5 _ rfl; have hf47_0 : w51.frozen? ⟨go46, (t921 : Int).toNat * 6, none⟩ = false := hfr47 0; have hf47_1 : w51.frozen? ⟨go46, (t921 : Int).toNat * 6 + 1, none⟩ = false := hfr47 1; have hf47_2 : w51.frozen? ⟨go46, (t921 : Int).toNat * 6 + 2, none⟩ = false := hfr47 2; have hf47_3 : w51.frozen? ⟨go46, (t921 : Int).toNat * 6 + 3, none⟩ = false := hfr47 3; have hf47_4 : w51.frozen? ⟨go46, (t921 : Int).toNat * 6 + 4, none⟩ = false := hfr47 4; have hf47_5 : w51.frozen? ⟨go46, (t921 : Int).toNat * 6 + 5, none⟩ = false := hfr47 5; clear hcl47 hcc47 hfr47; (try clear hM47); replace p47 := eq_true p47; replace q47 := eq_true q47; have HX52 := am (show Kd.S k52 52 w51 w.heap.size (fun k_ => ((fun k_ => some k_ ≠ (.slice Ao7 t907.length co7 : Value).ownBlock)) k_ ∧ ¬ ((fun _ => False)) k_) (.slice (some ⟨go46, 0, none⟩) t917.length co11) y937 from (by exact Kd.S_mono HO920.out (fun k_ hk => ⟨hk, fun e_ => e_⟩))); obtain ⟨oki52, ce52, hcl52, hM52, hcc52, hfr52, hoki52, hH52⟩ := Kd.S_elem HX52.out z52 (t921 : Int) oa (by have h_ : (t921 : Int) < ((t917.length : Int) : Int) := oa; exact h_); obtain ⟨ve52_2, ve52_5, rfl, ge52_2, ge52_5, hsp52⟩ := k52_openMS hM52; have HSP52 := am hsp52; clear hsp52; have HP52 := Kd.S_seg hH52 oa (by have h_ : (t921 : Int) < ((t917.length : Int) : Int) := oa; exact h_) (seg := [.int .i64 (wrap64 (((T52 y937 t921).f1) + 30))]) (j := 1) (show 2 ≤ 6 from by decide) (x' := (⟨(T52 y937 t921).f0, wrap64 (((T52 y937 t921).f1) + 30), (T52 y937 t921).f2, (T52 y937 t921).f3, (T52 y937 t921).f4, (T52 y937 t921).f5⟩ : S52)) (k52_mkM zy _ _ _ (⟨(T52 y937 t921).f0, wrap64 (((T52 y937 t921).f1) + 30), (T52 y937 t921).f2, (T52 y937 t921).f3, (T52 y937 t921).f4, (T52 y937 t921).f5⟩ : S52) (Kd.R_mono ge52_2 (fun _ h_ => Or.inl h_)) (Kd.R_mono ge52_5 (fun _ h_ => Or.inl h_))) (fun _ hk => hk) (fun k_ hk_ => hk_.elim); have hx52_1 := hcc52 1 _ rfl; (try simp only [show (k52).sz = 6 from rfl, Nat.mul_one, Nat.add_zero] at hx52_1); have hf52_1 := hfr52 1; (try simp only [show (k52).sz = 6 from rfl, Nat.mul_one, Nat.add_zero] at hf52_1); clear hcl52 hcc52 hfr52 hoki52 hH52; (try clear hM52)) | ((with_reducible refine gate_store (t := 3) (p := 77) rfl ?_); refine store_event (t := 3) (p := 77) (v := ?vo_w53) (w1 := (w51.setCell ⟨go46, (t921 : Int).toNat * 6 + 1, none⟩ (.int .i64 (wrap64 (((T52 y937 t921).f1) + 30))))) ?hg ?ho ?hn ?hr ?_; (case ho => rfl); (case hg => rfl); (case hn => rfl); (case hr => (go_simp; done)); intro w53 hw; have hg : w51.grownBy w53 (some go46) := (by rw [hw]; exact HP52.2); have hp_ : Kd.S k52 52 w53 w.heap.size (fun k_ => some k_ ≠ (.slice Ao7 t907.length co7 : Value).ownBlock) (.slice (some ⟨go46, 0, none⟩) t917.length co11) y939 := (by rw [hw, Ny939.out]; exact HP52.1); clear HP52; replace HI0 := am (IsS77.grown zi hg (IsS77.own_neS HI0.out HO920.out (by decide))); replace HO909 := am (Kd.R_over' (v := (.slice (some ⟨go46, 0, none⟩) t917.length co11)) (zr HO909.out) (Kd.S_typed HO920.out) (by decide) hg); replace HO914 := am (Kd.S_over' (v := (.slice (some ⟨go46, 0, none⟩) t917.length co11)) (zs HO914.out) (Kd.S_typed HO920.out) (by decide) hg); replace HL936_2 := am (Kd.R_after (v := (.slice (some ⟨go46, 0, none⟩) t917.length co11)) (v1 := (.slice (some ⟨go46, 0, none⟩) t917.length co11)) (ok := (fun k_ => some k_ ≠ (.slice Ao7 t907.length co7 : Value).ownBlock)) (zr HL936_2.out) hg (.inl rfl)); replace HL936_5 := am (Kd.R_after (v := (.slice (some ⟨go46, 0, none⟩) t917.length co11)) (v1 := (.slice (some ⟨go46, 0, none⟩) t917.length co11)) (ok := (fun k_ => some k_ ≠ (.slice Ao7 t907.length co7 : Value).ownBlock)) (zr HL936_5.out) hg (.inl rfl)); replace HL938_2 := am (Kd.R_after (v := (.slice (some ⟨go46, 0, none⟩) t917.length co11)) (v1 := (.slice (some ⟨go46, 0, none⟩) t917.length co11)) (ok := (fun k_ => some k_ ≠ (.slice Ao7 t907.length co7 : Value).ownBlock)) (zr HL938_2.out) hg (.inl rfl)); replace HL938_5 := am (Kd.R_after (v := (.slice (some ⟨go46, 0, none⟩) t917.length co11)) (v1 := (.slice (some ⟨go46, 0, none⟩) t917.length co11)) (ok := (fun k_ => some k_ ≠ (.slice Ao7 t907.length co7 : Value).ownBlock)) (zr HL938_5.out) hg (.inl rfl)); replace HB := am ((by rw [hw]; exact below_set (HB.out) (Nat.le_trans HL.out GB46.out) : Below w0.heap.size w0 w53)); replace HK := am (KeepBut.trans zh (KeepBut.of_grown hg g) (Kd.S_base2 HO920.out)); replace HO920 := am (hp_); clear hg hw hp_))
       go_meet
       case rel => exact ⟨_, (y939), (t925), (t926), H', ⟨by omega⟩, ⟨zr HO909.out⟩, ⟨zs HO920.out⟩, ⟨by repeat ((with_reducible exact HI0.out))⟩, ⟨by repeat ((with_reducible exact HK.out))⟩, ⟨by repeat ((with_reducible exact HB.out))⟩⟩
      ·rw [if_neg c43] at H
       have c43b0 : (t924 == 3) = false := beq_eq_false_iff_ne.mpr c43
       have c43b1 : (t924 != 3) = true := bne_iff_ne.mpr c43
       by_cases c54 : t924 = 4
       ·rw [if_pos c54] at H
        have c54b0 : (t924 == 4) = true := beq_iff_eq.mpr c54
        have c54b1 : (t924 != 4) = false := bne_eq_false_iff_eq.mpr c54
        clear c54
        obtain ⟨y940, hy940⟩ : ∃ y_ : List ByteArray, y_ = (([(⟨#[108, 97, 115, 116]⟩ : ByteArray)] : List ByteArray)) := ⟨_, rfl⟩
        rw [← hy940] at H
        have Ny940 := am hy940
        clear hy940
        obtain ⟨c55, H⟩ := itn H
        have c55b0 := decide_eq_true c55
        clear c55
        obtain ⟨c56, H⟩ := itn H
        have c56b0 := decide_eq_true c56
        clear c56
        obtain ⟨y943, hy943⟩ : ∃ y_ : List (S52), y_ = (t917.set (t921 : Int).toNat (⟨(T52 t917 t921).f0, (T52 t917 t921).f1, (T52 t917 t921).f2, (T52 t917 t921).f3, (T52 t917 t921).f4, y940⟩ : S52)) := ⟨_, rfl⟩
        rw [← hy943] at H
        have Ny943 := am hy943
        clear hy943
        have H' := am H
        clear H
        go_wp2_with (first | ((with_reducible refine gateC (f := 97) rfl ?_); refine goesL_ (some 24) rfl rfl Tryz.func97 (by kernel_rfl) rfl #[.pointer (some ⟨g, 0, none⟩), .int .i64 (t917.length : Int)] rfl zm ?_; (with_reducible refine (spec_l1Cur_pick.calls g s0_0 t915 t916 (t917.length : Int) t921 t922 t923 w0 _ ?side1 ?side2 A13.out).mono ?_); (case side1 => exact zi); (case side2 => exact zj); rintro e w58 ⟨rfl, hi, hb, hk⟩; refine ⟨_, rfl, ?_⟩; replace HO909 := am (Kd.R_mono (Kd.R_keep (IsS77.apart (show IsS77 w0 _ g s0_0 t915 t916 from zi) (zr HO909.out) (by decide)) hk (fun _ h => h.2)) (fun _ h => h.1)); replace HO914 := am (Kd.S_mono (Kd.S_keep (IsS77.apartS (show IsS77 w0 _ g s0_0 t915 t916 from zi) (zs HO914.out) (by decide)) hk (fun _ h => h.2)) (fun _ h => h.1)); replace HO920 := am (Kd.S_mono (Kd.S_keep (IsS77.apartS (show IsS77 w0 _ g s0_0 t915 t916 from zi) (zs HO920.out) (by decide)) hk (fun _ h => h.2)) (fun _ h => h.1)); replace HK := am (KeepBut.trans zh hk (.inl rfl)); replace HB := am (hb); replace HI0 := am (hi); (try clear hb); (try clear hk); (try clear hi)) | ((with_reducible refine gateC (f := 97) rfl ?_); refine goesL_ (some 26) rfl rfl Tryz.func97 (by kernel_rfl) rfl #[.pointer (some ⟨g, 0, none⟩), .int .i64 15] rfl zm ?_; (with_reducible refine (spec_l1Cur_pick.calls g s0_0 t922 t923 15 t924 t925 t926 w0 _ ?side1 ?side2 A14.out).mono ?_); (case side1 => exact zi); (case side2 => exact zj); rintro e w59 ⟨rfl, hi, hb, hk⟩; refine ⟨_, rfl, ?_⟩; replace HO909 := am (Kd.R_mono (Kd.R_keep (IsS77.apart (show IsS77 w0 _ g s0_0 t922 t923 from zi) (zr HO909.out) (by decide)) hk (fun _ h => h.2)) (fun _ h => h.1)); replace HO914 := am (Kd.S_mono (Kd.S_keep (IsS77.apartS (show IsS77 w0 _ g s0_0 t922 t923 from zi) (zs HO914.out) (by decide)) hk (fun _ h => h.2)) (fun _ h => h.1)); replace HO920 := am (Kd.S_mono (Kd.S_keep (IsS77.apartS (show IsS77 w0 _ g s0_0 t922 t923 from zi) (zs HO920.out) (by decide)) hk (fun _ h => h.2)) (fun _ h => h.1)); replace HK := am (KeepBut.trans zh hk (.inl rfl)); replace HB := am (hb); replace HI0 := am (hi); (try clear hb); (try clear hk); (try clear hi)) | ((with_reducible refine gate_dst (N := 82) rfl ?_); refine Kd.R_lit Kd.string _ 9 ?hg (N := 82) ?hd (xs := ([(⟨#[108, 97, 115, 116]⟩ : ByteArray)] : List ByteArray)) (inner := [.string (⟨#[108, 97, 115, 116]⟩ : ByteArray)]) (ok := fun _ => True) (okp := fun _ => True) ?hr ?hp (fun _ hk => hk) trivial (Below.refl _ _) (Nat.le_refl _) (by simp) ?_; (case hd => rfl); (case hg => rfl); (case hr => (go_simp; done)); (case hp => exact (Reps.one (show Kd.M Kd.string _ _ _ (⟨#[108, 97, 115, 116]⟩ : ByteArray) [.string (⟨#[108, 97, 115, 116]⟩ : ByteArray)] from rfl) (Reps.none _ _))); intro v941 w60 ho61 hb hg_ hnew_; clear hg_ hnew_; (rw [← Ny940.out] at ho61); replace HO914 := am (Kd.S_elder' (zs HO914.out) (Kd.R_base ho61) hb); replace HO920 := am (Kd.S_elder' (zs HO920.out) (Kd.R_base ho61) hb); have HO942 := am (Kd.R_lower (Kd.R_new' ho61 (Kd.R_lt (zr HO909.out))) (keep_size (w := w) (g := g) (row := none) zh)); replace HO909 := am (Kd.R_elder' (zr HO909.out) (Kd.R_base ho61) hb); replace HK := am (KeepBut.trans zh (KeepBut.of_below hb g none) (.inl rfl)); replace HB := am (below_step zj hb); replace HI0 := am (IsS77.below zi hb); clear hb ho61; have p57 : 0 ≤ (t921 : Int) := oa; have q57 : (t921 : Int) < ((t917.length : Int) : Int) := oa; obtain ⟨go57, co57, eo57, gb57, gl57, cl57, HG57⟩ := Kd.S_form HO920.out (by omega); (cases eo57); have GB57 := am gb57; have GG57 := am HG57; clear gb57 gl57 HG57; obtain ⟨_, ce57, hcl57, hM57, hcc57, hfr57, _, _⟩ := Kd.S_elem HO920.out z52 (t921 : Int) p57 q57; obtain ⟨ve57_2, ve57_5, rfl, ge57_2, ge57_5, hsp57⟩ := k52_openMS hM57; have HSP57 := am hsp57; clear hsp57; have hx57_0 : w60.cell? ⟨go57, (t921 : Int).toNat * 6, none⟩ = some (.int .i64 ((T52 t917 t921).f0)) := hcc57 0 _ rfl; have hx57_1 : w60.cell? ⟨go57, (t921 : Int).toNat * 6 + 1, none⟩ = some (.int .i64 ((T52 t917 t921).f1)) := hcc57 1 _ rfl; have hx57_2 : w60.cell? ⟨go57, (t921 : Int).toNat * 6 + 2, none⟩ = some (ve57_2) := hcc57 2 _ rfl; have hx57_3 : w60.cell? ⟨go57, (t921 : Int).toNat * 6 + 3, none⟩ = some (.int .i64 ((T52 t917 t921).f3)) := hcc57 3 _ rfl; have hx57_4 : w60.cell? ⟨go57, (t921 : Int).toNat * 6 + 4, none⟩ = some (.int .i64 ((T52 t917 t921).f4)) := hcc57 4 _ rfl; have hx57_5 : w60.cell? ⟨go57, (t921 : Int).toNat * 6 + 5, none⟩ = some (ve57_5) := hcc57 5 _ rfl; have hf57_0 : w60.frozen? ⟨go57, (t921 : Int).toNat * 6, none⟩ = false := hfr57 0; have hf57_1 : w60.frozen? ⟨go57, (t921 : Int).toNat * 6 + 1, none⟩ = false := hfr57 1; have hf57_2 : w60.frozen? ⟨go57, (t921 : Int).toNat * 6 + 2, none⟩ = false := hfr57 2; have hf57_3 : w60.frozen? ⟨go57, (t921 : Int).toNat * 6 + 3, none⟩ = false := hfr57 3; have hf57_4 : w60.frozen? ⟨go57, (t921 : Int).toNat * 6 + 4, none⟩ = false := hfr57 4; have hf57_5 : w60.frozen? ⟨go57, (t921 : Int).toNat * 6 + 5, none⟩ = false := hfr57 5; clear hcl57 hcc57 hfr57; (try clear hM57); replace p57 := eq_true p57; replace q57 := eq_true q57; have n_ := am (Kd.S_mono (ok' := (fun k_ => some k_ ≠ (.slice Ao7 t907.length co7 : Value).ownBlock ∧ some k_ ≠ (v941 : Value).ownBlock)) HO920.out (fun k_ hk => ⟨hk.1.2, hk.2⟩)); clear HO920; have HO920 := n_; clear n_; have HX62 := am (show Kd.S k52 52 w60 w.heap.size (fun k_ => ((fun k_ => some k_ ≠ (.slice Ao7 t907.length co7 : Value).ownBlock)) k_ ∧ ¬ ((fun k_ => some k_ = (v941 : Value).ownBlock)) k_) (.slice (some ⟨go57, 0, none⟩) t917.length co11) t917 from (by exact Kd.S_mono HO920.out (fun k_ hk => ⟨hk.1, fun e_ => hk.2 e_⟩))); obtain ⟨oki62, ce62, hcl62, hM62, hcc62, hfr62, hoki62, hH62⟩ := Kd.S_elem HX62.out z52 (t921 : Int) oa (by have h_ : (t921 : Int) < ((t917.length : Int) : Int) := oa; exact h_); obtain ⟨ve62_2, ve62_5, rfl, ge62_2, ge62_5, hsp62⟩ := k52_openMS hM62; have HSP62 := am hsp62; clear hsp62; have HP62 := Kd.S_seg hH62 oa (by have h_ : (t921 : Int) < ((t917.length : Int) : Int) := oa; exact h_) (seg := [v941]) (j := 5) (show 6 ≤ 6 from by decide) (x' := (⟨(T52 t917 t921).f0, (T52 t917 t921).f1, (T52 t917 t921).f2, (T52 t917 t921).f3, (T52 t917 t921).f4, y940⟩ : S52)) (k52_mkM zy _ _ _ (⟨(T52 t917 t921).f0, (T52 t917 t921).f1, (T52 t917 t921).f2, (T52 t917 t921).f3, (T52 t917 t921).f4, y940⟩ : S52) (Kd.R_mono ge62_2 (fun _ h_ => Or.inl h_)) (Kd.R_mono (Kd.R_tight rfl (Kd.R_mono (ok' := fun k_ => ((fun k_ => some k_ ≠ (.slice Ao7 t907.length co7 : Value).ownBlock)) k_ ∧ k_ ≠ go57) (Kd.R_apart' (HO942.out) (Kd.S_typed HO920.out) (by decide)) (fun k_ hk => ⟨hk.1.2, fun e_ => (hk.2) (by rw [e_]; rfl)⟩))) (fun _ h_ => Or.inr (h_)))) (fun _ hk => hk) (fun k_ hk_ => ((Kd.R_mono (ok' := fun k_ => ((fun k_ => some k_ ≠ (.slice Ao7 t907.length co7 : Value).ownBlock)) k_ ∧ k_ ≠ go57) (Kd.R_apart' (HO942.out) (Kd.S_typed HO920.out) (by decide)) (fun k_ hk => ⟨hk.1.2, fun e_ => (hk.2) (by rw [e_]; rfl)⟩))).1 k_ hk_.symm); have hx62_5 := hcc62 5 _ rfl; (try simp only [show (k52).sz = 6 from rfl, Nat.mul_one, Nat.add_zero] at hx62_5); have hf62_5 := hfr62 5; (try simp only [show (k52).sz = 6 from rfl, Nat.mul_one, Nat.add_zero] at hf62_5); clear hcl62 hcc62 hfr62 hoki62 hH62; (try clear hM62)) | ((with_reducible refine gate_store (t := 24) (p := 84) rfl ?_); refine store_event (t := 24) (p := 84) (v := ?vo_w63) (w1 := (w60.setCell ⟨go57, (t921 : Int).toNat * 6 + 5, none⟩ (v941))) ?hg ?ho ?hn ?hr ?_; (case ho => rfl); (case hg => rfl); (case hn => rfl); (case hr => (obtain ⟨A0_, c0_, e0_⟩ := Kd.R_slice HO942.out); (subst e0_); (go_simp; done)); intro w63 hw; have hg : w60.grownBy w63 (some go57) := (by rw [hw]; exact HP62.2); have hp_ : Kd.S k52 52 w63 w.heap.size (fun k_ => some k_ ≠ (.slice Ao7 t907.length co7 : Value).ownBlock) (.slice (some ⟨go57, 0, none⟩) t917.length co11) y943 := (by rw [hw, Ny943.out]; exact HP62.1); clear HP62; replace HI0 := am (IsS77.grown zi hg (IsS77.own_neS HI0.out HO920.out (by decide))); replace HO909 := am (Kd.R_over' (v := (.slice (some ⟨go57, 0, none⟩) t917.length co11)) (zr HO909.out) (Kd.S_typed HO920.out) (by decide) hg); replace HO914 := am (Kd.S_over' (v := (.slice (some ⟨go57, 0, none⟩) t917.length co11)) (zs HO914.out) (Kd.S_typed HO920.out) (by decide) hg); replace HB := am ((by rw [hw]; exact below_set (HB.out) (Nat.le_trans HL.out GB57.out) : Below w0.heap.size w0 w63)); replace HK := am (KeepBut.trans zh (KeepBut.of_grown hg g) (Kd.S_base2 HO920.out)); replace HO920 := am (hp_); clear HO942; clear hg hw hp_))
        go_meet
        case rel => exact ⟨_, (y943), (t925), (t926), H', ⟨by omega⟩, ⟨by exact Kd.R_mono HO909.out (fun _ hk => trivial)⟩, ⟨zs HO920.out⟩, ⟨by repeat ((with_reducible exact HI0.out))⟩, ⟨by repeat ((with_reducible exact HK.out))⟩, ⟨by repeat ((with_reducible exact HB.out))⟩⟩
       ·rw [if_neg c54] at H
        have c54b0 : (t924 == 4) = false := beq_eq_false_iff_ne.mpr c54
        have c54b1 : (t924 != 4) = true := bne_iff_ne.mpr c54
        have H' := am H
        clear H
        go_wp2_with (first | ((with_reducible refine gateC (f := 97) rfl ?_); refine goesL_ (some 24) rfl rfl Tryz.func97 (by kernel_rfl) rfl #[.pointer (some ⟨g, 0, none⟩), .int .i64 (t917.length : Int)] rfl zm ?_; (with_reducible refine (spec_l1Cur_pick.calls g s0_0 t915 t916 (t917.length : Int) t921 t922 t923 w0 _ ?side1 ?side2 A13.out).mono ?_); (case side1 => exact zi); (case side2 => exact zj); rintro e w64 ⟨rfl, hi, hb, hk⟩; refine ⟨_, rfl, ?_⟩; replace HO909 := am (Kd.R_mono (Kd.R_keep (IsS77.apart (show IsS77 w0 _ g s0_0 t915 t916 from zi) (zr HO909.out) (by decide)) hk (fun _ h => h.2)) (fun _ h => h.1)); replace HO914 := am (Kd.S_mono (Kd.S_keep (IsS77.apartS (show IsS77 w0 _ g s0_0 t915 t916 from zi) (zs HO914.out) (by decide)) hk (fun _ h => h.2)) (fun _ h => h.1)); replace HO920 := am (Kd.S_mono (Kd.S_keep (IsS77.apartS (show IsS77 w0 _ g s0_0 t915 t916 from zi) (zs HO920.out) (by decide)) hk (fun _ h => h.2)) (fun _ h => h.1)); replace HK := am (KeepBut.trans zh hk (.inl rfl)); replace HB := am (hb); replace HI0 := am (hi); (try clear hb); (try clear hk); (try clear hi)) | ((with_reducible refine gateC (f := 97) rfl ?_); refine goesL_ (some 26) rfl rfl Tryz.func97 (by kernel_rfl) rfl #[.pointer (some ⟨g, 0, none⟩), .int .i64 15] rfl zm ?_; (with_reducible refine (spec_l1Cur_pick.calls g s0_0 t922 t923 15 t924 t925 t926 w0 _ ?side1 ?side2 A14.out).mono ?_); (case side1 => exact zi); (case side2 => exact zj); rintro e w65 ⟨rfl, hi, hb, hk⟩; refine ⟨_, rfl, ?_⟩; replace HO909 := am (Kd.R_mono (Kd.R_keep (IsS77.apart (show IsS77 w0 _ g s0_0 t922 t923 from zi) (zr HO909.out) (by decide)) hk (fun _ h => h.2)) (fun _ h => h.1)); replace HO914 := am (Kd.S_mono (Kd.S_keep (IsS77.apartS (show IsS77 w0 _ g s0_0 t922 t923 from zi) (zs HO914.out) (by decide)) hk (fun _ h => h.2)) (fun _ h => h.1)); replace HO920 := am (Kd.S_mono (Kd.S_keep (IsS77.apartS (show IsS77 w0 _ g s0_0 t922 t923 from zi) (zs HO920.out) (by decide)) hk (fun _ h => h.2)) (fun _ h => h.1)); replace HK := am (KeepBut.trans zh hk (.inl rfl)); replace HB := am (hb); replace HI0 := am (hi); (try clear hb); (try clear hk); (try clear hi)))
        go_meet
        case rel => exact ⟨_, (t917), (t925), (t926), H', ⟨by omega⟩, ⟨zr HO909.out⟩, ⟨by exact Kd.S_mono HO920.out (fun _ hk => hk.2)⟩, ⟨by repeat ((with_reducible exact HI0.out))⟩, ⟨by repeat ((with_reducible exact HK.out))⟩, ⟨by repeat ((with_reducible exact HB.out))⟩⟩
  ·rw [if_neg c12] at H
   have c12b0 : decide (0 < (t917.length : Int)) = false := decide_eq_false c12
   have c12b1 : decide (0 < t917.length) = false := decide_eq_false (by omega)
   clear c12
   (rw [c12b1])
   have H' := am H
   clear H
   go_wp2
   go_meet
   case rel => exact ⟨_, (t917), (t915), (t916), H', ⟨by omega⟩, ⟨zr HO909.out⟩, ⟨by exact Kd.S_mono HO920.out (fun _ hk => hk.2)⟩, ⟨by repeat ((with_reducible exact HI0.out))⟩, ⟨by repeat ((with_reducible exact HK.out))⟩, ⟨by repeat ((with_reducible exact HB.out))⟩⟩
 case rest =>
  clear HC5
  obtain ⟨kq, x5_4, x1001_4, x1002_4, HA, HJ4, HO_4, HO_5, HI0, HK, HB⟩ := hcut
  have hl5_4 := (Kd.S_reads' HO_5.out).1
  rw [hl5_4] at HO_5
  (try simp only [hl5_4])
  cases kq with
  | zero => exact absurd HA.out (by simp [spec_l1Cur_steps.j0])
  | succ kj4 =>
   have H := HA.out
   clear HA
   simp only [spec_l1Cur_steps.j0] at H
   replace H := Option.bind_eq_some_iff.mp H
   obtain ⟨⟨t944, t945, t946⟩, A660, H⟩ := H
   dsimp only at H
   have A66 := am A660
   clear A660
   by_cases c67 : t944 = true
   ·subst c67
    rw [if_pos rfl] at H
    replace H := Option.bind_eq_some_iff.mp H
    obtain ⟨⟨t947, t950, t951⟩, A680, H⟩ := H
    dsimp only at H
    have A68 := am A680
    clear A680
    simp only [Option.some.injEq, Prod.mk.injEq] at H
    obtain ⟨rfl, rfl, rfl, rfl⟩ := H
    go_wp2_with (first | ((with_reducible refine gateC (f := 98) rfl ?_); refine goesL_ (some 86) rfl rfl Tryz.func98 (by kernel_rfl) rfl #[.pointer (some ⟨g, 0, none⟩), .int .i64 4] rfl zm ?_; (with_reducible refine (spec_l1Cur_one.calls g s0_0 x1001_4 x1002_4 4 true t945 t946 w0 _ ?side1 ?side2 A66.out).mono ?_); (case side1 => exact zi); (case side2 => exact zj); rintro e w69 ⟨rfl, hi, hb, hk⟩; refine ⟨_, rfl, ?_⟩; replace HO_4 := am (Kd.R_mono (Kd.R_keep (IsS77.apart (show IsS77 w0 _ g s0_0 x1001_4 x1002_4 from zi) (zr HO_4.out) (by decide)) hk (fun _ h => h.2)) (fun _ h => h.1)); replace HO_5 := am (Kd.S_mono (Kd.S_keep (IsS77.apartS (show IsS77 w0 _ g s0_0 x1001_4 x1002_4 from zi) (zs HO_5.out) (by decide)) hk (fun _ h => h.2)) (fun _ h => h.1)); replace HK := am (KeepBut.trans zh hk (.inl rfl)); replace HB := am (hb); replace HI0 := am (hi); (try clear hb); (try clear hk); (try clear hi)) | ((with_reducible refine gateC (f := 99) rfl ?_); refine goesL_ (some 89) rfl rfl Tryz.func99 (by kernel_rfl) rfl #[.pointer (some ⟨g, 0, none⟩), .slice Ao7 t907.length co7] rfl zm ?_; (with_reducible refine (spec_l1Cur_other.calls kj4 g s0_0 t945 t946 _ _ t907 t947 t950 t951 w0 _ ?side1 ?side2 ?side3 ?side4 ?side5 A68.out).mono ?_); (case side1 => exact zi); (case side2 => exact zj); (case side3 => repeat (exact (Kd.R_reads' HO_4.out).2.2)); (case side4 => exact (Kd.R_reads' HO_4.out).2.1); (case side5 => exact far_slice (IsS77.own_ne HI0.out HO_4.out (by decide))); rintro e w70 ⟨v948, rfl, ho0, hi, hb, hk⟩; refine ⟨_, rfl, ?_⟩; replace HO_5 := am (Kd.S_mono (Kd.S_told (Kd.S_oldK (IsS77.apartS (show IsS77 w0 _ g s0_0 t945 t946 from zi) (zs HO_5.out) (by decide)) hk) (Kd.R_base ho0)) (fun _ h_ => h_.1)); have HO949 := am (Kd.R_lower (Kd.R_new' ho0 (Kd.R_lt (zr HO_4.out))) (keep_size (w := w) (g := g) (row := none) zh)); replace HO_4 := am (Kd.R_mono (Kd.R_told (Kd.R_oldK (IsS77.apart (show IsS77 w0 _ g s0_0 t945 t946 from zi) (zr HO_4.out) (by decide)) hk) (Kd.R_base ho0)) (fun _ h_ => h_.1)); replace HK := am (KeepBut.trans zh hk (.inl rfl)); replace HB := am (hb); replace HI0 := am (hi); (try clear hb); (try clear hk); (try clear hi); (try clear ho0)))
    go_ret2
    exact ⟨_, _, by rfl, by exact Kd.R_mono HO949.out (fun _ hk => trivial), by exact Kd.S_mono HO_5.out (fun _ hk => hk.2), zi, zj, zh⟩
   ·replace c67 := Bool.eq_false_iff.mpr c67
    subst c67
    rw [if_neg nofun] at H
    simp only [Option.some.injEq, Prod.mk.injEq] at H
    obtain ⟨rfl, rfl, rfl, rfl⟩ := H
    go_wp2_with (((with_reducible refine gateC (f := 98) rfl ?_); refine goesL_ (some 86) rfl rfl Tryz.func98 (by kernel_rfl) rfl #[.pointer (some ⟨g, 0, none⟩), .int .i64 4] rfl zm ?_; (with_reducible refine (spec_l1Cur_one.calls g s0_0 x1001_4 x1002_4 4 false t945 t946 w0 _ ?side1 ?side2 A66.out).mono ?_); (case side1 => exact zi); (case side2 => exact zj); rintro e w71 ⟨rfl, hi, hb, hk⟩; refine ⟨_, rfl, ?_⟩; replace HO_4 := am (Kd.R_mono (Kd.R_keep (IsS77.apart (show IsS77 w0 _ g s0_0 x1001_4 x1002_4 from zi) (zr HO_4.out) (by decide)) hk (fun _ h => h.2)) (fun _ h => h.1)); replace HO_5 := am (Kd.S_mono (Kd.S_keep (IsS77.apartS (show IsS77 w0 _ g s0_0 x1001_4 x1002_4 from zi) (zs HO_5.out) (by decide)) hk (fun _ h => h.2)) (fun _ h => h.1)); replace HK := am (KeepBut.trans zh hk (.inl rfl)); replace HB := am (hb); replace HI0 := am (hi); (try clear hb); (try clear hk); (try clear hi)))
    go_ret2
    exact ⟨_, _, by rfl, zr HO_4.out, zs HO_5.out, zi, zj, zh⟩

def spec_DrawStepsHunks.g (k : Nat) (s0_0 : List Int) (s0_1 : Int) (s0_2 : Int) : Option (List ByteArray × (List (S52)) × Int × Int) := (spec_l1Cur_steps.f k s0_0 s0_1 s0_2).bind fun bt954 => (some (bt954.1, bt954.2.1, bt954.2.2.1, bt954.2.2.2))
def spec_DrawStepsHunks.f (k : Nat) (l0 : List Int) : Option (List ByteArray × (List (S52))) := (spec_DrawStepsHunks.g k l0 0 0).bind fun r => some (r.1, r.2.1)
set_option maxHeartbeats 8000000 in
set_option maxRecDepth 100000 in
theorem spec_DrawStepsHunks.made (k : Nat) (A0 : Option Addr) (c0 : Nat) (l0 : List Int) (r1 : List ByteArray) (r2 : List (S52)) (r3 : Int) (r4 : Int) (w0 : World) (hr0 : Kd.C (Kd.int .u8) w0 A0 l0.length l0) (h : spec_DrawStepsHunks.g k l0 0 0 = some (r1, r2, r3, r4)) :
  Calls Tryz.prog 40 #[.slice A0 l0.length c0] w0 fun e w' => ∃ (g : Nat) (w : World), w0.heap.size ≤ w.heap.size ∧ ∃ v0_ v1_ : Value, e = .returned (.tuple #[v0_, v1_]) ∧ Kd.R Kd.string 9 w' w.heap.size (fun _ => True) v0_ r1 ∧ Kd.S k52 52 w' w.heap.size (fun k_ => some k_ ≠ (v0_ : Value).ownBlock) v1_ r2 ∧ IsS77 w0 w' g l0 r3 r4 ∧ Below w0.heap.size w0 w' ∧ KeepBut w w' g none := by
 have HR0 := am hr0
 clear hr0
 have HB := am (Below.refl w0.heap.size w0)
 have H := h
 clear h
 unfold spec_DrawStepsHunks.g at H
 replace H := Option.bind_eq_some_iff.mp H
 obtain ⟨⟨t954, t957, t960, t961⟩, A20, H⟩ := H
 dsimp only at H
 have A2 := am A20
 clear A20
 simp only [Option.some.injEq, Prod.mk.injEq] at H
 obtain ⟨rfl, rfl, rfl, rfl⟩ := H
 go_enter Tryz.func40, Tryz.ntmps40
 go_wp2_with (first | ((with_reducible refine gate_dst (N := 7) rfl ?_); refine box_event ?hg (N := 7) ?hd (cs := #[.slice A0 l0.length c0, .int .i64 0, .int .u64 0]) (t := 77) ?hr ?_; (case hd => rfl); (case hg => rfl); (case hr => (go_simp; done)); intro g hg w hbox hb; have n0_ := am (show IsS77 w0 w g l0 0 0 from ⟨A0, c0, hbox, (by rw [hg]; exact below_size zb), HR0.out⟩); have n1_ := am (below_step zb hb); clear HB HR0; have HI0 := n0_; have HB := n1_; have HK := am (KeepBut.refl w g none); have HL := am HB.out.size; have HW0 := am HB.out.size; clear n0_ n1_ hb hbox hg) | ((with_reducible refine gateC (f := 70) rfl ?_); refine goesL_ (some 9) rfl rfl Tryz.func70 (by kernel_rfl) rfl #[.pointer (some ⟨g, 0, none⟩)] rfl zm ?_; (with_reducible refine (spec_l1Cur_steps.calls k g l0 0 0 t954 t957 t960 t961 w0 _ ?side1 ?side2 A2.out).mono ?_); (case side1 => exact zi); (case side2 => exact zj); rintro e w3 ⟨v955, v958, rfl, ho0, ho1, hi, hb, hk⟩; refine ⟨_, rfl, ?_⟩; have HO956 := am (Kd.R_lower ho0 (keep_size (w := w) (g := g) (row := none) zh)); have HO959 := am (Kd.S_lower ho1 (keep_size (w := w) (g := g) (row := none) zh)); replace HK := am (KeepBut.trans zh hk (.inl rfl)); replace HB := am (hb); replace HI0 := am (hi); (try clear hb); (try clear hk); (try clear hi); (try clear ho0); (try clear ho1)))
 go_ret2
 exact ⟨g, w, HW0.out, _, _, by rfl, zr HO956.out, zs HO959.out, zi, zj, zh⟩
theorem spec_DrawStepsHunks.calls (k : Nat) (A0 : Option Addr) (c0 : Nat) (l0 : List Int) (r1 : List ByteArray) (r2 : List (S52)) (w0 : World) (hr0 : Kd.C (Kd.int .u8) w0 A0 l0.length l0) (hc0 : l0.length ≤ c0) (h : spec_DrawStepsHunks.f k l0 = some (r1, r2)) :
  Calls Tryz.prog 40 #[.slice A0 l0.length c0] w0 fun e w' => ∃ v0_ v1_ : Value, e = .returned (.tuple #[v0_, v1_]) ∧ Kd.R Kd.string 9 w' w0.heap.size (fun _ => True) v0_ r1 ∧ Kd.S k52 52 w' w0.heap.size (fun k_ => some k_ ≠ (v0_ : Value).ownBlock) v1_ r2 ∧ Below w0.heap.size w0 w' := by
  obtain ⟨q, hq, e⟩ := Option.bind_eq_some_iff.1 h
  obtain ⟨q0, q1, q2, q3⟩ := q
  injection e with e
  simp only [Prod.mk.injEq] at e
  obtain ⟨rfl, rfl⟩ := e
  refine (spec_DrawStepsHunks.made k A0 c0 l0 _ _ _ _ w0 hr0 hq).mono ?_
  rintro e w' ⟨g, w, hw, v0_, v1_, h0, h1, h2, _, hb, _⟩
  exact ⟨v0_, v1_, h0, Kd.R_lower h1 hw, Kd.S_lower h2 hw, hb⟩

def spec_DrawApplySteps.f (k : Nat) (l0 : List Int) : Option (List ByteArray × (List (S52))) := (spec_DrawStepsHunks.f k l0).bind fun bt952 => (some (bt952.1, bt952.2))
set_option maxHeartbeats 8000000 in
set_option maxRecDepth 100000 in
theorem spec_DrawApplySteps.calls (k : Nat) (A0 : Option Addr) (c0 : Nat) (l0 : List Int) (r1 : List ByteArray) (r2 : List (S52)) (w : World) (hr0 : Kd.C (Kd.int .u8) w A0 l0.length l0) (hc0 : l0.length ≤ c0) (h : spec_DrawApplySteps.f k l0 = some (r1, r2)) :
  Calls Tryz.prog 18 #[.slice A0 l0.length c0] w fun e w' => ∃ v0_ v1_ : Value, e = .returned (.tuple #[v0_, v1_]) ∧ Kd.R Kd.string 9 w' w.heap.size (fun _ => True) v0_ r1 ∧ Kd.S k52 52 w' w.heap.size (fun k_ => some k_ ≠ (v0_ : Value).ownBlock) v1_ r2 ∧ Below w.heap.size w w' := by
 have HR0 := am hr0
 have HC0 := am hc0
 clear hr0 hc0
 have HB := am (Below.refl w.heap.size w)
 have H : ((spec_DrawStepsHunks.f k l0).bind fun bt952 => (some (bt952.1, bt952.2))) = some (r1, r2) := h
 clear h
 replace H := Option.bind_eq_some_iff.mp H
 obtain ⟨⟨t952, t953⟩, A20, H⟩ := H
 replace H : (some (t952, t953)) = some (r1, r2) := H
 have A2 := am A20
 clear A20
 simp only [Option.some.injEq, Prod.mk.injEq] at H
 obtain ⟨rfl, rfl⟩ := H
 go_enter Tryz.func18, Tryz.ntmps18
 go_wp2_with (first | ((with_reducible refine gateC (f := 40) rfl ?_); refine goesL_ (some 5) rfl rfl Tryz.func40 (by kernel_rfl) rfl #[.slice A0 l0.length c0] rfl zm ?_; (with_reducible refine (spec_DrawStepsHunks.calls k _ _ l0 t952 t953 _ ?side1 ?side2 A2.out).mono ?_); (case side1 => exact zq HR0.out); (case side2 => exact HC0.out); rintro e w3 ⟨v954, v956, rfl, ho0, ho1, hb⟩; refine ⟨_, rfl, ?_⟩; have n0_ := am (Kd.R_lower ho0 (below_size zb)); have n1_ := am (Kd.S_lower ho1 (below_size zb)); have n2_ := am (below_step zb hb); clear HB; have HO955 := n0_; have HO957 := n1_; have HB := n2_; clear n0_ n1_ n2_; (try clear hb); (try clear ho0); (try clear ho1)))
 go_ret2
 exact ⟨_, _, by first | rfl | (simp [errW_none, errW_some] <;> rfl) | (simp [*, errW_none, errW_some] <;> rfl), zr HO955.out, zs HO957.out, zb⟩

def spec_l1Cur_among.f (s0_0 : List Int) (s0_1 : Int) (s0_2 : Int) (l1 : List Int) : Option (Int × Int × Int) := (spec_l1Cur_pick.f s0_0 s0_1 s0_2 (l1.length : Int)).bind fun bt623 => (if 0 ≤ bt623.1 then (if bt623.1 < (l1.length : Int) then (some (rd l1 bt623.1, bt623.2.1, bt623.2.2)) else (none)) else (none))
set_option maxHeartbeats 8000000 in
set_option maxRecDepth 100000 in
theorem spec_l1Cur_among.calls (g : Nat) (s0_0 : List Int) (s0_1 : Int) (s0_2 : Int) (A1 : Option Addr) (c1 : Nat) (l1 : List Int) (r1 : Int) (r2 : Int) (r3 : Int) (w0 w : World) (hI : IsS77 w0 w g s0_0 s0_1 s0_2) (hB : Below w0.heap.size w0 w) (hr1 : Kd.C (Kd.int .i64) w A1 l1.length l1) (hc1 : l1.length ≤ c1) (hf1 : ∀ ad, A1 = some ad → 0 < l1.length → ad.block ≠ g) (h : spec_l1Cur_among.f s0_0 s0_1 s0_2 l1 = some (r1, r2, r3)) :
  Calls Tryz.prog 114 #[.pointer (some ⟨g, 0, none⟩), .slice A1 l1.length c1] w fun e w' => e = .returned (.int .i64 r1) ∧ IsS77 w0 w' g s0_0 r2 r3 ∧ Below w0.heap.size w0 w' ∧ KeepBut w w' g none := by
 have HR1 := am hr1
 have HC1 := am hc1
 clear hr1 hc1
 have HI0 := am hI
 have HK := am (KeepBut.refl w g none)
 have HL := am hB.size
 clear hI
 have HW0 := am hB.size
 have HB := am hB
 clear hB
 have H : ((spec_l1Cur_pick.f s0_0 s0_1 s0_2 (l1.length : Int)).bind fun bt623 => (if 0 ≤ bt623.1 then (if bt623.1 < (l1.length : Int) then (some (rd l1 bt623.1, bt623.2.1, bt623.2.2)) else (none)) else (none))) = some (r1, r2, r3) := h
 clear h
 replace H := Option.bind_eq_some_iff.mp H
 obtain ⟨⟨t623, t624, t625⟩, A30, H⟩ := H
 replace H : (if 0 ≤ t623 then (if t623 < (l1.length : Int) then (some (rd l1 t623, t624, t625)) else (none)) else (none)) = some (r1, r2, r3) := H
 have A3 := am A30
 clear A30
 by_cases c4 : 0 ≤ t623
 ·rw [if_pos c4] at H
  have c4b0 : decide (0 ≤ t623) = true := decide_eq_true c4
  clear c4
  by_cases c5 : t623 < (l1.length : Int)
  ·rw [if_pos c5] at H
   have c5b0 : decide (t623 < (l1.length : Int)) = true := decide_eq_true c5
   clear c5
   simp only [Option.some.injEq, Prod.mk.injEq] at H
   obtain ⟨rfl, rfl, rfl⟩ := H
   go_enter Tryz.func114, Tryz.ntmps114
   go_wp2_with (first | ((with_reducible refine gateC (f := 97) rfl ?_); refine goesL_ (some 9) rfl rfl Tryz.func97 (by kernel_rfl) rfl #[.pointer (some ⟨g, 0, none⟩), .int .i64 (l1.length : Int)] rfl zm ?_; (with_reducible refine (spec_l1Cur_pick.calls g s0_0 s0_1 s0_2 (l1.length : Int) t623 t624 t625 w0 _ ?side1 ?side2 A3.out).mono ?_); (case side1 => exact zi); (case side2 => exact zj); rintro e w6 ⟨rfl, hi, hb, hk⟩; refine ⟨_, rfl, ?_⟩; have n0_ := am (KeepBut.trans zh hk (.inl rfl)); have n1_ := am (hb); have n2_ := am (hi); clear HK; clear HB; clear HI0; have HK := n0_; have HB := n1_; have HI0 := n2_; clear n0_ n1_ n2_; (try clear hb); (try clear hk); (try clear hi); have p626 : 0 ≤ (t623 : Int) := oa; have q626 : t623 < (l1.length : Int) := oa; obtain ⟨ad626, e626, hx626_0⟩ := Kd.at_int HR1.out t623 p626 q626; cases e626; replace hx626_0 := keep_cell HK.out hx626_0 (by first | (rw [add_block]; exact hf1 _ rfl (by omega)) | exact hf1 _ rfl (by omega) | exact hf1 ad626 rfl (by omega)); replace p626 := eq_true p626; replace q626 := eq_true q626))
   go_ret
   exact ⟨by first | rfl | (simp [errW_none, errW_some] <;> rfl) | (simp [*, errW_none, errW_some] <;> rfl), zi, zj, zh⟩
  ·rw [if_neg c5] at H
   exact absurd H (by simp)
 ·rw [if_neg c4] at H
  exact absurd H (by simp)

def spec_l1Cur_anyHunks.f (k : Nat) (s0_0 : List Int) (s0_1 : Int) (s0_2 : Int) (l1 : List ByteArray) : Option ((List (S60)) × Int × Int) := (spec_l1Cur_hunks.f k s0_0 s0_1 s0_2 l1).bind fun bt627 => (if (bt627.1.length : Int) > 0 then ((spec_l1Cur_pick.f s0_0 bt627.2.1 bt627.2.2 (bt627.1.length : Int)).bind fun bt632 => ((spec_l1Cur_pick.f s0_0 bt632.2.1 bt632.2.2 25).bind fun bt635 => (if bt635.1 = 0 then ((spec_l1Cur_among.f s0_0 bt635.2.1 bt635.2.2 (([(-1), 40, 3] : List Int))).bind fun bt641 => (if 0 ≤ bt632.1 then (if bt632.1 < (bt627.1.length : Int) then (some ((bt627.1.set (bt632.1 : Int).toNat (⟨bt641.1, (T60 bt627.1 bt632.1).f1, (T60 bt627.1 bt632.1).f2⟩ : S60)), bt641.2.1, bt641.2.2)) else (none)) else (none))) else (if bt635.1 = 1 then (if 0 ≤ bt632.1 then (if bt632.1 < (bt627.1.length : Int) then (some ((bt627.1.set (bt632.1 : Int).toNat (⟨(T60 bt627.1 bt632.1).f0, wrap64 (((T60 bt627.1 bt632.1).f1) + 3), (T60 bt627.1 bt632.1).f2⟩ : S60)), bt635.2.1, bt635.2.2)) else (none)) else (none)) else (if bt635.1 = 2 then (if 0 ≤ bt632.1 then (if bt632.1 < (bt627.1.length : Int) then (some ((bt627.1.set (bt632.1 : Int).toNat (⟨(T60 bt627.1 bt632.1).f0, (T60 bt627.1 bt632.1).f1, (([(⟨#[]⟩ : ByteArray)] : List ByteArray))⟩ : S60)), bt635.2.1, bt635.2.2)) else (none)) else (none)) else (if bt635.1 = 3 then (if 0 ≤ bt632.1 then (if bt632.1 < (bt627.1.length : Int) then (if ((T60 bt627.1 bt632.1).f2).length < 8796093022208 then (some ((bt627.1.set (bt632.1 : Int).toNat (⟨(T60 bt627.1 bt632.1).f0, (T60 bt627.1 bt632.1).f1, (((T60 bt627.1 bt632.1).f2) ++ [(⟨#[101, 110, 100]⟩ : ByteArray)])⟩ : S60)), bt635.2.1, bt635.2.2)) else (none)) else (none)) else (none)) else (some (bt627.1, bt635.2.1, bt635.2.2)))))))) else (some (bt627.1, bt627.2.1, bt627.2.2)))
set_option maxHeartbeats 8000000 in
set_option maxRecDepth 100000 in
theorem spec_l1Cur_anyHunks.calls (k : Nat) (g : Nat) (s0_0 : List Int) (s0_1 : Int) (s0_2 : Int) (A1 : Option Addr) (c1 : Nat) (l1 : List ByteArray) (r1 : List (S60)) (r2 : Int) (r3 : Int) (w0 w : World) (hI : IsS77 w0 w g s0_0 s0_1 s0_2) (hB : Below w0.heap.size w0 w) (hr1 : Kd.C Kd.string w A1 l1.length l1) (hc1 : l1.length ≤ c1) (hf1 : ∀ ad, A1 = some ad → 0 < l1.length → ad.block ≠ g) (h : spec_l1Cur_anyHunks.f k s0_0 s0_1 s0_2 l1 = some (r1, r2, r3)) :
  Calls Tryz.prog 88 #[.pointer (some ⟨g, 0, none⟩), .slice A1 l1.length c1] w fun e w' => ∃ v0_ : Value, e = .returned (v0_) ∧ Kd.S k60 60 w' w.heap.size (fun _ => True) v0_ r1 ∧ IsS77 w0 w' g s0_0 r2 r3 ∧ Below w0.heap.size w0 w' ∧ KeepBut w w' g none := by
 have HR1 := am hr1
 have HC1 := am hc1
 clear hr1 hc1
 have HI0 := am hI
 have HK := am (KeepBut.refl w g none)
 have HL := am hB.size
 clear hI
 have HW0 := am hB.size
 have HB := am hB
 clear hB
 have H := h
 clear h
 unfold spec_l1Cur_anyHunks.f at H
 replace H := Option.bind_eq_some_iff.mp H
 obtain ⟨⟨t627, t630, t631⟩, A30, H⟩ := H
 dsimp only at H
 have A3 := am A30
 clear A30
 by_cases c4 : (t627.length : Int) > 0
 ·rw [if_pos c4] at H
  have c4b0 : decide (0 < (t627.length : Int)) = true := decide_eq_true c4
  have c4b1 : decide (0 < t627.length) = true := decide_eq_true (by omega)
  clear c4
  replace H := Option.bind_eq_some_iff.mp H
  obtain ⟨⟨t632, t633, t634⟩, A50, H⟩ := H
  dsimp only at H
  have A5 := am A50
  clear A50
  replace H := Option.bind_eq_some_iff.mp H
  obtain ⟨⟨t635, t636, t637⟩, A60, H⟩ := H
  dsimp only at H
  have A6 := am A60
  clear A60
  by_cases c7 : t635 = 0
  ·rw [if_pos c7] at H
   have c7b0 : (t635 == 0) = true := beq_iff_eq.mpr c7
   have c7b1 : (t635 != 0) = false := bne_eq_false_iff_eq.mpr c7
   clear c7
   obtain ⟨y638, hy638⟩ : ∃ y_ : List Int, y_ = (([(-1), 40, 3] : List Int)) := ⟨_, rfl⟩
   rw [← hy638] at H
   have Ny638 := am hy638
   clear hy638
   replace H := Option.bind_eq_some_iff.mp H
   obtain ⟨⟨t641, t642, t643⟩, A80, H⟩ := H
   dsimp only at H
   have A8 := am A80
   clear A80
   obtain ⟨c9, H⟩ := itn H
   have c9b0 := decide_eq_true c9
   clear c9
   obtain ⟨c10, H⟩ := itn H
   have c10b0 := decide_eq_true c10
   clear c10
   obtain ⟨y644, hy644⟩ : ∃ y_ : List (S60), y_ = (t627.set (t632 : Int).toNat (⟨t641, (T60 t627 t632).f1, (T60 t627 t632).f2⟩ : S60)) := ⟨_, rfl⟩
   rw [← hy644] at H
   have Ny644 := am hy644
   clear hy644
   simp only [Option.some.injEq, Prod.mk.injEq] at H
   obtain ⟨rfl, rfl, rfl⟩ := H
   go_enter Tryz.func88, Tryz.ntmps88
   go_wp2_with (first | ((with_reducible refine gateC (f := 96) rfl ?_); refine goesL_ (some 9) rfl rfl Tryz.func96 (by kernel_rfl) rfl #[.pointer (some ⟨g, 0, none⟩), .slice A1 l1.length c1] rfl zm ?_; (with_reducible refine (spec_l1Cur_hunks.calls k g s0_0 s0_1 s0_2 _ _ l1 t627 t630 t631 w0 _ ?side1 ?side2 ?side3 ?side4 ?side5 A3.out).mono ?_); (case side1 => exact zi); (case side2 => exact zj); (case side3 => exact Kd.C_keep (⟨#[]⟩ : ByteArray) HR1.out zh hf1); (case side4 => exact HC1.out); (case side5 => exact hf1); rintro e w12 ⟨v628, rfl, ho0, hi, hb, hk⟩; refine ⟨_, rfl, ?_⟩; have HO629 := am (Kd.S_lower ho0 (keep_size (w := w) (g := g) (row := none) zh)); replace HK := am (KeepBut.trans zh hk (.inl rfl)); replace HB := am (hb); replace HI0 := am (hi); (try clear hb); (try clear hk); (try clear hi); (try clear ho0); obtain ⟨Ao13, co13, eo13⟩ := Kd.S_slice HO629.out; subst eo13) | ((with_reducible refine gateC (f := 97) rfl ?_); refine goesL_ (some 16) rfl rfl Tryz.func97 (by kernel_rfl) rfl #[.pointer (some ⟨g, 0, none⟩), .int .i64 (t627.length : Int)] rfl zm ?_; (with_reducible refine (spec_l1Cur_pick.calls g s0_0 t630 t631 (t627.length : Int) t632 t633 t634 w0 _ ?side1 ?side2 A5.out).mono ?_); (case side1 => exact zi); (case side2 => exact zj); rintro e w14 ⟨rfl, hi, hb, hk⟩; refine ⟨_, rfl, ?_⟩; replace HO629 := am (Kd.S_mono (Kd.S_keep (IsS77.apartS (show IsS77 w0 _ g s0_0 t630 t631 from zi) (zs HO629.out) (by decide)) hk (fun _ h => h.2)) (fun _ h => h.1)); replace HK := am (KeepBut.trans zh hk (.inl rfl)); replace HB := am (hb); replace HI0 := am (hi); (try clear hb); (try clear hk); (try clear hi)) | ((with_reducible refine gateC (f := 97) rfl ?_); refine goesL_ (some 18) rfl rfl Tryz.func97 (by kernel_rfl) rfl #[.pointer (some ⟨g, 0, none⟩), .int .i64 25] rfl zm ?_; (with_reducible refine (spec_l1Cur_pick.calls g s0_0 t633 t634 25 t635 t636 t637 w0 _ ?side1 ?side2 A6.out).mono ?_); (case side1 => exact zi); (case side2 => exact zj); rintro e w15 ⟨rfl, hi, hb, hk⟩; refine ⟨_, rfl, ?_⟩; replace HO629 := am (Kd.S_mono (Kd.S_keep (IsS77.apartS (show IsS77 w0 _ g s0_0 t633 t634 from zi) (zs HO629.out) (by decide)) hk (fun _ h => h.2)) (fun _ h => h.1)); replace HK := am (KeepBut.trans zh hk (.inl rfl)); replace HB := am (hb); replace HI0 := am (hi); (try clear hb); (try clear hk); (try clear hi)) | ((with_reducible refine gate_dst (N := 24) rfl ?_); refine Kd.R_lit (Kd.int .i64) _ 3 ?hg (N := 24) ?hd (xs := ([(-1), 40, 3] : List Int)) (inner := [.int .i64 (-1), .int .i64 40, .int .i64 3]) (ok := fun _ => True) (okp := fun _ => True) ?hr ?hp (fun _ hk => hk) trivial (Below.refl _ _) (Nat.le_refl _) (by simp) ?_; (case hd => rfl); (case hg => rfl); (case hr => (go_simp; done)); (case hp => exact (Reps.one (show Kd.M (Kd.int .i64) _ _ _ (-1) [.int .i64 (-1)] from rfl) (Reps.one (show Kd.M (Kd.int .i64) _ _ _ 40 [.int .i64 40] from rfl) (Reps.one (show Kd.M (Kd.int .i64) _ _ _ 3 [.int .i64 3] from rfl) (Reps.none _ _))))); intro v639 w16 ho17 hb hg_ hnew_; clear hg_ hnew_; (rw [← Ny638.out] at ho17); replace HO629 := am (Kd.S_below (zs HO629.out) hb); have HO640 := am (Kd.R_lower ho17 (keep_size (w := w) (g := g) (row := none) zh)); replace HK := am (KeepBut.trans zh (KeepBut.of_below hb g none) (.inl rfl)); replace HB := am (below_step zj hb); replace HI0 := am (IsS77.below zi hb); clear hb ho17; obtain ⟨Ao18, co18, eo18⟩ := Kd.R_slice HO640.out; subst eo18) | ((with_reducible refine gateC (f := 114) rfl ?_); refine goesL_ (some 25) rfl rfl Tryz.func114 (by kernel_rfl) rfl #[.pointer (some ⟨g, 0, none⟩), .slice Ao18 y638.length co18] rfl zm ?_; (with_reducible refine (spec_l1Cur_among.calls g s0_0 t636 t637 _ _ y638 t641 t642 t643 w0 _ ?side1 ?side2 ?side3 ?side4 ?side5 A8.out).mono ?_); (case side1 => exact zi); (case side2 => exact zj); (case side3 => repeat (exact (Kd.R_reads' HO640.out).2.2)); (case side4 => exact (Kd.R_reads' HO640.out).2.1); (case side5 => exact far_slice (IsS77.own_ne HI0.out HO640.out (by decide))); rintro e w19 ⟨rfl, hi, hb, hk⟩; refine ⟨_, rfl, ?_⟩; replace HO629 := am (Kd.S_mono (Kd.S_keep (IsS77.apartS (show IsS77 w0 _ g s0_0 t636 t637 from zi) (zs HO629.out) (by decide)) hk (fun _ h => h.2)) (fun _ h => h.1)); replace HO640 := am (Kd.R_mono (Kd.R_keep (IsS77.apart (show IsS77 w0 _ g s0_0 t636 t637 from zi) (zr HO640.out) (by decide)) hk (fun _ h => h.2)) (fun _ h => h.1)); replace HK := am (KeepBut.trans zh hk (.inl rfl)); replace HB := am (hb); replace HI0 := am (hi); (try clear hb); (try clear hk); (try clear hi); have p11 : 0 ≤ (t632 : Int) := oa; have q11 : (t632 : Int) < ((t627.length : Int) : Int) := oa; obtain ⟨go11, co11, eo11, gb11, gl11, cl11, HG11⟩ := Kd.S_form HO629.out (by omega); (cases eo11); have GB11 := am gb11; have GG11 := am HG11; clear gb11 gl11 HG11; obtain ⟨_, ce11, hcl11, hM11, hcc11, hfr11, _, _⟩ := Kd.S_elem HO629.out z60 (t632 : Int) p11 q11; obtain ⟨ve11_2, rfl, ge11_2⟩ := k60_openM hM11; have hx11_0 : w19.cell? ⟨go11, (t632 : Int).toNat * 3, none⟩ = some (.int .i64 ((T60 t627 t632).f0)) := hcc11 0 _ rfl; have hx11_1 : w19.cell? ⟨go11, (t632 : Int).toNat * 3 + 1, none⟩ = some (.int .i64 ((T60 t627 t632).f1)) := hcc11 1 _ rfl; have hx11_2 : w19.cell? ⟨go11, (t632 : Int).toNat * 3 + 2, none⟩ = some (ve11_2) := hcc11 2 _ rfl; have hf11_0 : w19.frozen? ⟨go11, (t632 : Int).toNat * 3, none⟩ = false := hfr11 0; have hf11_1 : w19.frozen? ⟨go11, (t632 : Int).toNat * 3 + 1, none⟩ = false := hfr11 1; have hf11_2 : w19.frozen? ⟨go11, (t632 : Int).toNat * 3 + 2, none⟩ = false := hfr11 2; clear hcl11 hcc11 hfr11; (try clear hM11); replace p11 := eq_true p11; replace q11 := eq_true q11; have HX20 := am (show Kd.S k60 60 w19 w.heap.size (fun k_ => ((fun _ => True)) k_ ∧ ¬ ((fun _ => False)) k_) (.slice (some ⟨go11, 0, none⟩) t627.length co13) t627 from (by exact Kd.S_mono HO629.out (fun k_ hk => ⟨trivial, fun e_ => e_⟩))); obtain ⟨oki20, ce20, hcl20, hM20, hcc20, hfr20, hoki20, hH20⟩ := Kd.S_elem HX20.out z60 (t632 : Int) oa (by have h_ : (t632 : Int) < ((t627.length : Int) : Int) := oa; exact h_); obtain ⟨ve20_2, rfl, ge20_2⟩ := k60_openM hM20; have HP20 := Kd.S_seg hH20 oa (by have h_ : (t632 : Int) < ((t627.length : Int) : Int) := oa; exact h_) (seg := [.int .i64 t641]) (j := 0) (show 1 ≤ 3 from by decide) (x' := (⟨t641, (T60 t627 t632).f1, (T60 t627 t632).f2⟩ : S60)) (k60_mkM _ _ _ (⟨t641, (T60 t627 t632).f1, (T60 t627 t632).f2⟩ : S60) (Kd.R_mono ge20_2 (fun _ h_ => Or.inl h_))) (fun _ hk => hk) (fun k_ hk_ => hk_.elim); have hx20_0 := hcc20 0 _ rfl; (try simp only [show (k60).sz = 3 from rfl, Nat.mul_one, Nat.add_zero] at hx20_0); have hf20_0 := hfr20 0; (try simp only [show (k60).sz = 3 from rfl, Nat.mul_one, Nat.add_zero] at hf20_0); clear hcl20 hcc20 hfr20 hoki20 hH20; (try clear hM20)) | ((with_reducible refine gate_store (t := 3) (p := 27) rfl ?_); refine store_event (t := 3) (p := 27) (v := ?vo_w21) (w1 := (w19.setCell ⟨go11, (t632 : Int).toNat * 3, none⟩ (.int .i64 t641))) ?hg ?ho ?hn ?hr ?_; (case ho => rfl); (case hg => rfl); (case hn => rfl); (case hr => (go_simp; done)); intro w21 hw; have hg : w19.grownBy w21 (some go11) := (by rw [hw]; exact HP20.2); have hp_ : Kd.S k60 60 w21 w.heap.size (fun _ => True) (.slice (some ⟨go11, 0, none⟩) t627.length co13) y644 := (by rw [hw, Ny644.out]; exact HP20.1); clear HP20; replace HI0 := am (IsS77.grown zi hg (IsS77.own_neS HI0.out HO629.out (by decide))); replace HO640 := am (Kd.R_over' (v := (.slice (some ⟨go11, 0, none⟩) t627.length co13)) (zr HO640.out) (Kd.S_typed HO629.out) (by decide) hg); replace HB := am ((by rw [hw]; exact below_set (HB.out) (Nat.le_trans HL.out GB11.out) : Below w0.heap.size w0 w21)); replace HK := am (KeepBut.trans zh (KeepBut.of_grown hg g) (Kd.S_base2 HO629.out)); replace HO629 := am (hp_); clear hg hw hp_))
   go_ret
   exact ⟨_, by rfl, zs HO629.out, zi, zj, zh⟩
  ·rw [if_neg c7] at H
   have c7b0 : (t635 == 0) = false := beq_eq_false_iff_ne.mpr c7
   have c7b1 : (t635 != 0) = true := bne_iff_ne.mpr c7
   by_cases c22 : t635 = 1
   ·rw [if_pos c22] at H
    have c22b0 : (t635 == 1) = true := beq_iff_eq.mpr c22
    have c22b1 : (t635 != 1) = false := bne_eq_false_iff_eq.mpr c22
    clear c22
    obtain ⟨c23, H⟩ := itn H
    have c23b0 := decide_eq_true c23
    clear c23
    obtain ⟨c24, H⟩ := itn H
    have c24b0 := decide_eq_true c24
    clear c24
    obtain ⟨y646, hy646⟩ : ∃ y_ : List (S60), y_ = (t627.set (t632 : Int).toNat (⟨(T60 t627 t632).f0, wrap64 (((T60 t627 t632).f1) + 3), (T60 t627 t632).f2⟩ : S60)) := ⟨_, rfl⟩
    rw [← hy646] at H
    have Ny646 := am hy646
    clear hy646
    simp only [Option.some.injEq, Prod.mk.injEq] at H
    obtain ⟨rfl, rfl, rfl⟩ := H
    go_enter Tryz.func88, Tryz.ntmps88
    go_wp2_with (first | ((with_reducible refine gateC (f := 96) rfl ?_); refine goesL_ (some 9) rfl rfl Tryz.func96 (by kernel_rfl) rfl #[.pointer (some ⟨g, 0, none⟩), .slice A1 l1.length c1] rfl zm ?_; (with_reducible refine (spec_l1Cur_hunks.calls k g s0_0 s0_1 s0_2 _ _ l1 t627 t630 t631 w0 _ ?side1 ?side2 ?side3 ?side4 ?side5 A3.out).mono ?_); (case side1 => exact zi); (case side2 => exact zj); (case side3 => exact Kd.C_keep (⟨#[]⟩ : ByteArray) HR1.out zh hf1); (case side4 => exact HC1.out); (case side5 => exact hf1); rintro e w26 ⟨v628, rfl, ho0, hi, hb, hk⟩; refine ⟨_, rfl, ?_⟩; have HO629 := am (Kd.S_lower ho0 (keep_size (w := w) (g := g) (row := none) zh)); replace HK := am (KeepBut.trans zh hk (.inl rfl)); replace HB := am (hb); replace HI0 := am (hi); (try clear hb); (try clear hk); (try clear hi); (try clear ho0); obtain ⟨Ao27, co27, eo27⟩ := Kd.S_slice HO629.out; subst eo27) | ((with_reducible refine gateC (f := 97) rfl ?_); refine goesL_ (some 16) rfl rfl Tryz.func97 (by kernel_rfl) rfl #[.pointer (some ⟨g, 0, none⟩), .int .i64 (t627.length : Int)] rfl zm ?_; (with_reducible refine (spec_l1Cur_pick.calls g s0_0 t630 t631 (t627.length : Int) t632 t633 t634 w0 _ ?side1 ?side2 A5.out).mono ?_); (case side1 => exact zi); (case side2 => exact zj); rintro e w28 ⟨rfl, hi, hb, hk⟩; refine ⟨_, rfl, ?_⟩; replace HO629 := am (Kd.S_mono (Kd.S_keep (IsS77.apartS (show IsS77 w0 _ g s0_0 t630 t631 from zi) (zs HO629.out) (by decide)) hk (fun _ h => h.2)) (fun _ h => h.1)); replace HK := am (KeepBut.trans zh hk (.inl rfl)); replace HB := am (hb); replace HI0 := am (hi); (try clear hb); (try clear hk); (try clear hi)) | ((with_reducible refine gateC (f := 97) rfl ?_); refine goesL_ (some 18) rfl rfl Tryz.func97 (by kernel_rfl) rfl #[.pointer (some ⟨g, 0, none⟩), .int .i64 25] rfl zm ?_; (with_reducible refine (spec_l1Cur_pick.calls g s0_0 t633 t634 25 t635 t636 t637 w0 _ ?side1 ?side2 A6.out).mono ?_); (case side1 => exact zi); (case side2 => exact zj); rintro e w29 ⟨rfl, hi, hb, hk⟩; refine ⟨_, rfl, ?_⟩; replace HO629 := am (Kd.S_mono (Kd.S_keep (IsS77.apartS (show IsS77 w0 _ g s0_0 t633 t634 from zi) (zs HO629.out) (by decide)) hk (fun _ h => h.2)) (fun _ h => h.1)); replace HK := am (KeepBut.trans zh hk (.inl rfl)); replace HB := am (hb); replace HI0 := am (hi); (try clear hb); (try clear hk); (try clear hi); have p645 : 0 ≤ (t632 : Int) := oa; have q645 : t632 < (t627.length : Int) := oa; obtain ⟨ad645, A645_2, c645_2, e645, hx645_0, hx645_1, hx645_2, hl645_2, hi645_2⟩ := at_T60 (Kd.S_reads' HO629.out).2.2 t632 p645 q645; cases e645; obtain ⟨ce645, hce645, hMe645, hcc645⟩ := Kd.S_get HO629.out z60 t632 p645 (by exact q645); obtain ⟨ve645_2, rfl, ge645_2⟩ := k60_openM hMe645; have hv645_2 := hcc645 2 _ rfl; rw [add_field _ _ 2 (by omega)] at hv645_2; replace hv645_2 := Option.some.inj (hv645_2.symm.trans hx645_2); rw [hv645_2] at ge645_2; have HL645_2 := am (show Kd.R Kd.string 9 _ _ _ _ ((T60 t627 t632).f2) from ge645_2); clear hv645_2 ge645_2; have HX645_2 := am hx645_2; clear hcc645 hce645; have HR645_2 := am hi645_2; have HC645_2 := am hl645_2; clear hi645_2 hl645_2; replace p645 := eq_true p645; replace q645 := eq_true q645; have p25 : 0 ≤ (t632 : Int) := oa; have q25 : (t632 : Int) < ((t627.length : Int) : Int) := oa; obtain ⟨go25, co25, eo25, gb25, gl25, cl25, HG25⟩ := Kd.S_form HO629.out (by omega); (cases eo25); have GB25 := am gb25; have GG25 := am HG25; clear gb25 gl25 HG25; (simp only [add_plain] at hx645_0); (simp only [add_plain] at hx645_1); (simp only [add_plain] at hx645_2); obtain ⟨_, ce25, hcl25, hM25, hcc25, hfr25, _, _⟩ := Kd.S_elem HO629.out z60 (t632 : Int) p25 q25; obtain ⟨ve25_2, rfl, ge25_2⟩ := k60_openM hM25; have hx25_0 : w29.cell? ⟨go25, (t632 : Int).toNat * 3, none⟩ = some (.int .i64 ((T60 t627 t632).f0)) := hcc25 0 _ rfl; have hx25_1 : w29.cell? ⟨go25, (t632 : Int).toNat * 3 + 1, none⟩ = some (.int .i64 ((T60 t627 t632).f1)) := hcc25 1 _ rfl; have hx25_2 : w29.cell? ⟨go25, (t632 : Int).toNat * 3 + 2, none⟩ = some (ve25_2) := hcc25 2 _ rfl; have hf25_0 : w29.frozen? ⟨go25, (t632 : Int).toNat * 3, none⟩ = false := hfr25 0; have hf25_1 : w29.frozen? ⟨go25, (t632 : Int).toNat * 3 + 1, none⟩ = false := hfr25 1; have hf25_2 : w29.frozen? ⟨go25, (t632 : Int).toNat * 3 + 2, none⟩ = false := hfr25 2; clear hcl25 hcc25 hfr25; (try clear hM25); replace p25 := eq_true p25; replace q25 := eq_true q25; have HX30 := am (show Kd.S k60 60 w29 w.heap.size (fun k_ => ((fun _ => True)) k_ ∧ ¬ ((fun _ => False)) k_) (.slice (some ⟨go25, 0, none⟩) t627.length co27) t627 from (by exact Kd.S_mono HO629.out (fun k_ hk => ⟨trivial, fun e_ => e_⟩))); obtain ⟨oki30, ce30, hcl30, hM30, hcc30, hfr30, hoki30, hH30⟩ := Kd.S_elem HX30.out z60 (t632 : Int) oa (by have h_ : (t632 : Int) < ((t627.length : Int) : Int) := oa; exact h_); obtain ⟨ve30_2, rfl, ge30_2⟩ := k60_openM hM30; have HP30 := Kd.S_seg hH30 oa (by have h_ : (t632 : Int) < ((t627.length : Int) : Int) := oa; exact h_) (seg := [.int .i64 (wrap64 (((T60 t627 t632).f1) + 3))]) (j := 1) (show 2 ≤ 3 from by decide) (x' := (⟨(T60 t627 t632).f0, wrap64 (((T60 t627 t632).f1) + 3), (T60 t627 t632).f2⟩ : S60)) (k60_mkM _ _ _ (⟨(T60 t627 t632).f0, wrap64 (((T60 t627 t632).f1) + 3), (T60 t627 t632).f2⟩ : S60) (Kd.R_mono ge30_2 (fun _ h_ => Or.inl h_))) (fun _ hk => hk) (fun k_ hk_ => hk_.elim); have hx30_1 := hcc30 1 _ rfl; (try simp only [show (k60).sz = 3 from rfl, Nat.mul_one, Nat.add_zero] at hx30_1); have hf30_1 := hfr30 1; (try simp only [show (k60).sz = 3 from rfl, Nat.mul_one, Nat.add_zero] at hf30_1); clear hcl30 hcc30 hfr30 hoki30 hH30; (try clear hM30)) | ((with_reducible refine gate_store (t := 3) (p := 37) rfl ?_); refine store_event (t := 3) (p := 37) (v := ?vo_w31) (w1 := (w29.setCell ⟨go25, (t632 : Int).toNat * 3 + 1, none⟩ (.int .i64 (wrap64 (((T60 t627 t632).f1) + 3))))) ?hg ?ho ?hn ?hr ?_; (case ho => rfl); (case hg => rfl); (case hn => rfl); (case hr => (go_simp; done)); intro w31 hw; have hg : w29.grownBy w31 (some go25) := (by rw [hw]; exact HP30.2); have hp_ : Kd.S k60 60 w31 w.heap.size (fun _ => True) (.slice (some ⟨go25, 0, none⟩) t627.length co27) y646 := (by rw [hw, Ny646.out]; exact HP30.1); clear HP30; replace HI0 := am (IsS77.grown zi hg (IsS77.own_neS HI0.out HO629.out (by decide))); replace HL645_2 := am (Kd.R_after (v := (.slice (some ⟨go25, 0, none⟩) t627.length co27)) (v1 := (.slice (some ⟨go25, 0, none⟩) t627.length co27)) (ok := (fun _ => True)) (zr HL645_2.out) hg (.inl rfl)); replace HB := am ((by rw [hw]; exact below_set (HB.out) (Nat.le_trans HL.out GB25.out) : Below w0.heap.size w0 w31)); replace HK := am (KeepBut.trans zh (KeepBut.of_grown hg g) (Kd.S_base2 HO629.out)); replace HO629 := am (hp_); clear hg hw hp_))
    go_ret
    exact ⟨_, by rfl, zs HO629.out, zi, zj, zh⟩
   ·rw [if_neg c22] at H
    have c22b0 : (t635 == 1) = false := beq_eq_false_iff_ne.mpr c22
    have c22b1 : (t635 != 1) = true := bne_iff_ne.mpr c22
    by_cases c32 : t635 = 2
    ·rw [if_pos c32] at H
     have c32b0 : (t635 == 2) = true := beq_iff_eq.mpr c32
     have c32b1 : (t635 != 2) = false := bne_eq_false_iff_eq.mpr c32
     clear c32
     obtain ⟨y647, hy647⟩ : ∃ y_ : List ByteArray, y_ = (([(⟨#[]⟩ : ByteArray)] : List ByteArray)) := ⟨_, rfl⟩
     rw [← hy647] at H
     have Ny647 := am hy647
     clear hy647
     obtain ⟨c33, H⟩ := itn H
     have c33b0 := decide_eq_true c33
     clear c33
     obtain ⟨c34, H⟩ := itn H
     have c34b0 := decide_eq_true c34
     clear c34
     obtain ⟨y650, hy650⟩ : ∃ y_ : List (S60), y_ = (t627.set (t632 : Int).toNat (⟨(T60 t627 t632).f0, (T60 t627 t632).f1, y647⟩ : S60)) := ⟨_, rfl⟩
     rw [← hy650] at H
     have Ny650 := am hy650
     clear hy650
     simp only [Option.some.injEq, Prod.mk.injEq] at H
     obtain ⟨rfl, rfl, rfl⟩ := H
     go_enter Tryz.func88, Tryz.ntmps88
     go_wp2_with (first | ((with_reducible refine gateC (f := 96) rfl ?_); refine goesL_ (some 9) rfl rfl Tryz.func96 (by kernel_rfl) rfl #[.pointer (some ⟨g, 0, none⟩), .slice A1 l1.length c1] rfl zm ?_; (with_reducible refine (spec_l1Cur_hunks.calls k g s0_0 s0_1 s0_2 _ _ l1 t627 t630 t631 w0 _ ?side1 ?side2 ?side3 ?side4 ?side5 A3.out).mono ?_); (case side1 => exact zi); (case side2 => exact zj); (case side3 => exact Kd.C_keep (⟨#[]⟩ : ByteArray) HR1.out zh hf1); (case side4 => exact HC1.out); (case side5 => exact hf1); rintro e w36 ⟨v628, rfl, ho0, hi, hb, hk⟩; refine ⟨_, rfl, ?_⟩; have HO629 := am (Kd.S_lower ho0 (keep_size (w := w) (g := g) (row := none) zh)); replace HK := am (KeepBut.trans zh hk (.inl rfl)); replace HB := am (hb); replace HI0 := am (hi); (try clear hb); (try clear hk); (try clear hi); (try clear ho0); obtain ⟨Ao37, co37, eo37⟩ := Kd.S_slice HO629.out; subst eo37) | ((with_reducible refine gateC (f := 97) rfl ?_); refine goesL_ (some 16) rfl rfl Tryz.func97 (by kernel_rfl) rfl #[.pointer (some ⟨g, 0, none⟩), .int .i64 (t627.length : Int)] rfl zm ?_; (with_reducible refine (spec_l1Cur_pick.calls g s0_0 t630 t631 (t627.length : Int) t632 t633 t634 w0 _ ?side1 ?side2 A5.out).mono ?_); (case side1 => exact zi); (case side2 => exact zj); rintro e w38 ⟨rfl, hi, hb, hk⟩; refine ⟨_, rfl, ?_⟩; replace HO629 := am (Kd.S_mono (Kd.S_keep (IsS77.apartS (show IsS77 w0 _ g s0_0 t630 t631 from zi) (zs HO629.out) (by decide)) hk (fun _ h => h.2)) (fun _ h => h.1)); replace HK := am (KeepBut.trans zh hk (.inl rfl)); replace HB := am (hb); replace HI0 := am (hi); (try clear hb); (try clear hk); (try clear hi)) | ((with_reducible refine gateC (f := 97) rfl ?_); refine goesL_ (some 18) rfl rfl Tryz.func97 (by kernel_rfl) rfl #[.pointer (some ⟨g, 0, none⟩), .int .i64 25] rfl zm ?_; (with_reducible refine (spec_l1Cur_pick.calls g s0_0 t633 t634 25 t635 t636 t637 w0 _ ?side1 ?side2 A6.out).mono ?_); (case side1 => exact zi); (case side2 => exact zj); rintro e w39 ⟨rfl, hi, hb, hk⟩; refine ⟨_, rfl, ?_⟩; replace HO629 := am (Kd.S_mono (Kd.S_keep (IsS77.apartS (show IsS77 w0 _ g s0_0 t633 t634 from zi) (zs HO629.out) (by decide)) hk (fun _ h => h.2)) (fun _ h => h.1)); replace HK := am (KeepBut.trans zh hk (.inl rfl)); replace HB := am (hb); replace HI0 := am (hi); (try clear hb); (try clear hk); (try clear hi)) | ((with_reducible refine gate_dst (N := 42) rfl ?_); refine Kd.R_lit Kd.string _ 9 ?hg (N := 42) ?hd (xs := ([(⟨#[]⟩ : ByteArray)] : List ByteArray)) (inner := [.string (⟨#[]⟩ : ByteArray)]) (ok := fun _ => True) (okp := fun _ => True) ?hr ?hp (fun _ hk => hk) trivial (Below.refl _ _) (Nat.le_refl _) (by simp) ?_; (case hd => rfl); (case hg => rfl); (case hr => (go_simp; done)); (case hp => exact (Reps.one (show Kd.M Kd.string _ _ _ (⟨#[]⟩ : ByteArray) [.string (⟨#[]⟩ : ByteArray)] from rfl) (Reps.none _ _))); intro v648 w40 ho41 hb hg_ hnew_; clear hg_ hnew_; (rw [← Ny647.out] at ho41); replace HO629 := am (Kd.S_elder' (zs HO629.out) (Kd.R_base ho41) hb); have HO649 := am (Kd.R_lower ho41 (keep_size (w := w) (g := g) (row := none) zh)); replace HK := am (KeepBut.trans zh (KeepBut.of_below hb g none) (.inl rfl)); replace HB := am (below_step zj hb); replace HI0 := am (IsS77.below zi hb); clear hb ho41; have p35 : 0 ≤ (t632 : Int) := oa; have q35 : (t632 : Int) < ((t627.length : Int) : Int) := oa; obtain ⟨go35, co35, eo35, gb35, gl35, cl35, HG35⟩ := Kd.S_form HO629.out (by omega); (cases eo35); have GB35 := am gb35; have GG35 := am HG35; clear gb35 gl35 HG35; obtain ⟨_, ce35, hcl35, hM35, hcc35, hfr35, _, _⟩ := Kd.S_elem HO629.out z60 (t632 : Int) p35 q35; obtain ⟨ve35_2, rfl, ge35_2⟩ := k60_openM hM35; have hx35_0 : w40.cell? ⟨go35, (t632 : Int).toNat * 3, none⟩ = some (.int .i64 ((T60 t627 t632).f0)) := hcc35 0 _ rfl; have hx35_1 : w40.cell? ⟨go35, (t632 : Int).toNat * 3 + 1, none⟩ = some (.int .i64 ((T60 t627 t632).f1)) := hcc35 1 _ rfl; have hx35_2 : w40.cell? ⟨go35, (t632 : Int).toNat * 3 + 2, none⟩ = some (ve35_2) := hcc35 2 _ rfl; have hf35_0 : w40.frozen? ⟨go35, (t632 : Int).toNat * 3, none⟩ = false := hfr35 0; have hf35_1 : w40.frozen? ⟨go35, (t632 : Int).toNat * 3 + 1, none⟩ = false := hfr35 1; have hf35_2 : w40.frozen? ⟨go35, (t632 : Int).toNat * 3 + 2, none⟩ = false := hfr35 2; clear hcl35 hcc35 hfr35; (try clear hM35); replace p35 := eq_true p35; replace q35 := eq_true q35; have n_ := am (Kd.S_mono (ok' := (fun k_ => some k_ ≠ (v648 : Value).ownBlock)) HO629.out (fun k_ hk => hk.2)); clear HO629; have HO629 := n_; clear n_; have HX42 := am (show Kd.S k60 60 w40 w.heap.size (fun k_ => ((fun _ => True)) k_ ∧ ¬ ((fun k_ => some k_ = (v648 : Value).ownBlock)) k_) (.slice (some ⟨go35, 0, none⟩) t627.length co37) t627 from (by exact Kd.S_mono HO629.out (fun k_ hk => ⟨trivial, fun e_ => hk e_⟩))); obtain ⟨oki42, ce42, hcl42, hM42, hcc42, hfr42, hoki42, hH42⟩ := Kd.S_elem HX42.out z60 (t632 : Int) oa (by have h_ : (t632 : Int) < ((t627.length : Int) : Int) := oa; exact h_); obtain ⟨ve42_2, rfl, ge42_2⟩ := k60_openM hM42; have HP42 := Kd.S_seg hH42 oa (by have h_ : (t632 : Int) < ((t627.length : Int) : Int) := oa; exact h_) (seg := [v648]) (j := 2) (show 3 ≤ 3 from by decide) (x' := (⟨(T60 t627 t632).f0, (T60 t627 t632).f1, y647⟩ : S60)) (k60_mkM _ _ _ (⟨(T60 t627 t632).f0, (T60 t627 t632).f1, y647⟩ : S60) (Kd.R_mono (Kd.R_tight rfl (Kd.R_mono (ok' := fun k_ => ((fun _ => True)) k_ ∧ k_ ≠ go35) (Kd.R_apart' (HO649.out) (Kd.S_typed HO629.out) (by decide)) (fun k_ hk => ⟨trivial, fun e_ => (hk.2) (by rw [e_]; rfl)⟩))) (fun _ h_ => Or.inr (h_)))) (fun _ hk => hk) (fun k_ hk_ => ((Kd.R_mono (ok' := fun k_ => ((fun _ => True)) k_ ∧ k_ ≠ go35) (Kd.R_apart' (HO649.out) (Kd.S_typed HO629.out) (by decide)) (fun k_ hk => ⟨trivial, fun e_ => (hk.2) (by rw [e_]; rfl)⟩))).1 k_ hk_.symm); have hx42_2 := hcc42 2 _ rfl; (try simp only [show (k60).sz = 3 from rfl, Nat.mul_one, Nat.add_zero] at hx42_2); have hf42_2 := hfr42 2; (try simp only [show (k60).sz = 3 from rfl, Nat.mul_one, Nat.add_zero] at hf42_2); clear hcl42 hcc42 hfr42 hoki42 hH42; (try clear hM42)) | ((with_reducible refine gate_store (t := 24) (p := 44) rfl ?_); refine store_event (t := 24) (p := 44) (v := ?vo_w43) (w1 := (w40.setCell ⟨go35, (t632 : Int).toNat * 3 + 2, none⟩ (v648))) ?hg ?ho ?hn ?hr ?_; (case ho => rfl); (case hg => rfl); (case hn => rfl); (case hr => (obtain ⟨A0_, c0_, e0_⟩ := Kd.R_slice HO649.out); (subst e0_); (go_simp; done)); intro w43 hw; have hg : w40.grownBy w43 (some go35) := (by rw [hw]; exact HP42.2); have hp_ : Kd.S k60 60 w43 w.heap.size (fun _ => True) (.slice (some ⟨go35, 0, none⟩) t627.length co37) y650 := (by rw [hw, Ny650.out]; exact HP42.1); clear HP42; replace HI0 := am (IsS77.grown zi hg (IsS77.own_neS HI0.out HO629.out (by decide))); replace HB := am ((by rw [hw]; exact below_set (HB.out) (Nat.le_trans HL.out GB35.out) : Below w0.heap.size w0 w43)); replace HK := am (KeepBut.trans zh (KeepBut.of_grown hg g) (Kd.S_base2 HO629.out)); replace HO629 := am (hp_); clear HO649; clear hg hw hp_))
     go_ret
     exact ⟨_, by rfl, zs HO629.out, zi, zj, zh⟩
    ·rw [if_neg c32] at H
     have c32b0 : (t635 == 2) = false := beq_eq_false_iff_ne.mpr c32
     have c32b1 : (t635 != 2) = true := bne_iff_ne.mpr c32
     by_cases c44 : t635 = 3
     ·rw [if_pos c44] at H
      have c44b0 : (t635 == 3) = true := beq_iff_eq.mpr c44
      have c44b1 : (t635 != 3) = false := bne_eq_false_iff_eq.mpr c44
      clear c44
      obtain ⟨c45, H⟩ := itn H
      have c45b0 := decide_eq_true c45
      clear c45
      obtain ⟨c46, H⟩ := itn H
      have c46b0 := decide_eq_true c46
      clear c46
      obtain ⟨c47, H⟩ := itn H
      have LMc47 := am c47
      clear c47
      obtain ⟨y652, hy652⟩ : ∃ y_ : List ByteArray, y_ = (((T60 t627 t632).f2) ++ [(⟨#[101, 110, 100]⟩ : ByteArray)]) := ⟨_, rfl⟩
      rw [← hy652] at H
      have Ny652 := am hy652
      clear hy652
      obtain ⟨y655, hy655⟩ : ∃ y_ : List (S60), y_ = (t627.set (t632 : Int).toNat (⟨(T60 t627 t632).f0, (T60 t627 t632).f1, y652⟩ : S60)) := ⟨_, rfl⟩
      rw [← hy655] at H
      have Ny655 := am hy655
      clear hy655
      simp only [Option.some.injEq, Prod.mk.injEq] at H
      obtain ⟨rfl, rfl, rfl⟩ := H
      go_enter Tryz.func88, Tryz.ntmps88
      go_wp2_with (first | ((with_reducible refine gateC (f := 96) rfl ?_); refine goesL_ (some 9) rfl rfl Tryz.func96 (by kernel_rfl) rfl #[.pointer (some ⟨g, 0, none⟩), .slice A1 l1.length c1] rfl zm ?_; (with_reducible refine (spec_l1Cur_hunks.calls k g s0_0 s0_1 s0_2 _ _ l1 t627 t630 t631 w0 _ ?side1 ?side2 ?side3 ?side4 ?side5 A3.out).mono ?_); (case side1 => exact zi); (case side2 => exact zj); (case side3 => exact Kd.C_keep (⟨#[]⟩ : ByteArray) HR1.out zh hf1); (case side4 => exact HC1.out); (case side5 => exact hf1); rintro e w49 ⟨v628, rfl, ho0, hi, hb, hk⟩; refine ⟨_, rfl, ?_⟩; have HO629 := am (Kd.S_lower ho0 (keep_size (w := w) (g := g) (row := none) zh)); replace HK := am (KeepBut.trans zh hk (.inl rfl)); replace HB := am (hb); replace HI0 := am (hi); (try clear hb); (try clear hk); (try clear hi); (try clear ho0); obtain ⟨Ao50, co50, eo50⟩ := Kd.S_slice HO629.out; subst eo50) | ((with_reducible refine gateC (f := 97) rfl ?_); refine goesL_ (some 16) rfl rfl Tryz.func97 (by kernel_rfl) rfl #[.pointer (some ⟨g, 0, none⟩), .int .i64 (t627.length : Int)] rfl zm ?_; (with_reducible refine (spec_l1Cur_pick.calls g s0_0 t630 t631 (t627.length : Int) t632 t633 t634 w0 _ ?side1 ?side2 A5.out).mono ?_); (case side1 => exact zi); (case side2 => exact zj); rintro e w51 ⟨rfl, hi, hb, hk⟩; refine ⟨_, rfl, ?_⟩; replace HO629 := am (Kd.S_mono (Kd.S_keep (IsS77.apartS (show IsS77 w0 _ g s0_0 t630 t631 from zi) (zs HO629.out) (by decide)) hk (fun _ h => h.2)) (fun _ h => h.1)); replace HK := am (KeepBut.trans zh hk (.inl rfl)); replace HB := am (hb); replace HI0 := am (hi); (try clear hb); (try clear hk); (try clear hi)) | ((with_reducible refine gateC (f := 97) rfl ?_); refine goesL_ (some 18) rfl rfl Tryz.func97 (by kernel_rfl) rfl #[.pointer (some ⟨g, 0, none⟩), .int .i64 25] rfl zm ?_; (with_reducible refine (spec_l1Cur_pick.calls g s0_0 t633 t634 25 t635 t636 t637 w0 _ ?side1 ?side2 A6.out).mono ?_); (case side1 => exact zi); (case side2 => exact zj); rintro e w52 ⟨rfl, hi, hb, hk⟩; refine ⟨_, rfl, ?_⟩; replace HO629 := am (Kd.S_mono (Kd.S_keep (IsS77.apartS (show IsS77 w0 _ g s0_0 t633 t634 from zi) (zs HO629.out) (by decide)) hk (fun _ h => h.2)) (fun _ h => h.1)); replace HK := am (KeepBut.trans zh hk (.inl rfl)); replace HB := am (hb); replace HI0 := am (hi); (try clear hb); (try clear hk); (try clear hi); have p651 : 0 ≤ (t632 : Int) := oa; have q651 : t632 < (t627.length : Int) := oa; obtain ⟨ad651, A651_2, c651_2, e651, hx651_0, hx651_1, hx651_2, hl651_2, hi651_2⟩ := at_T60 (Kd.S_reads' HO629.out).2.2 t632 p651 q651; cases e651; obtain ⟨ce651, hce651, hMe651, hcc651⟩ := Kd.S_get HO629.out z60 t632 p651 (by exact q651); obtain ⟨ve651_2, rfl, ge651_2⟩ := k60_openM hMe651; have hv651_2 := hcc651 2 _ rfl; rw [add_field _ _ 2 (by omega)] at hv651_2; replace hv651_2 := Option.some.inj (hv651_2.symm.trans hx651_2); rw [hv651_2] at ge651_2; have HL651_2 := am (show Kd.R Kd.string 9 _ _ _ _ ((T60 t627 t632).f2) from ge651_2); clear hv651_2 ge651_2; have HX651_2 := am hx651_2; clear hcc651 hce651; have HR651_2 := am hi651_2; have HC651_2 := am hl651_2; clear hi651_2 hl651_2; replace p651 := eq_true p651; replace q651 := eq_true q651; obtain ⟨go53, co53, eo53, gb53, gl53, cl53, HG53⟩ := Kd.S_form HO629.out (by have h_ : (t632 : Int) < ((t627.length : Int) : Int) := oa; have h2_ : 0 ≤ (t632 : Int) := oa; omega); (cases eo53); have GB53 := am gb53; have GG53 := am HG53; clear gb53 gl53 HG53; (simp only [add_plain] at hx651_0); (simp only [add_plain] at hx651_1); (simp only [add_plain] at hx651_2); obtain ⟨oki53, ce53, hcl53, hM53, hcc53, _, _, hH53⟩ := Kd.S_elem HO629.out z60 (t632 : Int) oa (by have h_ : (t632 : Int) < ((t627.length : Int) : Int) := oa; exact h_); obtain ⟨ve53_2, rfl, ge53_2⟩ := k60_openM hM53; have hv53 := hcc53 2 _ rfl; have hX53 := HX651_2.out; (try simp only [add_plain] at hX53); replace hv53 := Option.some.inj (hv53.symm.trans hX53); subst hv53; clear hX53 hcc53 hcl53; have UU53 := am (show Kd.R Kd.string 9 _ w.heap.size oki53 (.slice A651_2 ((T60 t627 t632).f2).length c651_2) ((T60 t627 t632).f2) from ge53_2); have HH53 := am hH53; have HN53 := am (Kd.S_reads' HO629.out).1; clear hH53 ge53_2) | ((with_reducible refine gateB (b := .append) (xs := #[.tmp 53, .tmp 54]) rfl ?_); at_builtin; refine Kd.R_append Kd.string w.heap.size rfl (.tmp 53) (.tmp 54) 24 9 (.string ⟨#[]⟩) 16 rfl Tryz.underlying24 info9 rfl (by decide) (by omega) (.slice A651_2 ((T60 t627 t632).f2).length c651_2) ((T60 t627 t632).f2) (⟨#[101, 110, 100]⟩ : ByteArray) [.string (⟨#[101, 110, 100]⟩ : ByteArray)] (fun k_ => oki53 k_ ∨ ((fun _ => True)) k_ ∧ w52.heap.size ≤ k_) (fun _ => False) rfl rfl ?aP (fun _ hk => hk.elim) ?aF ?aO (Below.refl _ _) ?aS ?aL ?_; (case aP => exact rfl); (case aF => exact (fun k_ hk => .inr ⟨trivial, hk⟩)); (case aO => exact (by exact Kd.R_mono UU53.out (fun _ hk => .inl hk))); (case aS => exact (keep_size (w := w) (g := g) (row := none) zh)); (case aL => have := LMc47.out; omega); intro v653 w54 ho hb hg hat; rw [← Ny652.out] at ho; replace HB := am (below_weaken zj HL.out hb); replace HI0 := am (IsS77.grown zi hg (IsS77.own_ne HI0.out HL651_2.out (by decide))); replace HK := am (KeepBut.trans zh (KeepBut.of_grown hg g) (Kd.R_base2 HL651_2.out)); replace HH53 := am (Kd.H_grown (Kd.H_widen (by repeat (exact HH53.out))) hg (fun k_ e_ => .inl (UU53.out.1 k_ e_))); have HO654 := am (ho); clear HO629; clear UU53; clear HL651_2; clear ho hb hg hat; have p48 : 0 ≤ (t632 : Int) := oa; have q48 : (t632 : Int) < ((t627.length : Int) : Int) := oa; replace p48 := eq_true p48; replace q48 := eq_true q48; obtain ⟨Ao57, co57, eo57⟩ := Kd.R_slice HO654.out; subst eo57; obtain ⟨_, _, hraw55, _, _, hcc55, _⟩ := Kd.H_raw HH53.out oa (by have h_ : (t632 : Int) < ((t627.length : Int) : Int) := oa; exact h_); obtain ⟨_, hfr55⟩ := Kd.H_at HH53.out oa (by have h_ : (t632 : Int) < ((t627.length : Int) : Int) := oa; exact h_); have hx55_0 := hcc55 2 _ rfl; have hf55_0 := hfr55 2; (try rw [show (k60).sz = 3 from rfl] at hx55_0); (try rw [show (k60).sz = 3 from rfl] at hf55_0); have HP55 := Kd.S_seg0 HH53.out oa (by have h_ : (t632 : Int) < ((t627.length : Int) : Int) := oa; exact h_) (seg := [.slice Ao57 y652.length co57]) (j := 2) (show 3 ≤ 3 from by decide) (x' := (⟨(T60 t627 t632).f0, (T60 t627 t632).f1, y652⟩ : S60)) (k60_mkM _ _ _ (⟨(T60 t627 t632).f0, (T60 t627 t632).f1, y652⟩ : S60) HO654.out) (fun _ hk => hk); clear hcc55 hfr55) | ((with_reducible refine gate_store (t := 24) (p := 57) rfl ?_); refine store_event (t := 24) (p := 57) (v := ?vo_w56) (w1 := (w54.setCell ⟨go53, (t632 : Int).toNat * 3 + 2, none⟩ (.slice Ao57 y652.length co57))) ?hg ?ho ?hn ?hr ?_; (case ho => rfl); (case hg => rfl); (case hn => rfl); (case hr => (go_simp; done)); intro w56 hw; have hg : w54.grownBy w56 (some go53) := (by rw [hw]; exact HP55.2); have hp_ : Kd.S k60 60 w56 w.heap.size (fun _ => True) (.slice (some ⟨go53, 0, none⟩) t627.length co50) y655 := (by rw [hw, Ny655.out]; exact HP55.1); clear HP55; replace HI0 := am (IsS77.grown zi hg (IsS77.own_ne HI0.out hraw55 (by decide))); replace HB := am ((by rw [hw]; exact below_set HB.out (Nat.le_trans HL.out GB53.out) : Below w0.heap.size w0 w56)); replace HK := am (KeepBut.trans zh (KeepBut.of_grown hg g) (Kd.R_base2 hraw55)); have HO629 := am (hp_); clear HO654; clear HH53; clear hg hw hp_ hraw55))
      go_ret
      exact ⟨_, by rfl, zs HO629.out, zi, zj, zh⟩
     ·rw [if_neg c44] at H
      have c44b0 : (t635 == 3) = false := beq_eq_false_iff_ne.mpr c44
      have c44b1 : (t635 != 3) = true := bne_iff_ne.mpr c44
      simp only [Option.some.injEq, Prod.mk.injEq] at H
      obtain ⟨rfl, rfl, rfl⟩ := H
      go_enter Tryz.func88, Tryz.ntmps88
      go_wp2_with (first | ((with_reducible refine gateC (f := 96) rfl ?_); refine goesL_ (some 9) rfl rfl Tryz.func96 (by kernel_rfl) rfl #[.pointer (some ⟨g, 0, none⟩), .slice A1 l1.length c1] rfl zm ?_; (with_reducible refine (spec_l1Cur_hunks.calls k g s0_0 s0_1 s0_2 _ _ l1 t627 t630 t631 w0 _ ?side1 ?side2 ?side3 ?side4 ?side5 A3.out).mono ?_); (case side1 => exact zi); (case side2 => exact zj); (case side3 => exact Kd.C_keep (⟨#[]⟩ : ByteArray) HR1.out zh hf1); (case side4 => exact HC1.out); (case side5 => exact hf1); rintro e w58 ⟨v628, rfl, ho0, hi, hb, hk⟩; refine ⟨_, rfl, ?_⟩; have HO629 := am (Kd.S_lower ho0 (keep_size (w := w) (g := g) (row := none) zh)); replace HK := am (KeepBut.trans zh hk (.inl rfl)); replace HB := am (hb); replace HI0 := am (hi); (try clear hb); (try clear hk); (try clear hi); (try clear ho0); obtain ⟨Ao59, co59, eo59⟩ := Kd.S_slice HO629.out; subst eo59) | ((with_reducible refine gateC (f := 97) rfl ?_); refine goesL_ (some 16) rfl rfl Tryz.func97 (by kernel_rfl) rfl #[.pointer (some ⟨g, 0, none⟩), .int .i64 (t627.length : Int)] rfl zm ?_; (with_reducible refine (spec_l1Cur_pick.calls g s0_0 t630 t631 (t627.length : Int) t632 t633 t634 w0 _ ?side1 ?side2 A5.out).mono ?_); (case side1 => exact zi); (case side2 => exact zj); rintro e w60 ⟨rfl, hi, hb, hk⟩; refine ⟨_, rfl, ?_⟩; replace HO629 := am (Kd.S_mono (Kd.S_keep (IsS77.apartS (show IsS77 w0 _ g s0_0 t630 t631 from zi) (zs HO629.out) (by decide)) hk (fun _ h => h.2)) (fun _ h => h.1)); replace HK := am (KeepBut.trans zh hk (.inl rfl)); replace HB := am (hb); replace HI0 := am (hi); (try clear hb); (try clear hk); (try clear hi)) | ((with_reducible refine gateC (f := 97) rfl ?_); refine goesL_ (some 18) rfl rfl Tryz.func97 (by kernel_rfl) rfl #[.pointer (some ⟨g, 0, none⟩), .int .i64 25] rfl zm ?_; (with_reducible refine (spec_l1Cur_pick.calls g s0_0 t633 t634 25 t635 t636 t637 w0 _ ?side1 ?side2 A6.out).mono ?_); (case side1 => exact zi); (case side2 => exact zj); rintro e w61 ⟨rfl, hi, hb, hk⟩; refine ⟨_, rfl, ?_⟩; replace HO629 := am (Kd.S_mono (Kd.S_keep (IsS77.apartS (show IsS77 w0 _ g s0_0 t633 t634 from zi) (zs HO629.out) (by decide)) hk (fun _ h => h.2)) (fun _ h => h.1)); replace HK := am (KeepBut.trans zh hk (.inl rfl)); replace HB := am (hb); replace HI0 := am (hi); (try clear hb); (try clear hk); (try clear hi)))
      go_ret
      exact ⟨_, by rfl, zs HO629.out, zi, zj, zh⟩
 ·rw [if_neg c4] at H
  have c4b0 : decide (0 < (t627.length : Int)) = false := decide_eq_false c4
  have c4b1 : decide (0 < t627.length) = false := decide_eq_false (by omega)
  clear c4
  simp only [Option.some.injEq, Prod.mk.injEq] at H
  obtain ⟨rfl, rfl, rfl⟩ := H
  go_enter Tryz.func88, Tryz.ntmps88
  go_wp2_with (((with_reducible refine gateC (f := 96) rfl ?_); refine goesL_ (some 9) rfl rfl Tryz.func96 (by kernel_rfl) rfl #[.pointer (some ⟨g, 0, none⟩), .slice A1 l1.length c1] rfl zm ?_; (with_reducible refine (spec_l1Cur_hunks.calls k g s0_0 s0_1 s0_2 _ _ l1 t627 t630 t631 w0 _ ?side1 ?side2 ?side3 ?side4 ?side5 A3.out).mono ?_); (case side1 => exact zi); (case side2 => exact zj); (case side3 => exact Kd.C_keep (⟨#[]⟩ : ByteArray) HR1.out zh hf1); (case side4 => exact HC1.out); (case side5 => exact hf1); rintro e w62 ⟨v628, rfl, ho0, hi, hb, hk⟩; refine ⟨_, rfl, ?_⟩; have HO629 := am (Kd.S_lower ho0 (keep_size (w := w) (g := g) (row := none) zh)); replace HK := am (KeepBut.trans zh hk (.inl rfl)); replace HB := am (hb); replace HI0 := am (hi); (try clear hb); (try clear hk); (try clear hi); (try clear ho0); obtain ⟨Ao63, co63, eo63⟩ := Kd.S_slice HO629.out; subst eo63))
  go_ret
  exact ⟨_, by rfl, zs HO629.out, zi, zj, zh⟩

def spec_l1Cur_anyText.f (k : Nat) (s0_0 : List Int) (s0_1 : Int) (s0_2 : Int) : Option (List ByteArray × Int × Int) := (spec_l1Cur_text.f k s0_0 s0_1 s0_2).bind fun bt568 => (if (bt568.1.length : Int) > 1 then ((spec_l1Cur_pick.f s0_0 bt568.2.1 bt568.2.2 25).bind fun bt573 => (if bt573.1 = 0 then (if 0 < (bt568.1.length : Int) then (some ((bt568.1.set (0 : Int).toNat (⟨#[120]⟩ : ByteArray)), bt573.2.1, bt573.2.2)) else (none)) else (if bt573.1 = 1 then (if 0 < (bt568.1.length : Int) then (some ((bt568.1.set (0 : Int).toNat (⟨#[]⟩ : ByteArray)), bt573.2.1, bt573.2.2)) else (none)) else (if bt573.1 = 2 then (if 0 < (bt568.1.length : Int) then (some ((bt568.1.set (0 : Int).toNat (⟨#[97, 10, 98, 10]⟩ : ByteArray)), bt573.2.1, bt573.2.2)) else (none)) else (some (bt568.1, bt573.2.1, bt573.2.2)))))) else (some (bt568.1, bt568.2.1, bt568.2.2)))
set_option maxHeartbeats 8000000 in
set_option maxRecDepth 100000 in
theorem spec_l1Cur_anyText.calls (k : Nat) (g : Nat) (s0_0 : List Int) (s0_1 : Int) (s0_2 : Int) (r1 : List ByteArray) (r2 : Int) (r3 : Int) (w0 w : World) (hI : IsS77 w0 w g s0_0 s0_1 s0_2) (hB : Below w0.heap.size w0 w) (h : spec_l1Cur_anyText.f k s0_0 s0_1 s0_2 = some (r1, r2, r3)) :
  Calls Tryz.prog 87 #[.pointer (some ⟨g, 0, none⟩)] w fun e w' => ∃ v0_ : Value, e = .returned (v0_) ∧ Kd.R Kd.string 9 w' w.heap.size (fun _ => True) v0_ r1 ∧ IsS77 w0 w' g s0_0 r2 r3 ∧ Below w0.heap.size w0 w' ∧ KeepBut w w' g none := by
 have HI0 := am hI
 have HK := am (KeepBut.refl w g none)
 have HL := am hB.size
 clear hI
 have HW0 := am hB.size
 have HB := am hB
 clear hB
 have H := h
 clear h
 unfold spec_l1Cur_anyText.f at H
 replace H := Option.bind_eq_some_iff.mp H
 obtain ⟨⟨t568, t571, t572⟩, A20, H⟩ := H
 dsimp only at H
 have A2 := am A20
 clear A20
 by_cases c3 : (t568.length : Int) > 1
 ·rw [if_pos c3] at H
  have c3b0 : decide (1 < (t568.length : Int)) = true := decide_eq_true c3
  have c3b1 : decide (1 < t568.length) = true := decide_eq_true (by omega)
  clear c3
  replace H := Option.bind_eq_some_iff.mp H
  obtain ⟨⟨t573, t574, t575⟩, A40, H⟩ := H
  dsimp only at H
  have A4 := am A40
  clear A40
  by_cases c5 : t573 = 0
  ·rw [if_pos c5] at H
   have c5b0 : (t573 == 0) = true := beq_iff_eq.mpr c5
   have c5b1 : (t573 != 0) = false := bne_eq_false_iff_eq.mpr c5
   clear c5
   obtain ⟨c6, H⟩ := itn H
   have c6b0 := decide_eq_true c6
   have c6b1 : decide (0 < t568.length) = true := decide_eq_true (by omega)
   clear c6
   obtain ⟨y576, hy576⟩ : ∃ y_ : List ByteArray, y_ = (t568.set (0 : Int).toNat (⟨#[120]⟩ : ByteArray)) := ⟨_, rfl⟩
   rw [← hy576] at H
   have Ny576 := am hy576
   clear hy576
   simp only [Option.some.injEq, Prod.mk.injEq] at H
   obtain ⟨rfl, rfl, rfl⟩ := H
   go_enter Tryz.func87, Tryz.ntmps87
   go_wp2_with (first | ((with_reducible refine gateC (f := 95) rfl ?_); refine goesL_ (some 5) rfl rfl Tryz.func95 (by kernel_rfl) rfl #[.pointer (some ⟨g, 0, none⟩)] rfl zm ?_; (with_reducible refine (spec_l1Cur_text.calls k g s0_0 s0_1 s0_2 t568 t571 t572 w0 _ ?side1 ?side2 A2.out).mono ?_); (case side1 => exact zi); (case side2 => exact zj); rintro e w8 ⟨v569, rfl, ho0, hi, hb, hk⟩; refine ⟨_, rfl, ?_⟩; have HO570 := am (Kd.R_lower ho0 (keep_size (w := w) (g := g) (row := none) zh)); replace HK := am (KeepBut.trans zh hk (.inl rfl)); replace HB := am (hb); replace HI0 := am (hi); (try clear hb); (try clear hk); (try clear hi); (try clear ho0); obtain ⟨Ao9, co9, eo9⟩ := Kd.R_slice HO570.out; subst eo9) | ((with_reducible refine gateC (f := 97) rfl ?_); refine goesL_ (some 10) rfl rfl Tryz.func97 (by kernel_rfl) rfl #[.pointer (some ⟨g, 0, none⟩), .int .i64 25] rfl zm ?_; (with_reducible refine (spec_l1Cur_pick.calls g s0_0 t571 t572 25 t573 t574 t575 w0 _ ?side1 ?side2 A4.out).mono ?_); (case side1 => exact zi); (case side2 => exact zj); rintro e w10 ⟨rfl, hi, hb, hk⟩; refine ⟨_, rfl, ?_⟩; replace HO570 := am (Kd.R_mono (Kd.R_keep (IsS77.apart (show IsS77 w0 _ g s0_0 t571 t572 from zi) (zr HO570.out) (by decide)) hk (fun _ h => h.2)) (fun _ h => h.1)); replace HK := am (KeepBut.trans zh hk (.inl rfl)); replace HB := am (hb); replace HI0 := am (hi); (try clear hb); (try clear hk); (try clear hi); have p7 : 0 ≤ (0 : Int) := (by omega); have q7 : (0 : Int) < ((t568.length : Int) : Int) := oa; have qi7 : (0 < t568.length) = True := eq_true (by omega); obtain ⟨go7, co7, eo7, gb7, gl7, cl7, HG7⟩ := Kd.R_form HO570.out (by omega); (cases eo7); have GB7 := am gb7; have GG7 := am HG7; clear gb7 gl7 HG7; obtain ⟨hx7_0, hf7_0⟩ := Kd.R_celln (⟨#[]⟩ : ByteArray) HO570.out (0 : Int) p7 q7; (try rw [show ((0 : Int)).toNat = 0 from rfl] at hx7_0); (try rw [show ((0 : Int)).toNat = 0 from rfl] at hf7_0); replace p7 := eq_true p7; replace q7 := eq_true q7; obtain ⟨hy11_, hz11_⟩ := Kd.R_celln (⟨#[]⟩ : ByteArray) HO570.out (0 : Int) (by omega) oa; (try rw [show ((0 : Int)).toNat = 0 from rfl] at hy11_); (try rw [show ((0 : Int)).toNat = 0 from rfl] at hz11_); have HP11 := Kd.R_putg HO570.out (0 : Int) (⟨#[120]⟩ : ByteArray)) | ((with_reducible refine gate_store (t := 9) (p := 14) rfl ?_); refine store_event (t := 9) (p := 14) (v := ?vo_w12) (w1 := (w10.setCell ⟨go7, (0 : Int).toNat, none⟩ (.string (⟨#[120]⟩ : ByteArray)))) ?hg ?ho ?hn ?hr ?_; (case ho => rfl); (case hg => rfl); (case hn => rfl); (case hr => (go_simp; done)); intro w12 hw; have hg : w10.grownBy w12 (some go7) := (by rw [hw]; exact HP11.2); have hp_ : Kd.R Kd.string 9 w12 w.heap.size (fun _ => True) (.slice (some ⟨go7, 0, none⟩) t568.length co9) y576 := (by rw [hw, Ny576.out]; exact HP11.1); clear HP11; replace HI0 := am (IsS77.grown zi hg (IsS77.own_ne HI0.out HO570.out (by decide))); replace HB := am ((by rw [hw]; exact below_set (HB.out) (Nat.le_trans HL.out GB7.out) : Below w0.heap.size w0 w12)); replace HK := am (KeepBut.trans zh (KeepBut.of_grown hg g) (Kd.R_base2 HO570.out)); replace HO570 := am (hp_); clear hg hw hp_))
   go_ret
   exact ⟨_, by rfl, zr HO570.out, zi, zj, zh⟩
  ·rw [if_neg c5] at H
   have c5b0 : (t573 == 0) = false := beq_eq_false_iff_ne.mpr c5
   have c5b1 : (t573 != 0) = true := bne_iff_ne.mpr c5
   by_cases c13 : t573 = 1
   ·rw [if_pos c13] at H
    have c13b0 : (t573 == 1) = true := beq_iff_eq.mpr c13
    have c13b1 : (t573 != 1) = false := bne_eq_false_iff_eq.mpr c13
    clear c13
    obtain ⟨c14, H⟩ := itn H
    have c14b0 := decide_eq_true c14
    have c14b1 : decide (0 < t568.length) = true := decide_eq_true (by omega)
    clear c14
    obtain ⟨y577, hy577⟩ : ∃ y_ : List ByteArray, y_ = (t568.set (0 : Int).toNat (⟨#[]⟩ : ByteArray)) := ⟨_, rfl⟩
    rw [← hy577] at H
    have Ny577 := am hy577
    clear hy577
    simp only [Option.some.injEq, Prod.mk.injEq] at H
    obtain ⟨rfl, rfl, rfl⟩ := H
    go_enter Tryz.func87, Tryz.ntmps87
    go_wp2_with (first | ((with_reducible refine gateC (f := 95) rfl ?_); refine goesL_ (some 5) rfl rfl Tryz.func95 (by kernel_rfl) rfl #[.pointer (some ⟨g, 0, none⟩)] rfl zm ?_; (with_reducible refine (spec_l1Cur_text.calls k g s0_0 s0_1 s0_2 t568 t571 t572 w0 _ ?side1 ?side2 A2.out).mono ?_); (case side1 => exact zi); (case side2 => exact zj); rintro e w16 ⟨v569, rfl, ho0, hi, hb, hk⟩; refine ⟨_, rfl, ?_⟩; have HO570 := am (Kd.R_lower ho0 (keep_size (w := w) (g := g) (row := none) zh)); replace HK := am (KeepBut.trans zh hk (.inl rfl)); replace HB := am (hb); replace HI0 := am (hi); (try clear hb); (try clear hk); (try clear hi); (try clear ho0); obtain ⟨Ao17, co17, eo17⟩ := Kd.R_slice HO570.out; subst eo17) | ((with_reducible refine gateC (f := 97) rfl ?_); refine goesL_ (some 10) rfl rfl Tryz.func97 (by kernel_rfl) rfl #[.pointer (some ⟨g, 0, none⟩), .int .i64 25] rfl zm ?_; (with_reducible refine (spec_l1Cur_pick.calls g s0_0 t571 t572 25 t573 t574 t575 w0 _ ?side1 ?side2 A4.out).mono ?_); (case side1 => exact zi); (case side2 => exact zj); rintro e w18 ⟨rfl, hi, hb, hk⟩; refine ⟨_, rfl, ?_⟩; replace HO570 := am (Kd.R_mono (Kd.R_keep (IsS77.apart (show IsS77 w0 _ g s0_0 t571 t572 from zi) (zr HO570.out) (by decide)) hk (fun _ h => h.2)) (fun _ h => h.1)); replace HK := am (KeepBut.trans zh hk (.inl rfl)); replace HB := am (hb); replace HI0 := am (hi); (try clear hb); (try clear hk); (try clear hi); have p15 : 0 ≤ (0 : Int) := (by omega); have q15 : (0 : Int) < ((t568.length : Int) : Int) := oa; have qi15 : (0 < t568.length) = True := eq_true (by omega); obtain ⟨go15, co15, eo15, gb15, gl15, cl15, HG15⟩ := Kd.R_form HO570.out (by omega); (cases eo15); have GB15 := am gb15; have GG15 := am HG15; clear gb15 gl15 HG15; obtain ⟨hx15_0, hf15_0⟩ := Kd.R_celln (⟨#[]⟩ : ByteArray) HO570.out (0 : Int) p15 q15; (try rw [show ((0 : Int)).toNat = 0 from rfl] at hx15_0); (try rw [show ((0 : Int)).toNat = 0 from rfl] at hf15_0); replace p15 := eq_true p15; replace q15 := eq_true q15; obtain ⟨hy19_, hz19_⟩ := Kd.R_celln (⟨#[]⟩ : ByteArray) HO570.out (0 : Int) (by omega) oa; (try rw [show ((0 : Int)).toNat = 0 from rfl] at hy19_); (try rw [show ((0 : Int)).toNat = 0 from rfl] at hz19_); have HP19 := Kd.R_putg HO570.out (0 : Int) (⟨#[]⟩ : ByteArray)) | ((with_reducible refine gate_store (t := 9) (p := 18) rfl ?_); refine store_event (t := 9) (p := 18) (v := ?vo_w20) (w1 := (w18.setCell ⟨go15, (0 : Int).toNat, none⟩ (.string (⟨#[]⟩ : ByteArray)))) ?hg ?ho ?hn ?hr ?_; (case ho => rfl); (case hg => rfl); (case hn => rfl); (case hr => (go_simp; done)); intro w20 hw; have hg : w18.grownBy w20 (some go15) := (by rw [hw]; exact HP19.2); have hp_ : Kd.R Kd.string 9 w20 w.heap.size (fun _ => True) (.slice (some ⟨go15, 0, none⟩) t568.length co17) y577 := (by rw [hw, Ny577.out]; exact HP19.1); clear HP19; replace HI0 := am (IsS77.grown zi hg (IsS77.own_ne HI0.out HO570.out (by decide))); replace HB := am ((by rw [hw]; exact below_set (HB.out) (Nat.le_trans HL.out GB15.out) : Below w0.heap.size w0 w20)); replace HK := am (KeepBut.trans zh (KeepBut.of_grown hg g) (Kd.R_base2 HO570.out)); replace HO570 := am (hp_); clear hg hw hp_))
    go_ret
    exact ⟨_, by rfl, zr HO570.out, zi, zj, zh⟩
   ·rw [if_neg c13] at H
    have c13b0 : (t573 == 1) = false := beq_eq_false_iff_ne.mpr c13
    have c13b1 : (t573 != 1) = true := bne_iff_ne.mpr c13
    by_cases c21 : t573 = 2
    ·rw [if_pos c21] at H
     have c21b0 : (t573 == 2) = true := beq_iff_eq.mpr c21
     have c21b1 : (t573 != 2) = false := bne_eq_false_iff_eq.mpr c21
     clear c21
     obtain ⟨c22, H⟩ := itn H
     have c22b0 := decide_eq_true c22
     have c22b1 : decide (0 < t568.length) = true := decide_eq_true (by omega)
     clear c22
     obtain ⟨y578, hy578⟩ : ∃ y_ : List ByteArray, y_ = (t568.set (0 : Int).toNat (⟨#[97, 10, 98, 10]⟩ : ByteArray)) := ⟨_, rfl⟩
     rw [← hy578] at H
     have Ny578 := am hy578
     clear hy578
     simp only [Option.some.injEq, Prod.mk.injEq] at H
     obtain ⟨rfl, rfl, rfl⟩ := H
     go_enter Tryz.func87, Tryz.ntmps87
     go_wp2_with (first | ((with_reducible refine gateC (f := 95) rfl ?_); refine goesL_ (some 5) rfl rfl Tryz.func95 (by kernel_rfl) rfl #[.pointer (some ⟨g, 0, none⟩)] rfl zm ?_; (with_reducible refine (spec_l1Cur_text.calls k g s0_0 s0_1 s0_2 t568 t571 t572 w0 _ ?side1 ?side2 A2.out).mono ?_); (case side1 => exact zi); (case side2 => exact zj); rintro e w24 ⟨v569, rfl, ho0, hi, hb, hk⟩; refine ⟨_, rfl, ?_⟩; have HO570 := am (Kd.R_lower ho0 (keep_size (w := w) (g := g) (row := none) zh)); replace HK := am (KeepBut.trans zh hk (.inl rfl)); replace HB := am (hb); replace HI0 := am (hi); (try clear hb); (try clear hk); (try clear hi); (try clear ho0); obtain ⟨Ao25, co25, eo25⟩ := Kd.R_slice HO570.out; subst eo25) | ((with_reducible refine gateC (f := 97) rfl ?_); refine goesL_ (some 10) rfl rfl Tryz.func97 (by kernel_rfl) rfl #[.pointer (some ⟨g, 0, none⟩), .int .i64 25] rfl zm ?_; (with_reducible refine (spec_l1Cur_pick.calls g s0_0 t571 t572 25 t573 t574 t575 w0 _ ?side1 ?side2 A4.out).mono ?_); (case side1 => exact zi); (case side2 => exact zj); rintro e w26 ⟨rfl, hi, hb, hk⟩; refine ⟨_, rfl, ?_⟩; replace HO570 := am (Kd.R_mono (Kd.R_keep (IsS77.apart (show IsS77 w0 _ g s0_0 t571 t572 from zi) (zr HO570.out) (by decide)) hk (fun _ h => h.2)) (fun _ h => h.1)); replace HK := am (KeepBut.trans zh hk (.inl rfl)); replace HB := am (hb); replace HI0 := am (hi); (try clear hb); (try clear hk); (try clear hi); have p23 : 0 ≤ (0 : Int) := (by omega); have q23 : (0 : Int) < ((t568.length : Int) : Int) := oa; have qi23 : (0 < t568.length) = True := eq_true (by omega); obtain ⟨go23, co23, eo23, gb23, gl23, cl23, HG23⟩ := Kd.R_form HO570.out (by omega); (cases eo23); have GB23 := am gb23; have GG23 := am HG23; clear gb23 gl23 HG23; obtain ⟨hx23_0, hf23_0⟩ := Kd.R_celln (⟨#[]⟩ : ByteArray) HO570.out (0 : Int) p23 q23; (try rw [show ((0 : Int)).toNat = 0 from rfl] at hx23_0); (try rw [show ((0 : Int)).toNat = 0 from rfl] at hf23_0); replace p23 := eq_true p23; replace q23 := eq_true q23; obtain ⟨hy27_, hz27_⟩ := Kd.R_celln (⟨#[]⟩ : ByteArray) HO570.out (0 : Int) (by omega) oa; (try rw [show ((0 : Int)).toNat = 0 from rfl] at hy27_); (try rw [show ((0 : Int)).toNat = 0 from rfl] at hz27_); have HP27 := Kd.R_putg HO570.out (0 : Int) (⟨#[97, 10, 98, 10]⟩ : ByteArray)) | ((with_reducible refine gate_store (t := 9) (p := 22) rfl ?_); refine store_event (t := 9) (p := 22) (v := ?vo_w28) (w1 := (w26.setCell ⟨go23, (0 : Int).toNat, none⟩ (.string (⟨#[97, 10, 98, 10]⟩ : ByteArray)))) ?hg ?ho ?hn ?hr ?_; (case ho => rfl); (case hg => rfl); (case hn => rfl); (case hr => (go_simp; done)); intro w28 hw; have hg : w26.grownBy w28 (some go23) := (by rw [hw]; exact HP27.2); have hp_ : Kd.R Kd.string 9 w28 w.heap.size (fun _ => True) (.slice (some ⟨go23, 0, none⟩) t568.length co25) y578 := (by rw [hw, Ny578.out]; exact HP27.1); clear HP27; replace HI0 := am (IsS77.grown zi hg (IsS77.own_ne HI0.out HO570.out (by decide))); replace HB := am ((by rw [hw]; exact below_set (HB.out) (Nat.le_trans HL.out GB23.out) : Below w0.heap.size w0 w28)); replace HK := am (KeepBut.trans zh (KeepBut.of_grown hg g) (Kd.R_base2 HO570.out)); replace HO570 := am (hp_); clear hg hw hp_))
     go_ret
     exact ⟨_, by rfl, zr HO570.out, zi, zj, zh⟩
    ·rw [if_neg c21] at H
     have c21b0 : (t573 == 2) = false := beq_eq_false_iff_ne.mpr c21
     have c21b1 : (t573 != 2) = true := bne_iff_ne.mpr c21
     simp only [Option.some.injEq, Prod.mk.injEq] at H
     obtain ⟨rfl, rfl, rfl⟩ := H
     go_enter Tryz.func87, Tryz.ntmps87
     go_wp2_with (first | ((with_reducible refine gateC (f := 95) rfl ?_); refine goesL_ (some 5) rfl rfl Tryz.func95 (by kernel_rfl) rfl #[.pointer (some ⟨g, 0, none⟩)] rfl zm ?_; (with_reducible refine (spec_l1Cur_text.calls k g s0_0 s0_1 s0_2 t568 t571 t572 w0 _ ?side1 ?side2 A2.out).mono ?_); (case side1 => exact zi); (case side2 => exact zj); rintro e w29 ⟨v569, rfl, ho0, hi, hb, hk⟩; refine ⟨_, rfl, ?_⟩; have HO570 := am (Kd.R_lower ho0 (keep_size (w := w) (g := g) (row := none) zh)); replace HK := am (KeepBut.trans zh hk (.inl rfl)); replace HB := am (hb); replace HI0 := am (hi); (try clear hb); (try clear hk); (try clear hi); (try clear ho0); obtain ⟨Ao30, co30, eo30⟩ := Kd.R_slice HO570.out; subst eo30) | ((with_reducible refine gateC (f := 97) rfl ?_); refine goesL_ (some 10) rfl rfl Tryz.func97 (by kernel_rfl) rfl #[.pointer (some ⟨g, 0, none⟩), .int .i64 25] rfl zm ?_; (with_reducible refine (spec_l1Cur_pick.calls g s0_0 t571 t572 25 t573 t574 t575 w0 _ ?side1 ?side2 A4.out).mono ?_); (case side1 => exact zi); (case side2 => exact zj); rintro e w31 ⟨rfl, hi, hb, hk⟩; refine ⟨_, rfl, ?_⟩; replace HO570 := am (Kd.R_mono (Kd.R_keep (IsS77.apart (show IsS77 w0 _ g s0_0 t571 t572 from zi) (zr HO570.out) (by decide)) hk (fun _ h => h.2)) (fun _ h => h.1)); replace HK := am (KeepBut.trans zh hk (.inl rfl)); replace HB := am (hb); replace HI0 := am (hi); (try clear hb); (try clear hk); (try clear hi)))
     go_ret
     exact ⟨_, by rfl, zr HO570.out, zi, zj, zh⟩
 ·rw [if_neg c3] at H
  have c3b0 : decide (1 < (t568.length : Int)) = false := decide_eq_false c3
  have c3b1 : decide (1 < t568.length) = false := decide_eq_false (by omega)
  clear c3
  simp only [Option.some.injEq, Prod.mk.injEq] at H
  obtain ⟨rfl, rfl, rfl⟩ := H
  go_enter Tryz.func87, Tryz.ntmps87
  go_wp2_with (((with_reducible refine gateC (f := 95) rfl ?_); refine goesL_ (some 5) rfl rfl Tryz.func95 (by kernel_rfl) rfl #[.pointer (some ⟨g, 0, none⟩)] rfl zm ?_; (with_reducible refine (spec_l1Cur_text.calls k g s0_0 s0_1 s0_2 t568 t571 t572 w0 _ ?side1 ?side2 A2.out).mono ?_); (case side1 => exact zi); (case side2 => exact zj); rintro e w32 ⟨v569, rfl, ho0, hi, hb, hk⟩; refine ⟨_, rfl, ?_⟩; have HO570 := am (Kd.R_lower ho0 (keep_size (w := w) (g := g) (row := none) zh)); replace HK := am (KeepBut.trans zh hk (.inl rfl)); replace HB := am (hb); replace HI0 := am (hi); (try clear hb); (try clear hk); (try clear hi); (try clear ho0); obtain ⟨Ao33, co33, eo33⟩ := Kd.R_slice HO570.out; subst eo33))
  go_ret
  exact ⟨_, by rfl, zr HO570.out, zi, zj, zh⟩

def spec_l1Cur_hunked.f (k : Nat) (s0_0 : List Int) (s0_1 : Int) (s0_2 : Int) : Option (List ByteArray × (List (S60)) × Int × Int) := (spec_l1Cur_anyText.f k s0_0 s0_1 s0_2).bind fun bt656 => ((spec_l1Cur_anyHunks.f k s0_0 bt656.2.1 bt656.2.2 bt656.1).bind fun bt661 => (some (bt656.1, bt661.1, bt661.2.1, bt661.2.2)))
set_option maxHeartbeats 8000000 in
set_option maxRecDepth 100000 in
theorem spec_l1Cur_hunked.calls (k : Nat) (g : Nat) (s0_0 : List Int) (s0_1 : Int) (s0_2 : Int) (r1 : List ByteArray) (r2 : List (S60)) (r3 : Int) (r4 : Int) (w0 w : World) (hI : IsS77 w0 w g s0_0 s0_1 s0_2) (hB : Below w0.heap.size w0 w) (h : spec_l1Cur_hunked.f k s0_0 s0_1 s0_2 = some (r1, r2, r3, r4)) :
  Calls Tryz.prog 55 #[.pointer (some ⟨g, 0, none⟩)] w fun e w' => ∃ v0_ v1_ : Value, e = .returned (.tuple #[v0_, v1_]) ∧ Kd.R Kd.string 9 w' w.heap.size (fun _ => True) v0_ r1 ∧ Kd.S k60 60 w' w.heap.size (fun k_ => some k_ ≠ (v0_ : Value).ownBlock) v1_ r2 ∧ IsS77 w0 w' g s0_0 r3 r4 ∧ Below w0.heap.size w0 w' ∧ KeepBut w w' g none := by
 have HI0 := am hI
 have HK := am (KeepBut.refl w g none)
 have HL := am hB.size
 clear hI
 have HW0 := am hB.size
 have HB := am hB
 clear hB
 have H := h
 clear h
 unfold spec_l1Cur_hunked.f at H
 replace H := Option.bind_eq_some_iff.mp H
 obtain ⟨⟨t656, t659, t660⟩, A20, H⟩ := H
 dsimp only at H
 have A2 := am A20
 clear A20
 replace H := Option.bind_eq_some_iff.mp H
 obtain ⟨⟨t661, t664, t665⟩, A30, H⟩ := H
 dsimp only at H
 have A3 := am A30
 clear A30
 simp only [Option.some.injEq, Prod.mk.injEq] at H
 obtain ⟨rfl, rfl, rfl, rfl⟩ := H
 go_enter Tryz.func55, Tryz.ntmps55
 go_wp2_with (first | ((with_reducible refine gateC (f := 87) rfl ?_); refine goesL_ (some 6) rfl rfl Tryz.func87 (by kernel_rfl) rfl #[.pointer (some ⟨g, 0, none⟩)] rfl zm ?_; (with_reducible refine (spec_l1Cur_anyText.calls k g s0_0 s0_1 s0_2 t656 t659 t660 w0 _ ?side1 ?side2 A2.out).mono ?_); (case side1 => exact zi); (case side2 => exact zj); rintro e w4 ⟨v657, rfl, ho0, hi, hb, hk⟩; refine ⟨_, rfl, ?_⟩; have HO658 := am (Kd.R_lower ho0 (keep_size (w := w) (g := g) (row := none) zh)); replace HK := am (KeepBut.trans zh hk (.inl rfl)); replace HB := am (hb); replace HI0 := am (hi); (try clear hb); (try clear hk); (try clear hi); (try clear ho0); obtain ⟨Ao5, co5, eo5⟩ := Kd.R_slice HO658.out; subst eo5) | ((with_reducible refine gateC (f := 88) rfl ?_); refine goesL_ (some 10) rfl rfl Tryz.func88 (by kernel_rfl) rfl #[.pointer (some ⟨g, 0, none⟩), .slice Ao5 t656.length co5] rfl zm ?_; (with_reducible refine (spec_l1Cur_anyHunks.calls k g s0_0 t659 t660 _ _ t656 t661 t664 t665 w0 _ ?side1 ?side2 ?side3 ?side4 ?side5 A3.out).mono ?_); (case side1 => exact zi); (case side2 => exact zj); (case side3 => repeat (exact (Kd.R_reads' HO658.out).2.2)); (case side4 => exact (Kd.R_reads' HO658.out).2.1); (case side5 => exact far_slice (IsS77.own_ne HI0.out HO658.out (by decide))); rintro e w6 ⟨v662, rfl, ho0, hi, hb, hk⟩; refine ⟨_, rfl, ?_⟩; have HO663 := am (Kd.S_lower (Kd.S_new' ho0 (Kd.R_lt (zr HO658.out))) (keep_size (w := w) (g := g) (row := none) zh)); replace HO658 := am (Kd.R_mono (Kd.R_keep (IsS77.apart (show IsS77 w0 _ g s0_0 t659 t660 from zi) (zr HO658.out) (by decide)) hk (fun _ h => h.2)) (fun _ h => h.1)); replace HK := am (KeepBut.trans zh hk (.inl rfl)); replace HB := am (hb); replace HI0 := am (hi); (try clear hb); (try clear hk); (try clear hi); (try clear ho0)))
 go_ret2
 exact ⟨_, _, by rfl, zr HO658.out, by exact Kd.S_mono HO663.out (fun _ hk => hk.2), zi, zj, zh⟩

def spec_DrawPatch.g (k : Nat) (s0_0 : List Int) (s0_1 : Int) (s0_2 : Int) : Option (List ByteArray × (List (S60)) × Int × Int) := (spec_l1Cur_hunked.f k s0_0 s0_1 s0_2).bind fun bt666 => (some (bt666.1, bt666.2.1, bt666.2.2.1, bt666.2.2.2))
def spec_DrawPatch.f (k : Nat) (l0 : List Int) : Option (List ByteArray × (List (S60))) := (spec_DrawPatch.g k l0 0 0).bind fun r => some (r.1, r.2.1)
set_option maxHeartbeats 8000000 in
set_option maxRecDepth 100000 in
theorem spec_DrawPatch.made (k : Nat) (A0 : Option Addr) (c0 : Nat) (l0 : List Int) (r1 : List ByteArray) (r2 : List (S60)) (r3 : Int) (r4 : Int) (w0 : World) (hr0 : Kd.C (Kd.int .u8) w0 A0 l0.length l0) (h : spec_DrawPatch.g k l0 0 0 = some (r1, r2, r3, r4)) :
  Calls Tryz.prog 26 #[.slice A0 l0.length c0] w0 fun e w' => ∃ (g : Nat) (w : World), w0.heap.size ≤ w.heap.size ∧ ∃ v0_ v1_ : Value, e = .returned (.tuple #[v0_, v1_]) ∧ Kd.R Kd.string 9 w' w.heap.size (fun _ => True) v0_ r1 ∧ Kd.S k60 60 w' w.heap.size (fun k_ => some k_ ≠ (v0_ : Value).ownBlock) v1_ r2 ∧ IsS77 w0 w' g l0 r3 r4 ∧ Below w0.heap.size w0 w' ∧ KeepBut w w' g none := by
 have HR0 := am hr0
 clear hr0
 have HB := am (Below.refl w0.heap.size w0)
 have H := h
 clear h
 unfold spec_DrawPatch.g at H
 replace H := Option.bind_eq_some_iff.mp H
 obtain ⟨⟨t666, t669, t672, t673⟩, A20, H⟩ := H
 dsimp only at H
 have A2 := am A20
 clear A20
 simp only [Option.some.injEq, Prod.mk.injEq] at H
 obtain ⟨rfl, rfl, rfl, rfl⟩ := H
 go_enter Tryz.func26, Tryz.ntmps26
 go_wp2_with (first | ((with_reducible refine gate_dst (N := 7) rfl ?_); refine box_event ?hg (N := 7) ?hd (cs := #[.slice A0 l0.length c0, .int .i64 0, .int .u64 0]) (t := 77) ?hr ?_; (case hd => rfl); (case hg => rfl); (case hr => (go_simp; done)); intro g hg w hbox hb; have n0_ := am (show IsS77 w0 w g l0 0 0 from ⟨A0, c0, hbox, (by rw [hg]; exact below_size zb), HR0.out⟩); have n1_ := am (below_step zb hb); clear HB HR0; have HI0 := n0_; have HB := n1_; have HK := am (KeepBut.refl w g none); have HL := am HB.out.size; have HW0 := am HB.out.size; clear n0_ n1_ hb hbox hg) | ((with_reducible refine gateC (f := 55) rfl ?_); refine goesL_ (some 9) rfl rfl Tryz.func55 (by kernel_rfl) rfl #[.pointer (some ⟨g, 0, none⟩)] rfl zm ?_; (with_reducible refine (spec_l1Cur_hunked.calls k g l0 0 0 t666 t669 t672 t673 w0 _ ?side1 ?side2 A2.out).mono ?_); (case side1 => exact zi); (case side2 => exact zj); rintro e w3 ⟨v667, v670, rfl, ho0, ho1, hi, hb, hk⟩; refine ⟨_, rfl, ?_⟩; have HO668 := am (Kd.R_lower ho0 (keep_size (w := w) (g := g) (row := none) zh)); have HO671 := am (Kd.S_lower ho1 (keep_size (w := w) (g := g) (row := none) zh)); replace HK := am (KeepBut.trans zh hk (.inl rfl)); replace HB := am (hb); replace HI0 := am (hi); (try clear hb); (try clear hk); (try clear hi); (try clear ho0); (try clear ho1)))
 go_ret2
 exact ⟨g, w, HW0.out, _, _, by rfl, zr HO668.out, zs HO671.out, zi, zj, zh⟩
theorem spec_DrawPatch.calls (k : Nat) (A0 : Option Addr) (c0 : Nat) (l0 : List Int) (r1 : List ByteArray) (r2 : List (S60)) (w0 : World) (hr0 : Kd.C (Kd.int .u8) w0 A0 l0.length l0) (hc0 : l0.length ≤ c0) (h : spec_DrawPatch.f k l0 = some (r1, r2)) :
  Calls Tryz.prog 26 #[.slice A0 l0.length c0] w0 fun e w' => ∃ v0_ v1_ : Value, e = .returned (.tuple #[v0_, v1_]) ∧ Kd.R Kd.string 9 w' w0.heap.size (fun _ => True) v0_ r1 ∧ Kd.S k60 60 w' w0.heap.size (fun k_ => some k_ ≠ (v0_ : Value).ownBlock) v1_ r2 ∧ Below w0.heap.size w0 w' := by
  obtain ⟨q, hq, e⟩ := Option.bind_eq_some_iff.1 h
  obtain ⟨q0, q1, q2, q3⟩ := q
  injection e with e
  simp only [Prod.mk.injEq] at e
  obtain ⟨rfl, rfl⟩ := e
  refine (spec_DrawPatch.made k A0 c0 l0 _ _ _ _ w0 hr0 hq).mono ?_
  rintro e w' ⟨g, w, hw, v0_, v1_, h0, h1, h2, _, hb, _⟩
  exact ⟨v0_, v1_, h0, Kd.R_lower h1 hw, Kd.S_lower h2 hw, hb⟩

def spec_DrawNormalSteps.f (k : Nat) (l0 : List Int) : Option (List ByteArray × (List (S60))) := (spec_DrawPatch.f k l0).bind fun bt666 => (some (bt666.1, bt666.2))
set_option maxHeartbeats 8000000 in
set_option maxRecDepth 100000 in
theorem spec_DrawNormalSteps.calls (k : Nat) (A0 : Option Addr) (c0 : Nat) (l0 : List Int) (r1 : List ByteArray) (r2 : List (S60)) (w : World) (hr0 : Kd.C (Kd.int .u8) w A0 l0.length l0) (hc0 : l0.length ≤ c0) (h : spec_DrawNormalSteps.f k l0 = some (r1, r2)) :
  Calls Tryz.prog 6 #[.slice A0 l0.length c0] w fun e w' => ∃ v0_ v1_ : Value, e = .returned (.tuple #[v0_, v1_]) ∧ Kd.R Kd.string 9 w' w.heap.size (fun _ => True) v0_ r1 ∧ Kd.S k60 60 w' w.heap.size (fun k_ => some k_ ≠ (v0_ : Value).ownBlock) v1_ r2 ∧ Below w.heap.size w w' := by
 have HR0 := am hr0
 have HC0 := am hc0
 clear hr0 hc0
 have HB := am (Below.refl w.heap.size w)
 have H : ((spec_DrawPatch.f k l0).bind fun bt666 => (some (bt666.1, bt666.2))) = some (r1, r2) := h
 clear h
 replace H := Option.bind_eq_some_iff.mp H
 obtain ⟨⟨t666, t667⟩, A20, H⟩ := H
 replace H : (some (t666, t667)) = some (r1, r2) := H
 have A2 := am A20
 clear A20
 simp only [Option.some.injEq, Prod.mk.injEq] at H
 obtain ⟨rfl, rfl⟩ := H
 go_enter Tryz.func6, Tryz.ntmps6
 go_wp2_with (first | ((with_reducible refine gateC (f := 26) rfl ?_); refine goesL_ (some 5) rfl rfl Tryz.func26 (by kernel_rfl) rfl #[.slice A0 l0.length c0] rfl zm ?_; (with_reducible refine (spec_DrawPatch.calls k _ _ l0 t666 t667 _ ?side1 ?side2 A2.out).mono ?_); (case side1 => exact zq HR0.out); (case side2 => exact HC0.out); rintro e w3 ⟨v668, v670, rfl, ho0, ho1, hb⟩; refine ⟨_, rfl, ?_⟩; have n0_ := am (Kd.R_lower ho0 (below_size zb)); have n1_ := am (Kd.S_lower ho1 (below_size zb)); have n2_ := am (below_step zb hb); clear HB; have HO669 := n0_; have HO671 := n1_; have HB := n2_; clear n0_ n1_ n2_; (try clear hb); (try clear ho0); (try clear ho1)))
 go_ret2
 exact ⟨_, _, by first | rfl | (simp [errW_none, errW_some] <;> rfl) | (simp [*, errW_none, errW_some] <;> rfl), zr HO669.out, zs HO671.out, zb⟩

def spec_l1Num.f : Nat → Int → Option (ByteArray)
 | 0, _ => none
 | k + 1, a0 => if a0 < 10 then (some (strOfNums (([(wrap64 (48 + a0)) % 256] : List Int)))) else ((spec_l1Num.f k (wrap64 (Int.tdiv a0 10))).bind fun t168 => ((some (([(wrap64 (48 + (Int.tmod a0 10))) % 256] : List Int) : List Int)).bind fun y169 => (if t168.size + (strOfNums y169).size ≤ 9223372036854775807 then (some (t168 ++ (strOfNums y169))) else (none))))
def spec_l1Num.T3 : Bool × List (List Nat × List Nat) := (true, [([], []), ([0], [0]), ([1], [1]), ([], []), ([3], [3]), ([4], [4]), ([5], [5]), ([6], [6]), ([7], [7]), ([2, 8], [2, 8]), ([9, 2, 0, 1, 2, 3, 4, 5, 6, 7, 8, 9], [9])])
def spec_l1Num.B3 : List Nat := [0, 1, 3, 0, 8, 24, 56, 120, 248, 511, 1023]
theorem spec_l1Num.tab3 : rtab .any (opsOf Tryz.f103 3) = spec_l1Num.T3 := by kernel_rfl
theorem spec_l1Num.bits3 : waitsOk spec_l1Num.T3.2 spec_l1Num.B3 = true := by kernel_rfl
set_option maxHeartbeats 8000000 in
set_option maxRecDepth 100000 in
theorem spec_l1Num.calls (k : Nat) : ∀ (a0 : Int) (r : ByteArray) (w : World) (h : spec_l1Num.f k a0 = some r),
  Calls Tryz.prog 103 #[.int .i64 a0] w fun e w' => e = .returned (.string r) ∧ Below w.heap.size w w' := by
 induction k using Nat.strongRecOn with
 | _ k ih =>
 intro a0 r w h
 cases k with
 | zero => exact absurd h (by simp [spec_l1Num.f])
 | succ k =>
 simp only [spec_l1Num.f] at h
 have HB := am (Below.refl w.heap.size w)
 have H : (if a0 < 10 then (some (strOfNums (([(wrap64 (48 + a0)) % 256] : List Int)))) else ((spec_l1Num.f k (wrap64 (Int.tdiv a0 10))).bind fun t168 => ((some (([(wrap64 (48 + (Int.tmod a0 10))) % 256] : List Int) : List Int)).bind fun y169 => (if t168.size + (strOfNums y169).size ≤ 9223372036854775807 then (some (t168 ++ (strOfNums y169))) else (none))))) = some r := h
 clear h
 by_cases c2 : a0 < 10
 ·rw [if_pos c2] at H
  have c2b0 : decide (a0 < 10) = true := decide_eq_true c2
  clear c2
  obtain ⟨y165, hy165⟩ : ∃ y_ : List Int, y_ = (([(wrap64 (48 + a0)) % 256] : List Int)) := ⟨_, rfl⟩
  replace H : (some (strOfNums y165)) = some r := by (rw [hy165]; with_reducible exact H)
  have Ny165 := am hy165
  clear hy165
  obtain rfl := Option.some.inj H
  go_enter Tryz.func103, Tryz.ntmps103
  go_wp2_with (((with_reducible refine gate_dst (N := 8) rfl ?_); refine Kd.R_lit (Kd.int .u8) _ 5 ?hg (N := 8) ?hd (xs := ([(wrap64 (48 + a0)) % 256] : List Int)) (inner := [.int .u8 ((wrap64 (48 + a0)) % 256)]) (ok := fun _ => True) (okp := fun _ => True) ?hr ?hp (fun _ hk => hk) trivial (Below.refl _ _) (Nat.le_refl _) (by simp) ?_; (case hd => rfl); (case hg => rfl); (case hr => (go_simp; done)); (case hp => exact (Reps.one (show Kd.M (Kd.int .u8) _ _ _ ((wrap64 (48 + a0)) % 256) [.int .u8 ((wrap64 (48 + a0)) % 256)] from rfl) (Reps.none _ _))); intro v166 w3 ho4 hb hg_ hnew_; clear hg_ hnew_; (rw [← Ny165.out] at ho4); have n0_ := am (Kd.R_lower ho4 (below_size zb)); have n1_ := am (below_step zb hb); clear HB; have HO167 := n0_; have HB := n1_; clear n0_ n1_; clear hb ho4; have hcv5 := own_string (P := Tryz.prog) Tryz.underlying22 Tryz.underlying5 Tryz.underlying9 (Kd.own_of_R HO167.out)))
  go_ret
  exact ⟨by rfl, zb⟩
 ·rw [if_neg c2] at H
  have c2b0 : decide (a0 < 10) = false := decide_eq_false c2
  clear c2
  replace H := Option.bind_eq_some_iff.mp H
  obtain ⟨t168, A60, H⟩ := H
  replace H : ((some (([(wrap64 (48 + (Int.tmod a0 10))) % 256] : List Int) : List Int)).bind fun y169 => (if t168.size + (strOfNums y169).size ≤ 9223372036854775807 then (some (t168 ++ (strOfNums y169))) else (none))) = some r := H
  have A6 := am A60
  clear A60
  obtain ⟨y169, hy169⟩ : ∃ y_ : List Int, y_ = (([(wrap64 (48 + (Int.tmod a0 10))) % 256] : List Int)) := ⟨_, rfl⟩
  replace H : (if t168.size + (strOfNums y169).size ≤ 9223372036854775807 then (some (t168 ++ (strOfNums y169))) else (none)) = some r := by (have H2_ := (Option.bind_some _ _).symm.trans H; rw [hy169]; with_reducible exact H2_)
  have Ny169 := am hy169
  clear hy169
  obtain ⟨c7, H⟩ := itn H
  have c7b0 := eq_true c7
  have c7b1 := decide_eq_true c7
  try have c7b2 : (9223372036854775807 < t168.size + (strOfNums y169).size) = False := eq_false (Nat.not_lt.2 c7)
  obtain rfl := Option.some.inj H
  go_enter Tryz.func103, Tryz.ntmps103
  try go_wp2
  have n0_ := am (below_drew1 HB.out)
  clear HB
  have HB := n0_
  clear n0_
  refine start_ (n := 11) (S := fun w' => True) (ds := []) #[O,O,O,O,O,O,O,O,O,O,O] (by kernel_rfl) rfl rfl trivial (fun hHeld => ?_); refine with_tabW spec_l1Num.tab3 spec_l1Num.bits3 (fun HT_ HW_ => ?_)
  generalize w.drew = w8 at HB hHeld ⊢
  refine pure_ (i := 0) (N := some 10) (v := ?_) (a' := ?_) #[Y,O,O,O,O,O,O,O,O,O,O] rfl rfl zx (fun _ _ _ h => h) (Or.inl ⟨by rfl, ?_⟩) ?_ ?_
  rotate_left; (intro w'; go_simp; with_reducible rfl); rotate_left; (simp only [Act.put,qa,qb,qc,i64_w,i32_w]; rfl)
  refine pure_ (i := 1) (N := some 11) (v := ?_) (a' := ?_) #[Y,Y,O,O,O,O,O,O,O,O,O] rfl rfl zx (fun _ _ _ h => h) (Or.inl ⟨by rfl, ?_⟩) ?_ ?_
  rotate_left; (intro w'; go_simp; with_reducible rfl); rotate_left; (simp only [Act.put,qa,qb,qc,i64_w,i32_w]; rfl)
  refine pure_ (i := 3) (N := some 13) (v := ?_) (a' := ?_) #[Y,Y,O,Y,O,O,O,O,O,O,O] rfl rfl zx (fun _ _ _ h => h) (Or.inl ⟨by rfl, ?_⟩) ?_ ?_
  rotate_left; (intro w'; go_simp; with_reducible rfl); rotate_left; (simp only [Act.put,qa,qb,qc,i64_w,i32_w]; rfl)
  refine pure_ (i := 4) (N := some 14) (v := ?_) (a' := ?_) #[Y,Y,O,Y,Y,O,O,O,O,O,O] rfl rfl zx (fun _ _ _ h => h) (Or.inl ⟨by rfl, ?_⟩) ?_ ?_
  rotate_left; (intro w'; go_simp; with_reducible rfl); rotate_left; (simp only [Act.put,qa,qb,qc,i64_w,i32_w]; rfl)
  refine pure_ (i := 5) (N := some 15) (v := ?_) (a' := ?_) #[Y,Y,O,Y,Y,Y,O,O,O,O,O] rfl rfl zx (fun _ _ _ h => h) (Or.inl ⟨by rfl, ?_⟩) ?_ ?_
  rotate_left; (intro w'; go_simp; with_reducible rfl); rotate_left; (simp only [Act.put,qa,qb,qc,i64_w,i32_w]; rfl)
  refine pure_ (i := 6) (N := some 16) (v := ?_) (a' := ?_) #[Y,Y,O,Y,Y,Y,Y,O,O,O,O] rfl rfl zx (fun _ _ _ h => h) (Or.inl ⟨by rfl, ?_⟩) ?_ ?_
  rotate_left; (intro w'; go_simp; with_reducible rfl); rotate_left; (simp only [Act.put,qa,qb,qc,i64_w,i32_w]; rfl)
  refine join_ (σ := Value) 2 #[Y,Y,Y,Y,Y,Y,Y,Y,Y,O,O] (fun s_ => [(12, .string t168), (17, s_), (18, .string (strOfNums y169))]) (fun s_ w' => (Kd.R (Kd.int .u8) 5 w' w.heap.size (fun _ => True) s_ y169) ∧ (Below w.heap.size w w')) ?_ ?_
  rotate_left
  ·intro hCont
   refine two_ (i := 2) (j := 7) (Ni := some 12) (Nj := some 17) #[Y,Y,Y,Y,Y,Y,Y,O,O,O,O] #[Y,Y,O,Y,Y,Y,Y,Y,O,O,O] rfl rfl rfl rfl (two_of HT_.out (by kernel_rfl)) (by decide) (by decide) (fun K hK => ?_) (fun K hK => ?_)
   ·skip
    refine goes_ Tryz.func103 (by kernel_rfl) rfl #[.int .i64 (wrap64 (Int.tdiv a0 10))] (by rfl) rfl rfl zm ?_
    with_reducible refine (ih k (by omega) (wrap64 (Int.tdiv a0 10)) t168 _ A6.out).mono ?_
    rintro e w9 ⟨rfl, hb⟩
    refine ⟨_, rfl, ?_⟩
    replace HB := am (below_step zb hb)
    (try clear hb)
    refine hK.out _ _ trivial (fun hHeld => ?_)
    clear hK K
    refine norm_ (a' := ?_) ?_ ?_
    rotate_left
    ·show Act.put _ (some 12) _ = _
     simp only [Act.put,qa,qb,qc,i64_w,i32_w]
     rfl
    refine one_ (i := 7) (N := some 17) #[Y,Y,Y,Y,Y,Y,Y,Y,O,O,O] rfl rfl (one_of HT_.out (by kernel_rfl)) (by decide) (fun K hK => ?_)
    refine Kd.R_lit_step (Kd.int .u8) _ 5 ?hg (N := 17) ?hd (xs := ([(wrap64 (48 + (Int.tmod a0 10))) % 256] : List Int)) (inner := [.int .u8 ((wrap64 (48 + (Int.tmod a0 10))) % 256)]) (ok := fun _ => True) (okp := fun _ => True) ?hr ?hp (fun _ hk => hk) trivial (Below.refl _ _) (Nat.le_refl _) (by simp) ?_; (case hd => rfl); (case hg => rfl); (case hr => (go_simp; rfl)); (case hp => exact (Reps.one (show Kd.M (Kd.int .u8) _ _ _ ((wrap64 (48 + (Int.tmod a0 10))) % 256) [.int .u8 ((wrap64 (48 + (Int.tmod a0 10))) % 256)] from rfl) (Reps.none _ _)))
    intro v170 w10 ho11 hb hg_ hnew_
    clear hg_ hnew_
    (rw [← Ny169.out] at ho11)
    have HO171 := am (Kd.R_lower ho11 (below_size zb))
    replace HB := am (below_step zb hb)
    clear hb ho11
    refine hK.out _ _ trivial (fun hHeld => ?_)
    clear hK K
    refine norm_ (a' := ?_) ?_ ?_
    rotate_left
    ·show Act.put _ (some 17) _ = _
     simp only [Act.put,qa,qb,qc,i64_w,i32_w]
     rfl
    refine one_ (i := 8) (N := some 18) #[Y,Y,Y,Y,Y,Y,Y,Y,Y,O,O] rfl rfl (one_of HT_.out (by kernel_rfl)) (by decide) (fun K hK => ?_)
    have hcv12 := own_string (P := Tryz.prog) Tryz.underlying22 Tryz.underlying5 Tryz.underlying9 (Kd.own_of_R HO171.out)
    refine value_ (w1 := ?_) (v := ?_) (by rfl) rfl ?_ ?_
    rotate_left 2
    ·go_simp
     constructor
     ·rfl
     ·rfl
    clear hcv12
    refine hK.out _ _ trivial (fun hHeld => ?_)
    clear hK K
    refine norm_ (a' := ?_) ?_ ?_
    rotate_left
    ·show Act.put _ (some 18) _ = _
     simp only [Act.put,qa,qb,qc,i64_w,i32_w]
     rfl
    exact norm_ (by simp only [putAll, Act.put, List.setIfInBounds_toArray, List.set_cons_zero, List.set_cons_succ]) (hCont (v170) _ ⟨(zr HO171.out), zb⟩)
   ·skip
    refine Kd.R_lit_step (Kd.int .u8) _ 5 ?hg (N := 17) ?hd (xs := ([(wrap64 (48 + (Int.tmod a0 10))) % 256] : List Int)) (inner := [.int .u8 ((wrap64 (48 + (Int.tmod a0 10))) % 256)]) (ok := fun _ => True) (okp := fun _ => True) ?hr ?hp (fun _ hk => hk) trivial (Below.refl _ _) (Nat.le_refl _) (by simp) ?_; (case hd => rfl); (case hg => rfl); (case hr => (go_simp; rfl)); (case hp => exact (Reps.one (show Kd.M (Kd.int .u8) _ _ _ ((wrap64 (48 + (Int.tmod a0 10))) % 256) [.int .u8 ((wrap64 (48 + (Int.tmod a0 10))) % 256)] from rfl) (Reps.none _ _)))
    intro v170 w9 ho10 hb hg_ hnew_
    clear hg_ hnew_
    (rw [← Ny169.out] at ho10)
    have HO171 := am (Kd.R_lower ho10 (below_size zb))
    replace HB := am (below_step zb hb)
    clear hb ho10
    refine hK.out _ _ trivial (fun hHeld => ?_)
    clear hK K
    refine norm_ (a' := ?_) ?_ ?_
    rotate_left
    ·show Act.put _ (some 17) _ = _
     simp only [Act.put,qa,qb,qc,i64_w,i32_w]
     rfl
    refine two_ (i := 2) (j := 8) (Ni := some 12) (Nj := some 18) #[Y,Y,Y,Y,Y,Y,Y,Y,O,O,O] #[Y,Y,O,Y,Y,Y,Y,Y,Y,O,O] rfl rfl rfl rfl (two_of HT_.out (by kernel_rfl)) (by decide) (by decide) (fun K hK => ?_) (fun K hK => ?_)
    ·skip
     refine goes_ Tryz.func103 (by kernel_rfl) rfl #[.int .i64 (wrap64 (Int.tdiv a0 10))] (by rfl) rfl rfl zm ?_
     with_reducible refine (ih k (by omega) (wrap64 (Int.tdiv a0 10)) t168 _ A6.out).mono ?_
     rintro e w11 ⟨rfl, hb⟩
     refine ⟨_, rfl, ?_⟩
     replace HO171 := am (Kd.R_below (zr HO171.out) hb)
     replace HB := am (below_step zb hb)
     (try clear hb)
     refine hK.out _ _ trivial (fun hHeld => ?_)
     clear hK K
     refine norm_ (a' := ?_) ?_ ?_
     rotate_left
     ·show Act.put _ (some 12) _ = _
      simp only [Act.put,qa,qb,qc,i64_w,i32_w]
      rfl
     refine one_ (i := 8) (N := some 18) #[Y,Y,Y,Y,Y,Y,Y,Y,Y,O,O] rfl rfl (one_of HT_.out (by kernel_rfl)) (by decide) (fun K hK => ?_)
     have hcv12 := own_string (P := Tryz.prog) Tryz.underlying22 Tryz.underlying5 Tryz.underlying9 (Kd.own_of_R HO171.out)
     refine value_ (w1 := ?_) (v := ?_) (by rfl) rfl ?_ ?_
     rotate_left 2
     ·go_simp
      constructor
      ·rfl
      ·rfl
     clear hcv12
     refine hK.out _ _ trivial (fun hHeld => ?_)
     clear hK K
     refine norm_ (a' := ?_) ?_ ?_
     rotate_left
     ·show Act.put _ (some 18) _ = _
      simp only [Act.put,qa,qb,qc,i64_w,i32_w]
      rfl
     exact norm_ (by simp only [putAll, Act.put, List.setIfInBounds_toArray, List.set_cons_zero, List.set_cons_succ]) (hCont (v170) _ ⟨(zr HO171.out), zb⟩)
    ·skip
     have hcv11 := own_string (P := Tryz.prog) Tryz.underlying22 Tryz.underlying5 Tryz.underlying9 (Kd.own_of_R HO171.out)
     refine value_ (w1 := ?_) (v := ?_) (by rfl) rfl ?_ ?_
     rotate_left 2
     ·go_simp
      constructor
      ·rfl
      ·rfl
     clear hcv11
     refine hK.out _ _ trivial (fun hHeld => ?_)
     clear hK K
     refine norm_ (a' := ?_) ?_ ?_
     rotate_left
     ·show Act.put _ (some 18) _ = _
      simp only [Act.put,qa,qb,qc,i64_w,i32_w]
      rfl
     refine one_ (i := 2) (N := some 12) #[Y,Y,Y,Y,Y,Y,Y,Y,Y,O,O] rfl rfl (one_of HT_.out (by kernel_rfl)) (by decide) (fun K hK => ?_)
     refine goes_ Tryz.func103 (by kernel_rfl) rfl #[.int .i64 (wrap64 (Int.tdiv a0 10))] (by rfl) rfl rfl zm ?_
     with_reducible refine (ih k (by omega) (wrap64 (Int.tdiv a0 10)) t168 _ A6.out).mono ?_
     rintro e w12 ⟨rfl, hb⟩
     refine ⟨_, rfl, ?_⟩
     replace HO171 := am (Kd.R_below (zr HO171.out) hb)
     replace HB := am (below_step zb hb)
     (try clear hb)
     refine hK.out _ _ trivial (fun hHeld => ?_)
     clear hK K
     refine norm_ (a' := ?_) ?_ ?_
     rotate_left
     ·show Act.put _ (some 12) _ = _
      simp only [Act.put,qa,qb,qc,i64_w,i32_w]
      rfl
     exact norm_ (by simp only [putAll, Act.put, List.setIfInBounds_toArray, List.set_cons_zero, List.set_cons_succ]) (hCont (v170) _ ⟨(zr HO171.out), zb⟩)
  rintro v170 w13 ⟨h0_, h1_⟩
  have n0_ : Aside0 (Kd.R (Kd.int .u8) 5 w13 w.heap.size (fun _ => True) v170 y169) := ⟨h0_⟩
  have n1_ : Aside0 (Below w.heap.size w w13) := ⟨h1_⟩
  clear HB
  clear h0_ h1_
  have HO171 := n0_
  have HB := n1_
  clear n0_ n1_
  have hHeld := trivial
  refine norm_ (a' := ?_) ?_ ?_
  rotate_left
  ·simp only [putAll, Act.put, List.setIfInBounds_toArray, List.set_cons_zero, List.set_cons_succ]
   rfl
  refine pu 9 (some 19) ?_
  refine pu 10 (some 2) ?_
  refine done_ (done_of HT_.out (by kernel_rfl)) ?_
  try go_wp2
  go_ret
  exact ⟨by rfl, zb⟩

def spec_l5Numbers.f (k : Nat) (a0 : Int) (a1 : Int) : Option (ByteArray) := if a0 = a1 then ((spec_l1Num.f k a0).bind fun t172 => (some t172)) else ((spec_l1Num.f k a0).bind fun t173 => (if t173.size + 1 ≤ 9223372036854775807 then ((spec_l1Num.f k a1).bind fun t174 => (if (t173 ++ (⟨#[44]⟩ : ByteArray)).size + t174.size ≤ 9223372036854775807 then (some ((t173 ++ (⟨#[44]⟩ : ByteArray)) ++ t174)) else (none))) else (none)))
set_option maxHeartbeats 8000000 in
set_option maxRecDepth 100000 in
theorem spec_l5Numbers.calls (k : Nat) (a0 : Int) (a1 : Int) (r : ByteArray) (w : World) (h : spec_l5Numbers.f k a0 a1 = some r) :
  Calls Tryz.prog 78 #[.int .i64 a0, .int .i64 a1] w fun e w' => e = .returned (.string r) ∧ Below w.heap.size w w' := by
 have HB := am (Below.refl w.heap.size w)
 have H := h
 clear h
 unfold spec_l5Numbers.f at H
 by_cases c3 : a0 = a1
 ·rw [if_pos c3] at H
  have c3b0 : (a0 == a1) = true := beq_iff_eq.mpr c3
  have c3b1 : (a0 != a1) = false := bne_eq_false_iff_eq.mpr c3
  clear c3
  replace H := Option.bind_eq_some_iff.mp H
  obtain ⟨t172, A40, H⟩ := H
  replace H : (some t172) = some r := H
  have A4 := am A40
  clear A40
  obtain rfl := Option.some.inj H
  go_enter Tryz.func78, Tryz.ntmps78
  go_wp2_with (((with_reducible refine gateC (f := 103) rfl ?_); refine goesL_ (some 9) rfl rfl Tryz.func103 (by kernel_rfl) rfl #[.int .i64 a0] rfl zm ?_; (with_reducible refine (spec_l1Num.calls k a0 t172 _ A4.out).mono ?_); rintro e w5 ⟨rfl, hb⟩; refine ⟨_, rfl, ?_⟩; replace HB := am (below_step zb hb); (try clear hb)))
  go_ret
  exact ⟨by rfl, zb⟩
 ·rw [if_neg c3] at H
  have c3b0 : (a0 == a1) = false := beq_eq_false_iff_ne.mpr c3
  have c3b1 : (a0 != a1) = true := bne_iff_ne.mpr c3
  replace H := Option.bind_eq_some_iff.mp H
  obtain ⟨t173, A60, H⟩ := H
  replace H : (if t173.size + 1 ≤ 9223372036854775807 then ((spec_l1Num.f k a1).bind fun t174 => (if (t173 ++ (⟨#[44]⟩ : ByteArray)).size + t174.size ≤ 9223372036854775807 then (some ((t173 ++ (⟨#[44]⟩ : ByteArray)) ++ t174)) else (none))) else (none)) = some r := H
  have A6 := am A60
  clear A60
  obtain ⟨c7, H⟩ := itn H
  have c7b0 := eq_true c7
  have c7b1 := decide_eq_true c7
  try have c7b2 : (9223372036854775807 < t173.size + 1) = False := eq_false (Nat.not_lt.2 c7)
  replace H := Option.bind_eq_some_iff.mp H
  obtain ⟨t174, A80, H⟩ := H
  replace H : (if (t173 ++ (⟨#[44]⟩ : ByteArray)).size + t174.size ≤ 9223372036854775807 then (some ((t173 ++ (⟨#[44]⟩ : ByteArray)) ++ t174)) else (none)) = some r := H
  have A8 := am A80
  clear A80
  obtain ⟨c9, H⟩ := itn H
  have c9b0 := eq_true c9
  have c9b1 := decide_eq_true c9
  try have c9b2 : (9223372036854775807 < (t173 ++ (⟨#[44]⟩ : ByteArray)).size + t174.size) = False := eq_false (Nat.not_lt.2 c9)
  try have c9b9 := c9
  try simp only [ByteArray.size_append, show (⟨#[44]⟩ : ByteArray).size = 1 from rfl] at c9b9
  try have c9b8 := eq_false (Nat.not_lt.2 c9b9)
  try replace c9b9 := eq_true c9b9
  obtain rfl := Option.some.inj H
  go_enter Tryz.func78, Tryz.ntmps78
  go_wp2_with (first | ((with_reducible refine gateC (f := 103) rfl ?_); refine goesL_ (some 11) rfl rfl Tryz.func103 (by kernel_rfl) rfl #[.int .i64 a0] rfl zm ?_; (with_reducible refine (spec_l1Num.calls k a0 t173 _ A6.out).mono ?_); rintro e w10 ⟨rfl, hb⟩; refine ⟨_, rfl, ?_⟩; replace HB := am (below_step zb hb); (try clear hb)) | ((with_reducible refine gateC (f := 103) rfl ?_); refine goesL_ (some 14) rfl rfl Tryz.func103 (by kernel_rfl) rfl #[.int .i64 a1] rfl zm ?_; (with_reducible refine (spec_l1Num.calls k a1 t174 _ A8.out).mono ?_); rintro e w11 ⟨rfl, hb⟩; refine ⟨_, rfl, ?_⟩; replace HB := am (below_step zb hb); (try clear hb)))
  go_ret
  exact ⟨by rfl, zb⟩

def spec_l5Shown.f (a0 : ByteArray) (a1 : ByteArray) : Option (ByteArray) := (spec_l1Ends.f a1).bind fun t175 => (if t175 = true then (if a0.size + a1.size ≤ 9223372036854775807 then (some (a0 ++ a1)) else (none)) else (if a0.size + a1.size ≤ 9223372036854775807 then (if (a0 ++ a1).size + 8 ≤ 9223372036854775807 then (some ((a0 ++ a1) ++ (⟨#[10, 92, 32, 110, 111, 110, 101, 10]⟩ : ByteArray))) else (none)) else (none)))
set_option maxHeartbeats 8000000 in
set_option maxRecDepth 100000 in
theorem spec_l5Shown.calls (a0 : ByteArray) (a1 : ByteArray) (r : ByteArray) (w : World) (h : spec_l5Shown.f a0 a1 = some r) :
  Calls Tryz.prog 79 #[.string a0, .string a1] w fun e w' => e = .returned (.string r) ∧ Drawn0 w w' := by
 have H := h
 clear h
 unfold spec_l5Shown.f at H
 replace H := Option.bind_eq_some_iff.mp H
 obtain ⟨t175, A30, H⟩ := H
 replace H : (if t175 = true then (if a0.size + a1.size ≤ 9223372036854775807 then (some (a0 ++ a1)) else (none)) else (if a0.size + a1.size ≤ 9223372036854775807 then (if (a0 ++ a1).size + 8 ≤ 9223372036854775807 then (some ((a0 ++ a1) ++ (⟨#[10, 92, 32, 110, 111, 110, 101, 10]⟩ : ByteArray))) else (none)) else (none))) = some r := H
 have A3 := am A30
 clear A30
 by_cases c4 : t175 = true
 ·subst c4
  rw [if_pos rfl] at H
  obtain ⟨c5, H⟩ := itn H
  have c5b0 := eq_true c5
  have c5b1 := decide_eq_true c5
  try have c5b2 : (9223372036854775807 < a0.size + a1.size) = False := eq_false (Nat.not_lt.2 c5)
  obtain rfl := Option.some.inj H
  go_enter Tryz.func79, Tryz.ntmps79
  go_wp2_with (((with_reducible refine gateC (f := 72) rfl ?_); refine goesL_ (some 6) rfl rfl Tryz.func72 (by kernel_rfl) rfl #[.string a1] rfl zm ?_; (with_reducible refine (spec_l1Ends.calls a1 true _ A3.out).mono ?_); rintro e w' ⟨rfl, ⟨nd, rfl⟩⟩; refine ⟨_, rfl, ?_⟩))
  go_ret
  exact ⟨by rfl, by repeat (first | exact Drawn0.refl _ | apply Drawn0.step)⟩
 ·replace c4 := Bool.eq_false_iff.mpr c4
  subst c4
  rw [if_neg nofun] at H
  obtain ⟨c6, H⟩ := itn H
  have c6b0 := eq_true c6
  have c6b1 := decide_eq_true c6
  try have c6b2 : (9223372036854775807 < a0.size + a1.size) = False := eq_false (Nat.not_lt.2 c6)
  obtain ⟨c7, H⟩ := itn H
  have c7b0 := eq_true c7
  have c7b1 := decide_eq_true c7
  try have c7b2 : (9223372036854775807 < (a0 ++ a1).size + 8) = False := eq_false (Nat.not_lt.2 c7)
  try have c7b9 := c7
  try simp only [ByteArray.size_append] at c7b9
  try have c7b8 := eq_false (Nat.not_lt.2 c7b9)
  try replace c7b9 := eq_true c7b9
  obtain rfl := Option.some.inj H
  go_enter Tryz.func79, Tryz.ntmps79
  go_wp2_with (((with_reducible refine gateC (f := 72) rfl ?_); refine goesL_ (some 6) rfl rfl Tryz.func72 (by kernel_rfl) rfl #[.string a1] rfl zm ?_; (with_reducible refine (spec_l1Ends.calls a1 false _ A3.out).mono ?_); rintro e w' ⟨rfl, ⟨nd, rfl⟩⟩; refine ⟨_, rfl, ?_⟩))
  go_ret
  exact ⟨by rfl, by repeat (first | exact Drawn0.refl _ | apply Drawn0.step)⟩
end Go.Proofs.YtmcldkobejhaeaaGreatDoor.My