/- Part 5 of 6 of a proof of this sentence: The Go function loop.example/g00825/laws.FnExactGroupHunks returns true for every input, and each argument reads afterwards as it read before. No condition. -/
import Derived.Lib.Bytealg
import Derived.Test.YtmcldkobejhaeaaCFnExactGroupHunks4
namespace Go.Proofs.Ytmcldkobejhaeaa.My
open Go.RowKit Go.Proofs.YtmcldkobejhaeaaW.PrintWords Go.Proofs.YtmcldkobejhaeaaW.PrintLast Go.Proofs.YtmcldkobejhaeaaW.PrintMore
attribute [local go_sem] max2_int min2_int max_two min_two max_three min_three max_four min_four
set_option linter.unusedVariables false
set_option linter.unusedSimpArgs false
def impl_goodLines.l0 : Nat → List ByteArray → List ByteArray → Int → Int → Option (Bool)
 | 0, _, _, _, _ => none
 | k + 1, x0, x8, x9, x10 => if x10 < x9 then (if 0 ≤ x10 then (if x10 < (x8.length : Int) then (if x10 < (wrap64 ((x0.length : Int) - 1)) then ((impl_isEnded.f (rdOf ByteArray.empty x8 x10)).bind fun t243 => (if t243 = true then (impl_goodLines.l0 k x0 x8 x9 (wrap64 (x10 + 1))) else (some false))) else (impl_goodLines.l0 k x0 x8 x9 (wrap64 (x10 + 1)))) else (none)) else (none)) else (some true)
def impl_goodLines.f (k : Nat) (l0 : List ByteArray) : Option (Bool) := (impl_areLines.f k l0).bind fun t241 => (if t241 = true then (impl_goodLines.l0 k l0 l0 (l0.length : Int) 0) else (some false))
set_option maxHeartbeats 8000000 in
set_option maxRecDepth 100000 in
theorem impl_goodLines.calls (k : Nat) (A0 : Option Addr) (c0 : Nat) (l0 : List ByteArray) (r : Bool) (w : World) (hr0 : Kd.C Kd.string w A0 l0.length l0) (hc0 : l0.length ≤ c0) (h : impl_goodLines.f k l0 = some r) :
  Calls Try.prog 63 #[.slice A0 l0.length c0] w fun e w' => e = .returned (.bool r) ∧ Drawn0 w w' := by
 have HR0 := am hr0
 have HC0 := am hc0
 clear hr0 hc0
 have H : ((impl_areLines.f k l0).bind fun t241 => (if t241 = true then (impl_goodLines.l0 k l0 l0 (l0.length : Int) 0) else (some false))) = some r := h
 clear h
 replace H := Option.bind_eq_some_iff.mp H
 obtain ⟨t241, A20, H⟩ := H
 replace H : (if t241 = true then (impl_goodLines.l0 k l0 l0 (l0.length : Int) 0) else (some false)) = some r := H
 have A2 := am A20
 clear A20
 by_cases c3 : t241 = true
 ·subst c3
  have H1 : (impl_goodLines.l0 k l0 l0 (l0.length : Int) 0) = some r := by rw [if_pos rfl] at H; exact H
  clear H
  have H := H1
  clear H1
  have H' := am H
  clear H
  go_enter Try.func63, Try.ntmps63
  go_wp2_with (first | ((with_reducible refine gateC (f := 125) rfl ?_); refine goesL_ (some 6) rfl rfl Try.func125 (by kernel_rfl) rfl #[.slice A0 l0.length c0] rfl zm ?_; (with_reducible refine (impl_areLines.calls k _ _ l0 true _ ?side1 ?side2 A2.out).mono ?_); (case side1 => exact zq HR0.out); (case side2 => exact HC0.out); rintro e w' ⟨rfl, ⟨nd, rfl⟩⟩; refine ⟨_, rfl, ?_⟩))
  go_loopg [10] k (fun kq v10 w' => ∃ (x10_1 : Int), v10 = .int .i64 x10_1 ∧ Aside0 (impl_goodLines.l0 kq l0 l0 (l0.length : Int) x10_1 = some r) ∧ Aside0 (kq ≤ k) ∧ Drawn0 w w')
  case atStart => exact ⟨(0), zf, H', ⟨Nat.le_refl _⟩, by repeat (first | exact Drawn0.refl _ | apply Drawn0.step)⟩
  case round =>
   clear H'
   try clear c1
   try clear p2
   try clear c3
   obtain ⟨x10_1, rfl, HA, HK1, ⟨m1, rfl⟩⟩ := hrel
   cases gk with
   | zero => exact absurd HA.out (by simp [impl_goodLines.l0])
   | succ k1 =>
    have H := HA.out
    clear HA
    simp only [impl_goodLines.l0] at H
    by_cases c4 : x10_1 < (l0.length : Int)
    ·rw [if_pos c4] at H
     have c4b0 : decide (x10_1 < (l0.length : Int)) = true := decide_eq_true c4
     clear c4
     by_cases c5 : 0 ≤ x10_1
     ·rw [if_pos c5] at H
      have c5b0 : decide (0 ≤ x10_1) = true := decide_eq_true c5
      clear c5
      by_cases c6 : x10_1 < (l0.length : Int)
      ·rw [if_pos c6] at H
       have c6b0 : decide (x10_1 < (l0.length : Int)) = true := decide_eq_true c6
       clear c6
       by_cases c7 : x10_1 < (wrap64 ((l0.length : Int) - 1))
       ·rw [if_pos c7] at H
        have c7b0 : decide (x10_1 < (wrap64 ((l0.length : Int) - 1))) = true := decide_eq_true c7
        clear c7
        replace H := Option.bind_eq_some_iff.mp H
        obtain ⟨t243, A80, H⟩ := H
        replace H : (if t243 = true then (impl_goodLines.l0 k1 l0 l0 (l0.length : Int) (wrap64 (x10_1 + 1))) else (some false)) = some r := H
        have A8 := am A80
        clear A80
        by_cases c9 : t243 = true
        ·subst c9
         have H1 : (impl_goodLines.l0 k1 l0 l0 (l0.length : Int) (wrap64 (x10_1 + 1))) = some r := by rw [if_pos rfl] at H; exact H
         clear H
         have H := H1
         clear H1
         have H' := am H
         clear H
         have p242 : 0 ≤ (x10_1 : Int) := oa
         have q242 : x10_1 < (l0.length : Int) := oa
         obtain ⟨ad242, e242, hx242_0⟩ := Kd.at_string HR0.out x10_1 p242 q242
         cases e242
         replace p242 := eq_true p242
         replace q242 := eq_true q242
         go_wp2_with (first | (go_at_call 126; (with_reducible refine (impl_isEnded.calls (rdOf ByteArray.empty l0 x10_1) true _ A8.out).mono ?_); rintro e w' ⟨rfl, ⟨nd, rfl⟩⟩))
         go_roundg k1
         case measure => have := HK1.out; omega
         case rel => exact ⟨(wrap64 (x10_1 + 1)), zf, H', ⟨by have := HK1.out; omega⟩, by repeat (first | exact Drawn0.refl _ | apply Drawn0.step)⟩
        ·replace c9 := Bool.eq_false_iff.mpr c9
         subst c9
         have H1 : (some false) = some r := by rw [if_neg (show ¬ (false = true) by decide)] at H; exact H
         clear H
         have H := H1
         clear H1
         obtain rfl := Option.some.inj H
         have p242 : 0 ≤ (x10_1 : Int) := oa
         have q242 : x10_1 < (l0.length : Int) := oa
         obtain ⟨ad242, e242, hx242_0⟩ := Kd.at_string HR0.out x10_1 p242 q242
         cases e242
         replace p242 := eq_true p242
         replace q242 := eq_true q242
         go_wp2_with (first | (go_at_call 126; (with_reducible refine (impl_isEnded.calls (rdOf ByteArray.empty l0 x10_1) false _ A8.out).mono ?_); rintro e w' ⟨rfl, ⟨nd, rfl⟩⟩))
         go_ret
         exact ⟨by first | rfl | (simp; done) | (simp [*]; done), by repeat (first | exact Drawn0.refl _ | apply Drawn0.step)⟩
       ·rw [if_neg c7] at H
        have c7b0 : decide (x10_1 < (wrap64 ((l0.length : Int) - 1))) = false := decide_eq_false c7
        clear c7
        have H' := am H
        clear H
        have p242 : 0 ≤ (x10_1 : Int) := oa
        have q242 : x10_1 < (l0.length : Int) := oa
        obtain ⟨ad242, e242, hx242_0⟩ := Kd.at_string HR0.out x10_1 p242 q242
        cases e242
        replace p242 := eq_true p242
        replace q242 := eq_true q242
        go_wp2
        go_roundg k1
        case measure => have := HK1.out; omega
        case rel => exact ⟨(wrap64 (x10_1 + 1)), zf, H', ⟨by have := HK1.out; omega⟩, by repeat (first | exact Drawn0.refl _ | apply Drawn0.step)⟩
      ·rw [if_neg c6] at H
       exact absurd H (by simp)
     ·rw [if_neg c5] at H
      exact absurd H (by simp)
    ·rw [if_neg c4] at H
     have c4b0 : decide (x10_1 < (l0.length : Int)) = false := decide_eq_false c4
     clear c4
     obtain rfl := Option.some.inj H
     go_wp2
     go_ret
     exact ⟨by first | rfl | (simp; done) | (simp [*]; done), by repeat (first | exact Drawn0.refl _ | apply Drawn0.step)⟩
 ·replace c3 := Bool.eq_false_iff.mpr c3
  subst c3
  have H1 : (some false) = some r := by rw [if_neg (show ¬ (false = true) by decide)] at H; exact H
  clear H
  have H := H1
  clear H1
  obtain rfl := Option.some.inj H
  go_enter Try.func63, Try.ntmps63
  go_wp2_with (first | ((with_reducible refine gateC (f := 125) rfl ?_); refine goesL_ (some 6) rfl rfl Try.func125 (by kernel_rfl) rfl #[.slice A0 l0.length c0] rfl zm ?_; (with_reducible refine (impl_areLines.calls k _ _ l0 false _ ?side1 ?side2 A2.out).mono ?_); (case side1 => exact zq HR0.out); (case side2 => exact HC0.out); rintro e w' ⟨rfl, ⟨nd, rfl⟩⟩; refine ⟨_, rfl, ?_⟩))
  go_ret
  exact ⟨by first | rfl | (simp; done) | (simp [*]; done), by repeat (first | exact Drawn0.refl _ | apply Drawn0.step)⟩
end Go.Proofs.Ytmcldkobejhaeaa.My
namespace Go.Proofs.Ytmcldkobejhaeaa.Pl
open Go.RowKit Go.Proofs.YtmcldkobejhaeaaW.PrintWords Go.Proofs.YtmcldkobejhaeaaW.PrintLast Go.Proofs.Ytmcldkobejhaeaa.My
set_option linter.unusedVariables false
set_option linter.unusedSimpArgs false
def isLn (s : ByteArray) : Bool := !(s.data.toList.dropLast.contains 10) && inB s.size 1 30
def ends (s : ByteArray) : Bool := s.data.toList.getLast? == some 10
def good (l : List ByteArray) : Bool := decide (l.length ≤ 40) && (l.all isLn && l.dropLast.all ends)
theorem toList_one (c : UInt8) : (⟨#[c]⟩ : ByteArray).toList = [c] := by rw [Lib.toList_data]
theorem size_one (c : UInt8) : (⟨#[c]⟩ : ByteArray).size = 1 := rfl
theorem bt_one (c : UInt8) : bt ⟨#[c]⟩ 0 = (c.toNat : Int) := rfl
theorem index_ev (s : ByteArray) (c : UInt8) : Ev (fun k => strings_Index.f k s ⟨#[c]⟩) (Lib.indexByte s.data.toList c) := by
  have hj : ∀ b : Bool, (b = true → Lib.indexByte s.data.toList c = 0) → Ev (fun k => stringslite_Index.j0 k s ⟨#[c]⟩ 1 b) (Lib.indexByte s.data.toList c) := by
    intro b hb
    refine Ev.step (fun k => stringslite_Index.j0.eq_2 ..) ?_
    refine ev_ite (fun h => ev_some (hb h).symm) (fun _ => ?_)
    refine ev_pos rfl (ev_pos (by rw [size_one]; decide) ?_)
    refine ev_const ?_
    rw [bt_one]
    simp [stringslite_IndexByte.f]
  have h2 : Ev (fun k => stringslite_Index.f k s ⟨#[c]⟩) (Lib.indexByte s.data.toList c) := by
    simp only [stringslite_Index.f]
    refine ev_neg (by rw [size_one]; decide) ?_
    refine hj _ (fun h => ?_)
    have e : s.data.toList = [c] := by
      have := beq_iff_eq.1 h
      rw [toList_one, Lib.toList_data] at this
      exact this.symm
    rw [e]
    simp [Lib.indexByte]
  simp only [strings_Index.f]
  exact ev_bind h2 (ev_some rfl)
theorem indexByte_nonneg (l : List UInt8) (c : UInt8) : decide (Lib.indexByte l c ≥ 0) = l.contains c := by
  induction l with
  | nil => simp [Lib.indexByte]
  | cons b l ih =>
    have hge := Lib.indexByte_ge l c
    unfold Lib.indexByte
    by_cases h : (b == c) = true
    · have : b = c := beq_iff_eq.1 h
      simp [this]
    · have hb : (b == c) = false := by simpa using h
      have hne : ¬ c = b := fun e => h (by simp [e])
      rw [List.contains_cons, ← ih]
      simp only [hb]
      by_cases h2 : Lib.indexByte l c = -1
      · simp [h2, hne]
      · have h3 : (Lib.indexByte l c == -1) = false := by simpa using h2
        simp only [h3]
        have : Lib.indexByte l c ≥ 0 := by omega
        simp [hne, this]
        omega
theorem contains_ev (s : ByteArray) (c : UInt8) : Ev (fun k => strings_Contains.f k s ⟨#[c]⟩) (s.data.toList.contains c) := by
  simp only [strings_Contains.f]
  exact ev_bind (index_ev s c) (ev_some (indexByte_nonneg _ _))
theorem extract_data (s : ByteArray) (a b : Nat) : (s.extract a b).data.toList = (s.data.toList.take b).drop a := by
  rw [ByteArray.data_extract, Array.toList_extract, List.extract_eq_take_drop, ← List.drop_take]
theorem isLine_ev (s : ByteArray) (hs : s.size ≤ 9223372036854775807) : Ev (fun k => impl_isLine.f k s) (isLn s) := by
  simp only [impl_isLine.f, impl_in_eq, Option.bind_some]
  refine ev_ite (fun h => ?_) (fun h => ev_some (by unfold isLn; simp at h; simp [h]))
  have h1 : 1 ≤ s.size ∧ s.size ≤ 30 := by
    simp [inB] at h
    omega
  rw [wrap_pred s.size (by omega) hs]
  refine ev_pos (by omega) (ev_pos (by omega) ?_)
  refine ev_bind (contains_ev _ 10) (ev_some ?_)
  rw [Int.toNat_natCast, extract_data, List.drop_zero, ← data_length, ← List.dropLast_eq_take]
  unfold isLn
  rw [h]
  simp
theorem l1Line_l0 (s : ByteArray) (hs : s.size ≤ 9223372036854775807) : ∀ d i, i + d = s.size - 1 → Ev (fun k => spec_l1Line.l0 k s (i : Int)) (!((s.data.toList.dropLast.drop i).contains 10) && inB s.size 1 30) := by
  intro d
  have hl : s.data.toList.length = s.size := data_length s
  induction d with
  | zero =>
    intro i hi
    refine Ev.step (fun k => spec_l1Line.l0.eq_2 ..) ?_
    refine ev_neg (by rw [wrap64_id (by omega) (by omega)]; omega) ?_
    refine ev_const ?_
    rw [spec_l1In_eq, List.drop_of_length_le (by rw [List.length_dropLast]; omega)]
    rfl
  | succ d ih =>
    intro i hi
    refine Ev.step (fun k => spec_l1Line.l0.eq_2 ..) ?_
    refine ev_pos (by rw [wrap64_id (by omega) (by omega)]; omega) (ev_pos (by omega) (ev_pos (by omega) ?_))
    have hd : s.data.toList.dropLast.drop i = s.data.toList[i] :: s.data.toList.dropLast.drop (i + 1) := by
      rw [List.drop_eq_getElem_cons (by rw [List.length_dropLast]; omega), List.getElem_dropLast]
    rw [hd, List.contains_cons, bt_nat s i (by omega)]
    refine ev_ite (fun h => ev_some ?_) (fun h => ?_)
    · have : s.data.toList[i] = 10 := u8_eq h
      rw [this]
      simp
    · rw [wrap_succ i (by omega)]
      refine ev_to (ih (i + 1) (by omega)) ?_
      have : ((10 : UInt8) == s.data.toList[i]) = false := by
        rw [beq_eq_false_iff_ne]
        exact u8_ne h
      rw [this, Bool.false_or]
theorem l1Line_ev (s : ByteArray) (hs : s.size ≤ 9223372036854775807) : Ev (fun k => spec_l1Line.f k s) (isLn s) := by
  simp only [spec_l1Line.f]
  exact l1Line_l0 s hs (s.size - 1) 0 (by omega)
theorem isLn_size {s : ByteArray} (h : isLn s = true) : 1 ≤ s.size ∧ s.size ≤ 30 := by
  simp [isLn, inB] at h
  omega
theorem ends_last {s : ByteArray} (h : 1 ≤ s.size) : ends s = (bt s ((s.size - 1 : Nat) : Int) == 10) := by
  have hl : s.data.toList.length = s.size := data_length s
  have hq : s.data.toList.getLast? = some (s.data.toList[s.size - 1]'(by omega)) := by
    rw [List.getLast?_eq_getElem?, List.getElem?_eq_getElem (by omega)]
    simp only [hl]
  unfold ends
  rw [bt_nat s _ (by omega), hq]
  rw [Bool.eq_iff_iff]
  simp only [beq_iff_eq, Option.some.injEq]
  constructor
  · intro e; rw [e]; rfl
  · intro e; exact u8_eq e
theorem l1Ends_eq (s : ByteArray) (h : 1 ≤ s.size) (hs : s.size ≤ 9223372036854775807) : spec_l1Ends.f s = some (ends s) := by
  unfold spec_l1Ends.f
  rw [wrap_pred s.size (by omega) hs, if_pos (by omega), if_pos (by omega), ends_last h]
theorem hasSuffix_eq (s : ByteArray) (c : UInt8) (hs : s.size ≤ 9223372036854775807) : strings_HasSuffix.f s ⟨#[c]⟩ = some (s.data.toList.getLast? == some c) := by
  have hl : s.data.toList.length = s.size := data_length s
  unfold strings_HasSuffix.f stringslite_HasSuffix.f
  rw [size_one]
  by_cases h : 1 ≤ s.size
  · rw [if_pos (by omega), show ((1 : Nat) : Int) = 1 from rfl, wrap_pred s.size (by omega) hs, if_pos (by omega), if_pos (by omega), Option.bind_some, toList_one, Lib.toList_data, Int.toNat_natCast, extract_data, ← hl, List.take_length]
    have e : s.data.toList.drop (s.data.toList.length - 1) = [s.data.toList[s.data.toList.length - 1]'(by omega)] := by
      rw [List.drop_eq_getElem_cons (by omega), List.drop_of_length_le (by omega)]
    rw [e, List.getLast?_eq_getElem?, List.getElem?_eq_getElem (by omega)]
    congr 1
    rw [Bool.eq_iff_iff]
    simp
  · rw [if_neg (by omega), Option.bind_some]
    have : s.data.toList = [] := List.eq_nil_of_length_eq_zero (by omega)
    simp [this]
theorem isEnded_eq (s : ByteArray) (hs : s.size ≤ 9223372036854775807) : impl_isEnded.f s = some (ends s) := by
  unfold impl_isEnded.f
  rw [hasSuffix_eq s 10 hs]
  rfl
theorem areLines_l0 (l : List ByteArray) (hf : FitS l) : ∀ d i, i + d = l.length → ∃ j : Int, Ev (fun k => slices_IndexFunc_string_string__impl_areLines_1.l0 k l (l.length : Int) (i : Int)) j ∧ decide (j ≥ 0) = !((l.drop i).all isLn) := by
  intro d
  induction d with
  | zero =>
    intro i hi
    refine ⟨-1, Ev.step (fun k => slices_IndexFunc_string_string__impl_areLines_1.l0.eq_2 ..) (ev_neg (by omega) (ev_some rfl)), ?_⟩
    rw [List.drop_of_length_le (by omega)]
    rfl
  | succ d ih =>
    intro i hi
    have hlt : i < l.length := by omega
    have hev : Ev (fun k => impl_areLines_1.f k (rdOf ByteArray.empty l (i : Int))) (!isLn l[i]) := by
      rw [rdOf_lt _ _ _ hlt]
      simp only [impl_areLines_1.f]
      exact ev_bind (isLine_ev _ (hf.2 _ (List.getElem_mem _))) (ev_some rfl)
    obtain ⟨j, hj, hjj⟩ := ih (i + 1) (by omega)
    rw [drop_cons l i hlt, List.all_cons]
    by_cases h : isLn l[i] = true
    · refine ⟨j, Ev.step (fun k => slices_IndexFunc_string_string__impl_areLines_1.l0.eq_2 ..) (ev_pos (by omega) (ev_pos (by omega) (ev_pos (by omega) (ev_bind hev (ev_neg (by simp [h]) ?_))))), by rw [hjj, h]; simp⟩
      rw [wrap_succ i (by have := hf.1; omega)]
      exact hj
    · refine ⟨(i : Int), Ev.step (fun k => slices_IndexFunc_string_string__impl_areLines_1.l0.eq_2 ..) (ev_pos (by omega) (ev_pos (by omega) (ev_pos (by omega) (ev_bind hev (ev_pos (by simp [h]) (ev_some rfl)))))), ?_⟩
      simp [h]
theorem areLines_ev (l : List ByteArray) (hf : FitS l) : Ev (fun k => impl_areLines.f k l) (decide (l.length ≤ 40) && l.all isLn) := by
  simp only [impl_areLines.f]
  refine ev_ite (fun h => ?_) (fun h => ev_some ?_)
  · obtain ⟨j, hj, hjj⟩ := areLines_l0 l hf l.length 0 (by omega)
    simp only [slices_ContainsFunc_string_string__impl_areLines_1.f, slices_IndexFunc_string_string__impl_areLines_1.f]
    refine ev_bind (ev_bind hj (ev_some rfl)) (ev_some ?_)
    have : l.length ≤ 40 := by omega
    rw [hjj]
    simp [this]
  · have : ¬ l.length ≤ 40 := by omega
    simp [this]
theorem goodLines_l0 (l : List ByteArray) (hf : FitS l) : ∀ d i, i + d = l.length → Ev (fun k => impl_goodLines.l0 k l l (l.length : Int) (i : Int)) ((l.dropLast.drop i).all ends) := by
  intro d
  have hL := hf.1
  induction d with
  | zero =>
    intro i hi
    refine Ev.step (fun k => impl_goodLines.l0.eq_2 ..) (ev_neg (by omega) (ev_some ?_))
    rw [List.drop_of_length_le (by rw [List.length_dropLast]; omega)]
    rfl
  | succ d ih =>
    intro i hi
    have hlt : i < l.length := by omega
    refine Ev.step (fun k => impl_goodLines.l0.eq_2 ..) (ev_pos (by omega) (ev_pos (by omega) (ev_pos (by omega) ?_)))
    rw [wrap_pred l.length (by omega) hL, rdOf_lt _ _ _ hlt, isEnded_eq _ (hf.2 _ (List.getElem_mem _)), wrap_succ i (by omega)]
    simp only [Option.bind_some]
    refine ev_ite (fun h => ?_) (fun h => ?_)
    · have hd : l.dropLast.drop i = l[i] :: l.dropLast.drop (i + 1) := by
        rw [List.drop_eq_getElem_cons (by rw [List.length_dropLast]; omega), List.getElem_dropLast]
      rw [hd, List.all_cons]
      refine ev_ite (fun h => ?_) (fun h => ev_some (by simp [h]))
      rw [h, Bool.true_and]
      exact ih (i + 1) (by omega)
    · have e1 : l.dropLast.drop i = [] := List.drop_of_length_le (by rw [List.length_dropLast]; omega)
      have e2 : l.dropLast.drop (i + 1) = [] := List.drop_of_length_le (by rw [List.length_dropLast]; omega)
      have := ih (i + 1) (by omega)
      rw [e2] at this
      rw [e1]
      exact this
theorem goodLines_ev (l : List ByteArray) (hf : FitS l) : Ev (fun k => impl_goodLines.f k l) (good l) := by
  simp only [impl_goodLines.f]
  refine ev_bind (areLines_ev l hf) (ev_ite (fun h => ?_) (fun h => ev_some ?_))
  · refine ev_to (goodLines_l0 l hf l.length 0 (by omega)) ?_
    rw [List.drop_zero]
    unfold good
    rw [← Bool.and_assoc, h, Bool.true_and]
  · unfold good
    rw [← Bool.and_assoc]
    simp at h
    simp
    intro h1 h2
    exact absurd (h h1) (by simpa using h2)
theorem l1Good_l0 (l : List ByteArray) (hf : FitS l) : ∀ d i, i + d = l.length → Ev (fun k => spec_l1Good.l0 k l l (l.length : Int) (i : Int)) ((l.drop i).all isLn && (l.dropLast.drop i).all ends && decide (l.length ≤ 40)) := by
  intro d
  have hL := hf.1
  induction d with
  | zero =>
    intro i hi
    refine Ev.step (fun k => spec_l1Good.l0.eq_2 ..) (ev_neg (by omega) (ev_some ?_))
    rw [List.drop_of_length_le (by omega), List.drop_of_length_le (by rw [List.length_dropLast]; omega)]
    simp
    omega
  | succ d ih =>
    intro i hi
    have hlt : i < l.length := by omega
    refine Ev.step (fun k => spec_l1Good.l0.eq_2 ..) (ev_pos (by omega) (ev_pos (by omega) (ev_pos (by omega) ?_)))
    simp only [rdOf_lt _ _ _ hlt]
    rw [wrap_pred l.length (by omega) hL, wrap_succ i (by omega), drop_cons l i hlt, List.all_cons]
    refine ev_bind (l1Line_ev _ (hf.2 _ (List.getElem_mem _))) (ev_ite (fun h => ?_) (fun h => ev_some (by simp [h])))
    rw [h, Bool.true_and, l1Ends_eq _ (isLn_size h).1 (hf.2 _ (List.getElem_mem _))]
    simp only [Option.bind_some]
    refine ev_ite (fun h => ?_) (fun h => ?_)
    · have hd : l.dropLast.drop i = l[i] :: l.dropLast.drop (i + 1) := by
        rw [List.drop_eq_getElem_cons (by rw [List.length_dropLast]; omega), List.getElem_dropLast]
      rw [hd, List.all_cons]
      refine ev_ite (fun h => ?_) (fun h => ev_some (by simp [h]))
      rw [h, Bool.true_and]
      exact ih (i + 1) (by omega)
    · have e1 : l.dropLast.drop i = [] := List.drop_of_length_le (by rw [List.length_dropLast]; omega)
      have e2 : l.dropLast.drop (i + 1) = [] := List.drop_of_length_le (by rw [List.length_dropLast]; omega)
      have := ih (i + 1) (by omega)
      rw [e2] at this
      rw [e1]
      exact this
theorem l1Good_ev (l : List ByteArray) (hf : FitS l) : Ev (fun k => spec_l1Good.f k l) (good l) := by
  simp only [spec_l1Good.f]
  refine ev_to (l1Good_l0 l hf l.length 0 (by omega)) ?_
  rw [List.drop_zero, List.drop_zero]
  unfold good
  rw [Bool.and_comm]

theorem l5Lines_l0 (l : List ByteArray) (hf : FitS l) : ∀ d i, i + d = l.length → Ev (fun k => spec_l5Lines.l0 k l l (l.length : Int) (i : Int)) ((l.drop i).all isLn && (l.dropLast.drop i).all ends && decide (l.length ≤ 40)) := by
  intro d
  have hL := hf.1
  induction d with
  | zero =>
    intro i hi
    refine Ev.step (fun k => spec_l5Lines.l0.eq_2 ..) (ev_neg (by omega) (ev_some ?_))
    rw [List.drop_of_length_le (by omega), List.drop_of_length_le (by rw [List.length_dropLast]; omega)]
    simp
    omega
  | succ d ih =>
    intro i hi
    have hlt : i < l.length := by omega
    refine Ev.step (fun k => spec_l5Lines.l0.eq_2 ..) (ev_pos (by omega) (ev_pos (by omega) (ev_pos (by omega) ?_)))
    simp only [rdOf_lt _ _ _ hlt]
    rw [wrap_pred l.length (by omega) hL, wrap_succ i (by omega), drop_cons l i hlt, List.all_cons]
    refine ev_bind (l1Line_ev _ (hf.2 _ (List.getElem_mem _))) (ev_ite (fun h => ?_) (fun h => ev_some (by simp [h])))
    rw [h, Bool.true_and, l1Ends_eq _ (isLn_size h).1 (hf.2 _ (List.getElem_mem _))]
    simp only [Option.bind_some]
    refine ev_ite (fun h => ?_) (fun h => ?_)
    · have hd : l.dropLast.drop i = l[i] :: l.dropLast.drop (i + 1) := by
        rw [List.drop_eq_getElem_cons (by rw [List.length_dropLast]; omega), List.getElem_dropLast]
      rw [hd, List.all_cons]
      refine ev_ite (fun h => ?_) (fun h => ev_some (by simp [h]))
      rw [h, Bool.true_and]
      exact ih (i + 1) (by omega)
    · have e1 : l.dropLast.drop i = [] := List.drop_of_length_le (by rw [List.length_dropLast]; omega)
      have e2 : l.dropLast.drop (i + 1) = [] := List.drop_of_length_le (by rw [List.length_dropLast]; omega)
      have := ih (i + 1) (by omega)
      rw [e2] at this
      rw [e1]
      exact this
theorem l5Lines_ev (l : List ByteArray) (hf : FitS l) : Ev (fun k => spec_l5Lines.f k l) (good l) := by
  simp only [spec_l5Lines.f]
  refine ev_to (l5Lines_l0 l hf l.length 0 (by omega)) ?_
  rw [List.drop_zero, List.drop_zero]
  unfold good
  rw [Bool.and_comm]
end Go.Proofs.Ytmcldkobejhaeaa.Pl
namespace Go.Proofs.Ytmcldkobejhaeaa.My
open Go.RowKit Go.Proofs.YtmcldkobejhaeaaW.PrintWords Go.Proofs.YtmcldkobejhaeaaW.PrintLast Go.Proofs.YtmcldkobejhaeaaW.PrintMore
attribute [local go_sem] max2_int min2_int max_two min_two max_three min_three max_four min_four
set_option linter.unusedVariables false
set_option linter.unusedSimpArgs false
def impl_sideOf.l0 : Nat → Int → List ByteArray → List (S140) → Int → Int → Option (List ByteArray)
 | 0, _, _, _, _, _ => none
 | k + 1, x1, x5, x9, x10, x11 => if x11 < x10 then (if 0 ≤ x11 then (if x11 < (x9.length : Int) then (if ((T140 x9 x11).f0) = x1 then (impl_sideOf.l0 k x1 x5 x9 x10 (wrap64 (x11 + 1))) else (if x5.length < 8796093022208 then (impl_sideOf.l0 k x1 (x5 ++ [(T140 x9 x11).f1]) x9 x10 (wrap64 (x11 + 1))) else (none))) else (none)) else (none)) else (some x5)
def impl_sideOf.f (k : Nat) (l0 : List (S140)) (a1 : Int) : Option (List ByteArray) := impl_sideOf.l0 k a1 (([] : List ByteArray)) l0 (l0.length : Int) 0
set_option maxHeartbeats 8000000 in
set_option maxRecDepth 100000 in
theorem impl_sideOf.calls (k : Nat) (A0 : Option Addr) (c0 : Nat) (l0 : List (S140)) (a1 : Int) (r : List ByteArray) (w : World) (hr0 : Kd.C k140 w A0 l0.length l0) (hc0 : l0.length ≤ c0) (h : impl_sideOf.f k l0 a1 = some r) :
  Calls Try.prog 143 #[.slice A0 l0.length c0, .int .i64 a1] w fun e w' => ∃ v0_ : Value, e = .returned (v0_) ∧ Kd.R Kd.string 9 w' w.heap.size (fun _ => True) v0_ r ∧ Below w.heap.size w w' := by
 have hu140 := Try.underlying140
 have HR0 := am hr0
 have HC0 := am hc0
 clear hr0 hc0
 have HB := am (Below.refl w.heap.size w)
 have H := h
 clear h
 unfold impl_sideOf.f at H
 obtain ⟨y474, hy474⟩ : ∃ y_ : List ByteArray, y_ = (([] : List ByteArray)) := ⟨_, rfl⟩
 replace H : (impl_sideOf.l0 k a1 y474 l0 (l0.length : Int) 0) = some r := by first | (rw [hy474]; with_reducible exact H) | (have H2_ := (Option.bind_some _ _).symm.trans H; rw [hy474]; with_reducible exact H2_) | (have H2_ := (Option.bind_some _ _).symm.trans H; with_reducible exact H2_) | with_reducible exact H | (rw [hy474]; exact H) | exact H
 have Ny474 := am hy474
 clear hy474
 have H' := am H
 clear H
 go_enter Try.func143, Try.ntmps143
 go_wp2_with (first | ((with_reducible refine gate_dst (N := 8) rfl ?_); refine Kd.R_lit Kd.string _ 9 ?hg (N := 8) ?hd (xs := ([] : List ByteArray)) (inner := []) (ok := fun _ => True) (okp := fun _ => True) ?hr ?hp (fun _ hk => hk) trivial (Below.refl _ _) (Nat.le_refl _) (by simp) ?_; (case hd => rfl); (case hg => rfl); (case hr => first | (go_simp; done) | (go_simp; rfl)); (case hp => exact (Reps.none _ _)); intro v475 w3 ho4 hb hg_ hnew_; clear hg_ hnew_; (first | rw [← Ny474.out] at ho4 | (simp only [Int.reduceToNat] at ho4; rw [← Ny474.out] at ho4)); have HO476 := am (Kd.R_lower ho4 (below_size zb)); replace HB := am (below_step zb hb); clear hb ho4))
 go_loopg [5, 11] k (fun kq v5 v11 w' => ∃ (x5_1 : List ByteArray) (x11_1 : Int), v11 = .int .i64 x11_1 ∧ Aside0 (impl_sideOf.l0 kq a1 x5_1 l0 (l0.length : Int) x11_1 = some r) ∧ Aside0 (kq ≤ k) ∧ Aside0 (Kd.R Kd.string 9 w' w.heap.size (fun _ => True) v5 x5_1) ∧ Aside0 (Below w.heap.size w w'))
 case atStart => exact ⟨(y474), (0), zf, H', ⟨Nat.le_refl _⟩, ⟨zr HO476.out⟩, ⟨zb⟩⟩
 case round =>
  clear H'
  try clear c1
  try clear p2
  obtain ⟨x5_1, x11_1, rfl, HA, HK1, HO_5, HB⟩ := hrel
  cases gk with
  | zero => exact absurd HA.out (by simp [impl_sideOf.l0])
  | succ k1 =>
   have H := HA.out
   clear HA
   simp only [impl_sideOf.l0] at H
   by_cases c5 : x11_1 < (l0.length : Int)
   ·rw [if_pos c5] at H
    have c5b0 : decide (x11_1 < (l0.length : Int)) = true := decide_eq_true c5
    clear c5
    obtain ⟨c6, H⟩ := itn H
    have c6b0 := decide_eq_true c6
    clear c6
    obtain ⟨c7, H⟩ := itn H
    have c7b0 := decide_eq_true c7
    clear c7
    by_cases c8 : ((T140 l0 x11_1).f0) = a1
    ·rw [if_pos c8] at H
     have c8b0 : (((T140 l0 x11_1).f0) == a1) = true := beq_iff_eq.mpr c8
     have c8b1 : (((T140 l0 x11_1).f0) != a1) = false := bne_eq_false_iff_eq.mpr c8
     clear c8
     have H' := am H
     clear H
     have p477 : 0 ≤ (x11_1 : Int) := oa
     have q477 : x11_1 < (l0.length : Int) := oa
     obtain ⟨ad477, e477, hx477_0, hx477_1⟩ := at_T140 HR0.out x11_1 p477 q477
     cases e477
     replace hx477_0 := bc HB.out hx477_0
     replace hx477_1 := bc HB.out hx477_1
     replace p477 := eq_true p477
     replace q477 := eq_true q477
     go_wp2_with (first | ((with_reducible refine gate_dst (N := 7) rfl ?_); refine box_event ?hg (N := 7) ?hd (cs := #[.int .i64 0, .string (⟨#[]⟩ : ByteArray)]) (t := 140) ?hr ?_; (case hd => rfl); (case hg => rfl); (case hr => first | (go_simp; done) | (go_simp; rfl)); intro gb478 hg w9 hbox hb; replace HO_5 := am (Kd.R_below (zr HO_5.out) hb); have BK478 := am (hbox); have GW478 := am ((by rw [hg]; exact (below_size zb) : w.heap.size ≤ gb478)); have GE478 := am ((by rw [hg]; exact (below_size zb) : w.heap.size ≤ gb478)); replace HB := am (below_step zb hb); clear hb hbox hg; obtain ⟨hcz10_0, hcz10_1⟩ := cz2 BK478.out; obtain ⟨hfz10_0, hfz10_1⟩ := fz2 BK478.out))
     go_roundg k1
     case measure => have := HK1.out; omega
     case rel => exact ⟨(x5_1), (wrap64 (x11_1 + 1)), zf, H', ⟨by have := HK1.out; omega⟩, ⟨by (with_reducible repeat (first | apply Kd.R_alloc | apply Kd.R_drewN | apply Kd.R_drew)); exact Kd.R_mono (Kd.R_far (p := ⟨gb478, 1, none⟩) (Kd.R_far (p := ⟨gb478, 0, none⟩) (Kd.R_types HO_5.out BK478.out (by decide)) (fun _ hk => hk.2) (.int .i64 ((T140 l0 x11_1).f0))) (fun _ hk => hk.2) (.string ((T140 l0 x11_1).f1))) (fun _ hk => trivial)⟩, ⟨zw⟩⟩
    ·rw [if_neg c8] at H
     have c8b0 : (((T140 l0 x11_1).f0) == a1) = false := beq_eq_false_iff_ne.mpr c8
     have c8b1 : (((T140 l0 x11_1).f0) != a1) = true := bne_iff_ne.mpr c8
     obtain ⟨c11, H⟩ := itn H
     have LMc11 := am c11
     clear c11
     obtain ⟨y479, hy479⟩ : ∃ y_ : List ByteArray, y_ = (x5_1 ++ [(T140 l0 x11_1).f1]) := ⟨_, rfl⟩
     replace H : (impl_sideOf.l0 k1 a1 y479 l0 (l0.length : Int) (wrap64 (x11_1 + 1))) = some r := by first | (rw [hy479]; with_reducible exact H) | (have H2_ := (Option.bind_some _ _).symm.trans H; rw [hy479]; with_reducible exact H2_) | (have H2_ := (Option.bind_some _ _).symm.trans H; with_reducible exact H2_) | with_reducible exact H | (rw [hy479]; exact H) | exact H
     have Ny479 := am hy479
     clear hy479
     have H' := am H
     clear H
     have p477 : 0 ≤ (x11_1 : Int) := oa
     have q477 : x11_1 < (l0.length : Int) := oa
     obtain ⟨ad477, e477, hx477_0, hx477_1⟩ := at_T140 HR0.out x11_1 p477 q477
     cases e477
     replace hx477_0 := bc HB.out hx477_0
     replace hx477_1 := bc HB.out hx477_1
     replace p477 := eq_true p477
     replace q477 := eq_true q477
     go_wp2_with (first | ((with_reducible refine gate_dst (N := 7) rfl ?_); refine box_event ?hg (N := 7) ?hd (cs := #[.int .i64 0, .string (⟨#[]⟩ : ByteArray)]) (t := 140) ?hr ?_; (case hd => rfl); (case hg => rfl); (case hr => first | (go_simp; done) | (go_simp; rfl)); intro gb478 hg w12 hbox hb; replace HO_5 := am (Kd.R_below (zr HO_5.out) hb); have BK478 := am (hbox); have GW478 := am ((by rw [hg]; exact (below_size zb) : w.heap.size ≤ gb478)); have GE478 := am ((by rw [hg]; exact (below_size zb) : w.heap.size ≤ gb478)); replace HB := am (below_step zb hb); clear hb hbox hg; obtain ⟨hcz13_0, hcz13_1⟩ := cz2 BK478.out; obtain ⟨hfz13_0, hfz13_1⟩ := fz2 BK478.out) | ((with_reducible refine gateB (b := .append) (xs := #[.tmp 19, .tmp 22]) rfl ?_); at_builtin; refine Kd.R_append Kd.string (w0 := w) w.heap.size rfl (.tmp 19) (.tmp 22) 24 9 (.string ⟨#[]⟩) 16 rfl Try.underlying24 info9 rfl (by decide) (by omega) u5 x5_1 ((T140 l0 x11_1).f1) [.string ((T140 l0 x11_1).f1)] (fun _ => True) (fun _ => False) rfl (by first | (go_simp; done) | (go_simp; rfl)) ?aP (fun _ hk => hk.elim) ?aF ?aO ?aB ?aS ?aL ?_; (case aP => exact rfl); (case aB => exact zw); (case aF => exact (fun _ _ => trivial)); (case aO => exact (by (with_reducible repeat (first | apply Kd.R_alloc | apply Kd.R_drewN | apply Kd.R_drew)); exact Kd.R_mono (Kd.R_far (p := ⟨gb478, 1, none⟩) (Kd.R_far (p := ⟨gb478, 0, none⟩) (Kd.R_types HO_5.out BK478.out (by decide)) (fun _ hk => hk.2) (.int .i64 ((T140 l0 x11_1).f0))) (fun _ hk => hk.2) (.string ((T140 l0 x11_1).f1))) (fun _ hk => trivial))); (case aS => exact (below_size zw)); (case aL => have := LMc11.out; omega); intro v480 w14 ho hb hg hat; rw [← Ny479.out] at ho; replace BK478 := am (blk_grown (g := gb478) (o := .cells #[.int .i64 ((T140 l0 x11_1).f0), .string ((T140 l0 x11_1).f1)] 140 (0, 0)) (by (with_reducible repeat (first | refine blk_drewN ?_ _ | refine blk_drew ?_ | refine blk_alloc ?_ _)); refine blk_put (cs := #[.int .i64 ((T140 l0 x11_1).f0), .string (⟨#[]⟩ : ByteArray)]) ?_ 1 _ rfl; (with_reducible repeat (first | refine blk_drewN ?_ _ | refine blk_drew ?_ | refine blk_alloc ?_ _)); refine blk_put (cs := #[.int .i64 0, .string (⟨#[]⟩ : ByteArray)]) ?_ 0 _ rfl; (with_reducible repeat (first | refine blk_drewN ?_ _ | refine blk_drew ?_ | refine blk_alloc ?_ _)); exact BK478.out) hg (Kd.R_ne HO_5.out BK478.out (by decide))); replace HB := am (hb); have HO481 := am (ho); clear HO_5; clear ho hb hg hat))
     go_roundg k1
     case measure => have := HK1.out; omega
     case rel => exact ⟨(y479), (wrap64 (x11_1 + 1)), zf, H', ⟨by have := HK1.out; omega⟩, ⟨zr HO481.out⟩, ⟨zw⟩⟩
   ·rw [if_neg c5] at H
    have c5b0 : decide (x11_1 < (l0.length : Int)) = false := decide_eq_false c5
    clear c5
    obtain rfl := Option.some.inj H
    go_wp2
    go_ret
    exact ⟨_, by first | rfl | (simp [errW_none, errW_some] <;> rfl) | (simp [*, errW_none, errW_some] <;> rfl), zr HO_5.out, zb⟩

def impl_Group_fresh.f (k : Nat) (a0_0 : Int) (a0_1 : Int) (l0_2 : List (S140)) : Option (List ByteArray) := (impl_sideOf.f k l0_2 2).bind fun t487 => (some t487)
set_option maxHeartbeats 8000000 in
set_option maxRecDepth 100000 in
theorem impl_Group_fresh.calls (k : Nat) (a0_0 : Int) (a0_1 : Int) (A0_2 : Option Addr) (c0_2 : Nat) (l0_2 : List (S140)) (r : List ByteArray) (w : World) (hr0_2 : Kd.C k140 w A0_2 l0_2.length l0_2) (hc0_2 : l0_2.length ≤ c0_2) (h : impl_Group_fresh.f k a0_0 a0_1 l0_2 = some r) :
  Calls Try.prog 121 #[.agg #[.int .i64 a0_0, .int .i64 a0_1, .slice A0_2 l0_2.length c0_2]] w fun e w' => ∃ v0_ : Value, e = .returned (v0_) ∧ Kd.R Kd.string 9 w' w.heap.size (fun _ => True) v0_ r ∧ Below w.heap.size w w' := by
 have hu73 := Try.underlying73
 have HR0_2 := am hr0_2
 have HC0_2 := am hc0_2
 clear hr0_2 hc0_2
 have HB := am (Below.refl w.heap.size w)
 have H : ((impl_sideOf.f k l0_2 2).bind fun t487 => (some t487)) = some r := h
 clear h
 replace H := Option.bind_eq_some_iff.mp H
 obtain ⟨t487, A20, H⟩ := H
 replace H : (some t487) = some r := H
 have A2 := am A20
 clear A20
 obtain rfl := Option.some.inj H
 go_enter Try.func121, Try.ntmps121
 go_wp2_with (first | ((with_reducible refine gate_dst (N := 1) rfl ?_); refine box_event ?hg (N := 1) ?hd (cs := #[.int .i64 a0_0, .int .i64 a0_1, .slice A0_2 l0_2.length c0_2]) (t := 73) ?hr ?_; (case hd => rfl); (case hg => rfl); (case hr => first | (go_simp; done) | (go_simp; rfl)); intro gb486 hg w3 hbox hb; have n0_ := am (below_step zb hb); have n1_ := am (hbox); have n2_ := am ((by rw [hg]; exact (below_size zb) : w.heap.size ≤ gb486)); have n3_ := am ((by rw [hg]; exact (below_size zb) : w.heap.size ≤ gb486)); clear HB; have HB := n0_; have BK486 := n1_; have GW486 := n2_; have GE486 := n3_; clear n0_ n1_ n2_ n3_; clear hb hbox hg; have hcz4_0 : w3.cell? ⟨gb486, 0, none⟩ = some (.int .i64 a0_0) := (blk_cell BK486.out 0).trans rfl; have hcz4_1 : w3.cell? ⟨gb486, 1, none⟩ = some (.int .i64 a0_1) := (blk_cell BK486.out 1).trans rfl; have hcz4_2 : w3.cell? ⟨gb486, 2, none⟩ = some (.slice A0_2 l0_2.length c0_2) := (blk_cell BK486.out 2).trans rfl; have hfz4_0 := blk_frozen BK486.out 0; have hfz4_1 := blk_frozen BK486.out 1; have hfz4_2 := blk_frozen BK486.out 2) | ((with_reducible refine gateC (f := 143) rfl ?_); refine goesL_ (some 5) rfl rfl Try.func143 (by kernel_rfl) rfl #[.slice A0_2 l0_2.length c0_2, .int .i64 2] rfl zm ?_; (with_reducible refine (impl_sideOf.calls k _ _ l0_2 2 t487 _ ?side1 ?side2 A2.out).mono ?_); (case side1 => exact zq (Kd.C_below HR0_2.out HB.out)); (case side2 => exact HC0_2.out); rintro e w5 ⟨v488, rfl, ho0, hb⟩; refine ⟨_, rfl, ?_⟩; have n0_ := am (Kd.R_lower ho0 (below_size zw)); have n1_ := am (blk_below (g := gb486) (o := .cells #[.int .i64 a0_0, .int .i64 a0_1, .slice A0_2 l0_2.length c0_2] 73 (0, 0)) (zk BK486.out) hb); have n2_ := am (below_step zw hb); clear BK486; clear HB; have HO489 := n0_; have BK486 := n1_; have HB := n2_; clear n0_ n1_ n2_; (try clear hb); (try clear ho0)))
 go_ret
 exact ⟨_, by first | rfl | (simp [errW_none, errW_some] <;> rfl) | (simp [*, errW_none, errW_some] <;> rfl), zr HO489.out, zw⟩

def impl_Group_old.f (k : Nat) (a0_0 : Int) (a0_1 : Int) (l0_2 : List (S140)) : Option (List ByteArray) := (impl_sideOf.f k l0_2 3).bind fun t483 => (some t483)
set_option maxHeartbeats 8000000 in
set_option maxRecDepth 100000 in
theorem impl_Group_old.calls (k : Nat) (a0_0 : Int) (a0_1 : Int) (A0_2 : Option Addr) (c0_2 : Nat) (l0_2 : List (S140)) (r : List ByteArray) (w : World) (hr0_2 : Kd.C k140 w A0_2 l0_2.length l0_2) (hc0_2 : l0_2.length ≤ c0_2) (h : impl_Group_old.f k a0_0 a0_1 l0_2 = some r) :
  Calls Try.prog 112 #[.agg #[.int .i64 a0_0, .int .i64 a0_1, .slice A0_2 l0_2.length c0_2]] w fun e w' => ∃ v0_ : Value, e = .returned (v0_) ∧ Kd.R Kd.string 9 w' w.heap.size (fun _ => True) v0_ r ∧ Below w.heap.size w w' := by
 have hu73 := Try.underlying73
 have HR0_2 := am hr0_2
 have HC0_2 := am hc0_2
 clear hr0_2 hc0_2
 have HB := am (Below.refl w.heap.size w)
 have H : ((impl_sideOf.f k l0_2 3).bind fun t483 => (some t483)) = some r := h
 clear h
 replace H := Option.bind_eq_some_iff.mp H
 obtain ⟨t483, A20, H⟩ := H
 replace H : (some t483) = some r := H
 have A2 := am A20
 clear A20
 obtain rfl := Option.some.inj H
 go_enter Try.func112, Try.ntmps112
 go_wp2_with (first | ((with_reducible refine gate_dst (N := 1) rfl ?_); refine box_event ?hg (N := 1) ?hd (cs := #[.int .i64 a0_0, .int .i64 a0_1, .slice A0_2 l0_2.length c0_2]) (t := 73) ?hr ?_; (case hd => rfl); (case hg => rfl); (case hr => first | (go_simp; done) | (go_simp; rfl)); intro gb482 hg w3 hbox hb; have n0_ := am (below_step zb hb); have n1_ := am (hbox); have n2_ := am ((by rw [hg]; exact (below_size zb) : w.heap.size ≤ gb482)); have n3_ := am ((by rw [hg]; exact (below_size zb) : w.heap.size ≤ gb482)); clear HB; have HB := n0_; have BK482 := n1_; have GW482 := n2_; have GE482 := n3_; clear n0_ n1_ n2_ n3_; clear hb hbox hg; have hcz4_0 : w3.cell? ⟨gb482, 0, none⟩ = some (.int .i64 a0_0) := (blk_cell BK482.out 0).trans rfl; have hcz4_1 : w3.cell? ⟨gb482, 1, none⟩ = some (.int .i64 a0_1) := (blk_cell BK482.out 1).trans rfl; have hcz4_2 : w3.cell? ⟨gb482, 2, none⟩ = some (.slice A0_2 l0_2.length c0_2) := (blk_cell BK482.out 2).trans rfl; have hfz4_0 := blk_frozen BK482.out 0; have hfz4_1 := blk_frozen BK482.out 1; have hfz4_2 := blk_frozen BK482.out 2) | ((with_reducible refine gateC (f := 143) rfl ?_); refine goesL_ (some 5) rfl rfl Try.func143 (by kernel_rfl) rfl #[.slice A0_2 l0_2.length c0_2, .int .i64 3] rfl zm ?_; (with_reducible refine (impl_sideOf.calls k _ _ l0_2 3 t483 _ ?side1 ?side2 A2.out).mono ?_); (case side1 => exact zq (Kd.C_below HR0_2.out HB.out)); (case side2 => exact HC0_2.out); rintro e w5 ⟨v484, rfl, ho0, hb⟩; refine ⟨_, rfl, ?_⟩; have n0_ := am (Kd.R_lower ho0 (below_size zw)); have n1_ := am (blk_below (g := gb482) (o := .cells #[.int .i64 a0_0, .int .i64 a0_1, .slice A0_2 l0_2.length c0_2] 73 (0, 0)) (zk BK482.out) hb); have n2_ := am (below_step zw hb); clear BK482; clear HB; have HO485 := n0_; have BK482 := n1_; have HB := n2_; clear n0_ n1_ n2_; (try clear hb); (try clear ho0)))
 go_ret
 exact ⟨_, by first | rfl | (simp [errW_none, errW_some] <;> rfl) | (simp [*, errW_none, errW_some] <;> rfl), zr HO485.out, zw⟩

mutual
def impl_goodGroup.j0 : Nat → Bool → Int → Int → List (S140) → Option (Bool)
 | 0, _, _, _, _ => none
 | k + 1, x24, x491000, x491001, x491002 => if x24 = true then (some false) else (impl_goodGroup.l0 k false x491002 (x491002.length : Int) 0 x491000 x491001 x491002)
def impl_goodGroup.l0 : Nat → Bool → List (S140) → Int → Int → Int → Int → List (S140) → Option (Bool)
 | 0, _, _, _, _, _, _, _ => none
 | k + 1, x3, x26, x27, x28, x491000, x491001, x491002 => if x28 < x27 then (if 0 ≤ x28 then (if x28 < (x26.length : Int) then ((impl_in.f ((T140 x26 x28).f0) 1 3).bind fun t496 => (if t496 = true then ((impl_isLine.f k ((T140 x26 x28).f1)).bind fun t497 => (if t497 = true then (if x28 > 0 then (if ((T140 x26 x28).f0) = 2 then (if 0 ≤ (wrap64 (x28 - 1)) then (if (wrap64 (x28 - 1)) < (x491002.length : Int) then (if ((T140 x491002 (wrap64 (x28 - 1))).f0) = 3 then (some false) else (if x3 = true then (impl_goodGroup.l0 k true x26 x27 (wrap64 (x28 + 1)) x491000 x491001 x491002) else (impl_goodGroup.l0 k (((T140 x26 x28).f0) != 1) x26 x27 (wrap64 (x28 + 1)) x491000 x491001 x491002))) else (none)) else (none)) else (if x3 = true then (impl_goodGroup.l0 k true x26 x27 (wrap64 (x28 + 1)) x491000 x491001 x491002) else (impl_goodGroup.l0 k (((T140 x26 x28).f0) != 1) x26 x27 (wrap64 (x28 + 1)) x491000 x491001 x491002))) else (if x3 = true then (impl_goodGroup.l0 k true x26 x27 (wrap64 (x28 + 1)) x491000 x491001 x491002) else (impl_goodGroup.l0 k (((T140 x26 x28).f0) != 1) x26 x27 (wrap64 (x28 + 1)) x491000 x491001 x491002))) else (some false))) else (some false))) else (none)) else (none)) else ((impl_Group_old.f k x491000 x491001 x491002).bind fun t499 => ((impl_Group_fresh.f k x491000 x491001 x491002).bind fun t502 => (if x3 = true then ((impl_goodLines.f k t499).bind fun t505 => (if t505 = true then ((impl_goodLines.f k t502).bind fun t506 => (if t506 = true then (if (wrap64 (x491000 + (t499.length : Int))) ≤ 1000 then (some (decide ((wrap64 (x491001 + (t502.length : Int))) ≤ 1000))) else (some false)) else (some false))) else (some false))) else (some false))))
end
def impl_goodGroup.f (k : Nat) (a0_0 : Int) (a0_1 : Int) (l0_2 : List (S140)) : Option (Bool) := (impl_in.f a0_0 0 999).bind fun t491 => (if t491 = true then ((impl_in.f a0_1 0 999).bind fun t492 => (if t492 = true then ((impl_in.f (l0_2.length : Int) 1 80).bind fun t493 => (impl_goodGroup.j0 k (!t493) a0_0 a0_1 l0_2)) else (impl_goodGroup.j0 k true a0_0 a0_1 l0_2))) else (impl_goodGroup.j0 k true a0_0 a0_1 l0_2))
set_option maxHeartbeats 8000000 in
set_option maxRecDepth 100000 in
theorem impl_goodGroup.calls (k : Nat) (a0_0 : Int) (a0_1 : Int) (A0_2 : Option Addr) (c0_2 : Nat) (l0_2 : List (S140)) (r : Bool) (w : World) (hr0_2 : Kd.C k140 w A0_2 l0_2.length l0_2) (hc0_2 : l0_2.length ≤ c0_2) (h : impl_goodGroup.f k a0_0 a0_1 l0_2 = some r) :
  Calls Try.prog 111 #[.agg #[.int .i64 a0_0, .int .i64 a0_1, .slice A0_2 l0_2.length c0_2]] w fun e w' => e = .returned (.bool r) ∧ Below w.heap.size w w' := by
 have hu73 := Try.underlying73
 have hu140 := Try.underlying140
 have HR0_2 := am hr0_2
 have HC0_2 := am hc0_2
 clear hr0_2 hc0_2
 have HB := am (Below.refl w.heap.size w)
 have H := h
 clear h
 unfold impl_goodGroup.f at H
 have HC2 := am H
 clear H
 go_enter Try.func111, Try.ntmps111
 go_upto_region 1 with (((with_reducible refine gate_dst (N := 1) rfl ?_); (try (refine gate_guard (by rfl) ?_; dsimp only)); refine box_event ?hg (N := 1) ?hd (cs := #[.int .i64 a0_0, .int .i64 a0_1, .slice A0_2 l0_2.length c0_2]) (t := 73) ?hr ?_; (case hd => rfl); (case hg => rfl); (case hr => (go_simp; done)); intro gb490 hg w3 hbox hb; have BK490 := am (hbox); have GW490 := am ((by rw [hg]; exact (below_size zb) : w.heap.size ≤ gb490)); have GE490 := am ((by rw [hg]; exact (below_size zb) : w.heap.size ≤ gb490)); replace HB := am (below_step zb hb); clear hb hbox hg))
 go_cut [24] (fun v24 wc => ∃ (kq : Nat) (x24_1 : Bool), v24 = .bool x24_1 ∧ Aside0 (impl_goodGroup.j0 kq x24_1 a0_0 a0_1 l0_2 = some r) ∧ Aside0 (kq ≤ k) ∧ Aside0 (wc.heap[gb490]? = some (.cells #[.int .i64 a0_0, .int .i64 a0_1, (.slice A0_2 l0_2.length c0_2)] 73 (0, 0))) ∧ Aside0 (Below w.heap.size w wc))
 case first =>
  have H := HC2.out
  clear HC2
  replace H := Option.bind_eq_some_iff.mp H
  obtain ⟨t491, A40, H⟩ := H
  replace H : (if t491 = true then ((impl_in.f a0_1 0 999).bind fun t492 => (if t492 = true then ((impl_in.f (l0_2.length : Int) 1 80).bind fun t493 => (impl_goodGroup.j0 k (!t493) a0_0 a0_1 l0_2)) else (impl_goodGroup.j0 k true a0_0 a0_1 l0_2))) else (impl_goodGroup.j0 k true a0_0 a0_1 l0_2)) = some r := H
  have A4 := am A40
  clear A40
  by_cases c5 : t491 = true
  ·subst c5
   rw [if_pos rfl] at H
   replace H := Option.bind_eq_some_iff.mp H
   obtain ⟨t492, A60, H⟩ := H
   replace H : (if t492 = true then ((impl_in.f (l0_2.length : Int) 1 80).bind fun t493 => (impl_goodGroup.j0 k (!t493) a0_0 a0_1 l0_2)) else (impl_goodGroup.j0 k true a0_0 a0_1 l0_2)) = some r := H
   have A6 := am A60
   clear A60
   by_cases c7 : t492 = true
   ·subst c7
    rw [if_pos rfl] at H
    replace H := Option.bind_eq_some_iff.mp H
    obtain ⟨t493, A80, H⟩ := H
    replace H : (impl_goodGroup.j0 k (!t493) a0_0 a0_1 l0_2) = some r := H
    have A8 := am A80
    clear A80
    have H' := am H
    clear H
    obtain ⟨hcz9_0, hcz9_1, hcz9_2⟩ := cz3 BK490.out
    obtain ⟨hfz9_0, hfz9_1, hfz9_2⟩ := fz3 BK490.out
    go_wp2_with (first | ((with_reducible refine gateC (f := 64) rfl ?_); refine goesL_ (some 10) rfl rfl Try.func64 (by kernel_rfl) rfl #[.int .i64 a0_0, .int .i64 0, .int .i64 999] rfl zm ?_; (with_reducible refine (impl_in.calls a0_0 0 999 true _ A4.out).mono ?_); rintro e w' ⟨rfl, ⟨nd, rfl⟩⟩; refine ⟨_, rfl, ?_⟩) | (go_at_call 64; (with_reducible refine (impl_in.calls a0_1 0 999 true _ A6.out).mono ?_); rintro e w' ⟨rfl, ⟨nd, rfl⟩⟩) | (go_at_call 64; (with_reducible refine (impl_in.calls (l0_2.length : Int) 1 80 t493 _ A8.out).mono ?_); rintro e w' ⟨rfl, ⟨nd, rfl⟩⟩))
    go_meet
    case rel => exact ⟨_, (!t493), zf, H', ⟨by omega⟩, ⟨by (with_reducible repeat (refine blk_drewN ?_ _)); exact BK490.out⟩, ⟨by repeat ((with_reducible first | exact HB.out | apply pw_below_drewN))⟩⟩
   ·replace c7 := Bool.eq_false_iff.mpr c7
    subst c7
    rw [if_neg nofun] at H
    have H' := am H
    clear H
    obtain ⟨hcz10_0, hcz10_1, hcz10_2⟩ := cz3 BK490.out
    obtain ⟨hfz10_0, hfz10_1, hfz10_2⟩ := fz3 BK490.out
    go_wp2_with (first | ((with_reducible refine gateC (f := 64) rfl ?_); refine goesL_ (some 10) rfl rfl Try.func64 (by kernel_rfl) rfl #[.int .i64 a0_0, .int .i64 0, .int .i64 999] rfl zm ?_; (with_reducible refine (impl_in.calls a0_0 0 999 true _ A4.out).mono ?_); rintro e w' ⟨rfl, ⟨nd, rfl⟩⟩; refine ⟨_, rfl, ?_⟩) | (go_at_call 64; (with_reducible refine (impl_in.calls a0_1 0 999 false _ A6.out).mono ?_); rintro e w' ⟨rfl, ⟨nd, rfl⟩⟩))
    go_meet
    case rel => exact ⟨_, (true), zf, H', ⟨by omega⟩, ⟨by (with_reducible repeat (refine blk_drewN ?_ _)); exact BK490.out⟩, ⟨by repeat ((with_reducible first | exact HB.out | apply pw_below_drewN))⟩⟩
  ·replace c5 := Bool.eq_false_iff.mpr c5
   subst c5
   rw [if_neg nofun] at H
   have H' := am H
   clear H
   obtain ⟨hcz11_0, hcz11_1, hcz11_2⟩ := cz3 BK490.out
   obtain ⟨hfz11_0, hfz11_1, hfz11_2⟩ := fz3 BK490.out
   go_wp2_with (((with_reducible refine gateC (f := 64) rfl ?_); refine goesL_ (some 10) rfl rfl Try.func64 (by kernel_rfl) rfl #[.int .i64 a0_0, .int .i64 0, .int .i64 999] rfl zm ?_; (with_reducible refine (impl_in.calls a0_0 0 999 false _ A4.out).mono ?_); rintro e w' ⟨rfl, ⟨nd, rfl⟩⟩; refine ⟨_, rfl, ?_⟩))
   go_meet
   case rel => exact ⟨_, (true), zf, H', ⟨by omega⟩, ⟨by (with_reducible repeat (refine blk_drewN ?_ _)); exact BK490.out⟩, ⟨by repeat ((with_reducible first | exact HB.out | apply pw_below_drewN))⟩⟩
 case rest =>
  clear HC2
  obtain ⟨kq, x24_1, rfl, HA, HJ1, BK490, HB⟩ := hcut
  cases kq with
  | zero => exact absurd HA.out (by simp [impl_goodGroup.j0])
  | succ kj1 =>
   have H := HA.out
   clear HA
   simp only [impl_goodGroup.j0] at H
   by_cases c12 : x24_1 = true
   ·subst c12
    rw [if_pos rfl] at H
    obtain rfl := Option.some.inj H
    go_wp2
    go_ret
    exact ⟨by rfl, by repeat ((with_reducible exact HB.out))⟩
   ·replace c12 := Bool.eq_false_iff.mpr c12
    subst c12
    rw [if_neg nofun] at H
    have H' := am H
    clear H
    obtain ⟨hcz13_0, hcz13_1, hcz13_2⟩ := cz3 BK490.out
    obtain ⟨hfz13_0, hfz13_1, hfz13_2⟩ := fz3 BK490.out
    go_wp2
    go_loopg [3, 28] kj1 (fun kq v3 v28 w' => ∃ (x3_2 : Bool) (x28_2 : Int), v3 = .bool x3_2 ∧ v28 = .int .i64 x28_2 ∧ Aside0 (impl_goodGroup.l0 kq x3_2 l0_2 (l0_2.length : Int) x28_2 a0_0 a0_1 l0_2 = some r) ∧ Aside0 (kq ≤ kj1) ∧ Aside0 (w'.heap[gb490]? = some (.cells #[.int .i64 a0_0, .int .i64 a0_1, (.slice A0_2 l0_2.length c0_2)] 73 (0, 0))) ∧ Aside0 (Below w.heap.size w w'))
    case atStart => exact ⟨(false), (0), zf, zf, H', ⟨Nat.le_refl _⟩, ⟨by exact BK490.out⟩, ⟨by repeat ((with_reducible exact HB.out))⟩⟩
    case round =>
     clear H'
     try clear hcz13_0
     try clear hcz13_1
     try clear hcz13_2
     try clear hfz13_0
     try clear hfz13_1
     try clear hfz13_2
     obtain ⟨x3_2, x28_2, rfl, rfl, HA, HK2, BK490, HB⟩ := hrel
     cases gk with
     | zero => exact absurd HA.out (by simp [impl_goodGroup.l0])
     | succ k2 =>
      have H := HA.out
      clear HA
      simp only [impl_goodGroup.l0] at H
      by_cases c14 : x28_2 < (l0_2.length : Int)
      ·rw [if_pos c14] at H
       have c14b0 : decide (x28_2 < (l0_2.length : Int)) = true := decide_eq_true c14
       clear c14
       obtain ⟨c15, H⟩ := itn H
       have c15b0 := decide_eq_true c15
       clear c15
       obtain ⟨c16, H⟩ := itn H
       have c16b0 := decide_eq_true c16
       clear c16
       replace H := Option.bind_eq_some_iff.mp H
       obtain ⟨t496, A170, H⟩ := H
       replace H : (if t496 = true then ((impl_isLine.f k2 ((T140 l0_2 x28_2).f1)).bind fun t497 => (if t497 = true then (if x28_2 > 0 then (if ((T140 l0_2 x28_2).f0) = 2 then (if 0 ≤ (wrap64 (x28_2 - 1)) then (if (wrap64 (x28_2 - 1)) < (l0_2.length : Int) then (if ((T140 l0_2 (wrap64 (x28_2 - 1))).f0) = 3 then (some false) else (if x3_2 = true then (impl_goodGroup.l0 k2 true l0_2 (l0_2.length : Int) (wrap64 (x28_2 + 1)) a0_0 a0_1 l0_2) else (impl_goodGroup.l0 k2 (((T140 l0_2 x28_2).f0) != 1) l0_2 (l0_2.length : Int) (wrap64 (x28_2 + 1)) a0_0 a0_1 l0_2))) else (none)) else (none)) else (if x3_2 = true then (impl_goodGroup.l0 k2 true l0_2 (l0_2.length : Int) (wrap64 (x28_2 + 1)) a0_0 a0_1 l0_2) else (impl_goodGroup.l0 k2 (((T140 l0_2 x28_2).f0) != 1) l0_2 (l0_2.length : Int) (wrap64 (x28_2 + 1)) a0_0 a0_1 l0_2))) else (if x3_2 = true then (impl_goodGroup.l0 k2 true l0_2 (l0_2.length : Int) (wrap64 (x28_2 + 1)) a0_0 a0_1 l0_2) else (impl_goodGroup.l0 k2 (((T140 l0_2 x28_2).f0) != 1) l0_2 (l0_2.length : Int) (wrap64 (x28_2 + 1)) a0_0 a0_1 l0_2))) else (some false))) else (some false)) = some r := H
       have A17 := am A170
       clear A170
       by_cases c18 : t496 = true
       ·subst c18
        rw [if_pos rfl] at H
        replace H := Option.bind_eq_some_iff.mp H
        obtain ⟨t497, A190, H⟩ := H
        replace H : (if t497 = true then (if x28_2 > 0 then (if ((T140 l0_2 x28_2).f0) = 2 then (if 0 ≤ (wrap64 (x28_2 - 1)) then (if (wrap64 (x28_2 - 1)) < (l0_2.length : Int) then (if ((T140 l0_2 (wrap64 (x28_2 - 1))).f0) = 3 then (some false) else (if x3_2 = true then (impl_goodGroup.l0 k2 true l0_2 (l0_2.length : Int) (wrap64 (x28_2 + 1)) a0_0 a0_1 l0_2) else (impl_goodGroup.l0 k2 (((T140 l0_2 x28_2).f0) != 1) l0_2 (l0_2.length : Int) (wrap64 (x28_2 + 1)) a0_0 a0_1 l0_2))) else (none)) else (none)) else (if x3_2 = true then (impl_goodGroup.l0 k2 true l0_2 (l0_2.length : Int) (wrap64 (x28_2 + 1)) a0_0 a0_1 l0_2) else (impl_goodGroup.l0 k2 (((T140 l0_2 x28_2).f0) != 1) l0_2 (l0_2.length : Int) (wrap64 (x28_2 + 1)) a0_0 a0_1 l0_2))) else (if x3_2 = true then (impl_goodGroup.l0 k2 true l0_2 (l0_2.length : Int) (wrap64 (x28_2 + 1)) a0_0 a0_1 l0_2) else (impl_goodGroup.l0 k2 (((T140 l0_2 x28_2).f0) != 1) l0_2 (l0_2.length : Int) (wrap64 (x28_2 + 1)) a0_0 a0_1 l0_2))) else (some false)) = some r := H
        have A19 := am A190
        clear A190
        by_cases c20 : t497 = true
        ·subst c20
         rw [if_pos rfl] at H
         by_cases c21 : x28_2 > 0
         ·rw [if_pos c21] at H
          have c21b0 : decide (0 < x28_2) = true := decide_eq_true c21
          clear c21
          by_cases c22 : ((T140 l0_2 x28_2).f0) = 2
          ·rw [if_pos c22] at H
           have c22b0 : (((T140 l0_2 x28_2).f0) == 2) = true := beq_iff_eq.mpr c22
           have c22b1 : (((T140 l0_2 x28_2).f0) != 2) = false := bne_eq_false_iff_eq.mpr c22
           clear c22
           obtain ⟨ji23, hji23⟩ : ∃ j_ : Int, (wrap64 (x28_2 - 1)) = j_ := ⟨_, rfl⟩
           rw [hji23] at H
           have hji23w : (IntKind.i64.wrap (x28_2 - 1)) = ji23 := (i64_w _).trans hji23
           obtain ⟨c24, H⟩ := itn H
           have c24b0 := decide_eq_true c24
           clear c24
           obtain ⟨c25, H⟩ := itn H
           have c25b0 := decide_eq_true c25
           clear c25
           by_cases c26 : ((T140 l0_2 (ji23)).f0) = 3
           ·rw [if_pos c26] at H
            have c26b0 : (((T140 l0_2 (ji23)).f0) == 3) = true := beq_iff_eq.mpr c26
            have c26b1 : (((T140 l0_2 (ji23)).f0) != 3) = false := bne_eq_false_iff_eq.mpr c26
            clear c26
            obtain rfl := Option.some.inj H
            have p494 : 0 ≤ (x28_2 : Int) := oa
            have q494 : x28_2 < (l0_2.length : Int) := oa
            obtain ⟨ad494, e494, hx494_0, hx494_1⟩ := at_T140 HR0_2.out x28_2 p494 q494
            cases e494
            replace hx494_0 := bc HB.out hx494_0
            replace hx494_1 := bc HB.out hx494_1
            replace p494 := eq_true p494
            replace q494 := eq_true q494
            go_wp2_with (first | ((with_reducible refine gate_dst (N := 5) rfl ?_); (try (refine gate_guard (by rfl) ?_; dsimp only)); refine box_event ?hg (N := 5) ?hd (cs := #[.int .i64 0, .string (⟨#[]⟩ : ByteArray)]) (t := 140) ?hr ?_; (case hd => rfl); (case hg => rfl); (case hr => (go_simp; done)); intro gb495 hg w27 hbox hb; have BK495 := am (hbox); have GW495 := am ((by rw [hg]; exact (below_size (by repeat ((with_reducible exact HB.out)))) : w.heap.size ≤ gb495)); have GE495 := am ((by rw [hg]; exact (below_size (by repeat ((with_reducible exact HB.out)))) : w.heap.size ≤ gb495)); replace HB := am (below_step (by repeat ((with_reducible exact HB.out))) hb); have NB490_495 := am ((by rw [hg]; exact Nat.ne_of_lt (blk_lt (g := gb490) (o := .cells #[.int .i64 a0_0, .int .i64 a0_1, .slice (some ad494) l0_2.length c0_2] 73 (0, 0)) (zk BK490.out)) : gb490 ≠ gb495)); have NB495_490 := am ((by rw [hg]; exact Nat.ne_of_gt (blk_lt (g := gb490) (o := .cells #[.int .i64 a0_0, .int .i64 a0_1, .slice (some ad494) l0_2.length c0_2] 73 (0, 0)) (zk BK490.out)) : gb495 ≠ gb490)); replace BK490 := am (blk_below (g := gb490) (o := .cells #[.int .i64 a0_0, .int .i64 a0_1, .slice (some ad494) l0_2.length c0_2] 73 (0, 0)) (zk BK490.out) hb); clear hb hbox hg; have hnb28 := NB495_490.out; have hnc28 := NB490_495.out; obtain ⟨hcz29_0, hcz29_1⟩ := cz2 BK495.out; obtain ⟨hfz29_0, hfz29_1⟩ := fz2 BK495.out) | ((with_reducible refine gateC (f := 64) rfl ?_); refine goesL_ (some 35) rfl rfl Try.func64 (by kernel_rfl) rfl #[.int .i64 ((T140 l0_2 x28_2).f0), .int .i64 1, .int .i64 3] rfl zm ?_; (with_reducible refine (impl_in.calls ((T140 l0_2 x28_2).f0) 1 3 true _ A17.out).mono ?_); rintro e w' ⟨rfl, ⟨nd, rfl⟩⟩; refine ⟨_, rfl, ?_⟩) | (go_at_call 69; (with_reducible refine (impl_isLine.calls k2 ((T140 l0_2 x28_2).f1) true _ A19.out).mono ?_); rintro e w' ⟨rfl, ⟨nd, rfl⟩⟩; obtain ⟨hcz30_0, hcz30_1, hcz30_2⟩ := cz3 BK490.out; obtain ⟨hfz30_0, hfz30_1, hfz30_2⟩ := fz3 BK490.out; have p498 : 0 ≤ ((ji23) : Int) := oa; have q498 : (ji23) < (l0_2.length : Int) := oa; obtain ⟨ad498, e498, hx498_0, hx498_1⟩ := at_T140 HR0_2.out (ji23) p498 q498; obtain rfl : ad494 = ad498 := (by injection e498); have hn498_0 : ad494.block ≠ gb495 := Nat.ne_of_lt (Nat.lt_of_lt_of_le (zl hx498_0) GW495.out); have hn498_1 : ad494.block ≠ gb495 := Nat.ne_of_lt (Nat.lt_of_lt_of_le (zl hx498_0) GW495.out); replace hx498_0 := (HB.out.cell (World.block_lt_of_cell? w _ hx498_0)).trans hx498_0; replace hx498_1 := (HB.out.cell (World.block_lt_of_cell? w _ hx498_1)).trans hx498_1; replace hx498_0 := (cell_far (p := ⟨gb495, 0, none⟩) (zn hn498_0) (.int .i64 ((T140 l0_2 x28_2).f0))).trans hx498_0; replace hx498_1 := (cell_far (p := ⟨gb495, 0, none⟩) (zn hn498_0) (.int .i64 ((T140 l0_2 x28_2).f0))).trans hx498_1; replace hx498_0 := (cell_far (p := ⟨gb495, 1, none⟩) (zn hn498_1) (.string ((T140 l0_2 x28_2).f1))).trans hx498_0; replace hx498_1 := (cell_far (p := ⟨gb495, 1, none⟩) (zn hn498_1) (.string ((T140 l0_2 x28_2).f1))).trans hx498_1; clear hn498_0; clear hn498_1; replace p498 := eq_true p498; replace q498 := eq_true q498))
            go_ret
            exact ⟨by rfl, by repeat ((with_reducible first | exact HB.out | apply pw_below_drewN | refine below_set ?_ GE495.out))⟩
           ·rw [if_neg c26] at H
            have c26b0 : (((T140 l0_2 (ji23)).f0) == 3) = false := beq_eq_false_iff_ne.mpr c26
            have c26b1 : (((T140 l0_2 (ji23)).f0) != 3) = true := bne_iff_ne.mpr c26
            by_cases c31 : x3_2 = true
            ·subst c31
             rw [if_pos rfl] at H
             have H' := am H
             clear H
             have p494 : 0 ≤ (x28_2 : Int) := oa
             have q494 : x28_2 < (l0_2.length : Int) := oa
             obtain ⟨ad494, e494, hx494_0, hx494_1⟩ := at_T140 HR0_2.out x28_2 p494 q494
             cases e494
             replace hx494_0 := bc HB.out hx494_0
             replace hx494_1 := bc HB.out hx494_1
             replace p494 := eq_true p494
             replace q494 := eq_true q494
             go_wp2_with (first | ((with_reducible refine gate_dst (N := 5) rfl ?_); (try (refine gate_guard (by rfl) ?_; dsimp only)); refine box_event ?hg (N := 5) ?hd (cs := #[.int .i64 0, .string (⟨#[]⟩ : ByteArray)]) (t := 140) ?hr ?_; (case hd => rfl); (case hg => rfl); (case hr => (go_simp; done)); intro gb495 hg w32 hbox hb; have BK495 := am (hbox); have GW495 := am ((by rw [hg]; exact (below_size (by repeat ((with_reducible exact HB.out)))) : w.heap.size ≤ gb495)); have GE495 := am ((by rw [hg]; exact (below_size (by repeat ((with_reducible exact HB.out)))) : w.heap.size ≤ gb495)); replace HB := am (below_step (by repeat ((with_reducible exact HB.out))) hb); have NB490_495 := am ((by rw [hg]; exact Nat.ne_of_lt (blk_lt (g := gb490) (o := .cells #[.int .i64 a0_0, .int .i64 a0_1, .slice (some ad494) l0_2.length c0_2] 73 (0, 0)) (zk BK490.out)) : gb490 ≠ gb495)); have NB495_490 := am ((by rw [hg]; exact Nat.ne_of_gt (blk_lt (g := gb490) (o := .cells #[.int .i64 a0_0, .int .i64 a0_1, .slice (some ad494) l0_2.length c0_2] 73 (0, 0)) (zk BK490.out)) : gb495 ≠ gb490)); replace BK490 := am (blk_below (g := gb490) (o := .cells #[.int .i64 a0_0, .int .i64 a0_1, .slice (some ad494) l0_2.length c0_2] 73 (0, 0)) (zk BK490.out) hb); clear hb hbox hg; have hnb33 := NB495_490.out; have hnc33 := NB490_495.out; obtain ⟨hcz34_0, hcz34_1⟩ := cz2 BK495.out; obtain ⟨hfz34_0, hfz34_1⟩ := fz2 BK495.out) | ((with_reducible refine gateC (f := 64) rfl ?_); refine goesL_ (some 35) rfl rfl Try.func64 (by kernel_rfl) rfl #[.int .i64 ((T140 l0_2 x28_2).f0), .int .i64 1, .int .i64 3] rfl zm ?_; (with_reducible refine (impl_in.calls ((T140 l0_2 x28_2).f0) 1 3 true _ A17.out).mono ?_); rintro e w' ⟨rfl, ⟨nd, rfl⟩⟩; refine ⟨_, rfl, ?_⟩) | (go_at_call 69; (with_reducible refine (impl_isLine.calls k2 ((T140 l0_2 x28_2).f1) true _ A19.out).mono ?_); rintro e w' ⟨rfl, ⟨nd, rfl⟩⟩; obtain ⟨hcz35_0, hcz35_1, hcz35_2⟩ := cz3 BK490.out; obtain ⟨hfz35_0, hfz35_1, hfz35_2⟩ := fz3 BK490.out; have p498 : 0 ≤ ((ji23) : Int) := oa; have q498 : (ji23) < (l0_2.length : Int) := oa; obtain ⟨ad498, e498, hx498_0, hx498_1⟩ := at_T140 HR0_2.out (ji23) p498 q498; obtain rfl : ad494 = ad498 := (by injection e498); have hn498_0 : ad494.block ≠ gb495 := Nat.ne_of_lt (Nat.lt_of_lt_of_le (zl hx498_0) GW495.out); have hn498_1 : ad494.block ≠ gb495 := Nat.ne_of_lt (Nat.lt_of_lt_of_le (zl hx498_0) GW495.out); replace hx498_0 := (HB.out.cell (World.block_lt_of_cell? w _ hx498_0)).trans hx498_0; replace hx498_1 := (HB.out.cell (World.block_lt_of_cell? w _ hx498_1)).trans hx498_1; replace hx498_0 := (cell_far (p := ⟨gb495, 0, none⟩) (zn hn498_0) (.int .i64 ((T140 l0_2 x28_2).f0))).trans hx498_0; replace hx498_1 := (cell_far (p := ⟨gb495, 0, none⟩) (zn hn498_0) (.int .i64 ((T140 l0_2 x28_2).f0))).trans hx498_1; replace hx498_0 := (cell_far (p := ⟨gb495, 1, none⟩) (zn hn498_1) (.string ((T140 l0_2 x28_2).f1))).trans hx498_0; replace hx498_1 := (cell_far (p := ⟨gb495, 1, none⟩) (zn hn498_1) (.string ((T140 l0_2 x28_2).f1))).trans hx498_1; clear hn498_0; clear hn498_1; replace p498 := eq_true p498; replace q498 := eq_true q498))
             go_roundg k2
             case measure => have := HJ1.out; have := HK2.out; omega
             case rel => exact ⟨(true), (wrap64 (x28_2 + 1)), zf, zf, H', ⟨by have := HJ1.out; have := HK2.out; omega⟩, ⟨by (with_reducible repeat (refine blk_drewN ?_ _)); refine blk_far ?_ NB490_495.out _; refine blk_far ?_ NB490_495.out _; exact BK490.out⟩, ⟨by repeat ((with_reducible first | exact HB.out | apply pw_below_drewN | refine below_set ?_ GE495.out))⟩⟩
            ·replace c31 := Bool.eq_false_iff.mpr c31
             subst c31
             rw [if_neg nofun] at H
             have H' := am H
             clear H
             have p494 : 0 ≤ (x28_2 : Int) := oa
             have q494 : x28_2 < (l0_2.length : Int) := oa
             obtain ⟨ad494, e494, hx494_0, hx494_1⟩ := at_T140 HR0_2.out x28_2 p494 q494
             cases e494
             replace hx494_0 := bc HB.out hx494_0
             replace hx494_1 := bc HB.out hx494_1
             replace p494 := eq_true p494
             replace q494 := eq_true q494
             go_wp2_with (first | ((with_reducible refine gate_dst (N := 5) rfl ?_); (try (refine gate_guard (by rfl) ?_; dsimp only)); refine box_event ?hg (N := 5) ?hd (cs := #[.int .i64 0, .string (⟨#[]⟩ : ByteArray)]) (t := 140) ?hr ?_; (case hd => rfl); (case hg => rfl); (case hr => (go_simp; done)); intro gb495 hg w36 hbox hb; have BK495 := am (hbox); have GW495 := am ((by rw [hg]; exact (below_size (by repeat ((with_reducible exact HB.out)))) : w.heap.size ≤ gb495)); have GE495 := am ((by rw [hg]; exact (below_size (by repeat ((with_reducible exact HB.out)))) : w.heap.size ≤ gb495)); replace HB := am (below_step (by repeat ((with_reducible exact HB.out))) hb); have NB490_495 := am ((by rw [hg]; exact Nat.ne_of_lt (blk_lt (g := gb490) (o := .cells #[.int .i64 a0_0, .int .i64 a0_1, .slice (some ad494) l0_2.length c0_2] 73 (0, 0)) (zk BK490.out)) : gb490 ≠ gb495)); have NB495_490 := am ((by rw [hg]; exact Nat.ne_of_gt (blk_lt (g := gb490) (o := .cells #[.int .i64 a0_0, .int .i64 a0_1, .slice (some ad494) l0_2.length c0_2] 73 (0, 0)) (zk BK490.out)) : gb495 ≠ gb490)); replace BK490 := am (blk_below (g := gb490) (o := .cells #[.int .i64 a0_0, .int .i64 a0_1, .slice (some ad494) l0_2.length c0_2] 73 (0, 0)) (zk BK490.out) hb); clear hb hbox hg; have hnb37 := NB495_490.out; have hnc37 := NB490_495.out; obtain ⟨hcz38_0, hcz38_1⟩ := cz2 BK495.out; obtain ⟨hfz38_0, hfz38_1⟩ := fz2 BK495.out) | ((with_reducible refine gateC (f := 64) rfl ?_); refine goesL_ (some 35) rfl rfl Try.func64 (by kernel_rfl) rfl #[.int .i64 ((T140 l0_2 x28_2).f0), .int .i64 1, .int .i64 3] rfl zm ?_; (with_reducible refine (impl_in.calls ((T140 l0_2 x28_2).f0) 1 3 true _ A17.out).mono ?_); rintro e w' ⟨rfl, ⟨nd, rfl⟩⟩; refine ⟨_, rfl, ?_⟩) | (go_at_call 69; (with_reducible refine (impl_isLine.calls k2 ((T140 l0_2 x28_2).f1) true _ A19.out).mono ?_); rintro e w' ⟨rfl, ⟨nd, rfl⟩⟩; obtain ⟨hcz39_0, hcz39_1, hcz39_2⟩ := cz3 BK490.out; obtain ⟨hfz39_0, hfz39_1, hfz39_2⟩ := fz3 BK490.out; have p498 : 0 ≤ ((ji23) : Int) := oa; have q498 : (ji23) < (l0_2.length : Int) := oa; obtain ⟨ad498, e498, hx498_0, hx498_1⟩ := at_T140 HR0_2.out (ji23) p498 q498; obtain rfl : ad494 = ad498 := (by injection e498); have hn498_0 : ad494.block ≠ gb495 := Nat.ne_of_lt (Nat.lt_of_lt_of_le (zl hx498_0) GW495.out); have hn498_1 : ad494.block ≠ gb495 := Nat.ne_of_lt (Nat.lt_of_lt_of_le (zl hx498_0) GW495.out); replace hx498_0 := (HB.out.cell (World.block_lt_of_cell? w _ hx498_0)).trans hx498_0; replace hx498_1 := (HB.out.cell (World.block_lt_of_cell? w _ hx498_1)).trans hx498_1; replace hx498_0 := (cell_far (p := ⟨gb495, 0, none⟩) (zn hn498_0) (.int .i64 ((T140 l0_2 x28_2).f0))).trans hx498_0; replace hx498_1 := (cell_far (p := ⟨gb495, 0, none⟩) (zn hn498_0) (.int .i64 ((T140 l0_2 x28_2).f0))).trans hx498_1; replace hx498_0 := (cell_far (p := ⟨gb495, 1, none⟩) (zn hn498_1) (.string ((T140 l0_2 x28_2).f1))).trans hx498_0; replace hx498_1 := (cell_far (p := ⟨gb495, 1, none⟩) (zn hn498_1) (.string ((T140 l0_2 x28_2).f1))).trans hx498_1; clear hn498_0; clear hn498_1; replace p498 := eq_true p498; replace q498 := eq_true q498))
             go_roundg k2
             case measure => have := HJ1.out; have := HK2.out; omega
             case rel => exact ⟨((((T140 l0_2 x28_2).f0) != 1)), (wrap64 (x28_2 + 1)), zf, zf, H', ⟨by have := HJ1.out; have := HK2.out; omega⟩, ⟨by (with_reducible repeat (refine blk_drewN ?_ _)); refine blk_far ?_ NB490_495.out _; refine blk_far ?_ NB490_495.out _; exact BK490.out⟩, ⟨by repeat ((with_reducible first | exact HB.out | apply pw_below_drewN | refine below_set ?_ GE495.out))⟩⟩
          ·rw [if_neg c22] at H
           have c22b0 : (((T140 l0_2 x28_2).f0) == 2) = false := beq_eq_false_iff_ne.mpr c22
           have c22b1 : (((T140 l0_2 x28_2).f0) != 2) = true := bne_iff_ne.mpr c22
           by_cases c40 : x3_2 = true
           ·subst c40
            rw [if_pos rfl] at H
            have H' := am H
            clear H
            have p494 : 0 ≤ (x28_2 : Int) := oa
            have q494 : x28_2 < (l0_2.length : Int) := oa
            obtain ⟨ad494, e494, hx494_0, hx494_1⟩ := at_T140 HR0_2.out x28_2 p494 q494
            cases e494
            replace hx494_0 := bc HB.out hx494_0
            replace hx494_1 := bc HB.out hx494_1
            replace p494 := eq_true p494
            replace q494 := eq_true q494
            go_wp2_with (first | ((with_reducible refine gate_dst (N := 5) rfl ?_); (try (refine gate_guard (by rfl) ?_; dsimp only)); refine box_event ?hg (N := 5) ?hd (cs := #[.int .i64 0, .string (⟨#[]⟩ : ByteArray)]) (t := 140) ?hr ?_; (case hd => rfl); (case hg => rfl); (case hr => (go_simp; done)); intro gb495 hg w41 hbox hb; have BK495 := am (hbox); have GW495 := am ((by rw [hg]; exact (below_size (by repeat ((with_reducible exact HB.out)))) : w.heap.size ≤ gb495)); have GE495 := am ((by rw [hg]; exact (below_size (by repeat ((with_reducible exact HB.out)))) : w.heap.size ≤ gb495)); replace HB := am (below_step (by repeat ((with_reducible exact HB.out))) hb); have NB490_495 := am ((by rw [hg]; exact Nat.ne_of_lt (blk_lt (g := gb490) (o := .cells #[.int .i64 a0_0, .int .i64 a0_1, .slice (some ad494) l0_2.length c0_2] 73 (0, 0)) (zk BK490.out)) : gb490 ≠ gb495)); have NB495_490 := am ((by rw [hg]; exact Nat.ne_of_gt (blk_lt (g := gb490) (o := .cells #[.int .i64 a0_0, .int .i64 a0_1, .slice (some ad494) l0_2.length c0_2] 73 (0, 0)) (zk BK490.out)) : gb495 ≠ gb490)); replace BK490 := am (blk_below (g := gb490) (o := .cells #[.int .i64 a0_0, .int .i64 a0_1, .slice (some ad494) l0_2.length c0_2] 73 (0, 0)) (zk BK490.out) hb); clear hb hbox hg; have hnb42 := NB495_490.out; have hnc42 := NB490_495.out; obtain ⟨hcz43_0, hcz43_1⟩ := cz2 BK495.out; obtain ⟨hfz43_0, hfz43_1⟩ := fz2 BK495.out) | ((with_reducible refine gateC (f := 64) rfl ?_); refine goesL_ (some 35) rfl rfl Try.func64 (by kernel_rfl) rfl #[.int .i64 ((T140 l0_2 x28_2).f0), .int .i64 1, .int .i64 3] rfl zm ?_; (with_reducible refine (impl_in.calls ((T140 l0_2 x28_2).f0) 1 3 true _ A17.out).mono ?_); rintro e w' ⟨rfl, ⟨nd, rfl⟩⟩; refine ⟨_, rfl, ?_⟩) | (go_at_call 69; (with_reducible refine (impl_isLine.calls k2 ((T140 l0_2 x28_2).f1) true _ A19.out).mono ?_); rintro e w' ⟨rfl, ⟨nd, rfl⟩⟩))
            go_roundg k2
            case measure => have := HJ1.out; have := HK2.out; omega
            case rel => exact ⟨(true), (wrap64 (x28_2 + 1)), zf, zf, H', ⟨by have := HJ1.out; have := HK2.out; omega⟩, ⟨by (with_reducible repeat (refine blk_drewN ?_ _)); refine blk_far ?_ NB490_495.out _; refine blk_far ?_ NB490_495.out _; exact BK490.out⟩, ⟨by repeat ((with_reducible first | exact HB.out | apply pw_below_drewN | refine below_set ?_ GE495.out))⟩⟩
           ·replace c40 := Bool.eq_false_iff.mpr c40
            subst c40
            rw [if_neg nofun] at H
            have H' := am H
            clear H
            have p494 : 0 ≤ (x28_2 : Int) := oa
            have q494 : x28_2 < (l0_2.length : Int) := oa
            obtain ⟨ad494, e494, hx494_0, hx494_1⟩ := at_T140 HR0_2.out x28_2 p494 q494
            cases e494
            replace hx494_0 := bc HB.out hx494_0
            replace hx494_1 := bc HB.out hx494_1
            replace p494 := eq_true p494
            replace q494 := eq_true q494
            go_wp2_with (first | ((with_reducible refine gate_dst (N := 5) rfl ?_); (try (refine gate_guard (by rfl) ?_; dsimp only)); refine box_event ?hg (N := 5) ?hd (cs := #[.int .i64 0, .string (⟨#[]⟩ : ByteArray)]) (t := 140) ?hr ?_; (case hd => rfl); (case hg => rfl); (case hr => (go_simp; done)); intro gb495 hg w44 hbox hb; have BK495 := am (hbox); have GW495 := am ((by rw [hg]; exact (below_size (by repeat ((with_reducible exact HB.out)))) : w.heap.size ≤ gb495)); have GE495 := am ((by rw [hg]; exact (below_size (by repeat ((with_reducible exact HB.out)))) : w.heap.size ≤ gb495)); replace HB := am (below_step (by repeat ((with_reducible exact HB.out))) hb); have NB490_495 := am ((by rw [hg]; exact Nat.ne_of_lt (blk_lt (g := gb490) (o := .cells #[.int .i64 a0_0, .int .i64 a0_1, .slice (some ad494) l0_2.length c0_2] 73 (0, 0)) (zk BK490.out)) : gb490 ≠ gb495)); have NB495_490 := am ((by rw [hg]; exact Nat.ne_of_gt (blk_lt (g := gb490) (o := .cells #[.int .i64 a0_0, .int .i64 a0_1, .slice (some ad494) l0_2.length c0_2] 73 (0, 0)) (zk BK490.out)) : gb495 ≠ gb490)); replace BK490 := am (blk_below (g := gb490) (o := .cells #[.int .i64 a0_0, .int .i64 a0_1, .slice (some ad494) l0_2.length c0_2] 73 (0, 0)) (zk BK490.out) hb); clear hb hbox hg; have hnb45 := NB495_490.out; have hnc45 := NB490_495.out; obtain ⟨hcz46_0, hcz46_1⟩ := cz2 BK495.out; obtain ⟨hfz46_0, hfz46_1⟩ := fz2 BK495.out) | ((with_reducible refine gateC (f := 64) rfl ?_); refine goesL_ (some 35) rfl rfl Try.func64 (by kernel_rfl) rfl #[.int .i64 ((T140 l0_2 x28_2).f0), .int .i64 1, .int .i64 3] rfl zm ?_; (with_reducible refine (impl_in.calls ((T140 l0_2 x28_2).f0) 1 3 true _ A17.out).mono ?_); rintro e w' ⟨rfl, ⟨nd, rfl⟩⟩; refine ⟨_, rfl, ?_⟩) | (go_at_call 69; (with_reducible refine (impl_isLine.calls k2 ((T140 l0_2 x28_2).f1) true _ A19.out).mono ?_); rintro e w' ⟨rfl, ⟨nd, rfl⟩⟩))
            go_roundg k2
            case measure => have := HJ1.out; have := HK2.out; omega
            case rel => exact ⟨((((T140 l0_2 x28_2).f0) != 1)), (wrap64 (x28_2 + 1)), zf, zf, H', ⟨by have := HJ1.out; have := HK2.out; omega⟩, ⟨by (with_reducible repeat (refine blk_drewN ?_ _)); refine blk_far ?_ NB490_495.out _; refine blk_far ?_ NB490_495.out _; exact BK490.out⟩, ⟨by repeat ((with_reducible first | exact HB.out | apply pw_below_drewN | refine below_set ?_ GE495.out))⟩⟩
         ·rw [if_neg c21] at H
          have c21b0 : decide (0 < x28_2) = false := decide_eq_false c21
          clear c21
          by_cases c47 : x3_2 = true
          ·subst c47
           rw [if_pos rfl] at H
           have H' := am H
           clear H
           have p494 : 0 ≤ (x28_2 : Int) := oa
           have q494 : x28_2 < (l0_2.length : Int) := oa
           obtain ⟨ad494, e494, hx494_0, hx494_1⟩ := at_T140 HR0_2.out x28_2 p494 q494
           cases e494
           replace hx494_0 := bc HB.out hx494_0
           replace hx494_1 := bc HB.out hx494_1
           replace p494 := eq_true p494
           replace q494 := eq_true q494
           go_wp2_with (first | ((with_reducible refine gate_dst (N := 5) rfl ?_); (try (refine gate_guard (by rfl) ?_; dsimp only)); refine box_event ?hg (N := 5) ?hd (cs := #[.int .i64 0, .string (⟨#[]⟩ : ByteArray)]) (t := 140) ?hr ?_; (case hd => rfl); (case hg => rfl); (case hr => (go_simp; done)); intro gb495 hg w48 hbox hb; have BK495 := am (hbox); have GW495 := am ((by rw [hg]; exact (below_size (by repeat ((with_reducible exact HB.out)))) : w.heap.size ≤ gb495)); have GE495 := am ((by rw [hg]; exact (below_size (by repeat ((with_reducible exact HB.out)))) : w.heap.size ≤ gb495)); replace HB := am (below_step (by repeat ((with_reducible exact HB.out))) hb); have NB490_495 := am ((by rw [hg]; exact Nat.ne_of_lt (blk_lt (g := gb490) (o := .cells #[.int .i64 a0_0, .int .i64 a0_1, .slice (some ad494) l0_2.length c0_2] 73 (0, 0)) (zk BK490.out)) : gb490 ≠ gb495)); have NB495_490 := am ((by rw [hg]; exact Nat.ne_of_gt (blk_lt (g := gb490) (o := .cells #[.int .i64 a0_0, .int .i64 a0_1, .slice (some ad494) l0_2.length c0_2] 73 (0, 0)) (zk BK490.out)) : gb495 ≠ gb490)); replace BK490 := am (blk_below (g := gb490) (o := .cells #[.int .i64 a0_0, .int .i64 a0_1, .slice (some ad494) l0_2.length c0_2] 73 (0, 0)) (zk BK490.out) hb); clear hb hbox hg; have hnb49 := NB495_490.out; have hnc49 := NB490_495.out; obtain ⟨hcz50_0, hcz50_1⟩ := cz2 BK495.out; obtain ⟨hfz50_0, hfz50_1⟩ := fz2 BK495.out) | ((with_reducible refine gateC (f := 64) rfl ?_); refine goesL_ (some 35) rfl rfl Try.func64 (by kernel_rfl) rfl #[.int .i64 ((T140 l0_2 x28_2).f0), .int .i64 1, .int .i64 3] rfl zm ?_; (with_reducible refine (impl_in.calls ((T140 l0_2 x28_2).f0) 1 3 true _ A17.out).mono ?_); rintro e w' ⟨rfl, ⟨nd, rfl⟩⟩; refine ⟨_, rfl, ?_⟩) | (go_at_call 69; (with_reducible refine (impl_isLine.calls k2 ((T140 l0_2 x28_2).f1) true _ A19.out).mono ?_); rintro e w' ⟨rfl, ⟨nd, rfl⟩⟩))
           go_roundg k2
           case measure => have := HJ1.out; have := HK2.out; omega
           case rel => exact ⟨(true), (wrap64 (x28_2 + 1)), zf, zf, H', ⟨by have := HJ1.out; have := HK2.out; omega⟩, ⟨by (with_reducible repeat (refine blk_drewN ?_ _)); refine blk_far ?_ NB490_495.out _; refine blk_far ?_ NB490_495.out _; exact BK490.out⟩, ⟨by repeat ((with_reducible first | exact HB.out | apply pw_below_drewN | refine below_set ?_ GE495.out))⟩⟩
          ·replace c47 := Bool.eq_false_iff.mpr c47
           subst c47
           rw [if_neg nofun] at H
           have H' := am H
           clear H
           have p494 : 0 ≤ (x28_2 : Int) := oa
           have q494 : x28_2 < (l0_2.length : Int) := oa
           obtain ⟨ad494, e494, hx494_0, hx494_1⟩ := at_T140 HR0_2.out x28_2 p494 q494
           cases e494
           replace hx494_0 := bc HB.out hx494_0
           replace hx494_1 := bc HB.out hx494_1
           replace p494 := eq_true p494
           replace q494 := eq_true q494
           go_wp2_with (first | ((with_reducible refine gate_dst (N := 5) rfl ?_); (try (refine gate_guard (by rfl) ?_; dsimp only)); refine box_event ?hg (N := 5) ?hd (cs := #[.int .i64 0, .string (⟨#[]⟩ : ByteArray)]) (t := 140) ?hr ?_; (case hd => rfl); (case hg => rfl); (case hr => (go_simp; done)); intro gb495 hg w51 hbox hb; have BK495 := am (hbox); have GW495 := am ((by rw [hg]; exact (below_size (by repeat ((with_reducible exact HB.out)))) : w.heap.size ≤ gb495)); have GE495 := am ((by rw [hg]; exact (below_size (by repeat ((with_reducible exact HB.out)))) : w.heap.size ≤ gb495)); replace HB := am (below_step (by repeat ((with_reducible exact HB.out))) hb); have NB490_495 := am ((by rw [hg]; exact Nat.ne_of_lt (blk_lt (g := gb490) (o := .cells #[.int .i64 a0_0, .int .i64 a0_1, .slice (some ad494) l0_2.length c0_2] 73 (0, 0)) (zk BK490.out)) : gb490 ≠ gb495)); have NB495_490 := am ((by rw [hg]; exact Nat.ne_of_gt (blk_lt (g := gb490) (o := .cells #[.int .i64 a0_0, .int .i64 a0_1, .slice (some ad494) l0_2.length c0_2] 73 (0, 0)) (zk BK490.out)) : gb495 ≠ gb490)); replace BK490 := am (blk_below (g := gb490) (o := .cells #[.int .i64 a0_0, .int .i64 a0_1, .slice (some ad494) l0_2.length c0_2] 73 (0, 0)) (zk BK490.out) hb); clear hb hbox hg; have hnb52 := NB495_490.out; have hnc52 := NB490_495.out; obtain ⟨hcz53_0, hcz53_1⟩ := cz2 BK495.out; obtain ⟨hfz53_0, hfz53_1⟩ := fz2 BK495.out) | ((with_reducible refine gateC (f := 64) rfl ?_); refine goesL_ (some 35) rfl rfl Try.func64 (by kernel_rfl) rfl #[.int .i64 ((T140 l0_2 x28_2).f0), .int .i64 1, .int .i64 3] rfl zm ?_; (with_reducible refine (impl_in.calls ((T140 l0_2 x28_2).f0) 1 3 true _ A17.out).mono ?_); rintro e w' ⟨rfl, ⟨nd, rfl⟩⟩; refine ⟨_, rfl, ?_⟩) | (go_at_call 69; (with_reducible refine (impl_isLine.calls k2 ((T140 l0_2 x28_2).f1) true _ A19.out).mono ?_); rintro e w' ⟨rfl, ⟨nd, rfl⟩⟩))
           go_roundg k2
           case measure => have := HJ1.out; have := HK2.out; omega
           case rel => exact ⟨((((T140 l0_2 x28_2).f0) != 1)), (wrap64 (x28_2 + 1)), zf, zf, H', ⟨by have := HJ1.out; have := HK2.out; omega⟩, ⟨by (with_reducible repeat (refine blk_drewN ?_ _)); refine blk_far ?_ NB490_495.out _; refine blk_far ?_ NB490_495.out _; exact BK490.out⟩, ⟨by repeat ((with_reducible first | exact HB.out | apply pw_below_drewN | refine below_set ?_ GE495.out))⟩⟩
        ·replace c20 := Bool.eq_false_iff.mpr c20
         subst c20
         rw [if_neg nofun] at H
         obtain rfl := Option.some.inj H
         have p494 : 0 ≤ (x28_2 : Int) := oa
         have q494 : x28_2 < (l0_2.length : Int) := oa
         obtain ⟨ad494, e494, hx494_0, hx494_1⟩ := at_T140 HR0_2.out x28_2 p494 q494
         cases e494
         replace hx494_0 := bc HB.out hx494_0
         replace hx494_1 := bc HB.out hx494_1
         replace p494 := eq_true p494
         replace q494 := eq_true q494
         go_wp2_with (first | ((with_reducible refine gate_dst (N := 5) rfl ?_); (try (refine gate_guard (by rfl) ?_; dsimp only)); refine box_event ?hg (N := 5) ?hd (cs := #[.int .i64 0, .string (⟨#[]⟩ : ByteArray)]) (t := 140) ?hr ?_; (case hd => rfl); (case hg => rfl); (case hr => (go_simp; done)); intro gb495 hg w54 hbox hb; have BK495 := am (hbox); have GW495 := am ((by rw [hg]; exact (below_size (by repeat ((with_reducible exact HB.out)))) : w.heap.size ≤ gb495)); have GE495 := am ((by rw [hg]; exact (below_size (by repeat ((with_reducible exact HB.out)))) : w.heap.size ≤ gb495)); replace HB := am (below_step (by repeat ((with_reducible exact HB.out))) hb); have NB490_495 := am ((by rw [hg]; exact Nat.ne_of_lt (blk_lt (g := gb490) (o := .cells #[.int .i64 a0_0, .int .i64 a0_1, .slice (some ad494) l0_2.length c0_2] 73 (0, 0)) (zk BK490.out)) : gb490 ≠ gb495)); have NB495_490 := am ((by rw [hg]; exact Nat.ne_of_gt (blk_lt (g := gb490) (o := .cells #[.int .i64 a0_0, .int .i64 a0_1, .slice (some ad494) l0_2.length c0_2] 73 (0, 0)) (zk BK490.out)) : gb495 ≠ gb490)); replace BK490 := am (blk_below (g := gb490) (o := .cells #[.int .i64 a0_0, .int .i64 a0_1, .slice (some ad494) l0_2.length c0_2] 73 (0, 0)) (zk BK490.out) hb); clear hb hbox hg; have hnb55 := NB495_490.out; have hnc55 := NB490_495.out; obtain ⟨hcz56_0, hcz56_1⟩ := cz2 BK495.out; obtain ⟨hfz56_0, hfz56_1⟩ := fz2 BK495.out) | ((with_reducible refine gateC (f := 64) rfl ?_); refine goesL_ (some 35) rfl rfl Try.func64 (by kernel_rfl) rfl #[.int .i64 ((T140 l0_2 x28_2).f0), .int .i64 1, .int .i64 3] rfl zm ?_; (with_reducible refine (impl_in.calls ((T140 l0_2 x28_2).f0) 1 3 true _ A17.out).mono ?_); rintro e w' ⟨rfl, ⟨nd, rfl⟩⟩; refine ⟨_, rfl, ?_⟩) | (go_at_call 69; (with_reducible refine (impl_isLine.calls k2 ((T140 l0_2 x28_2).f1) false _ A19.out).mono ?_); rintro e w' ⟨rfl, ⟨nd, rfl⟩⟩))
         go_ret
         exact ⟨by rfl, by repeat ((with_reducible first | exact HB.out | apply pw_below_drewN | refine below_set ?_ GE495.out))⟩
       ·replace c18 := Bool.eq_false_iff.mpr c18
        subst c18
        rw [if_neg nofun] at H
        obtain rfl := Option.some.inj H
        have p494 : 0 ≤ (x28_2 : Int) := oa
        have q494 : x28_2 < (l0_2.length : Int) := oa
        obtain ⟨ad494, e494, hx494_0, hx494_1⟩ := at_T140 HR0_2.out x28_2 p494 q494
        cases e494
        replace hx494_0 := bc HB.out hx494_0
        replace hx494_1 := bc HB.out hx494_1
        replace p494 := eq_true p494
        replace q494 := eq_true q494
        go_wp2_with (first | ((with_reducible refine gate_dst (N := 5) rfl ?_); (try (refine gate_guard (by rfl) ?_; dsimp only)); refine box_event ?hg (N := 5) ?hd (cs := #[.int .i64 0, .string (⟨#[]⟩ : ByteArray)]) (t := 140) ?hr ?_; (case hd => rfl); (case hg => rfl); (case hr => (go_simp; done)); intro gb495 hg w57 hbox hb; have BK495 := am (hbox); have GW495 := am ((by rw [hg]; exact (below_size (by repeat ((with_reducible exact HB.out)))) : w.heap.size ≤ gb495)); have GE495 := am ((by rw [hg]; exact (below_size (by repeat ((with_reducible exact HB.out)))) : w.heap.size ≤ gb495)); replace HB := am (below_step (by repeat ((with_reducible exact HB.out))) hb); have NB490_495 := am ((by rw [hg]; exact Nat.ne_of_lt (blk_lt (g := gb490) (o := .cells #[.int .i64 a0_0, .int .i64 a0_1, .slice (some ad494) l0_2.length c0_2] 73 (0, 0)) (zk BK490.out)) : gb490 ≠ gb495)); have NB495_490 := am ((by rw [hg]; exact Nat.ne_of_gt (blk_lt (g := gb490) (o := .cells #[.int .i64 a0_0, .int .i64 a0_1, .slice (some ad494) l0_2.length c0_2] 73 (0, 0)) (zk BK490.out)) : gb495 ≠ gb490)); replace BK490 := am (blk_below (g := gb490) (o := .cells #[.int .i64 a0_0, .int .i64 a0_1, .slice (some ad494) l0_2.length c0_2] 73 (0, 0)) (zk BK490.out) hb); clear hb hbox hg; have hnb58 := NB495_490.out; have hnc58 := NB490_495.out; obtain ⟨hcz59_0, hcz59_1⟩ := cz2 BK495.out; obtain ⟨hfz59_0, hfz59_1⟩ := fz2 BK495.out) | ((with_reducible refine gateC (f := 64) rfl ?_); refine goesL_ (some 35) rfl rfl Try.func64 (by kernel_rfl) rfl #[.int .i64 ((T140 l0_2 x28_2).f0), .int .i64 1, .int .i64 3] rfl zm ?_; (with_reducible refine (impl_in.calls ((T140 l0_2 x28_2).f0) 1 3 false _ A17.out).mono ?_); rintro e w' ⟨rfl, ⟨nd, rfl⟩⟩; refine ⟨_, rfl, ?_⟩))
        go_ret
        exact ⟨by rfl, by repeat ((with_reducible first | exact HB.out | apply pw_below_drewN | refine below_set ?_ GE495.out))⟩
      ·rw [if_neg c14] at H
       have c14b0 : decide (x28_2 < (l0_2.length : Int)) = false := decide_eq_false c14
       clear c14
       replace H := Option.bind_eq_some_iff.mp H
       obtain ⟨t499, A600, H⟩ := H
       replace H : ((impl_Group_fresh.f k2 a0_0 a0_1 l0_2).bind fun t502 => (if x3_2 = true then ((impl_goodLines.f k2 t499).bind fun t505 => (if t505 = true then ((impl_goodLines.f k2 t502).bind fun t506 => (if t506 = true then (if (wrap64 (a0_0 + (t499.length : Int))) ≤ 1000 then (some (decide ((wrap64 (a0_1 + (t502.length : Int))) ≤ 1000))) else (some false)) else (some false))) else (some false))) else (some false))) = some r := H
       have A60 := am A600
       clear A600
       replace H := Option.bind_eq_some_iff.mp H
       obtain ⟨t502, A610, H⟩ := H
       replace H : (if x3_2 = true then ((impl_goodLines.f k2 t499).bind fun t505 => (if t505 = true then ((impl_goodLines.f k2 t502).bind fun t506 => (if t506 = true then (if (wrap64 (a0_0 + (t499.length : Int))) ≤ 1000 then (some (decide ((wrap64 (a0_1 + (t502.length : Int))) ≤ 1000))) else (some false)) else (some false))) else (some false))) else (some false)) = some r := H
       have A61 := am A610
       clear A610
       by_cases c62 : x3_2 = true
       ·subst c62
        rw [if_pos rfl] at H
        replace H := Option.bind_eq_some_iff.mp H
        obtain ⟨t505, A630, H⟩ := H
        replace H : (if t505 = true then ((impl_goodLines.f k2 t502).bind fun t506 => (if t506 = true then (if (wrap64 (a0_0 + (t499.length : Int))) ≤ 1000 then (some (decide ((wrap64 (a0_1 + (t502.length : Int))) ≤ 1000))) else (some false)) else (some false))) else (some false)) = some r := H
        have A63 := am A630
        clear A630
        by_cases c64 : t505 = true
        ·subst c64
         rw [if_pos rfl] at H
         replace H := Option.bind_eq_some_iff.mp H
         obtain ⟨t506, A650, H⟩ := H
         replace H : (if t506 = true then (if (wrap64 (a0_0 + (t499.length : Int))) ≤ 1000 then (some (decide ((wrap64 (a0_1 + (t502.length : Int))) ≤ 1000))) else (some false)) else (some false)) = some r := H
         have A65 := am A650
         clear A650
         by_cases c66 : t506 = true
         ·subst c66
          rw [if_pos rfl] at H
          by_cases c67 : (wrap64 (a0_0 + (t499.length : Int))) ≤ 1000
          ·rw [if_pos c67] at H
           have c67b0 : decide ((wrap64 (a0_0 + (t499.length : Int))) ≤ 1000) = true := decide_eq_true c67
           clear c67
           obtain rfl := Option.some.inj H
           try go_wp2
           replace BK490 := am (blk_drew BK490.out)
           replace HB := am (below_drew1 HB.out)
           refine start_ (n := 6) (S := fun w' => w'.cell? ⟨gb490, 0, none⟩ = some (.int .i64 a0_0) ∧ w'.cell? ⟨gb490, 1, none⟩ = some (.int .i64 a0_1) ∧ w'.cell? ⟨gb490, 2, none⟩ = some (.slice A0_2 l0_2.length c0_2)) (ds := []) #[O,O,O,O,O,O] (by kernel_rfl) rfl rfl ⟨(blk_cell BK490.out 0).trans rfl, (blk_cell BK490.out 1).trans rfl, (blk_cell BK490.out 2).trans rfl⟩ (fun hHeld => ?_)
           generalize wr.drew = w68 at BK490 HB hHeld ⊢
           refine take_ (i := 0) (N := some 69) (v := ?_) (a' := ?_) #[Y,O,O,O,O,O] rfl rfl (by kernel_rfl) (fun _ _ _ h => h) (Or.inl ⟨by rfl, ?_⟩) hHeld ?_ ?_
           rotate_left; (rintro w' ⟨s0, s1, s2⟩; go_simp; with_reducible rfl); rotate_left; (simp only [Act.put,qa,qb,qc,i64_w,i32_w]; rfl)
           refine take_ (i := 2) (N := some 71) (v := ?_) (a' := ?_) #[Y,O,Y,O,O,O] rfl rfl (by kernel_rfl) (fun _ _ _ h => h) (Or.inl ⟨by rfl, ?_⟩) hHeld ?_ ?_
           rotate_left; (rintro w' ⟨s0, s1, s2⟩; go_simp; with_reducible rfl); rotate_left; (simp only [Act.put,qa,qb,qc,i64_w,i32_w]; rfl)
           refine one_ (i := 1) (N := some 70) #[Y,Y,Y,O,O,O] rfl rfl (by kernel_rfl) (by decide) (fun K hK => ?_)
           refine goes_ Try.func112 (by kernel_rfl) rfl #[.agg #[.int .i64 a0_0, .int .i64 a0_1, .slice A0_2 l0_2.length c0_2]] (by rfl) rfl rfl zm ?_
           with_reducible refine (impl_Group_old.calls k2 a0_0 a0_1 _ _ l0_2 t499 _ ?side1 ?side2 A60.out).mono ?_
           (case side1 => exact zq (Kd.C_below HR0_2.out HB.out))
           (case side2 => exact HC0_2.out)
           rintro e w69 ⟨v500, rfl, ho0, hb⟩
           refine ⟨_, rfl, ?_⟩
           have HO501 := am (Kd.R_lower ho0 (below_size (by repeat ((with_reducible exact HB.out)))))
           replace BK490 := am (blk_below (g := gb490) (o := .cells #[.int .i64 a0_0, .int .i64 a0_1, .slice A0_2 l0_2.length c0_2] 73 (0, 0)) (zk BK490.out) hb)
           replace HB := am (below_step (by repeat ((with_reducible exact HB.out))) hb)
           (try clear hb)
           (try clear ho0)
           refine hK.out _ _ ⟨(blk_cell BK490.out 0).trans rfl, (blk_cell BK490.out 1).trans rfl, (blk_cell BK490.out 2).trans rfl⟩ (fun hHeld => ?_)
           clear hK K
           refine norm_ (a' := ?_) ?_ ?_
           rotate_left
           ·show Act.put _ (some 70) _ = _
            simp only [Act.put,qa,qb,qc,i64_w,i32_w]
            rfl
           refine one_ (i := 3) (N := some 72) #[Y,Y,Y,Y,O,O] rfl rfl (by kernel_rfl) (by decide) (fun K hK => ?_)
           refine goes_ Try.func121 (by kernel_rfl) rfl #[.agg #[.int .i64 a0_0, .int .i64 a0_1, .slice A0_2 l0_2.length c0_2]] (by rfl) rfl rfl zm ?_
           with_reducible refine (impl_Group_fresh.calls k2 a0_0 a0_1 _ _ l0_2 t502 _ ?side1 ?side2 A61.out).mono ?_
           (case side1 => exact zq (Kd.C_below HR0_2.out HB.out))
           (case side2 => exact HC0_2.out)
           rintro e w70 ⟨v503, rfl, ho0, hb⟩
           refine ⟨_, rfl, ?_⟩
           have HO504 := am (Kd.R_lower (Kd.R_new' ho0 (Kd.R_lt (zr HO501.out))) (below_size (by repeat ((with_reducible exact HB.out)))))
           replace HO501 := am (Kd.R_elder' (zr HO501.out) (Kd.R_base ho0) hb)
           replace BK490 := am (blk_below (g := gb490) (o := .cells #[.int .i64 a0_0, .int .i64 a0_1, .slice A0_2 l0_2.length c0_2] 73 (0, 0)) (zk BK490.out) hb)
           replace HB := am (below_step (by repeat ((with_reducible exact HB.out))) hb)
           (try clear hb)
           (try clear ho0)
           refine hK.out _ _ ⟨(blk_cell BK490.out 0).trans rfl, (blk_cell BK490.out 1).trans rfl, (blk_cell BK490.out 2).trans rfl⟩ (fun hHeld => ?_)
           clear hK K
           refine norm_ (a' := ?_) ?_ ?_
           rotate_left
           ·show Act.put _ (some 72) _ = _
            simp only [Act.put,qa,qb,qc,i64_w,i32_w]
            rfl
           refine pure_ (i := 4) (N := some 6) (v := ?_) (a' := ?_) #[Y,Y,Y,Y,Y,O] rfl rfl (by kernel_rfl) (fun _ _ _ h => h) (Or.inl ⟨by rfl, ?_⟩) ?_ ?_
           rotate_left; (intro w'; go_simp; with_reducible rfl); rotate_left; (simp only [Act.put,qa,qb,qc,i64_w,i32_w]; rfl)
           refine pure_ (i := 5) (N := some 7) (v := ?_) (a' := ?_) #[Y,Y,Y,Y,Y,Y] rfl rfl (by kernel_rfl) (fun _ _ _ h => h) (Or.inl ⟨by rfl, ?_⟩) ?_ ?_
           rotate_left; (intro w'; go_simp; with_reducible rfl); rotate_left; (simp only [Act.put,qa,qb,qc,i64_w,i32_w]; rfl)
           refine done_ (by kernel_rfl) ?_
           obtain ⟨Ao71, co71, eo71⟩ := Kd.R_slice HO501.out
           subst eo71
           try go_wp2_with (first | (go_at_call 63; (with_reducible refine (impl_goodLines.calls k2 _ _ t499 true _ ?side1 ?side2 A63.out).mono ?_); (case side1 => repeat (exact (Kd.R_reads' HO501.out).2.2)); (case side2 => exact (Kd.R_reads' HO501.out).2.1); rintro e w' ⟨rfl, ⟨nd, rfl⟩⟩; obtain ⟨Ao72, co72, eo72⟩ := Kd.R_slice HO504.out; subst eo72) | (go_at_call 63; (with_reducible refine (impl_goodLines.calls k2 _ _ t502 true _ ?side1 ?side2 A65.out).mono ?_); (case side1 => repeat (exact (Kd.R_reads' HO504.out).2.2)); (case side2 => exact (Kd.R_reads' HO504.out).2.1); rintro e w' ⟨rfl, ⟨nd, rfl⟩⟩; obtain ⟨hcz73_0, hcz73_1, hcz73_2⟩ := cz3 BK490.out; obtain ⟨hfz73_0, hfz73_1, hfz73_2⟩ := fz3 BK490.out))
           go_ret
           exact ⟨by rfl, by repeat ((with_reducible first | exact HB.out | apply pw_below_drewN))⟩
          ·rw [if_neg c67] at H
           have c67b0 : decide ((wrap64 (a0_0 + (t499.length : Int))) ≤ 1000) = false := decide_eq_false c67
           clear c67
           obtain rfl := Option.some.inj H
           try go_wp2
           replace BK490 := am (blk_drew BK490.out)
           replace HB := am (below_drew1 HB.out)
           refine start_ (n := 6) (S := fun w' => w'.cell? ⟨gb490, 0, none⟩ = some (.int .i64 a0_0) ∧ w'.cell? ⟨gb490, 1, none⟩ = some (.int .i64 a0_1) ∧ w'.cell? ⟨gb490, 2, none⟩ = some (.slice A0_2 l0_2.length c0_2)) (ds := []) #[O,O,O,O,O,O] (by kernel_rfl) rfl rfl ⟨(blk_cell BK490.out 0).trans rfl, (blk_cell BK490.out 1).trans rfl, (blk_cell BK490.out 2).trans rfl⟩ (fun hHeld => ?_)
           generalize wr.drew = w74 at BK490 HB hHeld ⊢
           refine take_ (i := 0) (N := some 69) (v := ?_) (a' := ?_) #[Y,O,O,O,O,O] rfl rfl (by kernel_rfl) (fun _ _ _ h => h) (Or.inl ⟨by rfl, ?_⟩) hHeld ?_ ?_
           rotate_left; (rintro w' ⟨s0, s1, s2⟩; go_simp; with_reducible rfl); rotate_left; (simp only [Act.put,qa,qb,qc,i64_w,i32_w]; rfl)
           refine take_ (i := 2) (N := some 71) (v := ?_) (a' := ?_) #[Y,O,Y,O,O,O] rfl rfl (by kernel_rfl) (fun _ _ _ h => h) (Or.inl ⟨by rfl, ?_⟩) hHeld ?_ ?_
           rotate_left; (rintro w' ⟨s0, s1, s2⟩; go_simp; with_reducible rfl); rotate_left; (simp only [Act.put,qa,qb,qc,i64_w,i32_w]; rfl)
           refine one_ (i := 1) (N := some 70) #[Y,Y,Y,O,O,O] rfl rfl (by kernel_rfl) (by decide) (fun K hK => ?_)
           refine goes_ Try.func112 (by kernel_rfl) rfl #[.agg #[.int .i64 a0_0, .int .i64 a0_1, .slice A0_2 l0_2.length c0_2]] (by rfl) rfl rfl zm ?_
           with_reducible refine (impl_Group_old.calls k2 a0_0 a0_1 _ _ l0_2 t499 _ ?side1 ?side2 A60.out).mono ?_
           (case side1 => exact zq (Kd.C_below HR0_2.out HB.out))
           (case side2 => exact HC0_2.out)
           rintro e w75 ⟨v500, rfl, ho0, hb⟩
           refine ⟨_, rfl, ?_⟩
           have HO501 := am (Kd.R_lower ho0 (below_size (by repeat ((with_reducible exact HB.out)))))
           replace BK490 := am (blk_below (g := gb490) (o := .cells #[.int .i64 a0_0, .int .i64 a0_1, .slice A0_2 l0_2.length c0_2] 73 (0, 0)) (zk BK490.out) hb)
           replace HB := am (below_step (by repeat ((with_reducible exact HB.out))) hb)
           (try clear hb)
           (try clear ho0)
           refine hK.out _ _ ⟨(blk_cell BK490.out 0).trans rfl, (blk_cell BK490.out 1).trans rfl, (blk_cell BK490.out 2).trans rfl⟩ (fun hHeld => ?_)
           clear hK K
           refine norm_ (a' := ?_) ?_ ?_
           rotate_left
           ·show Act.put _ (some 70) _ = _
            simp only [Act.put,qa,qb,qc,i64_w,i32_w]
            rfl
           refine one_ (i := 3) (N := some 72) #[Y,Y,Y,Y,O,O] rfl rfl (by kernel_rfl) (by decide) (fun K hK => ?_)
           refine goes_ Try.func121 (by kernel_rfl) rfl #[.agg #[.int .i64 a0_0, .int .i64 a0_1, .slice A0_2 l0_2.length c0_2]] (by rfl) rfl rfl zm ?_
           with_reducible refine (impl_Group_fresh.calls k2 a0_0 a0_1 _ _ l0_2 t502 _ ?side1 ?side2 A61.out).mono ?_
           (case side1 => exact zq (Kd.C_below HR0_2.out HB.out))
           (case side2 => exact HC0_2.out)
           rintro e w76 ⟨v503, rfl, ho0, hb⟩
           refine ⟨_, rfl, ?_⟩
           have HO504 := am (Kd.R_lower (Kd.R_new' ho0 (Kd.R_lt (zr HO501.out))) (below_size (by repeat ((with_reducible exact HB.out)))))
           replace HO501 := am (Kd.R_elder' (zr HO501.out) (Kd.R_base ho0) hb)
           replace BK490 := am (blk_below (g := gb490) (o := .cells #[.int .i64 a0_0, .int .i64 a0_1, .slice A0_2 l0_2.length c0_2] 73 (0, 0)) (zk BK490.out) hb)
           replace HB := am (below_step (by repeat ((with_reducible exact HB.out))) hb)
           (try clear hb)
           (try clear ho0)
           refine hK.out _ _ ⟨(blk_cell BK490.out 0).trans rfl, (blk_cell BK490.out 1).trans rfl, (blk_cell BK490.out 2).trans rfl⟩ (fun hHeld => ?_)
           clear hK K
           refine norm_ (a' := ?_) ?_ ?_
           rotate_left
           ·show Act.put _ (some 72) _ = _
            simp only [Act.put,qa,qb,qc,i64_w,i32_w]
            rfl
           refine pure_ (i := 4) (N := some 6) (v := ?_) (a' := ?_) #[Y,Y,Y,Y,Y,O] rfl rfl (by kernel_rfl) (fun _ _ _ h => h) (Or.inl ⟨by rfl, ?_⟩) ?_ ?_
           rotate_left; (intro w'; go_simp; with_reducible rfl); rotate_left; (simp only [Act.put,qa,qb,qc,i64_w,i32_w]; rfl)
           refine pure_ (i := 5) (N := some 7) (v := ?_) (a' := ?_) #[Y,Y,Y,Y,Y,Y] rfl rfl (by kernel_rfl) (fun _ _ _ h => h) (Or.inl ⟨by rfl, ?_⟩) ?_ ?_
           rotate_left; (intro w'; go_simp; with_reducible rfl); rotate_left; (simp only [Act.put,qa,qb,qc,i64_w,i32_w]; rfl)
           refine done_ (by kernel_rfl) ?_
           obtain ⟨Ao77, co77, eo77⟩ := Kd.R_slice HO501.out
           subst eo77
           try go_wp2_with (first | (go_at_call 63; (with_reducible refine (impl_goodLines.calls k2 _ _ t499 true _ ?side1 ?side2 A63.out).mono ?_); (case side1 => repeat (exact (Kd.R_reads' HO501.out).2.2)); (case side2 => exact (Kd.R_reads' HO501.out).2.1); rintro e w' ⟨rfl, ⟨nd, rfl⟩⟩; obtain ⟨Ao78, co78, eo78⟩ := Kd.R_slice HO504.out; subst eo78) | (go_at_call 63; (with_reducible refine (impl_goodLines.calls k2 _ _ t502 true _ ?side1 ?side2 A65.out).mono ?_); (case side1 => repeat (exact (Kd.R_reads' HO504.out).2.2)); (case side2 => exact (Kd.R_reads' HO504.out).2.1); rintro e w' ⟨rfl, ⟨nd, rfl⟩⟩; obtain ⟨hcz79_0, hcz79_1, hcz79_2⟩ := cz3 BK490.out; obtain ⟨hfz79_0, hfz79_1, hfz79_2⟩ := fz3 BK490.out))
           go_ret
           exact ⟨by rfl, by repeat ((with_reducible first | exact HB.out | apply pw_below_drewN))⟩
         ·replace c66 := Bool.eq_false_iff.mpr c66
          subst c66
          rw [if_neg nofun] at H
          obtain rfl := Option.some.inj H
          try go_wp2
          replace BK490 := am (blk_drew BK490.out)
          replace HB := am (below_drew1 HB.out)
          refine start_ (n := 6) (S := fun w' => w'.cell? ⟨gb490, 0, none⟩ = some (.int .i64 a0_0) ∧ w'.cell? ⟨gb490, 1, none⟩ = some (.int .i64 a0_1) ∧ w'.cell? ⟨gb490, 2, none⟩ = some (.slice A0_2 l0_2.length c0_2)) (ds := []) #[O,O,O,O,O,O] (by kernel_rfl) rfl rfl ⟨(blk_cell BK490.out 0).trans rfl, (blk_cell BK490.out 1).trans rfl, (blk_cell BK490.out 2).trans rfl⟩ (fun hHeld => ?_)
          generalize wr.drew = w80 at BK490 HB hHeld ⊢
          refine take_ (i := 0) (N := some 69) (v := ?_) (a' := ?_) #[Y,O,O,O,O,O] rfl rfl (by kernel_rfl) (fun _ _ _ h => h) (Or.inl ⟨by rfl, ?_⟩) hHeld ?_ ?_
          rotate_left; (rintro w' ⟨s0, s1, s2⟩; go_simp; with_reducible rfl); rotate_left; (simp only [Act.put,qa,qb,qc,i64_w,i32_w]; rfl)
          refine take_ (i := 2) (N := some 71) (v := ?_) (a' := ?_) #[Y,O,Y,O,O,O] rfl rfl (by kernel_rfl) (fun _ _ _ h => h) (Or.inl ⟨by rfl, ?_⟩) hHeld ?_ ?_
          rotate_left; (rintro w' ⟨s0, s1, s2⟩; go_simp; with_reducible rfl); rotate_left; (simp only [Act.put,qa,qb,qc,i64_w,i32_w]; rfl)
          refine one_ (i := 1) (N := some 70) #[Y,Y,Y,O,O,O] rfl rfl (by kernel_rfl) (by decide) (fun K hK => ?_)
          refine goes_ Try.func112 (by kernel_rfl) rfl #[.agg #[.int .i64 a0_0, .int .i64 a0_1, .slice A0_2 l0_2.length c0_2]] (by rfl) rfl rfl zm ?_
          with_reducible refine (impl_Group_old.calls k2 a0_0 a0_1 _ _ l0_2 t499 _ ?side1 ?side2 A60.out).mono ?_
          (case side1 => exact zq (Kd.C_below HR0_2.out HB.out))
          (case side2 => exact HC0_2.out)
          rintro e w81 ⟨v500, rfl, ho0, hb⟩
          refine ⟨_, rfl, ?_⟩
          have HO501 := am (Kd.R_lower ho0 (below_size (by repeat ((with_reducible exact HB.out)))))
          replace BK490 := am (blk_below (g := gb490) (o := .cells #[.int .i64 a0_0, .int .i64 a0_1, .slice A0_2 l0_2.length c0_2] 73 (0, 0)) (zk BK490.out) hb)
          replace HB := am (below_step (by repeat ((with_reducible exact HB.out))) hb)
          (try clear hb)
          (try clear ho0)
          refine hK.out _ _ ⟨(blk_cell BK490.out 0).trans rfl, (blk_cell BK490.out 1).trans rfl, (blk_cell BK490.out 2).trans rfl⟩ (fun hHeld => ?_)
          clear hK K
          refine norm_ (a' := ?_) ?_ ?_
          rotate_left
          ·show Act.put _ (some 70) _ = _
           simp only [Act.put,qa,qb,qc,i64_w,i32_w]
           rfl
          refine one_ (i := 3) (N := some 72) #[Y,Y,Y,Y,O,O] rfl rfl (by kernel_rfl) (by decide) (fun K hK => ?_)
          refine goes_ Try.func121 (by kernel_rfl) rfl #[.agg #[.int .i64 a0_0, .int .i64 a0_1, .slice A0_2 l0_2.length c0_2]] (by rfl) rfl rfl zm ?_
          with_reducible refine (impl_Group_fresh.calls k2 a0_0 a0_1 _ _ l0_2 t502 _ ?side1 ?side2 A61.out).mono ?_
          (case side1 => exact zq (Kd.C_below HR0_2.out HB.out))
          (case side2 => exact HC0_2.out)
          rintro e w82 ⟨v503, rfl, ho0, hb⟩
          refine ⟨_, rfl, ?_⟩
          have HO504 := am (Kd.R_lower (Kd.R_new' ho0 (Kd.R_lt (zr HO501.out))) (below_size (by repeat ((with_reducible exact HB.out)))))
          replace HO501 := am (Kd.R_elder' (zr HO501.out) (Kd.R_base ho0) hb)
          replace BK490 := am (blk_below (g := gb490) (o := .cells #[.int .i64 a0_0, .int .i64 a0_1, .slice A0_2 l0_2.length c0_2] 73 (0, 0)) (zk BK490.out) hb)
          replace HB := am (below_step (by repeat ((with_reducible exact HB.out))) hb)
          (try clear hb)
          (try clear ho0)
          refine hK.out _ _ ⟨(blk_cell BK490.out 0).trans rfl, (blk_cell BK490.out 1).trans rfl, (blk_cell BK490.out 2).trans rfl⟩ (fun hHeld => ?_)
          clear hK K
          refine norm_ (a' := ?_) ?_ ?_
          rotate_left
          ·show Act.put _ (some 72) _ = _
           simp only [Act.put,qa,qb,qc,i64_w,i32_w]
           rfl
          refine pure_ (i := 4) (N := some 6) (v := ?_) (a' := ?_) #[Y,Y,Y,Y,Y,O] rfl rfl (by kernel_rfl) (fun _ _ _ h => h) (Or.inl ⟨by rfl, ?_⟩) ?_ ?_
          rotate_left; (intro w'; go_simp; with_reducible rfl); rotate_left; (simp only [Act.put,qa,qb,qc,i64_w,i32_w]; rfl)
          refine pure_ (i := 5) (N := some 7) (v := ?_) (a' := ?_) #[Y,Y,Y,Y,Y,Y] rfl rfl (by kernel_rfl) (fun _ _ _ h => h) (Or.inl ⟨by rfl, ?_⟩) ?_ ?_
          rotate_left; (intro w'; go_simp; with_reducible rfl); rotate_left; (simp only [Act.put,qa,qb,qc,i64_w,i32_w]; rfl)
          refine done_ (by kernel_rfl) ?_
          obtain ⟨Ao83, co83, eo83⟩ := Kd.R_slice HO501.out
          subst eo83
          try go_wp2_with (first | (go_at_call 63; (with_reducible refine (impl_goodLines.calls k2 _ _ t499 true _ ?side1 ?side2 A63.out).mono ?_); (case side1 => repeat (exact (Kd.R_reads' HO501.out).2.2)); (case side2 => exact (Kd.R_reads' HO501.out).2.1); rintro e w' ⟨rfl, ⟨nd, rfl⟩⟩; obtain ⟨Ao84, co84, eo84⟩ := Kd.R_slice HO504.out; subst eo84) | (go_at_call 63; (with_reducible refine (impl_goodLines.calls k2 _ _ t502 false _ ?side1 ?side2 A65.out).mono ?_); (case side1 => repeat (exact (Kd.R_reads' HO504.out).2.2)); (case side2 => exact (Kd.R_reads' HO504.out).2.1); rintro e w' ⟨rfl, ⟨nd, rfl⟩⟩))
          go_ret
          exact ⟨by rfl, by repeat ((with_reducible first | exact HB.out | apply pw_below_drewN))⟩
        ·replace c64 := Bool.eq_false_iff.mpr c64
         subst c64
         rw [if_neg nofun] at H
         obtain rfl := Option.some.inj H
         try go_wp2
         replace BK490 := am (blk_drew BK490.out)
         replace HB := am (below_drew1 HB.out)
         refine start_ (n := 6) (S := fun w' => w'.cell? ⟨gb490, 0, none⟩ = some (.int .i64 a0_0) ∧ w'.cell? ⟨gb490, 1, none⟩ = some (.int .i64 a0_1) ∧ w'.cell? ⟨gb490, 2, none⟩ = some (.slice A0_2 l0_2.length c0_2)) (ds := []) #[O,O,O,O,O,O] (by kernel_rfl) rfl rfl ⟨(blk_cell BK490.out 0).trans rfl, (blk_cell BK490.out 1).trans rfl, (blk_cell BK490.out 2).trans rfl⟩ (fun hHeld => ?_)
         generalize wr.drew = w85 at BK490 HB hHeld ⊢
         refine take_ (i := 0) (N := some 69) (v := ?_) (a' := ?_) #[Y,O,O,O,O,O] rfl rfl (by kernel_rfl) (fun _ _ _ h => h) (Or.inl ⟨by rfl, ?_⟩) hHeld ?_ ?_
         rotate_left; (rintro w' ⟨s0, s1, s2⟩; go_simp; with_reducible rfl); rotate_left; (simp only [Act.put,qa,qb,qc,i64_w,i32_w]; rfl)
         refine take_ (i := 2) (N := some 71) (v := ?_) (a' := ?_) #[Y,O,Y,O,O,O] rfl rfl (by kernel_rfl) (fun _ _ _ h => h) (Or.inl ⟨by rfl, ?_⟩) hHeld ?_ ?_
         rotate_left; (rintro w' ⟨s0, s1, s2⟩; go_simp; with_reducible rfl); rotate_left; (simp only [Act.put,qa,qb,qc,i64_w,i32_w]; rfl)
         refine one_ (i := 1) (N := some 70) #[Y,Y,Y,O,O,O] rfl rfl (by kernel_rfl) (by decide) (fun K hK => ?_)
         refine goes_ Try.func112 (by kernel_rfl) rfl #[.agg #[.int .i64 a0_0, .int .i64 a0_1, .slice A0_2 l0_2.length c0_2]] (by rfl) rfl rfl zm ?_
         with_reducible refine (impl_Group_old.calls k2 a0_0 a0_1 _ _ l0_2 t499 _ ?side1 ?side2 A60.out).mono ?_
         (case side1 => exact zq (Kd.C_below HR0_2.out HB.out))
         (case side2 => exact HC0_2.out)
         rintro e w86 ⟨v500, rfl, ho0, hb⟩
         refine ⟨_, rfl, ?_⟩
         have HO501 := am (Kd.R_lower ho0 (below_size (by repeat ((with_reducible exact HB.out)))))
         replace BK490 := am (blk_below (g := gb490) (o := .cells #[.int .i64 a0_0, .int .i64 a0_1, .slice A0_2 l0_2.length c0_2] 73 (0, 0)) (zk BK490.out) hb)
         replace HB := am (below_step (by repeat ((with_reducible exact HB.out))) hb)
         (try clear hb)
         (try clear ho0)
         refine hK.out _ _ ⟨(blk_cell BK490.out 0).trans rfl, (blk_cell BK490.out 1).trans rfl, (blk_cell BK490.out 2).trans rfl⟩ (fun hHeld => ?_)
         clear hK K
         refine norm_ (a' := ?_) ?_ ?_
         rotate_left
         ·show Act.put _ (some 70) _ = _
          simp only [Act.put,qa,qb,qc,i64_w,i32_w]
          rfl
         refine one_ (i := 3) (N := some 72) #[Y,Y,Y,Y,O,O] rfl rfl (by kernel_rfl) (by decide) (fun K hK => ?_)
         refine goes_ Try.func121 (by kernel_rfl) rfl #[.agg #[.int .i64 a0_0, .int .i64 a0_1, .slice A0_2 l0_2.length c0_2]] (by rfl) rfl rfl zm ?_
         with_reducible refine (impl_Group_fresh.calls k2 a0_0 a0_1 _ _ l0_2 t502 _ ?side1 ?side2 A61.out).mono ?_
         (case side1 => exact zq (Kd.C_below HR0_2.out HB.out))
         (case side2 => exact HC0_2.out)
         rintro e w87 ⟨v503, rfl, ho0, hb⟩
         refine ⟨_, rfl, ?_⟩
         have HO504 := am (Kd.R_lower (Kd.R_new' ho0 (Kd.R_lt (zr HO501.out))) (below_size (by repeat ((with_reducible exact HB.out)))))
         replace HO501 := am (Kd.R_elder' (zr HO501.out) (Kd.R_base ho0) hb)
         replace BK490 := am (blk_below (g := gb490) (o := .cells #[.int .i64 a0_0, .int .i64 a0_1, .slice A0_2 l0_2.length c0_2] 73 (0, 0)) (zk BK490.out) hb)
         replace HB := am (below_step (by repeat ((with_reducible exact HB.out))) hb)
         (try clear hb)
         (try clear ho0)
         refine hK.out _ _ ⟨(blk_cell BK490.out 0).trans rfl, (blk_cell BK490.out 1).trans rfl, (blk_cell BK490.out 2).trans rfl⟩ (fun hHeld => ?_)
         clear hK K
         refine norm_ (a' := ?_) ?_ ?_
         rotate_left
         ·show Act.put _ (some 72) _ = _
          simp only [Act.put,qa,qb,qc,i64_w,i32_w]
          rfl
         refine pure_ (i := 4) (N := some 6) (v := ?_) (a' := ?_) #[Y,Y,Y,Y,Y,O] rfl rfl (by kernel_rfl) (fun _ _ _ h => h) (Or.inl ⟨by rfl, ?_⟩) ?_ ?_
         rotate_left; (intro w'; go_simp; with_reducible rfl); rotate_left; (simp only [Act.put,qa,qb,qc,i64_w,i32_w]; rfl)
         refine pure_ (i := 5) (N := some 7) (v := ?_) (a' := ?_) #[Y,Y,Y,Y,Y,Y] rfl rfl (by kernel_rfl) (fun _ _ _ h => h) (Or.inl ⟨by rfl, ?_⟩) ?_ ?_
         rotate_left; (intro w'; go_simp; with_reducible rfl); rotate_left; (simp only [Act.put,qa,qb,qc,i64_w,i32_w]; rfl)
         refine done_ (by kernel_rfl) ?_
         obtain ⟨Ao88, co88, eo88⟩ := Kd.R_slice HO501.out
         subst eo88
         try go_wp2_with ((go_at_call 63; (with_reducible refine (impl_goodLines.calls k2 _ _ t499 false _ ?side1 ?side2 A63.out).mono ?_); (case side1 => repeat (exact (Kd.R_reads' HO501.out).2.2)); (case side2 => exact (Kd.R_reads' HO501.out).2.1); rintro e w' ⟨rfl, ⟨nd, rfl⟩⟩))
         go_ret
         exact ⟨by rfl, by repeat ((with_reducible first | exact HB.out | apply pw_below_drewN))⟩
       ·replace c62 := Bool.eq_false_iff.mpr c62
        subst c62
        rw [if_neg nofun] at H
        obtain rfl := Option.some.inj H
        try go_wp2
        replace BK490 := am (blk_drew BK490.out)
        replace HB := am (below_drew1 HB.out)
        refine start_ (n := 6) (S := fun w' => w'.cell? ⟨gb490, 0, none⟩ = some (.int .i64 a0_0) ∧ w'.cell? ⟨gb490, 1, none⟩ = some (.int .i64 a0_1) ∧ w'.cell? ⟨gb490, 2, none⟩ = some (.slice A0_2 l0_2.length c0_2)) (ds := []) #[O,O,O,O,O,O] (by kernel_rfl) rfl rfl ⟨(blk_cell BK490.out 0).trans rfl, (blk_cell BK490.out 1).trans rfl, (blk_cell BK490.out 2).trans rfl⟩ (fun hHeld => ?_)
        generalize wr.drew = w89 at BK490 HB hHeld ⊢
        refine take_ (i := 0) (N := some 69) (v := ?_) (a' := ?_) #[Y,O,O,O,O,O] rfl rfl (by kernel_rfl) (fun _ _ _ h => h) (Or.inl ⟨by rfl, ?_⟩) hHeld ?_ ?_
        rotate_left; (rintro w' ⟨s0, s1, s2⟩; go_simp; with_reducible rfl); rotate_left; (simp only [Act.put,qa,qb,qc,i64_w,i32_w]; rfl)
        refine take_ (i := 2) (N := some 71) (v := ?_) (a' := ?_) #[Y,O,Y,O,O,O] rfl rfl (by kernel_rfl) (fun _ _ _ h => h) (Or.inl ⟨by rfl, ?_⟩) hHeld ?_ ?_
        rotate_left; (rintro w' ⟨s0, s1, s2⟩; go_simp; with_reducible rfl); rotate_left; (simp only [Act.put,qa,qb,qc,i64_w,i32_w]; rfl)
        refine one_ (i := 1) (N := some 70) #[Y,Y,Y,O,O,O] rfl rfl (by kernel_rfl) (by decide) (fun K hK => ?_)
        refine goes_ Try.func112 (by kernel_rfl) rfl #[.agg #[.int .i64 a0_0, .int .i64 a0_1, .slice A0_2 l0_2.length c0_2]] (by rfl) rfl rfl zm ?_
        with_reducible refine (impl_Group_old.calls k2 a0_0 a0_1 _ _ l0_2 t499 _ ?side1 ?side2 A60.out).mono ?_
        (case side1 => exact zq (Kd.C_below HR0_2.out HB.out))
        (case side2 => exact HC0_2.out)
        rintro e w90 ⟨v500, rfl, ho0, hb⟩
        refine ⟨_, rfl, ?_⟩
        have HO501 := am (Kd.R_lower ho0 (below_size (by repeat ((with_reducible exact HB.out)))))
        replace BK490 := am (blk_below (g := gb490) (o := .cells #[.int .i64 a0_0, .int .i64 a0_1, .slice A0_2 l0_2.length c0_2] 73 (0, 0)) (zk BK490.out) hb)
        replace HB := am (below_step (by repeat ((with_reducible exact HB.out))) hb)
        (try clear hb)
        (try clear ho0)
        refine hK.out _ _ ⟨(blk_cell BK490.out 0).trans rfl, (blk_cell BK490.out 1).trans rfl, (blk_cell BK490.out 2).trans rfl⟩ (fun hHeld => ?_)
        clear hK K
        refine norm_ (a' := ?_) ?_ ?_
        rotate_left
        ·show Act.put _ (some 70) _ = _
         simp only [Act.put,qa,qb,qc,i64_w,i32_w]
         rfl
        refine one_ (i := 3) (N := some 72) #[Y,Y,Y,Y,O,O] rfl rfl (by kernel_rfl) (by decide) (fun K hK => ?_)
        refine goes_ Try.func121 (by kernel_rfl) rfl #[.agg #[.int .i64 a0_0, .int .i64 a0_1, .slice A0_2 l0_2.length c0_2]] (by rfl) rfl rfl zm ?_
        with_reducible refine (impl_Group_fresh.calls k2 a0_0 a0_1 _ _ l0_2 t502 _ ?side1 ?side2 A61.out).mono ?_
        (case side1 => exact zq (Kd.C_below HR0_2.out HB.out))
        (case side2 => exact HC0_2.out)
        rintro e w91 ⟨v503, rfl, ho0, hb⟩
        refine ⟨_, rfl, ?_⟩
        have HO504 := am (Kd.R_lower (Kd.R_new' ho0 (Kd.R_lt (zr HO501.out))) (below_size (by repeat ((with_reducible exact HB.out)))))
        replace HO501 := am (Kd.R_elder' (zr HO501.out) (Kd.R_base ho0) hb)
        replace BK490 := am (blk_below (g := gb490) (o := .cells #[.int .i64 a0_0, .int .i64 a0_1, .slice A0_2 l0_2.length c0_2] 73 (0, 0)) (zk BK490.out) hb)
        replace HB := am (below_step (by repeat ((with_reducible exact HB.out))) hb)
        (try clear hb)
        (try clear ho0)
        refine hK.out _ _ ⟨(blk_cell BK490.out 0).trans rfl, (blk_cell BK490.out 1).trans rfl, (blk_cell BK490.out 2).trans rfl⟩ (fun hHeld => ?_)
        clear hK K
        refine norm_ (a' := ?_) ?_ ?_
        rotate_left
        ·show Act.put _ (some 72) _ = _
         simp only [Act.put,qa,qb,qc,i64_w,i32_w]
         rfl
        refine pure_ (i := 4) (N := some 6) (v := ?_) (a' := ?_) #[Y,Y,Y,Y,Y,O] rfl rfl (by kernel_rfl) (fun _ _ _ h => h) (Or.inl ⟨by rfl, ?_⟩) ?_ ?_
        rotate_left; (intro w'; go_simp; with_reducible rfl); rotate_left; (simp only [Act.put,qa,qb,qc,i64_w,i32_w]; rfl)
        refine pure_ (i := 5) (N := some 7) (v := ?_) (a' := ?_) #[Y,Y,Y,Y,Y,Y] rfl rfl (by kernel_rfl) (fun _ _ _ h => h) (Or.inl ⟨by rfl, ?_⟩) ?_ ?_
        rotate_left; (intro w'; go_simp; with_reducible rfl); rotate_left; (simp only [Act.put,qa,qb,qc,i64_w,i32_w]; rfl)
        refine done_ (by kernel_rfl) ?_
        try go_wp2
        go_ret
        exact ⟨by rfl, by repeat ((with_reducible exact HB.out))⟩
end Go.Proofs.Ytmcldkobejhaeaa.My
namespace Go.Proofs.Ytmcldkobejhaeaa.Pl
open Go.RowKit Go.Proofs.YtmcldkobejhaeaaW.PrintWords Go.Proofs.YtmcldkobejhaeaaW.PrintLast Go.Proofs.Ytmcldkobejhaeaa.My
set_option linter.unusedVariables false
set_option linter.unusedSimpArgs false
def sideL (n : Int) (rows : List IR) : List ByteArray := (rows.filter fun r => !(decide (r.f0 = n))).map fun r => r.f1
theorem sideL_cons (n : Int) (r : IR) (t : List IR) : sideL n (r :: t) = if r.f0 = n then sideL n t else r.f1 :: sideL n t := by
  unfold sideL
  rw [List.filter_cons]
  by_cases h : r.f0 = n
  · rw [if_pos h, decide_eq_true h]
    rfl
  · rw [if_neg h, decide_eq_false h]
    rfl
theorem sideL_len (n : Int) (rows : List IR) : (sideL n rows).length ≤ rows.length := by
  unfold sideL
  rw [List.length_map]
  exact List.length_filter_le _ _
theorem sideL_fit (n : Int) {rows : List IR} (hf : FitIR rows) : FitS (sideL n rows) := by
  refine ⟨Nat.le_trans (sideL_len n rows) hf.1, fun s hs => ?_⟩
  obtain ⟨r, hr, rfl⟩ := List.mem_map.1 hs
  exact (hf.2 r (List.mem_filter.1 hr).1).2
theorem sideOf_l0 (n : Int) (rows : List IR) (hL : rows.length ≤ 1048576) : ∀ d i (acc : List ByteArray), i + d = rows.length → acc.length ≤ i → Ev (fun k => impl_sideOf.l0 k n acc rows (rows.length : Int) (i : Int)) (acc ++ sideL n (rows.drop i)) := by
  intro d
  induction d with
  | zero =>
    intro i acc hi ha
    refine Ev.step (fun k => impl_sideOf.l0.eq_2 ..) (ev_neg (by omega) (ev_some ?_))
    rw [List.drop_of_length_le (by omega)]
    simp [sideL]
  | succ d ih =>
    intro i acc hi ha
    have hlt : i < rows.length := by omega
    refine Ev.step (fun k => impl_sideOf.l0.eq_2 ..) (ev_pos (by omega) (ev_pos (by omega) (ev_pos (by omega) ?_)))
    simp only [rdIR rows i hlt]
    rw [drop_cons rows i hlt, wrap_succ i (by omega)]
    refine ev_ite (fun h => ev_to (ih (i + 1) acc (by omega) (by omega)) ?_) (fun h => ev_pos (by omega) (ev_to (ih (i + 1) _ (by omega) (by rw [List.length_append, List.length_singleton]; omega)) ?_))
    · rw [sideL_cons, if_pos h]
    · rw [sideL_cons, if_neg h, List.append_assoc]
      rfl
theorem l6Old_l0 (rows : List IR) (hL : rows.length ≤ 1048576) : ∀ d i (acc : List ByteArray), i + d = rows.length → acc.length ≤ i → Ev (fun k => spec_l6Old.l0 k  acc rows (rows.length : Int) (i : Int)) (acc ++ sideL 3 (rows.drop i)) := by
  intro d
  induction d with
  | zero =>
    intro i acc hi ha
    refine Ev.step (fun k => spec_l6Old.l0.eq_2 ..) (ev_neg (by omega) (ev_some ?_))
    rw [List.drop_of_length_le (by omega)]
    simp [sideL]
  | succ d ih =>
    intro i acc hi ha
    have hlt : i < rows.length := by omega
    refine Ev.step (fun k => spec_l6Old.l0.eq_2 ..) (ev_pos (by omega) (ev_pos (by omega) (ev_pos (by omega) ?_)))
    simp only [rdIR rows i hlt]
    rw [drop_cons rows i hlt, wrap_succ i (by omega)]
    refine ev_ite (fun h => ev_to (ih (i + 1) acc (by omega) (by omega)) ?_) (fun h => ev_pos (by omega) (ev_to (ih (i + 1) _ (by omega) (by rw [List.length_append, List.length_singleton]; omega)) ?_))
    · rw [sideL_cons, if_pos h]
    · rw [sideL_cons, if_neg h, List.append_assoc]
      rfl
theorem l6New_l0 (rows : List IR) (hL : rows.length ≤ 1048576) : ∀ d i (acc : List ByteArray), i + d = rows.length → acc.length ≤ i → Ev (fun k => spec_l6New.l0 k  acc rows (rows.length : Int) (i : Int)) (acc ++ sideL 2 (rows.drop i)) := by
  intro d
  induction d with
  | zero =>
    intro i acc hi ha
    refine Ev.step (fun k => spec_l6New.l0.eq_2 ..) (ev_neg (by omega) (ev_some ?_))
    rw [List.drop_of_length_le (by omega)]
    simp [sideL]
  | succ d ih =>
    intro i acc hi ha
    have hlt : i < rows.length := by omega
    refine Ev.step (fun k => spec_l6New.l0.eq_2 ..) (ev_pos (by omega) (ev_pos (by omega) (ev_pos (by omega) ?_)))
    simp only [rdIR rows i hlt]
    rw [drop_cons rows i hlt, wrap_succ i (by omega)]
    refine ev_ite (fun h => ev_to (ih (i + 1) acc (by omega) (by omega)) ?_) (fun h => ev_pos (by omega) (ev_to (ih (i + 1) _ (by omega) (by rw [List.length_append, List.length_singleton]; omega)) ?_))
    · rw [sideL_cons, if_pos h]
    · rw [sideL_cons, if_neg h, List.append_assoc]
      rfl
theorem sideOf_ev (n : Int) (rows : List IR) (hL : rows.length ≤ 1048576) : Ev (fun k => impl_sideOf.f k rows n) (sideL n rows) := by
  simp only [impl_sideOf.f]
  exact sideOf_l0 n rows hL rows.length 0 [] (by omega) (Nat.zero_le _)
theorem old_ev (a b : Int) (rows : List IR) (hL : rows.length ≤ 1048576) : Ev (fun k => impl_Group_old.f k a b rows) (sideL 3 rows) := by
  simp only [impl_Group_old.f]
  exact ev_bind (sideOf_ev 3 rows hL) (ev_some rfl)
theorem fresh_ev (a b : Int) (rows : List IR) (hL : rows.length ≤ 1048576) : Ev (fun k => impl_Group_fresh.f k a b rows) (sideL 2 rows) := by
  simp only [impl_Group_fresh.f]
  exact ev_bind (sideOf_ev 2 rows hL) (ev_some rfl)
theorem l6Old_ev (a b : Int) (rows : List IR) (hL : rows.length ≤ 1048576) : Ev (fun k => spec_l6Old.f k a b rows) (sideL 3 rows) := by
  simp only [spec_l6Old.f]
  exact l6Old_l0 rows hL rows.length 0 [] (by omega) (Nat.zero_le _)
theorem l6New_ev (a b : Int) (rows : List IR) (hL : rows.length ≤ 1048576) : Ev (fun k => spec_l6New.f k a b rows) (sideL 2 rows) := by
  simp only [spec_l6New.f]
  exact l6New_l0 rows hL rows.length 0 [] (by omega) (Nat.zero_le _)
def rowsB : Int → List IR → Bool
  | _, [] => true
  | p, r :: t => inB r.f0 1 3 && (isLn r.f1 && (!(decide (r.f0 = 2 ∧ p = 3)) && rowsB r.f0 t))
def tailI (a b : Int) (rows : List IR) (x : Bool) : Bool := x && (good (sideL 3 rows) && (good (sideL 2 rows) && (decide (a + ((sideL 3 rows).length : Int) ≤ 1000) && decide (b + ((sideL 2 rows).length : Int) ≤ 1000))))
def tailS (a b : Int) (rows : List IR) (x : Bool) : Bool := x && (inB a 0 999 && (inB b 0 999 && (decide (a + ((sideL 3 rows).length : Int) ≤ 1000) && (decide (b + ((sideL 2 rows).length : Int) ≤ 1000) && (decide ((rows.length : Int) ≤ 80) && (good (sideL 3 rows) && good (sideL 2 rows)))))))
theorem tailI_ev (rows : List IR) (hf : FitIR rows) (hL : rows.length ≤ 1048576) (a b : Int) (ha : 0 ≤ a ∧ a ≤ 999) (hb : 0 ≤ b ∧ b ≤ 999) (x : Bool) :
    Ev (fun k => (impl_Group_old.f k a b rows).bind fun t793 => ((impl_Group_fresh.f k a b rows).bind fun t796 => (if x = true then ((impl_goodLines.f k t793).bind fun t799 => (if t799 = true then ((impl_goodLines.f k t796).bind fun t800 => (if t800 = true then (if (wrap64 (a + (t793.length : Int))) ≤ 1000 then (some (decide ((wrap64 (b + (t796.length : Int))) ≤ 1000))) else (some false)) else (some false))) else (some false))) else (some false)))) (tailI a b rows x) := by
  have h3 := sideL_len 3 rows
  have h2 := sideL_len 2 rows
  unfold tailI
  refine ev_bind (old_ev a b rows hL) (ev_bind (fresh_ev a b rows hL) (ev_ite (fun hx => ?_) (fun hx => ev_some (by rw [Bool.not_eq_true] at hx; rw [hx]; rfl))))
  rw [hx, Bool.true_and]
  refine ev_bind (goodLines_ev _ (sideL_fit 3 hf)) (ev_ite (fun h => ?_) (fun h => ev_some (by rw [Bool.not_eq_true] at h; rw [h]; rfl)))
  rw [h, Bool.true_and]
  refine ev_bind (goodLines_ev _ (sideL_fit 2 hf)) (ev_ite (fun h => ?_) (fun h => ev_some (by rw [Bool.not_eq_true] at h; rw [h]; rfl)))
  rw [h, Bool.true_and, wrap64_id (by omega) (by omega), wrap64_id (by omega) (by omega)]
  refine ev_ite (fun h => ev_some ?_) (fun h => ev_some ?_)
  · rw [decide_eq_true h, Bool.true_and]
  · rw [decide_eq_false h, Bool.false_and]
theorem tailS_ev (rows : List IR) (hf : FitIR rows) (hL : rows.length ≤ 1048576) (a b : Int) (x : Bool) :
    Ev (fun k => if x = true then ((spec_l1In.f a 0 999).bind fun t712 => (if t712 = true then ((spec_l1In.f b 0 999).bind fun t713 => (if t713 = true then ((spec_l6Old.f k a b rows).bind fun t714 => (if (wrap64 (a + (t714.length : Int))) ≤ 1000 then ((spec_l6New.f k a b rows).bind fun t717 => (if (wrap64 (b + (t717.length : Int))) ≤ 1000 then (if (rows.length : Int) ≤ 80 then ((spec_l6Old.f k a b rows).bind fun t720 => ((spec_l5Lines.f k t720).bind fun t723 => (if t723 = true then ((spec_l6New.f k a b rows).bind fun t724 => ((spec_l5Lines.f k t724).bind fun t727 => (some t727))) else (some false)))) else (some false)) else (some false))) else (some false))) else (some false))) else (some false))) else (some false)) (tailS a b rows x) := by
  have h3 := sideL_len 3 rows
  have h2 := sideL_len 2 rows
  unfold tailS
  refine ev_ite (fun hx => ?_) (fun hx => ev_some (by rw [Bool.not_eq_true] at hx; rw [hx]; rfl))
  rw [hx, Bool.true_and]
  simp only [spec_l1In_eq, Option.bind_some]
  refine ev_ite (fun h => ?_) (fun h => ev_some (by rw [Bool.not_eq_true] at h; rw [h]; rfl))
  rw [h, Bool.true_and]
  have ha := (inB_iff ..).1 h
  refine ev_ite (fun h => ?_) (fun h => ev_some (by rw [Bool.not_eq_true] at h; rw [h]; rfl))
  rw [h, Bool.true_and]
  have hb := (inB_iff ..).1 h
  refine ev_bind (l6Old_ev a b rows hL) ?_
  rw [wrap64_id (by omega) (by omega)]
  refine ev_ite (fun h => ?_) (fun h => ev_some (by rw [decide_eq_false h]; rfl))
  rw [decide_eq_true h, Bool.true_and]
  refine ev_bind (l6New_ev a b rows hL) ?_
  rw [wrap64_id (by omega) (by omega)]
  refine ev_ite (fun h => ?_) (fun h => ev_some (by rw [decide_eq_false h]; rfl))
  rw [decide_eq_true h, Bool.true_and]
  refine ev_ite (fun h => ?_) (fun h => ev_some (by rw [decide_eq_false h]; rfl))
  rw [decide_eq_true h, Bool.true_and]
  refine ev_bind (l6Old_ev a b rows hL) (ev_bind (l5Lines_ev _ (sideL_fit 3 hf)) (ev_ite (fun h => ?_) (fun h => ev_some (by rw [Bool.not_eq_true] at h; rw [h]; rfl))))
  rw [h, Bool.true_and]
  exact ev_bind (l6New_ev a b rows hL) (ev_bind (l5Lines_ev _ (sideL_fit 2 hf)) (ev_some rfl))
theorem goodGroup_l0 (rows : List IR) (hf : FitIR rows) (hL : rows.length ≤ 1048576) (a b : Int) (ha : 0 ≤ a ∧ a ≤ 999) (hb : 0 ≤ b ∧ b ≤ 999) : ∀ d i (x : Bool) (p : Int), i + d = rows.length → (i = 0 → p = 0) → (∀ h : 0 < i, ∀ h2 : i - 1 < rows.length, rows[i - 1].f0 = p) →
    Ev (fun k => impl_goodGroup.l0 k x rows (rows.length : Int) (i : Int) a b rows) (rowsB p (rows.drop i) && tailI a b rows (x || (rows.drop i).any (fun r => r.f0 != 1))) := by
  intro d
  induction d with
  | zero =>
    intro i x p hi hp0 hp
    refine Ev.step (fun k => impl_goodGroup.l0.eq_2 ..) (ev_neg (by omega) ?_)
    rw [List.drop_of_length_le (by omega)]
    simp only [rowsB, List.any_nil, Bool.or_false, Bool.true_and]
    exact tailI_ev rows hf hL a b ha hb x
  | succ d ih =>
    intro i x p hi hp0 hp
    have hlt : i < rows.length := by omega
    have hfi := hf.2 _ (List.getElem_mem hlt)
    refine Ev.step (fun k => impl_goodGroup.l0.eq_2 ..) (ev_pos (by omega) (ev_pos (by omega) (ev_pos (by omega) ?_)))
    simp only [rdIR rows i hlt, impl_in_eq, Option.bind_some]
    rw [drop_cons rows i hlt]
    simp only [rowsB, List.any_cons]
    refine ev_ite (fun h1 => ?_) (fun h1 => ev_some (by rw [Bool.not_eq_true] at h1; rw [h1]; rfl))
    rw [h1, Bool.true_and]
    refine ev_bind (isLine_ev _ hfi.2) (ev_ite (fun h2 => ?_) (fun h2 => ev_some (by rw [Bool.not_eq_true] at h2; rw [h2]; rfl)))
    rw [h2, Bool.true_and, wrap_succ i (by omega)]
    have hnext : Ev (fun k => if x = true then impl_goodGroup.l0 k true rows (rows.length : Int) ((i + 1 : Nat) : Int) a b rows else impl_goodGroup.l0 k (rows[i].f0 != 1) rows (rows.length : Int) ((i + 1 : Nat) : Int) a b rows) (rowsB rows[i].f0 (rows.drop (i + 1)) && tailI a b rows (x || (rows[i].f0 != 1 || (rows.drop (i + 1)).any (fun r => r.f0 != 1)))) := by
      refine ev_ite (fun hx => ?_) (fun hx => ?_)
      · refine ev_to (ih (i + 1) true rows[i].f0 (by omega) (by omega) (fun _ _ => rfl)) ?_
        rw [hx, Bool.true_or, Bool.true_or]
      · rw [Bool.not_eq_true] at hx
        refine ev_to (ih (i + 1) (rows[i].f0 != 1) rows[i].f0 (by omega) (by omega) (fun _ _ => rfl)) ?_
        rw [hx, Bool.false_or]
    refine ev_ite (fun h3 => ev_ite (fun h4 => ?_) (fun h4 => ?_)) (fun h3 => ?_)
    · have hw : wrap64 ((i : Int) - 1) = ((i - 1 : Nat) : Int) := wrap_pred i (by omega) (by omega)
      have hpv := hp (by omega) (by omega)
      rw [hw]
      refine ev_pos (by omega) (ev_pos (by omega) ?_)
      simp only [rdIR rows (i - 1) (by omega)]
      refine ev_ite (fun h5 => ev_some ?_) (fun h5 => ?_)
      · rw [show decide (rows[i].f0 = 2 ∧ p = 3) = true from decide_eq_true ⟨h4, by rw [← hpv]; exact h5⟩]
        rfl
      · rw [show decide (rows[i].f0 = 2 ∧ p = 3) = false from decide_eq_false (fun e => h5 (by rw [hpv]; exact e.2))]
        simpa using hnext
    · rw [show decide (rows[i].f0 = 2 ∧ p = 3) = false from decide_eq_false (fun e => h4 e.1)]
      simpa using hnext
    · rw [show decide (rows[i].f0 = 2 ∧ p = 3) = false from decide_eq_false (fun e => by have := hp0 (by omega); omega)]
      simpa using hnext
theorem l6Group_l0 (rows : List IR) (hf : FitIR rows) (hL : rows.length ≤ 1048576) (a b : Int) : ∀ d i (x : Bool) (p : Int), i + d = rows.length → (i = 0 → p = 0) → (∀ h : 0 < i, ∀ h2 : i - 1 < rows.length, rows[i - 1].f0 = p) →
    Ev (fun k => spec_l6Group.l0 k x rows (rows.length : Int) (i : Int) a b rows) (rowsB p (rows.drop i) && tailS a b rows (x || (rows.drop i).any (fun r => r.f0 != 1))) := by
  intro d
  induction d with
  | zero =>
    intro i x p hi hp0 hp
    refine Ev.step (fun k => spec_l6Group.l0.eq_2 ..) (ev_neg (by omega) ?_)
    rw [List.drop_of_length_le (by omega)]
    simp only [rowsB, List.any_nil, Bool.or_false, Bool.true_and]
    exact tailS_ev rows hf hL a b x
  | succ d ih =>
    intro i x p hi hp0 hp
    have hlt : i < rows.length := by omega
    have hfi := hf.2 _ (List.getElem_mem hlt)
    refine Ev.step (fun k => spec_l6Group.l0.eq_2 ..) (ev_pos (by omega) (ev_pos (by omega) (ev_pos (by omega) ?_)))
    simp only [rdIR rows i hlt, spec_l1In_eq, Option.bind_some]
    rw [drop_cons rows i hlt]
    simp only [rowsB, List.any_cons]
    refine ev_ite (fun h1 => ?_) (fun h1 => ev_some (by rw [Bool.not_eq_true] at h1; rw [h1]; rfl))
    rw [h1, Bool.true_and]
    refine ev_bind (l1Line_ev _ hfi.2) (ev_ite (fun h2 => ?_) (fun h2 => ev_some (by rw [Bool.not_eq_true] at h2; rw [h2]; rfl)))
    rw [h2, Bool.true_and, wrap_succ i (by omega)]
    have hnext : Ev (fun k => if x = true then spec_l6Group.l0 k true rows (rows.length : Int) ((i + 1 : Nat) : Int) a b rows else spec_l6Group.l0 k (rows[i].f0 != 1) rows (rows.length : Int) ((i + 1 : Nat) : Int) a b rows) (rowsB rows[i].f0 (rows.drop (i + 1)) && tailS a b rows (x || (rows[i].f0 != 1 || (rows.drop (i + 1)).any (fun r => r.f0 != 1)))) := by
      refine ev_ite (fun hx => ?_) (fun hx => ?_)
      · refine ev_to (ih (i + 1) true rows[i].f0 (by omega) (by omega) (fun _ _ => rfl)) ?_
        rw [hx, Bool.true_or, Bool.true_or]
      · rw [Bool.not_eq_true] at hx
        refine ev_to (ih (i + 1) (rows[i].f0 != 1) rows[i].f0 (by omega) (by omega) (fun _ _ => rfl)) ?_
        rw [hx, Bool.false_or]
    refine ev_ite (fun h3 => ev_ite (fun h4 => ?_) (fun h4 => ?_)) (fun h3 => ?_)
    · have hw : wrap64 ((i : Int) - 1) = ((i - 1 : Nat) : Int) := wrap_pred i (by omega) (by omega)
      have hpv := hp (by omega) (by omega)
      rw [hw]
      refine ev_pos (by omega) (ev_pos (by omega) ?_)
      simp only [rdIR rows (i - 1) (by omega)]
      refine ev_ite (fun h5 => ev_some ?_) (fun h5 => ?_)
      · rw [show decide (rows[i].f0 = 2 ∧ p = 3) = true from decide_eq_true ⟨h4, by rw [← hpv]; exact h5⟩]
        rfl
      · rw [show decide (rows[i].f0 = 2 ∧ p = 3) = false from decide_eq_false (fun e => h5 (by rw [hpv]; exact e.2))]
        simpa using hnext
    · rw [show decide (rows[i].f0 = 2 ∧ p = 3) = false from decide_eq_false (fun e => h4 e.1)]
      simpa using hnext
    · rw [show decide (rows[i].f0 = 2 ∧ p = 3) = false from decide_eq_false (fun e => by have := hp0 (by omega); omega)]
      simpa using hnext
def groupB (a b : Int) (rows : List IR) : Bool := rowsB 0 rows && tailS a b rows (rows.any (fun r => r.f0 != 1))
theorem l6Group_ev (a b : Int) (rows : List IR) (hf : FitIR rows) (hL : rows.length ≤ 1048576) : Ev (fun k => spec_l6Group.f k a b rows) (groupB a b rows) := by
  simp only [spec_l6Group.f]
  exact ev_to (l6Group_l0 rows hf hL a b rows.length 0 false 0 (by omega) (fun _ => rfl) (fun h => by omega)) (by simp [groupB])
theorem tails (a b : Int) (rows : List IR) (h1 : inB a 0 999 = true) (h2 : inB b 0 999 = true) (h3 : inB (rows.length : Int) 1 80 = true) (x : Bool) : tailI a b rows x = tailS a b rows x := by
  unfold tailI tailS
  have h4 := (inB_iff ..).1 h3
  rw [h1, h2, decide_eq_true (show (rows.length : Int) ≤ 80 from h4.2)]
  simp only [Bool.true_and]
  cases x <;> cases good (sideL 3 rows) <;> cases good (sideL 2 rows) <;> simp
theorem goodGroup_ev (a b : Int) (rows : List IR) (hf : FitIR rows) (hL : rows.length ≤ 1048576) : Ev (fun k => impl_goodGroup.f k a b rows) (groupB a b rows) := by
  simp only [impl_goodGroup.f, impl_in_eq, Option.bind_some]
  have hno : groupB a b rows = false → Ev (fun k => impl_goodGroup.j0 k true a b rows) (groupB a b rows) := fun e => by
    rw [e]
    exact Ev.step (fun k => impl_goodGroup.j0.eq_2 ..) (ev_pos rfl (ev_some rfl))
  have nota : inB a 0 999 = false → groupB a b rows = false := fun e => by unfold groupB tailS; rw [e]; simp
  have notb : inB b 0 999 = false → groupB a b rows = false := fun e => by unfold groupB tailS; rw [e]; simp
  have notl : inB (rows.length : Int) 1 80 = false → groupB a b rows = false := fun e => by
    unfold groupB tailS
    by_cases h : (rows.length : Int) ≤ 80
    · have : rows.length = 0 := by
        have := mt (inB_iff (rows.length : Int) 1 80).2 (by rw [e]; simp)
        omega
      rw [List.length_eq_zero_iff.1 this]
      simp
    · rw [decide_eq_false h]
      simp
  refine ev_ite (fun h1 => ev_ite (fun h2 => ?_) (fun h2 => hno (notb (by rw [Bool.not_eq_true] at h2; exact h2)))) (fun h1 => hno (nota (by rw [Bool.not_eq_true] at h1; exact h1)))
  cases h3 : inB (rows.length : Int) 1 80 with
  | false => exact hno (notl h3)
  | true =>
    refine Ev.step (fun k => impl_goodGroup.j0.eq_2 ..) (ev_neg (by simp) ?_)
    refine ev_to (goodGroup_l0 rows hf hL a b ((inB_iff ..).1 h1) ((inB_iff ..).1 h2) rows.length 0 false 0 (by omega) (fun _ => rfl) (fun h => by omega)) ?_
    rw [tails a b rows h1 h2 h3]
    simp [groupB]
theorem groupB_facts {a b : Int} {rows : List IR} (h : groupB a b rows = true) : 0 ≤ a ∧ a ≤ 999 ∧ 0 ≤ b ∧ b ≤ 999 ∧ rows.length ≤ 80 ∧ good (sideL 3 rows) = true ∧ good (sideL 2 rows) = true ∧ a + ((sideL 3 rows).length : Int) ≤ 1000 ∧ b + ((sideL 2 rows).length : Int) ≤ 1000 := by
  unfold groupB tailS at h
  simp only [Bool.and_eq_true, decide_eq_true_eq, inB_iff] at h
  obtain ⟨_, _, h1, h2, h3, h4, h5, h6, h7⟩ := h
  exact ⟨h1.1, h1.2, h2.1, h2.2, by omega, h6, h7, h3, h4⟩
end Go.Proofs.Ytmcldkobejhaeaa.Pl
namespace Go.Proofs.Ytmcldkobejhaeaa.My
open Go.RowKit Go.Proofs.YtmcldkobejhaeaaW.PrintWords Go.Proofs.YtmcldkobejhaeaaW.PrintLast Go.Proofs.YtmcldkobejhaeaaW.PrintMore
attribute [local go_sem] max2_int min2_int max_two min_two max_three min_three max_four min_four
set_option linter.unusedVariables false
set_option linter.unusedSimpArgs false
def laws_szGroup.f (k : Nat) (a0_0 : Int) (a0_1 : Int) (l0_2 : List (S143)) (a1 : Int) : Option (Int) := (laws_szRowS.f k l0_2 a1).bind fun t381 => (if t381 < 0 then (some (-1)) else (some t381))
set_option maxHeartbeats 8000000 in
set_option maxRecDepth 100000 in
theorem laws_szGroup.calls (k : Nat) (a0_0 : Int) (a0_1 : Int) (A0_2 : Option Addr) (c0_2 : Nat) (l0_2 : List (S143)) (a1 : Int) (r : Int) (w : World) (hr0_2 : Kd.C k143 w A0_2 l0_2.length l0_2) (hc0_2 : l0_2.length ≤ c0_2) (h : laws_szGroup.f k a0_0 a0_1 l0_2 a1 = some r) :
  Calls Try.prog 50 #[.agg #[.int .i64 a0_0, .int .i64 a0_1, .slice A0_2 l0_2.length c0_2], .int .i64 a1] w fun e w' => e = .returned (.int .i64 r) ∧ Below w.heap.size w w' := by
 have hu68 := Try.underlying68
 have HR0_2 := am hr0_2
 have HC0_2 := am hc0_2
 clear hr0_2 hc0_2
 have HB := am (Below.refl w.heap.size w)
 have H : ((laws_szRowS.f k l0_2 a1).bind fun t381 => (if t381 < 0 then (some (-1)) else (some t381))) = some r := h
 clear h
 replace H := Option.bind_eq_some_iff.mp H
 obtain ⟨t381, A30, H⟩ := H
 replace H : (if t381 < 0 then (some (-1)) else (some t381)) = some r := H
 have A3 := am A30
 clear A30
 by_cases c4 : t381 < 0
 ·rw [if_pos c4] at H
  have c4b0 : decide (t381 < 0) = true := decide_eq_true c4
  clear c4
  obtain rfl := Option.some.inj H
  go_enter Try.func50, Try.ntmps50
  go_wp2_with (first | ((with_reducible refine gate_dst (N := 2) rfl ?_); refine box_event ?hg (N := 2) ?hd (cs := #[.int .i64 a0_0, .int .i64 a0_1, .slice A0_2 l0_2.length c0_2]) (t := 68) ?hr ?_; (case hd => rfl); (case hg => rfl); (case hr => first | (go_simp; done) | (go_simp; rfl)); intro gb380 hg w5 hbox hb; have n0_ := am (below_step zb hb); have n1_ := am (hbox); have n2_ := am ((by rw [hg]; exact (below_size zb) : w.heap.size ≤ gb380)); have n3_ := am ((by rw [hg]; exact (below_size zb) : w.heap.size ≤ gb380)); clear HB; have HB := n0_; have BK380 := n1_; have GW380 := n2_; have GE380 := n3_; clear n0_ n1_ n2_ n3_; clear hb hbox hg; have hcz6_0 : w5.cell? ⟨gb380, 0, none⟩ = some (.int .i64 a0_0) := (blk_cell BK380.out 0).trans rfl; have hcz6_1 : w5.cell? ⟨gb380, 1, none⟩ = some (.int .i64 a0_1) := (blk_cell BK380.out 1).trans rfl; have hcz6_2 : w5.cell? ⟨gb380, 2, none⟩ = some (.slice A0_2 l0_2.length c0_2) := (blk_cell BK380.out 2).trans rfl; have hfz6_0 := blk_frozen BK380.out 0; have hfz6_1 := blk_frozen BK380.out 1; have hfz6_2 := blk_frozen BK380.out 2) | ((with_reducible refine gateC (f := 106) rfl ?_); refine goesL_ (some 8) rfl rfl Try.func106 (by kernel_rfl) rfl #[.slice A0_2 l0_2.length c0_2, .int .i64 a1] rfl zm ?_; (with_reducible refine (laws_szRowS.calls k _ _ l0_2 a1 t381 _ ?side1 ?side2 A3.out).mono ?_); (case side1 => exact zq (Kd.C_below HR0_2.out HB.out)); (case side2 => exact HC0_2.out); rintro e w7 ⟨rfl, hb⟩; refine ⟨_, rfl, ?_⟩; have n0_ := am (blk_below (g := gb380) (o := .cells #[.int .i64 a0_0, .int .i64 a0_1, .slice A0_2 l0_2.length c0_2] 68 (0, 0)) (zk BK380.out) hb); have n1_ := am (below_step zw hb); clear BK380; clear HB; have BK380 := n0_; have HB := n1_; clear n0_ n1_; (try clear hb)))
  go_ret
  exact ⟨by first | rfl | (simp [errW_none, errW_some] <;> rfl) | (simp [*, errW_none, errW_some] <;> rfl), zw⟩
 ·rw [if_neg c4] at H
  have c4b0 : decide (t381 < 0) = false := decide_eq_false c4
  clear c4
  obtain rfl := Option.some.inj H
  go_enter Try.func50, Try.ntmps50
  go_wp2_with (first | ((with_reducible refine gate_dst (N := 2) rfl ?_); refine box_event ?hg (N := 2) ?hd (cs := #[.int .i64 a0_0, .int .i64 a0_1, .slice A0_2 l0_2.length c0_2]) (t := 68) ?hr ?_; (case hd => rfl); (case hg => rfl); (case hr => first | (go_simp; done) | (go_simp; rfl)); intro gb380 hg w8 hbox hb; have n0_ := am (below_step zb hb); have n1_ := am (hbox); have n2_ := am ((by rw [hg]; exact (below_size zb) : w.heap.size ≤ gb380)); have n3_ := am ((by rw [hg]; exact (below_size zb) : w.heap.size ≤ gb380)); clear HB; have HB := n0_; have BK380 := n1_; have GW380 := n2_; have GE380 := n3_; clear n0_ n1_ n2_ n3_; clear hb hbox hg; have hcz9_0 : w8.cell? ⟨gb380, 0, none⟩ = some (.int .i64 a0_0) := (blk_cell BK380.out 0).trans rfl; have hcz9_1 : w8.cell? ⟨gb380, 1, none⟩ = some (.int .i64 a0_1) := (blk_cell BK380.out 1).trans rfl; have hcz9_2 : w8.cell? ⟨gb380, 2, none⟩ = some (.slice A0_2 l0_2.length c0_2) := (blk_cell BK380.out 2).trans rfl; have hfz9_0 := blk_frozen BK380.out 0; have hfz9_1 := blk_frozen BK380.out 1; have hfz9_2 := blk_frozen BK380.out 2) | ((with_reducible refine gateC (f := 106) rfl ?_); refine goesL_ (some 8) rfl rfl Try.func106 (by kernel_rfl) rfl #[.slice A0_2 l0_2.length c0_2, .int .i64 a1] rfl zm ?_; (with_reducible refine (laws_szRowS.calls k _ _ l0_2 a1 t381 _ ?side1 ?side2 A3.out).mono ?_); (case side1 => exact zq (Kd.C_below HR0_2.out HB.out)); (case side2 => exact HC0_2.out); rintro e w10 ⟨rfl, hb⟩; refine ⟨_, rfl, ?_⟩; have n0_ := am (blk_below (g := gb380) (o := .cells #[.int .i64 a0_0, .int .i64 a0_1, .slice A0_2 l0_2.length c0_2] 68 (0, 0)) (zk BK380.out) hb); have n1_ := am (below_step zw hb); clear BK380; clear HB; have BK380 := n0_; have HB := n1_; clear n0_ n1_; (try clear hb)))
  go_ret
  exact ⟨by first | rfl | (simp [errW_none, errW_some] <;> rfl) | (simp [*, errW_none, errW_some] <;> rfl), zw⟩

def laws_szGroupS.l0 : Nat → List (S68) → Int → Int → Option (Int)
 | 0, _, _, _ => none
 | k + 1, x0, x1, x5 => if x5 < (x0.length : Int) then (if 0 ≤ x5 then ((laws_szGroup.f k ((T68 x0 x5).f0) ((T68 x0 x5).f1) ((T68 x0 x5).f2) x1).bind fun t597 => (if t597 < 0 then (some (-1)) else (laws_szGroupS.l0 k x0 t597 (wrap64 (x5 + 1))))) else (none)) else (some x1)
def laws_szGroupS.f (k : Nat) (l0 : List (S68)) (a1 : Int) : Option (Int) := if (wrap64 (a1 - (l0.length : Int))) < 0 then (some (-1)) else (laws_szGroupS.l0 k l0 (wrap64 (a1 - (l0.length : Int))) 0)
set_option maxHeartbeats 8000000 in
set_option maxRecDepth 100000 in
theorem laws_szGroupS.calls (k : Nat) (A0 : Option Addr) (c0 : Nat) (l0 : List (S68)) (a1 : Int) (r : Int) (w : World) (hr0 : Kd.C k68 w A0 l0.length l0) (hc0 : l0.length ≤ c0) (h : laws_szGroupS.f k l0 a1 = some r) :
  Calls Try.prog 56 #[.slice A0 l0.length c0, .int .i64 a1] w fun e w' => e = .returned (.int .i64 r) ∧ Below w.heap.size w w' := by
 have hu68 := Try.underlying68
 have HR0 := am hr0
 have HC0 := am hc0
 clear hr0 hc0
 have HB := am (Below.refl w.heap.size w)
 have H : (if (wrap64 (a1 - (l0.length : Int))) < 0 then (some (-1)) else (laws_szGroupS.l0 k l0 (wrap64 (a1 - (l0.length : Int))) 0)) = some r := h
 clear h
 by_cases c3 : (wrap64 (a1 - (l0.length : Int))) < 0
 ·rw [if_pos c3] at H
  have c3b0 : decide ((wrap64 (a1 - (l0.length : Int))) < 0) = true := decide_eq_true c3
  clear c3
  obtain rfl := Option.some.inj H
  go_enter Try.func56, Try.ntmps56
  go_wp2
  go_ret
  exact ⟨by first | rfl | (simp [errW_none, errW_some] <;> rfl) | (simp [*, errW_none, errW_some] <;> rfl), zb⟩
 ·rw [if_neg c3] at H
  have c3b0 : decide ((wrap64 (a1 - (l0.length : Int))) < 0) = false := decide_eq_false c3
  clear c3
  have H' := am H
  clear H
  go_enter Try.func56, Try.ntmps56
  go_wp2
  go_loopg [1, 5] k (fun kq v1 v5 w' => ∃ (x1_1 : Int) (x5_1 : Int), v1 = .int .i64 x1_1 ∧ v5 = .int .i64 x5_1 ∧ Aside0 (laws_szGroupS.l0 kq l0 x1_1 x5_1 = some r) ∧ Aside0 (kq ≤ k) ∧ Aside0 (Below w.heap.size w w'))
  case atStart => exact ⟨(wrap64 (a1 - (l0.length : Int))), (0), zf, zf, H', ⟨Nat.le_refl _⟩, ⟨zb⟩⟩
  case round =>
   clear H'
   try clear p2
   try clear c3
   try clear c3b0
   obtain ⟨x1_1, x5_1, rfl, rfl, HA, HK1, HB⟩ := hrel
   cases gk with
   | zero => exact absurd HA.out (by simp [laws_szGroupS.l0])
   | succ k1 =>
    have H := HA.out
    clear HA
    simp only [laws_szGroupS.l0] at H
    by_cases c4 : x5_1 < (l0.length : Int)
    ·rw [if_pos c4] at H
     have c4b0 : decide (x5_1 < (l0.length : Int)) = true := decide_eq_true c4
     clear c4
     by_cases c5 : 0 ≤ x5_1
     ·rw [if_pos c5] at H
      have c5b0 : decide (0 ≤ x5_1) = true := decide_eq_true c5
      clear c5
      replace H := Option.bind_eq_some_iff.mp H
      obtain ⟨t597, A60, H⟩ := H
      replace H : (if t597 < 0 then (some (-1)) else (laws_szGroupS.l0 k1 l0 t597 (wrap64 (x5_1 + 1)))) = some r := H
      have A6 := am A60
      clear A60
      by_cases c7 : t597 < 0
      ·rw [if_pos c7] at H
       have c7b0 : decide (t597 < 0) = true := decide_eq_true c7
       clear c7
       obtain rfl := Option.some.inj H
       have p596 : 0 ≤ (x5_1 : Int) := oa
       have q596 : x5_1 < (l0.length : Int) := oa
       obtain ⟨ad596, A596_2, c596_2, e596, hx596_0, hx596_1, hx596_2, hl596_2, hi596_2⟩ := at_T68 HR0.out x5_1 p596 q596
       cases e596
       replace hx596_0 := (HB.out.cell (World.block_lt_of_cell? w _ hx596_0)).trans hx596_0
       replace hx596_1 := (HB.out.cell (World.block_lt_of_cell? w _ hx596_1)).trans hx596_1
       replace hx596_2 := (HB.out.cell (World.block_lt_of_cell? w _ hx596_2)).trans hx596_2
       have HR596_2 := am hi596_2
       have HC596_2 := am hl596_2
       clear hi596_2 hl596_2
       replace p596 := eq_true p596
       replace q596 := eq_true q596
       go_wp2_with (first | ((with_reducible refine gateC (f := 50) rfl ?_); refine goesL_ (some 23) rfl rfl Try.func50 (by kernel_rfl) rfl #[.agg #[.int .i64 ((T68 l0 x5_1).f0), .int .i64 ((T68 l0 x5_1).f1), .slice A596_2 ((T68 l0 x5_1).f2).length c596_2], .int .i64 x1_1] rfl zm ?_; (with_reducible refine (laws_szGroup.calls k1 ((T68 l0 x5_1).f0) ((T68 l0 x5_1).f1) _ _ ((T68 l0 x5_1).f2) x1_1 t597 _ ?side1 ?side2 A6.out).mono ?_); (case side1 => exact zq (Kd.C_below HR596_2.out HB.out)); (case side2 => exact HC596_2.out); rintro e w8 ⟨rfl, hb⟩; refine ⟨_, rfl, ?_⟩; have n0_ := am (below_step zb hb); clear HB; have HB := n0_; clear n0_; (try clear hb)))
       go_ret
       exact ⟨by first | rfl | (simp [errW_none, errW_some] <;> rfl) | (simp [*, errW_none, errW_some] <;> rfl), zb⟩
      ·rw [if_neg c7] at H
       have c7b0 : decide (t597 < 0) = false := decide_eq_false c7
       clear c7
       have H' := am H
       clear H
       have p596 : 0 ≤ (x5_1 : Int) := oa
       have q596 : x5_1 < (l0.length : Int) := oa
       obtain ⟨ad596, A596_2, c596_2, e596, hx596_0, hx596_1, hx596_2, hl596_2, hi596_2⟩ := at_T68 HR0.out x5_1 p596 q596
       cases e596
       replace hx596_0 := (HB.out.cell (World.block_lt_of_cell? w _ hx596_0)).trans hx596_0
       replace hx596_1 := (HB.out.cell (World.block_lt_of_cell? w _ hx596_1)).trans hx596_1
       replace hx596_2 := (HB.out.cell (World.block_lt_of_cell? w _ hx596_2)).trans hx596_2
       have HR596_2 := am hi596_2
       have HC596_2 := am hl596_2
       clear hi596_2 hl596_2
       replace p596 := eq_true p596
       replace q596 := eq_true q596
       go_wp2_with (first | ((with_reducible refine gateC (f := 50) rfl ?_); refine goesL_ (some 23) rfl rfl Try.func50 (by kernel_rfl) rfl #[.agg #[.int .i64 ((T68 l0 x5_1).f0), .int .i64 ((T68 l0 x5_1).f1), .slice A596_2 ((T68 l0 x5_1).f2).length c596_2], .int .i64 x1_1] rfl zm ?_; (with_reducible refine (laws_szGroup.calls k1 ((T68 l0 x5_1).f0) ((T68 l0 x5_1).f1) _ _ ((T68 l0 x5_1).f2) x1_1 t597 _ ?side1 ?side2 A6.out).mono ?_); (case side1 => exact zq (Kd.C_below HR596_2.out HB.out)); (case side2 => exact HC596_2.out); rintro e w9 ⟨rfl, hb⟩; refine ⟨_, rfl, ?_⟩; have n0_ := am (below_step zb hb); clear HB; have HB := n0_; clear n0_; (try clear hb)))
       go_roundg k1
       case measure => have := HK1.out; omega
       case rel => exact ⟨(t597), (wrap64 (x5_1 + 1)), zf, zf, H', ⟨by have := HK1.out; omega⟩, ⟨zb⟩⟩
     ·rw [if_neg c5] at H
      exact absurd H (by simp)
    ·rw [if_neg c4] at H
     have c4b0 : decide (x5_1 < (l0.length : Int)) = false := decide_eq_false c4
     clear c4
     obtain rfl := Option.some.inj H
     go_wp2
     go_ret
     exact ⟨by first | rfl | (simp [errW_none, errW_some] <;> rfl) | (simp [*, errW_none, errW_some] <;> rfl), zb⟩

def laws_toGroup.f (k : Nat) (a0_0 : Int) (a0_1 : Int) (l0_2 : List (S143)) : Option (Int × Int × (List (S140))) := (laws_toRowS.f k l0_2).bind fun t471 => (some (a0_0, a0_1, t471))
set_option maxHeartbeats 8000000 in
set_option maxRecDepth 100000 in
theorem laws_toGroup.calls (k : Nat) (a0_0 : Int) (a0_1 : Int) (A0_2 : Option Addr) (c0_2 : Nat) (l0_2 : List (S143)) (r1 : Int) (r2 : Int) (r3 : List (S140)) (w : World) (hr0_2 : Kd.C k143 w A0_2 l0_2.length l0_2) (hc0_2 : l0_2.length ≤ c0_2) (h : laws_toGroup.f k a0_0 a0_1 l0_2 = some (r1, r2, r3)) :
  Calls Try.prog 52 #[.agg #[.int .i64 a0_0, .int .i64 a0_1, .slice A0_2 l0_2.length c0_2]] w fun e w' => ∃ v2_ : Value, e = .returned (.agg #[.int .i64 r1, .int .i64 r2, v2_]) ∧ Kd.R k140 140 w' w.heap.size (fun _ => True) v2_ r3 ∧ Below w.heap.size w w' := by
 have hu68 := Try.underlying68
 have hu73 := Try.underlying73
 have HR0_2 := am hr0_2
 have HC0_2 := am hc0_2
 clear hr0_2 hc0_2
 have HB := am (Below.refl w.heap.size w)
 have H := h
 clear h
 unfold laws_toGroup.f at H
 replace H := Option.bind_eq_some_iff.mp H
 obtain ⟨t471, A20, H⟩ := H
 replace H : (some (a0_0, a0_1, t471)) = some (r1, r2, r3) := H
 have A2 := am A20
 clear A20
 simp only [Option.some.injEq, Prod.mk.injEq] at H
 obtain ⟨rfl, rfl, rfl⟩ := H
 go_enter Try.func52, Try.ntmps52
 go_wp2_with (first | ((with_reducible refine gate_dst (N := 1) rfl ?_); refine box_event ?hg (N := 1) ?hd (cs := #[.int .i64 a0_0, .int .i64 a0_1, .slice A0_2 l0_2.length c0_2]) (t := 68) ?hr ?_; (case hd => rfl); (case hg => rfl); (case hr => first | (go_simp; done) | (go_simp; rfl)); intro gb468 hg w3 hbox hb; have BK468 := am (hbox); have GW468 := am ((by rw [hg]; exact (below_size zb) : w.heap.size ≤ gb468)); have GE468 := am ((by rw [hg]; exact (below_size zb) : w.heap.size ≤ gb468)); replace HB := am (below_step zb hb); clear hb hbox hg) | ((with_reducible refine gate_dst (N := 2) rfl ?_); refine box_event ?hg (N := 2) ?hd (cs := #[.int .i64 0, .int .i64 0, .slice none 0 0]) (t := 73) ?hr ?_; (case hd => rfl); (case hg => rfl); (case hr => first | (go_simp; done) | (go_simp; rfl)); intro gb469 hg w4 hbox hb; have BK469 := am (hbox); have GW469 := am ((by rw [hg]; exact (below_size zw) : w.heap.size ≤ gb469)); have GE469 := am ((by rw [hg]; exact (below_size zw) : w.heap.size ≤ gb469)); replace HB := am (below_step zw hb); have NB468_469 := am ((by rw [hg]; exact Nat.ne_of_lt (blk_lt (g := gb468) (o := .cells #[.int .i64 a0_0, .int .i64 a0_1, .slice A0_2 l0_2.length c0_2] 68 (0, 0)) (zk BK468.out)) : gb468 ≠ gb469)); have NB469_468 := am ((by rw [hg]; exact Nat.ne_of_gt (blk_lt (g := gb468) (o := .cells #[.int .i64 a0_0, .int .i64 a0_1, .slice A0_2 l0_2.length c0_2] 68 (0, 0)) (zk BK468.out)) : gb469 ≠ gb468)); replace BK468 := am (blk_below (g := gb468) (o := .cells #[.int .i64 a0_0, .int .i64 a0_1, .slice A0_2 l0_2.length c0_2] 68 (0, 0)) (zk BK468.out) hb); clear hb hbox hg) | ((with_reducible refine gate_dst (N := 3) rfl ?_); refine box_event ?hg (N := 3) ?hd (cs := #[.int .i64 0, .int .i64 0, .slice none 0 0]) (t := 73) ?hr ?_; (case hd => rfl); (case hg => rfl); (case hr => first | (go_simp; done) | (go_simp; rfl)); intro gb470 hg w5 hbox hb; have BK470 := am (hbox); have GW470 := am ((by rw [hg]; exact (below_size zw) : w.heap.size ≤ gb470)); have GE470 := am ((by rw [hg]; exact (below_size zw) : w.heap.size ≤ gb470)); replace HB := am (below_step zw hb); have NB468_470 := am ((by rw [hg]; exact Nat.ne_of_lt (blk_lt (g := gb468) (o := .cells #[.int .i64 a0_0, .int .i64 a0_1, .slice A0_2 l0_2.length c0_2] 68 (0, 0)) (zk BK468.out)) : gb468 ≠ gb470)); have NB470_468 := am ((by rw [hg]; exact Nat.ne_of_gt (blk_lt (g := gb468) (o := .cells #[.int .i64 a0_0, .int .i64 a0_1, .slice A0_2 l0_2.length c0_2] 68 (0, 0)) (zk BK468.out)) : gb470 ≠ gb468)); replace BK468 := am (blk_below (g := gb468) (o := .cells #[.int .i64 a0_0, .int .i64 a0_1, .slice A0_2 l0_2.length c0_2] 68 (0, 0)) (zk BK468.out) hb); have NB469_470 := am ((by rw [hg]; exact Nat.ne_of_lt (blk_lt (g := gb469) (o := .cells #[.int .i64 0, .int .i64 0, .slice none 0 0] 73 (0, 0)) (zk BK469.out)) : gb469 ≠ gb470)); have NB470_469 := am ((by rw [hg]; exact Nat.ne_of_gt (blk_lt (g := gb469) (o := .cells #[.int .i64 0, .int .i64 0, .slice none 0 0] 73 (0, 0)) (zk BK469.out)) : gb470 ≠ gb469)); replace BK469 := am (blk_below (g := gb469) (o := .cells #[.int .i64 0, .int .i64 0, .slice none 0 0] 73 (0, 0)) (zk BK469.out) hb); clear hb hbox hg; have hnb6 := NB468_469.out; have hnc6 := NB469_468.out; have hnb7 := NB468_470.out; have hnc7 := NB470_468.out; obtain ⟨hcz8_0, hcz8_1, hcz8_2⟩ := cz3 BK468.out; obtain ⟨hfz8_0, hfz8_1, hfz8_2⟩ := fz3 BK468.out; have hnb9 := NB470_469.out; have hnc9 := NB469_470.out; obtain ⟨hcz10_0, hcz10_1, hcz10_2⟩ := cz3 BK470.out; obtain ⟨hfz10_0, hfz10_1, hfz10_2⟩ := fz3 BK470.out) | ((with_reducible refine gateC (f := 110) rfl ?_); refine goesL_ (some 12) rfl rfl Try.func110 (by kernel_rfl) rfl #[.slice A0_2 l0_2.length c0_2] rfl zm ?_; (with_reducible refine (laws_toRowS.calls k _ _ l0_2 t471 _ ?side1 ?side2 A2.out).mono ?_); (case side1 => exact Kd.C_below HR0_2.out zw); (case side2 => exact HC0_2.out); rintro e w11 ⟨v472, rfl, ho0, hb⟩; refine ⟨_, rfl, ?_⟩; have HO473 := am (Kd.R_lower ho0 (below_size zw)); replace BK468 := am (blk_below (g := gb468) (o := .cells #[.int .i64 a0_0, .int .i64 a0_1, .slice A0_2 l0_2.length c0_2] 68 (0, 0)) (by (with_reducible repeat (first | refine blk_drewN ?_ _ | refine blk_drew ?_ | refine blk_alloc ?_ _)); refine blk_far ?_ NB468_470.out _; (with_reducible repeat (first | refine blk_drewN ?_ _ | refine blk_drew ?_ | refine blk_alloc ?_ _)); refine blk_far ?_ NB468_470.out _; (with_reducible repeat (first | refine blk_drewN ?_ _ | refine blk_drew ?_ | refine blk_alloc ?_ _)); exact BK468.out) hb); replace BK469 := am (blk_below (g := gb469) (o := .cells #[.int .i64 0, .int .i64 0, .slice none 0 0] 73 (0, 0)) (by (with_reducible repeat (first | refine blk_drewN ?_ _ | refine blk_drew ?_ | refine blk_alloc ?_ _)); refine blk_far ?_ NB469_470.out _; (with_reducible repeat (first | refine blk_drewN ?_ _ | refine blk_drew ?_ | refine blk_alloc ?_ _)); refine blk_far ?_ NB469_470.out _; (with_reducible repeat (first | refine blk_drewN ?_ _ | refine blk_drew ?_ | refine blk_alloc ?_ _)); exact BK469.out) hb); replace BK470 := am (blk_below (g := gb470) (o := .cells #[.int .i64 a0_0, .int .i64 a0_1, .slice none 0 0] 73 (0, 0)) (by (with_reducible repeat (first | refine blk_drewN ?_ _ | refine blk_drew ?_ | refine blk_alloc ?_ _)); refine blk_put (cs := #[.int .i64 a0_0, .int .i64 0, .slice none 0 0]) ?_ 1 _ rfl; (with_reducible repeat (first | refine blk_drewN ?_ _ | refine blk_drew ?_ | refine blk_alloc ?_ _)); refine blk_put (cs := #[.int .i64 0, .int .i64 0, .slice none 0 0]) ?_ 0 _ rfl; (with_reducible repeat (first | refine blk_drewN ?_ _ | refine blk_drew ?_ | refine blk_alloc ?_ _)); exact BK470.out) hb); replace HB := am (below_step zw hb); (try clear hb); (try clear ho0); obtain ⟨Ao12, co12, eo12⟩ := Kd.R_slice HO473.out; subst eo12; obtain ⟨hcz13_0, hcz13_1, hcz13_2⟩ := cz3 BK470.out; obtain ⟨hfz13_0, hfz13_1, hfz13_2⟩ := fz3 BK470.out; obtain ⟨hcz14_0, hcz14_1, hcz14_2⟩ := cz3 BK469.out; obtain ⟨hfz14_0, hfz14_1, hfz14_2⟩ := fz3 BK469.out))
 refine bodyPost_ret (results_cell_row rfl _ _ gb469 73 #[.int .i64 a0_0, .int .i64 a0_1, .slice Ao12 t471.length co12] (0, 0) _ rfl (by (with_reducible repeat (first | refine blk_drewN ?_ _ | refine blk_drew ?_ | refine blk_alloc ?_ _)); refine blk_put (cs := #[.int .i64 a0_0, .int .i64 a0_1, .slice none 0 0]) ?_ 2 _ rfl; (with_reducible repeat (first | refine blk_drewN ?_ _ | refine blk_drew ?_ | refine blk_alloc ?_ _)); refine blk_put (cs := #[.int .i64 a0_0, .int .i64 0, .slice none 0 0]) ?_ 1 _ rfl; (with_reducible repeat (first | refine blk_drewN ?_ _ | refine blk_drew ?_ | refine blk_alloc ?_ _)); refine blk_put (cs := #[.int .i64 0, .int .i64 0, .slice none 0 0]) ?_ 0 _ rfl; (with_reducible repeat (first | refine blk_drewN ?_ _ | refine blk_drew ?_ | refine blk_alloc ?_ _)); refine blk_far ?_ NB469_470.out _; (with_reducible repeat (first | refine blk_drewN ?_ _ | refine blk_drew ?_ | refine blk_alloc ?_ _)); exact BK469.out) Try.underlying73 rfl (by kernel_rfl)) rfl ?_
 exact ⟨_, by first | rfl | (simp [errW_none, errW_some] <;> rfl) | (simp [*, errW_none, errW_some] <;> rfl), by (with_reducible repeat (first | apply Kd.R_alloc | apply Kd.R_drewN | apply Kd.R_drew)); exact Kd.R_mono (Kd.R_far (p := ⟨gb469, 2, none⟩) (Kd.R_far (p := ⟨gb469, 1, none⟩) (Kd.R_far (p := ⟨gb469, 0, none⟩) (Kd.R_far (p := ⟨gb470, 2, none⟩) (Kd.R_types (Kd.R_types HO473.out BK470.out (by decide)) BK469.out (by decide)) (fun _ hk => hk.1.2) (.slice Ao12 t471.length co12)) (fun _ hk => hk.2) (.int .i64 a0_0)) (fun _ hk => hk.2) (.int .i64 a0_1)) (fun _ hk => hk.2) (.slice Ao12 t471.length co12)) (fun _ hk => trivial), zw⟩

def laws_toGroupS.l0 : Nat → List (S68) → List (S73) → Int → Option ((List (S73)))
 | 0, _, _, _ => none
 | k + 1, x0, x3, x4 => if x4 < (x0.length : Int) then (if 0 ≤ x4 then ((laws_toGroup.f k ((T68 x0 x4).f0) ((T68 x0 x4).f1) ((T68 x0 x4).f2)).bind fun bt644 => (if x4 < (x3.length : Int) then (laws_toGroupS.l0 k x0 (x3.set (x4 : Int).toNat (⟨bt644.1, bt644.2.1, bt644.2.2⟩ : S73)) (wrap64 (x4 + 1))) else (none))) else (none)) else (some x3)
def laws_toGroupS.f (k : Nat) (l0 : List (S68)) : Option ((List (S73))) := if 0 ≤ (l0.length : Int) then (if ((l0.length : Int) : Int).toNat ≤ 7036874417766 then (laws_toGroupS.l0 k l0 (List.replicate ((l0.length : Int) : Int).toNat z73) 0) else (none)) else (none)
set_option maxHeartbeats 8000000 in
set_option maxRecDepth 100000 in
theorem laws_toGroupS.calls (k : Nat) (A0 : Option Addr) (c0 : Nat) (l0 : List (S68)) (r : List (S73)) (w : World) (hr0 : Kd.C k68 w A0 l0.length l0) (hc0 : l0.length ≤ c0) (h : laws_toGroupS.f k l0 = some r) :
  Calls Try.prog 58 #[.slice A0 l0.length c0] w fun e w' => ∃ v0_ : Value, e = .returned (v0_) ∧ Kd.S k73 73 w' w.heap.size (fun _ => True) v0_ r ∧ Below w.heap.size w w' := by
 have hu68 := Try.underlying68
 have hu73 := Try.underlying73
 have HR0 := am hr0
 have HC0 := am hc0
 clear hr0 hc0
 have HB := am (Below.refl w.heap.size w)
 have H := h
 clear h
 unfold laws_toGroupS.f at H
 obtain ⟨c2, H⟩ := itn H
 have c2b0 := eq_true c2
 have c2b1 := decide_eq_true c2
 clear c2
 obtain ⟨c3, H⟩ := itn H
 have c3b0 := eq_true c3
 have c3b1 := decide_eq_true c3
 clear c3
 obtain ⟨y640, hy640⟩ : ∃ y_ : List (S73), y_ = (List.replicate ((l0.length : Int) : Int).toNat z73) := ⟨_, rfl⟩
 replace H : (laws_toGroupS.l0 k l0 y640 0) = some r := by first | (rw [hy640]; with_reducible exact H) | (have H2_ := (Option.bind_some _ _).symm.trans H; rw [hy640]; with_reducible exact H2_) | (have H2_ := (Option.bind_some _ _).symm.trans H; with_reducible exact H2_) | with_reducible exact H | (rw [hy640]; exact H) | exact H
 have Ny640 := am hy640
 clear hy640
 have H' := am H
 clear H
 go_enter Try.func58, Try.ntmps58
 go_wp2_with (first | ((with_reducible refine gate_dst (N := 7) rfl ?_); refine Kd.S_make k73 _ 73 rfl (N := 7) rfl 57 _ _ rfl (l0.length : Int) rfl rfl Try.underlying57 (.agg #[(.int .i64 0), (.int .i64 0), (.slice none 0 0)]) 40 info73 rfl (by decide) (by omega) z73 (ok := fun _ => True) (okp := fun _ => True) (k73_mkM _ _ _ z73 (Kd.R_nil _ _ _ _ _)) (fun _ hk => hk) trivial oa (Nat.le_trans (Nat.mul_le_mul_right _ (oa : (l0.length : Int).toNat ≤ 7036874417766)) (by omega)) (Below.refl _ _) (Nat.le_refl _) ?_; intro v641 w4 ho5 hb hg_ hnew_; clear hg_ hnew_; (first | rw [← Ny640.out] at ho5 | (simp only [Int.reduceToNat] at ho5; rw [← Ny640.out] at ho5)); have HO642 := am (Kd.S_lower ho5 (below_size zb)); replace HB := am (below_step zb hb); clear hb ho5))
 go_loopg [4] k (fun kq v4 w' => ∃ (x3_1 : List (S73)) (x4_1 : Int), v4 = .int .i64 x4_1 ∧ Aside0 (laws_toGroupS.l0 kq l0 x3_1 x4_1 = some r) ∧ Aside0 (kq ≤ k) ∧ Aside0 (Kd.S k73 73 w' w.heap.size (fun _ => True) v641 x3_1) ∧ Aside0 (Below w.heap.size w w'))
 case atStart => exact ⟨(y640), (0), zf, H', ⟨Nat.le_refl _⟩, ⟨zs HO642.out⟩, ⟨zb⟩⟩
 case round =>
  clear H'
  try clear c2
  try clear c2b0
  try clear c2b1
  try clear p2
  try clear c3
  try clear c3b0
  try clear c3b1
  try clear c5
  obtain ⟨x3_1, x4_1, rfl, HA, HK1, HO_3, HB⟩ := hrel
  cases gk with
  | zero => exact absurd HA.out (by simp [laws_toGroupS.l0])
  | succ k1 =>
   have H := HA.out
   clear HA
   simp only [laws_toGroupS.l0] at H
   by_cases c6 : x4_1 < (l0.length : Int)
   ·rw [if_pos c6] at H
    have c6b0 : decide (x4_1 < (l0.length : Int)) = true := decide_eq_true c6
    clear c6
    obtain ⟨c7, H⟩ := itn H
    have c7b0 := decide_eq_true c7
    clear c7
    replace H := Option.bind_eq_some_iff.mp H
    obtain ⟨⟨t644, t645, t646⟩, A80, H⟩ := H
    dsimp only at H
    have A8 := am A80
    clear A80
    obtain ⟨c9, H⟩ := itn H
    have c9b0 := decide_eq_true c9
    clear c9
    obtain ⟨y649, hy649⟩ : ∃ y_ : List (S73), y_ = (x3_1.set (x4_1 : Int).toNat (⟨t644, t645, t646⟩ : S73)) := ⟨_, rfl⟩
    replace H : (laws_toGroupS.l0 k1 l0 y649 (wrap64 (x4_1 + 1))) = some r := by first | (rw [hy649]; with_reducible exact H) | (have H2_ := (Option.bind_some _ _).symm.trans H; rw [hy649]; with_reducible exact H2_) | (have H2_ := (Option.bind_some _ _).symm.trans H; with_reducible exact H2_) | with_reducible exact H | (rw [hy649]; exact H) | exact H
    have Ny649 := am hy649
    clear hy649
    have H' := am H
    clear H
    have p643 : 0 ≤ (x4_1 : Int) := oa
    have q643 : x4_1 < (l0.length : Int) := oa
    obtain ⟨ad643, A643_2, c643_2, e643, hx643_0, hx643_1, hx643_2, hl643_2, hi643_2⟩ := at_T68 HR0.out x4_1 p643 q643
    cases e643
    replace hx643_0 := bc HB.out hx643_0
    replace hx643_1 := bc HB.out hx643_1
    replace hx643_2 := bc HB.out hx643_2
    have HR643_2 := am hi643_2
    have HC643_2 := am hl643_2
    clear hi643_2 hl643_2
    replace p643 := eq_true p643
    replace q643 := eq_true q643
    go_wp2_with (first | ((with_reducible refine gateC (f := 52) rfl ?_); refine goesL_ (some 20) rfl rfl Try.func52 (by kernel_rfl) rfl #[.agg #[.int .i64 ((T68 l0 x4_1).f0), .int .i64 ((T68 l0 x4_1).f1), .slice A643_2 ((T68 l0 x4_1).f2).length c643_2]] rfl zm ?_; (with_reducible refine (laws_toGroup.calls k1 ((T68 l0 x4_1).f0) ((T68 l0 x4_1).f1) _ _ ((T68 l0 x4_1).f2) t644 t645 t646 _ ?side1 ?side2 A8.out).mono ?_); (case side1 => exact zq (Kd.C_below HR643_2.out HB.out)); (case side2 => exact HC643_2.out); rintro e w11 ⟨v647, rfl, ho0, hb⟩; refine ⟨_, rfl, ?_⟩; replace HO_3 := am (Kd.S_elder' (zs HO_3.out) (Kd.R_base ho0) hb); have HO648 := am (Kd.R_lower ho0 (below_size zb)); replace HB := am (below_step zb hb); (try clear hb); (try clear ho0); have p10 : 0 ≤ (x4_1 : Int) := oa; have q10 : (x4_1 : Int) < ((x3_1.length : Int) : Int) := oa; obtain ⟨go10, co10, eo10, gb10, gl10, cl10, HG10⟩ := Kd.S_form HO_3.out (by omega); (first | cases eo10 | (injection eo10 with ea_ en_ ec_; (first | subst ea_ | (injection ea_ with ea_; subst ea_)); subst ec_; clear en_)); have GB10 := am gb10; have GG10 := am HG10; clear gb10 gl10 HG10; obtain ⟨_, ce10, hcl10, hM10, hcc10, hfr10, _, _⟩ := Kd.S_elem HO_3.out z73 (x4_1 : Int) p10 q10; obtain ⟨ve10_2, rfl, ge10_2⟩ := k73_openM hM10; have hx10_0 : w11.cell? ⟨go10, (x4_1 : Int).toNat * 3, none⟩ = some (.int .i64 ((T73 x3_1 x4_1).f0)) := hcc10 0 _ rfl; have hx10_1 : w11.cell? ⟨go10, (x4_1 : Int).toNat * 3 + 1, none⟩ = some (.int .i64 ((T73 x3_1 x4_1).f1)) := hcc10 1 _ rfl; have hx10_2 : w11.cell? ⟨go10, (x4_1 : Int).toNat * 3 + 2, none⟩ = some (ve10_2) := hcc10 2 _ rfl; have hf10_0 : w11.frozen? ⟨go10, (x4_1 : Int).toNat * 3, none⟩ = false := hfr10 0; have hf10_1 : w11.frozen? ⟨go10, (x4_1 : Int).toNat * 3 + 1, none⟩ = false := hfr10 1; have hf10_2 : w11.frozen? ⟨go10, (x4_1 : Int).toNat * 3 + 2, none⟩ = false := hfr10 2; clear hcl10 hcc10 hfr10; (try clear hM10); replace p10 := eq_true p10; replace q10 := eq_true q10; have n_ := am (Kd.S_mono (ok' := (fun k_ => some k_ ≠ (v647 : Value).ownBlock)) HO_3.out (fun k_ hk => hk.2)); clear HO_3; have HO_3 := n_; clear n_; have HX12 := am (show Kd.S k73 73 w11 w.heap.size (fun k_ => ((fun _ => True)) k_ ∧ ¬ ((fun k_ => some k_ = (v647 : Value).ownBlock)) k_) (.slice (some ⟨go10, 0, none⟩) x3_1.length co10) x3_1 from (by (with_reducible repeat (first | apply Kd.S_alloc | apply Kd.S_drewN | apply Kd.S_drew)); exact Kd.S_mono HO_3.out (fun k_ hk => ⟨trivial, fun e_ => hk e_⟩))); obtain ⟨oki12, ce12, hcl12, hM12, hcc12, hfr12, hoki12, hH12⟩ := Kd.S_elem HX12.out z73 (x4_1 : Int) oa (by have h_ : (x4_1 : Int) < ((x3_1.length : Int) : Int) := oa; first | exact h_ | (have e_ := (Kd.S_reads' HO_3.out).1; omega) | simpa using h_); obtain ⟨ve12_2, rfl, ge12_2⟩ := k73_openM hM12; have HP12 := Kd.S_seg hH12 oa (by have h_ : (x4_1 : Int) < ((x3_1.length : Int) : Int) := oa; first | exact h_ | (have e_ := (Kd.S_reads' HO_3.out).1; omega) | simpa using h_) (seg := [.int .i64 t644, .int .i64 t645, v647]) (j := 0) (show 3 ≤ 3 from by decide) (x' := (⟨t644, t645, t646⟩ : S73)) (k73_mkM _ _ _ (⟨t644, t645, t646⟩ : S73) (Kd.R_mono (Kd.R_tight rfl (Kd.R_mono (ok' := fun k_ => ((fun _ => True)) k_ ∧ k_ ≠ go10) (Kd.R_apart' (HO648.out) (Kd.S_typed HO_3.out) (by decide)) (fun k_ hk => ⟨trivial, fun e_ => (hk.2) (by rw [e_]; rfl)⟩))) (fun _ h_ => Or.inr (h_)))) (fun _ hk => hk) (fun k_ hk_ => ((Kd.R_mono (ok' := fun k_ => ((fun _ => True)) k_ ∧ k_ ≠ go10) (Kd.R_apart' (HO648.out) (Kd.S_typed HO_3.out) (by decide)) (fun k_ hk => ⟨trivial, fun e_ => (hk.2) (by rw [e_]; rfl)⟩))).1 k_ hk_.symm); have hx12_0 := hcc12 0 _ rfl; (try simp only [show (k73).sz = 3 from rfl, Nat.mul_one, Nat.add_zero] at hx12_0); have hf12_0 := hfr12 0; (try simp only [show (k73).sz = 3 from rfl, Nat.mul_one, Nat.add_zero] at hf12_0); have hx12_1 := hcc12 1 _ rfl; (try simp only [show (k73).sz = 3 from rfl, Nat.mul_one, Nat.add_zero] at hx12_1); have hf12_1 := hfr12 1; (try simp only [show (k73).sz = 3 from rfl, Nat.mul_one, Nat.add_zero] at hf12_1); have hx12_2 := hcc12 2 _ rfl; (try simp only [show (k73).sz = 3 from rfl, Nat.mul_one, Nat.add_zero] at hx12_2); have hf12_2 := hfr12 2; (try simp only [show (k73).sz = 3 from rfl, Nat.mul_one, Nat.add_zero] at hf12_2); clear hcl12 hcc12 hfr12 hoki12 hH12; (try clear hM12)) | ((with_reducible refine gate_store (t := 73) (p := 21) rfl ?_); refine store_event (t := 73) (p := 21) (v := ?vo_w13) (w1 := (((w11.setCell ⟨go10, (x4_1 : Int).toNat * 3, none⟩ (.int .i64 t644)).setCell ⟨go10, (x4_1 : Int).toNat * 3 + 1, none⟩ (.int .i64 t645)).setCell ⟨go10, (x4_1 : Int).toNat * 3 + 2, none⟩ (v647))) ?hg ?ho ?hn ?hr ?_; (case ho => rfl); (case hg => rfl); (case hn => rfl); (case hr => (obtain ⟨A2_, c2_, e2_⟩ := Kd.R_slice HO648.out); (subst e2_); first | (go_simp; done) | (go_simp; rfl)); intro w13 hw; have hg : w11.grownBy w13 (some go10) := (by rw [hw]; exact HP12.2); have hp_ : Kd.S k73 73 w13 w.heap.size (fun _ => True) (.slice (some ⟨go10, 0, none⟩) x3_1.length co10) y649 := (by rw [hw, Ny649.out]; exact HP12.1); clear HP12; replace HO_3 := am (hp_); replace HB := am ((by rw [hw]; exact below_set (below_set (below_set (HB.out) GB10.out) GB10.out) GB10.out : Below w.heap.size w w13)); clear HO648; clear hg hw hp_))
    go_roundg k1
    case measure => have := HK1.out; omega
    case rel => exact ⟨(y649), (wrap64 (x4_1 + 1)), zf, H', ⟨by have := HK1.out; omega⟩, ⟨zs HO_3.out⟩, ⟨zb⟩⟩
   ·rw [if_neg c6] at H
    have c6b0 : decide (x4_1 < (l0.length : Int)) = false := decide_eq_false c6
    clear c6
    obtain rfl := Option.some.inj H
    go_wp2
    go_ret
    exact ⟨_, by first | rfl | (simp [errW_none, errW_some] <;> rfl) | (simp [*, errW_none, errW_some] <;> rfl), zs HO_3.out, zb⟩

def laws_eqGroup.f (k : Nat) (a0_0 : Int) (a0_1 : Int) (l0_2 : List (S140)) (a1_0 : Int) (a1_1 : Int) (l1_2 : List (S140)) : Option (Bool) := if a0_0 = a1_0 then (if a0_1 = a1_1 then ((laws_eqRowS.f k l0_2 l1_2).bind fun t301 => (if t301 = true then (some true) else (some false))) else (some false)) else (some false)
set_option maxHeartbeats 8000000 in
set_option maxRecDepth 100000 in
theorem laws_eqGroup.calls (k : Nat) (a0_0 : Int) (a0_1 : Int) (A0_2 : Option Addr) (c0_2 : Nat) (l0_2 : List (S140)) (a1_0 : Int) (a1_1 : Int) (A1_2 : Option Addr) (c1_2 : Nat) (l1_2 : List (S140)) (r : Bool) (w : World) (hr0_2 : Kd.C k140 w A0_2 l0_2.length l0_2) (hc0_2 : l0_2.length ≤ c0_2) (hr1_2 : Kd.C k140 w A1_2 l1_2.length l1_2) (hc1_2 : l1_2.length ≤ c1_2) (h : laws_eqGroup.f k a0_0 a0_1 l0_2 a1_0 a1_1 l1_2 = some r) :
  Calls Try.prog 54 #[.agg #[.int .i64 a0_0, .int .i64 a0_1, .slice A0_2 l0_2.length c0_2], .agg #[.int .i64 a1_0, .int .i64 a1_1, .slice A1_2 l1_2.length c1_2]] w fun e w' => e = .returned (.bool r) ∧ Below w.heap.size w w' := by
 have hu73 := Try.underlying73
 have HR0_2 := am hr0_2
 have HC0_2 := am hc0_2
 clear hr0_2 hc0_2
 have HR1_2 := am hr1_2
 have HC1_2 := am hc1_2
 clear hr1_2 hc1_2
 have HB := am (Below.refl w.heap.size w)
 have H := h
 clear h
 unfold laws_eqGroup.f at H
 by_cases c3 : a0_0 = a1_0
 ·rw [if_pos c3] at H
  have c3b0 : (a0_0 == a1_0) = true := beq_iff_eq.mpr c3
  have c3b1 : (a0_0 != a1_0) = false := bne_eq_false_iff_eq.mpr c3
  clear c3
  by_cases c4 : a0_1 = a1_1
  ·rw [if_pos c4] at H
   have c4b0 : (a0_1 == a1_1) = true := beq_iff_eq.mpr c4
   have c4b1 : (a0_1 != a1_1) = false := bne_eq_false_iff_eq.mpr c4
   clear c4
   replace H := Option.bind_eq_some_iff.mp H
   obtain ⟨t301, A50, H⟩ := H
   replace H : (if t301 = true then (some true) else (some false)) = some r := H
   have A5 := am A50
   clear A50
   by_cases c6 : t301 = true
   ·subst c6
    rw [if_pos rfl] at H
    obtain rfl := Option.some.inj H
    go_enter Try.func54, Try.ntmps54
    go_wp2_with (first | ((with_reducible refine gate_dst (N := 2) rfl ?_); refine box_event ?hg (N := 2) ?hd (cs := #[.int .i64 a0_0, .int .i64 a0_1, .slice A0_2 l0_2.length c0_2]) (t := 73) ?hr ?_; (case hd => rfl); (case hg => rfl); (case hr => first | (go_simp; done) | (go_simp; rfl)); intro gb299 hg w7 hbox hb; have BK299 := am (hbox); have GW299 := am ((by rw [hg]; exact (below_size zb) : w.heap.size ≤ gb299)); have GE299 := am ((by rw [hg]; exact (below_size zb) : w.heap.size ≤ gb299)); replace HB := am (below_step zb hb); clear hb hbox hg) | ((with_reducible refine gate_dst (N := 3) rfl ?_); refine box_event ?hg (N := 3) ?hd (cs := #[.int .i64 a1_0, .int .i64 a1_1, .slice A1_2 l1_2.length c1_2]) (t := 73) ?hr ?_; (case hd => rfl); (case hg => rfl); (case hr => first | (go_simp; done) | (go_simp; rfl)); intro gb300 hg w8 hbox hb; have BK300 := am (hbox); have GW300 := am ((by rw [hg]; exact (below_size zw) : w.heap.size ≤ gb300)); have GE300 := am ((by rw [hg]; exact (below_size zw) : w.heap.size ≤ gb300)); replace HB := am (below_step zw hb); have NB299_300 := am ((by rw [hg]; exact Nat.ne_of_lt (blk_lt (g := gb299) (o := .cells #[.int .i64 a0_0, .int .i64 a0_1, .slice A0_2 l0_2.length c0_2] 73 (0, 0)) (zk BK299.out)) : gb299 ≠ gb300)); have NB300_299 := am ((by rw [hg]; exact Nat.ne_of_gt (blk_lt (g := gb299) (o := .cells #[.int .i64 a0_0, .int .i64 a0_1, .slice A0_2 l0_2.length c0_2] 73 (0, 0)) (zk BK299.out)) : gb300 ≠ gb299)); replace BK299 := am (blk_below (g := gb299) (o := .cells #[.int .i64 a0_0, .int .i64 a0_1, .slice A0_2 l0_2.length c0_2] 73 (0, 0)) (zk BK299.out) hb); clear hb hbox hg; have hnb9 := NB299_300.out; have hnc9 := NB300_299.out; obtain ⟨hcz10_0, hcz10_1, hcz10_2⟩ := cz3 BK299.out; obtain ⟨hfz10_0, hfz10_1, hfz10_2⟩ := fz3 BK299.out; obtain ⟨hcz11_0, hcz11_1, hcz11_2⟩ := cz3 BK300.out; obtain ⟨hfz11_0, hfz11_1, hfz11_2⟩ := fz3 BK300.out) | ((with_reducible refine gateC (f := 114) rfl ?_); refine goesL_ (some 19) rfl rfl Try.func114 (by kernel_rfl) rfl #[.slice A0_2 l0_2.length c0_2, .slice A1_2 l1_2.length c1_2] rfl zm ?_; (with_reducible refine (laws_eqRowS.calls k _ _ l0_2 _ _ l1_2 true _ ?side1 ?side2 ?side3 ?side4 A5.out).mono ?_); (case side1 => exact zq (Kd.C_below HR0_2.out HB.out)); (case side2 => exact HC0_2.out); (case side3 => exact zq (Kd.C_below HR1_2.out HB.out)); (case side4 => exact HC1_2.out); rintro e w12 ⟨rfl, hb⟩; refine ⟨_, rfl, ?_⟩; replace BK299 := am (blk_below (g := gb299) (o := .cells #[.int .i64 a0_0, .int .i64 a0_1, .slice A0_2 l0_2.length c0_2] 73 (0, 0)) (zk BK299.out) hb); replace BK300 := am (blk_below (g := gb300) (o := .cells #[.int .i64 a1_0, .int .i64 a1_1, .slice A1_2 l1_2.length c1_2] 73 (0, 0)) (zk BK300.out) hb); replace HB := am (below_step zw hb); (try clear hb)))
    go_ret
    exact ⟨by first | rfl | (simp [errW_none, errW_some] <;> rfl) | (simp [*, errW_none, errW_some] <;> rfl), zw⟩
   ·replace c6 := Bool.eq_false_iff.mpr c6
    subst c6
    rw [if_neg nofun] at H
    obtain rfl := Option.some.inj H
    go_enter Try.func54, Try.ntmps54
    go_wp2_with (first | ((with_reducible refine gate_dst (N := 2) rfl ?_); refine box_event ?hg (N := 2) ?hd (cs := #[.int .i64 a0_0, .int .i64 a0_1, .slice A0_2 l0_2.length c0_2]) (t := 73) ?hr ?_; (case hd => rfl); (case hg => rfl); (case hr => first | (go_simp; done) | (go_simp; rfl)); intro gb299 hg w13 hbox hb; have BK299 := am (hbox); have GW299 := am ((by rw [hg]; exact (below_size zb) : w.heap.size ≤ gb299)); have GE299 := am ((by rw [hg]; exact (below_size zb) : w.heap.size ≤ gb299)); replace HB := am (below_step zb hb); clear hb hbox hg) | ((with_reducible refine gate_dst (N := 3) rfl ?_); refine box_event ?hg (N := 3) ?hd (cs := #[.int .i64 a1_0, .int .i64 a1_1, .slice A1_2 l1_2.length c1_2]) (t := 73) ?hr ?_; (case hd => rfl); (case hg => rfl); (case hr => first | (go_simp; done) | (go_simp; rfl)); intro gb300 hg w14 hbox hb; have BK300 := am (hbox); have GW300 := am ((by rw [hg]; exact (below_size zw) : w.heap.size ≤ gb300)); have GE300 := am ((by rw [hg]; exact (below_size zw) : w.heap.size ≤ gb300)); replace HB := am (below_step zw hb); have NB299_300 := am ((by rw [hg]; exact Nat.ne_of_lt (blk_lt (g := gb299) (o := .cells #[.int .i64 a0_0, .int .i64 a0_1, .slice A0_2 l0_2.length c0_2] 73 (0, 0)) (zk BK299.out)) : gb299 ≠ gb300)); have NB300_299 := am ((by rw [hg]; exact Nat.ne_of_gt (blk_lt (g := gb299) (o := .cells #[.int .i64 a0_0, .int .i64 a0_1, .slice A0_2 l0_2.length c0_2] 73 (0, 0)) (zk BK299.out)) : gb300 ≠ gb299)); replace BK299 := am (blk_below (g := gb299) (o := .cells #[.int .i64 a0_0, .int .i64 a0_1, .slice A0_2 l0_2.length c0_2] 73 (0, 0)) (zk BK299.out) hb); clear hb hbox hg; have hnb15 := NB299_300.out; have hnc15 := NB300_299.out; obtain ⟨hcz16_0, hcz16_1, hcz16_2⟩ := cz3 BK299.out; obtain ⟨hfz16_0, hfz16_1, hfz16_2⟩ := fz3 BK299.out; obtain ⟨hcz17_0, hcz17_1, hcz17_2⟩ := cz3 BK300.out; obtain ⟨hfz17_0, hfz17_1, hfz17_2⟩ := fz3 BK300.out) | ((with_reducible refine gateC (f := 114) rfl ?_); refine goesL_ (some 19) rfl rfl Try.func114 (by kernel_rfl) rfl #[.slice A0_2 l0_2.length c0_2, .slice A1_2 l1_2.length c1_2] rfl zm ?_; (with_reducible refine (laws_eqRowS.calls k _ _ l0_2 _ _ l1_2 false _ ?side1 ?side2 ?side3 ?side4 A5.out).mono ?_); (case side1 => exact zq (Kd.C_below HR0_2.out HB.out)); (case side2 => exact HC0_2.out); (case side3 => exact zq (Kd.C_below HR1_2.out HB.out)); (case side4 => exact HC1_2.out); rintro e w18 ⟨rfl, hb⟩; refine ⟨_, rfl, ?_⟩; replace BK299 := am (blk_below (g := gb299) (o := .cells #[.int .i64 a0_0, .int .i64 a0_1, .slice A0_2 l0_2.length c0_2] 73 (0, 0)) (zk BK299.out) hb); replace BK300 := am (blk_below (g := gb300) (o := .cells #[.int .i64 a1_0, .int .i64 a1_1, .slice A1_2 l1_2.length c1_2] 73 (0, 0)) (zk BK300.out) hb); replace HB := am (below_step zw hb); (try clear hb)))
    go_ret
    exact ⟨by first | rfl | (simp [errW_none, errW_some] <;> rfl) | (simp [*, errW_none, errW_some] <;> rfl), zw⟩
  ·rw [if_neg c4] at H
   have c4b0 : (a0_1 == a1_1) = false := beq_eq_false_iff_ne.mpr c4
   have c4b1 : (a0_1 != a1_1) = true := bne_iff_ne.mpr c4
   obtain rfl := Option.some.inj H
   go_enter Try.func54, Try.ntmps54
   go_wp2_with (first | ((with_reducible refine gate_dst (N := 2) rfl ?_); refine box_event ?hg (N := 2) ?hd (cs := #[.int .i64 a0_0, .int .i64 a0_1, .slice A0_2 l0_2.length c0_2]) (t := 73) ?hr ?_; (case hd => rfl); (case hg => rfl); (case hr => first | (go_simp; done) | (go_simp; rfl)); intro gb299 hg w19 hbox hb; have BK299 := am (hbox); have GW299 := am ((by rw [hg]; exact (below_size zb) : w.heap.size ≤ gb299)); have GE299 := am ((by rw [hg]; exact (below_size zb) : w.heap.size ≤ gb299)); replace HB := am (below_step zb hb); clear hb hbox hg) | ((with_reducible refine gate_dst (N := 3) rfl ?_); refine box_event ?hg (N := 3) ?hd (cs := #[.int .i64 a1_0, .int .i64 a1_1, .slice A1_2 l1_2.length c1_2]) (t := 73) ?hr ?_; (case hd => rfl); (case hg => rfl); (case hr => first | (go_simp; done) | (go_simp; rfl)); intro gb300 hg w20 hbox hb; have BK300 := am (hbox); have GW300 := am ((by rw [hg]; exact (below_size zw) : w.heap.size ≤ gb300)); have GE300 := am ((by rw [hg]; exact (below_size zw) : w.heap.size ≤ gb300)); replace HB := am (below_step zw hb); have NB299_300 := am ((by rw [hg]; exact Nat.ne_of_lt (blk_lt (g := gb299) (o := .cells #[.int .i64 a0_0, .int .i64 a0_1, .slice A0_2 l0_2.length c0_2] 73 (0, 0)) (zk BK299.out)) : gb299 ≠ gb300)); have NB300_299 := am ((by rw [hg]; exact Nat.ne_of_gt (blk_lt (g := gb299) (o := .cells #[.int .i64 a0_0, .int .i64 a0_1, .slice A0_2 l0_2.length c0_2] 73 (0, 0)) (zk BK299.out)) : gb300 ≠ gb299)); replace BK299 := am (blk_below (g := gb299) (o := .cells #[.int .i64 a0_0, .int .i64 a0_1, .slice A0_2 l0_2.length c0_2] 73 (0, 0)) (zk BK299.out) hb); clear hb hbox hg; have hnb21 := NB299_300.out; have hnc21 := NB300_299.out; obtain ⟨hcz22_0, hcz22_1, hcz22_2⟩ := cz3 BK299.out; obtain ⟨hfz22_0, hfz22_1, hfz22_2⟩ := fz3 BK299.out; obtain ⟨hcz23_0, hcz23_1, hcz23_2⟩ := cz3 BK300.out; obtain ⟨hfz23_0, hfz23_1, hfz23_2⟩ := fz3 BK300.out))
   go_ret
   exact ⟨by first | rfl | (simp [errW_none, errW_some] <;> rfl) | (simp [*, errW_none, errW_some] <;> rfl), zw⟩
 ·rw [if_neg c3] at H
  have c3b0 : (a0_0 == a1_0) = false := beq_eq_false_iff_ne.mpr c3
  have c3b1 : (a0_0 != a1_0) = true := bne_iff_ne.mpr c3
  obtain rfl := Option.some.inj H
  go_enter Try.func54, Try.ntmps54
  go_wp2_with (first | ((with_reducible refine gate_dst (N := 2) rfl ?_); refine box_event ?hg (N := 2) ?hd (cs := #[.int .i64 a0_0, .int .i64 a0_1, .slice A0_2 l0_2.length c0_2]) (t := 73) ?hr ?_; (case hd => rfl); (case hg => rfl); (case hr => first | (go_simp; done) | (go_simp; rfl)); intro gb299 hg w24 hbox hb; have BK299 := am (hbox); have GW299 := am ((by rw [hg]; exact (below_size zb) : w.heap.size ≤ gb299)); have GE299 := am ((by rw [hg]; exact (below_size zb) : w.heap.size ≤ gb299)); replace HB := am (below_step zb hb); clear hb hbox hg) | ((with_reducible refine gate_dst (N := 3) rfl ?_); refine box_event ?hg (N := 3) ?hd (cs := #[.int .i64 a1_0, .int .i64 a1_1, .slice A1_2 l1_2.length c1_2]) (t := 73) ?hr ?_; (case hd => rfl); (case hg => rfl); (case hr => first | (go_simp; done) | (go_simp; rfl)); intro gb300 hg w25 hbox hb; have BK300 := am (hbox); have GW300 := am ((by rw [hg]; exact (below_size zw) : w.heap.size ≤ gb300)); have GE300 := am ((by rw [hg]; exact (below_size zw) : w.heap.size ≤ gb300)); replace HB := am (below_step zw hb); have NB299_300 := am ((by rw [hg]; exact Nat.ne_of_lt (blk_lt (g := gb299) (o := .cells #[.int .i64 a0_0, .int .i64 a0_1, .slice A0_2 l0_2.length c0_2] 73 (0, 0)) (zk BK299.out)) : gb299 ≠ gb300)); have NB300_299 := am ((by rw [hg]; exact Nat.ne_of_gt (blk_lt (g := gb299) (o := .cells #[.int .i64 a0_0, .int .i64 a0_1, .slice A0_2 l0_2.length c0_2] 73 (0, 0)) (zk BK299.out)) : gb300 ≠ gb299)); replace BK299 := am (blk_below (g := gb299) (o := .cells #[.int .i64 a0_0, .int .i64 a0_1, .slice A0_2 l0_2.length c0_2] 73 (0, 0)) (zk BK299.out) hb); clear hb hbox hg; have hnb26 := NB299_300.out; have hnc26 := NB300_299.out; obtain ⟨hcz27_0, hcz27_1, hcz27_2⟩ := cz3 BK299.out; obtain ⟨hfz27_0, hfz27_1, hfz27_2⟩ := fz3 BK299.out; obtain ⟨hcz28_0, hcz28_1, hcz28_2⟩ := cz3 BK300.out; obtain ⟨hfz28_0, hfz28_1, hfz28_2⟩ := fz3 BK300.out))
  go_ret
  exact ⟨by first | rfl | (simp [errW_none, errW_some] <;> rfl) | (simp [*, errW_none, errW_some] <;> rfl), zw⟩

def laws_eqGroupS.l0 : Nat → List (S73) → List (S73) → Int → Option (Bool)
 | 0, _, _, _ => none
 | k + 1, x0, x1, x5 => if x5 < (x0.length : Int) then (if 0 ≤ x5 then (if x5 < (x1.length : Int) then ((laws_eqGroup.f k ((T73 x0 x5).f0) ((T73 x0 x5).f1) ((T73 x0 x5).f2) ((T73 x1 x5).f0) ((T73 x1 x5).f1) ((T73 x1 x5).f2)).bind fun t304 => (if t304 = true then (laws_eqGroupS.l0 k x0 x1 (wrap64 (x5 + 1))) else (some false))) else (none)) else (none)) else (some true)
def laws_eqGroupS.f (k : Nat) (l0 : List (S73)) (l1 : List (S73)) : Option (Bool) := if (l0.length : Int) = (l1.length : Int) then (laws_eqGroupS.l0 k l0 l1 0) else (some false)
def laws_eqGroupS.T6 : Bool × List (List Nat × List Nat) := (true, [([], []), ([], []), ([0, 1], [0, 1]), ([2], [2]), ([], []), ([], []), ([4, 5], [4, 5]), ([6], [6]), ([3, 7], [3, 7]), ([8], [8])])
def laws_eqGroupS.B6 : List Nat := [0, 0, 3, 7, 0, 0, 48, 112, 255, 511]
theorem laws_eqGroupS.tab6 : rtab .any (opsOf Try.f43 6) = laws_eqGroupS.T6 := by kernel_rfl
theorem laws_eqGroupS.bits6 : waitsOk laws_eqGroupS.T6.2 laws_eqGroupS.B6 = true := by kernel_rfl
set_option maxHeartbeats 8000000 in
set_option maxRecDepth 100000 in
theorem laws_eqGroupS.calls (k : Nat) (A0 : Option Addr) (c0 : Nat) (l0 : List (S73)) (A1 : Option Addr) (c1 : Nat) (l1 : List (S73)) (r : Bool) (w : World) (hr0 : Kd.C k73 w A0 l0.length l0) (hc0 : l0.length ≤ c0) (hr1 : Kd.C k73 w A1 l1.length l1) (hc1 : l1.length ≤ c1) (h : laws_eqGroupS.f k l0 l1 = some r) :
  Calls Try.prog 43 #[.slice A0 l0.length c0, .slice A1 l1.length c1] w fun e w' => e = .returned (.bool r) ∧ Below w.heap.size w w' := by
 have hu73 := Try.underlying73
 have HR0 := am hr0
 have HC0 := am hc0
 clear hr0 hc0
 have HR1 := am hr1
 have HC1 := am hc1
 clear hr1 hc1
 have HB := am (Below.refl w.heap.size w)
 have H := h
 clear h
 unfold laws_eqGroupS.f at H
 by_cases c3 : (l0.length : Int) = (l1.length : Int)
 ·rw [if_pos c3] at H
  have c3b0 : ((l0.length : Int) == (l1.length : Int)) = true := beq_iff_eq.mpr c3
  have c3b1 : ((l0.length : Int) != (l1.length : Int)) = false := bne_eq_false_iff_eq.mpr c3
  have c3b2 : (l0.length == l1.length) = true := by first | simpa using c3 | (simp at c3 ⊢; omega)
  clear c3
  have H' := am H
  clear H
  go_enter Try.func43, Try.ntmps43
  go_wp2
  go_loopg [5] k (fun kq v5 w' => ∃ (x5_1 : Int), v5 = .int .i64 x5_1 ∧ Aside0 (laws_eqGroupS.l0 kq l0 l1 x5_1 = some r) ∧ Aside0 (kq ≤ k) ∧ Aside0 (Below w.heap.size w w'))
  case atStart => exact ⟨(0), zf, H', ⟨Nat.le_refl _⟩, ⟨zb⟩⟩
  case round =>
   clear H'
   try clear c1
   try clear p2
   try clear c3
   try clear c3b0
   try clear c3b1
   try clear c3b2
   obtain ⟨x5_1, rfl, HA, HK1, HB⟩ := hrel
   cases gk with
   | zero => exact absurd HA.out (by simp [laws_eqGroupS.l0])
   | succ k1 =>
    have H := HA.out
    clear HA
    simp only [laws_eqGroupS.l0] at H
    by_cases c4 : x5_1 < (l0.length : Int)
    ·rw [if_pos c4] at H
     have c4b0 : decide (x5_1 < (l0.length : Int)) = true := decide_eq_true c4
     clear c4
     obtain ⟨c5, H⟩ := itn H
     have c5b0 := decide_eq_true c5
     clear c5
     obtain ⟨c6, H⟩ := itn H
     have c6b0 := decide_eq_true c6
     clear c6
     replace H := Option.bind_eq_some_iff.mp H
     obtain ⟨t304, A70, H⟩ := H
     replace H : (if t304 = true then (laws_eqGroupS.l0 k1 l0 l1 (wrap64 (x5_1 + 1))) else (some false)) = some r := H
     have A7 := am A70
     clear A70
     by_cases c8 : t304 = true
     ·subst c8
      rw [if_pos rfl] at H
      have H' := am H
      clear H
      try go_wp2
      replace HB := am (below_drew1 HB.out)
      have p302 : 0 ≤ (x5_1 : Int) := oa
      have q302 : x5_1 < (l0.length : Int) := oa
      obtain ⟨ad302, A302_2, c302_2, e302, hx302_0, hx302_1, hx302_2, hl302_2, hi302_2⟩ := at_T73 HR0.out x5_1 p302 q302
      have hw302_2 := hx302_2
      have hw302_1 := hx302_1
      have hw302_0 := hx302_0
      cases e302
      replace hx302_0 := bc HB.out hx302_0
      replace hx302_1 := bc HB.out hx302_1
      replace hx302_2 := bc HB.out hx302_2
      have HR302_2 := am hi302_2
      have HC302_2 := am hl302_2
      clear hi302_2 hl302_2
      replace p302 := eq_true p302
      replace q302 := eq_true q302
      have p303 : 0 ≤ (x5_1 : Int) := oa
      have q303 : x5_1 < (l1.length : Int) := oa
      obtain ⟨ad303, A303_2, c303_2, e303, hx303_0, hx303_1, hx303_2, hl303_2, hi303_2⟩ := at_T73 HR1.out x5_1 p303 q303
      have hw303_2 := hx303_2
      have hw303_1 := hx303_1
      have hw303_0 := hx303_0
      cases e303
      replace hx303_0 := bc HB.out hx303_0
      replace hx303_1 := bc HB.out hx303_1
      replace hx303_2 := bc HB.out hx303_2
      have HR303_2 := am hi303_2
      have HC303_2 := am hl303_2
      clear hi303_2 hl303_2
      replace p303 := eq_true p303
      replace q303 := eq_true q303
      refine start_ (n := 10) (S := fun w' => w'.cell? (ad302.add ((x5_1).toNat * 3)) = some (.int .i64 ((T73 l0 x5_1).f0)) ∧ w'.cell? ⟨(ad302.add ((x5_1).toNat * 3)).block, (ad302.add ((x5_1).toNat * 3)).off + 1, none⟩ = some (.int .i64 ((T73 l0 x5_1).f1)) ∧ w'.cell? ⟨(ad302.add ((x5_1).toNat * 3)).block, (ad302.add ((x5_1).toNat * 3)).off + 2, none⟩ = some (.slice A302_2 ((T73 l0 x5_1).f2).length c302_2) ∧ w'.cell? (ad303.add ((x5_1).toNat * 3)) = some (.int .i64 ((T73 l1 x5_1).f0)) ∧ w'.cell? ⟨(ad303.add ((x5_1).toNat * 3)).block, (ad303.add ((x5_1).toNat * 3)).off + 1, none⟩ = some (.int .i64 ((T73 l1 x5_1).f1)) ∧ w'.cell? ⟨(ad303.add ((x5_1).toNat * 3)).block, (ad303.add ((x5_1).toNat * 3)).off + 2, none⟩ = some (.slice A303_2 ((T73 l1 x5_1).f2).length c303_2)) (ds := []) #[O,O,O,O,O,O,O,O,O,O] (by kernel_rfl) rfl rfl ⟨((HB.out.cell (World.block_lt_of_cell? w _ hw302_0)).trans hw302_0), ((HB.out.cell (World.block_lt_of_cell? w _ hw302_1)).trans hw302_1), ((HB.out.cell (World.block_lt_of_cell? w _ hw302_2)).trans hw302_2), ((HB.out.cell (World.block_lt_of_cell? w _ hw303_0)).trans hw303_0), ((HB.out.cell (World.block_lt_of_cell? w _ hw303_1)).trans hw303_1), ((HB.out.cell (World.block_lt_of_cell? w _ hw303_2)).trans hw303_2)⟩ (fun hHeld => ?_); refine with_tabW laws_eqGroupS.tab6 laws_eqGroupS.bits6 (fun HT_ HW_ => ?_)
      generalize wr.drew = w9 at HB HR302_2 HR303_2 hx302_0 hx302_1 hx302_2 hx303_0 hx303_1 hx303_2 hHeld ⊢
      refine pu 0 (some 17) ?_
      refine pu 1 (some 18) ?_
      refine pu 2 (some 19) ?_
      refine pu 4 (some 21) ?_
      refine pu 5 (some 22) ?_
      refine pu 6 (some 23) ?_
      refine ta 3 (some 20) ?_
      refine ta 7 (some 24) ?_
      refine one_ (i := 8) (N := some 25) #[Y,Y,Y,Y,Y,Y,Y,Y,Y,O] rfl rfl (one_of HT_.out (by kernel_rfl)) (by decide) (fun K hK => ?_)
      refine goes_ Try.func54 (by kernel_rfl) rfl #[.agg #[.int .i64 ((T73 l0 x5_1).f0), .int .i64 ((T73 l0 x5_1).f1), .slice A302_2 ((T73 l0 x5_1).f2).length c302_2], .agg #[.int .i64 ((T73 l1 x5_1).f0), .int .i64 ((T73 l1 x5_1).f1), .slice A303_2 ((T73 l1 x5_1).f2).length c303_2]] (by rfl) rfl rfl zm ?_
      with_reducible refine (laws_eqGroup.calls k1 ((T73 l0 x5_1).f0) ((T73 l0 x5_1).f1) _ _ ((T73 l0 x5_1).f2) ((T73 l1 x5_1).f0) ((T73 l1 x5_1).f1) _ _ ((T73 l1 x5_1).f2) true _ ?side1 ?side2 ?side3 ?side4 A7.out).mono ?_
      (case side1 => exact zq (Kd.C_below HR302_2.out HB.out))
      (case side2 => exact HC302_2.out)
      (case side3 => exact zq (Kd.C_below HR303_2.out HB.out))
      (case side4 => exact HC303_2.out)
      rintro e w10 ⟨rfl, hb⟩
      refine ⟨_, rfl, ?_⟩
      replace HB := am (below_step zb hb)
      (try clear hb)
      (try clear hb2)
      (try clear hk)
      (try clear hi)
      refine hK.out _ _ ⟨((HB.out.cell (World.block_lt_of_cell? w _ hw302_0)).trans hw302_0), ((HB.out.cell (World.block_lt_of_cell? w _ hw302_1)).trans hw302_1), ((HB.out.cell (World.block_lt_of_cell? w _ hw302_2)).trans hw302_2), ((HB.out.cell (World.block_lt_of_cell? w _ hw303_0)).trans hw303_0), ((HB.out.cell (World.block_lt_of_cell? w _ hw303_1)).trans hw303_1), ((HB.out.cell (World.block_lt_of_cell? w _ hw303_2)).trans hw303_2)⟩ (fun hHeld => ?_)
      clear hK K
      refine norm_ (a' := ?_) ?_ ?_
      rotate_left
      ·show Act.put _ (some 25) _ = _
       simp only [Act.put,qa,qb,qc,i64_w,i32_w]
       rfl
      refine pu 9 (some 26) ?_
      refine done_ (done_of HT_.out (by kernel_rfl)) ?_
      try go_wp2
      go_roundg k1
      case measure => have := HK1.out; omega
      case rel => exact ⟨(wrap64 (x5_1 + 1)), zf, H', ⟨by have := HK1.out; omega⟩, ⟨zb⟩⟩
     ·replace c8 := Bool.eq_false_iff.mpr c8
      subst c8
      rw [if_neg nofun] at H
      obtain rfl := Option.some.inj H
      try go_wp2
      replace HB := am (below_drew1 HB.out)
      have p302 : 0 ≤ (x5_1 : Int) := oa
      have q302 : x5_1 < (l0.length : Int) := oa
      obtain ⟨ad302, A302_2, c302_2, e302, hx302_0, hx302_1, hx302_2, hl302_2, hi302_2⟩ := at_T73 HR0.out x5_1 p302 q302
      have hw302_2 := hx302_2
      have hw302_1 := hx302_1
      have hw302_0 := hx302_0
      cases e302
      replace hx302_0 := bc HB.out hx302_0
      replace hx302_1 := bc HB.out hx302_1
      replace hx302_2 := bc HB.out hx302_2
      have HR302_2 := am hi302_2
      have HC302_2 := am hl302_2
      clear hi302_2 hl302_2
      replace p302 := eq_true p302
      replace q302 := eq_true q302
      have p303 : 0 ≤ (x5_1 : Int) := oa
      have q303 : x5_1 < (l1.length : Int) := oa
      obtain ⟨ad303, A303_2, c303_2, e303, hx303_0, hx303_1, hx303_2, hl303_2, hi303_2⟩ := at_T73 HR1.out x5_1 p303 q303
      have hw303_2 := hx303_2
      have hw303_1 := hx303_1
      have hw303_0 := hx303_0
      cases e303
      replace hx303_0 := bc HB.out hx303_0
      replace hx303_1 := bc HB.out hx303_1
      replace hx303_2 := bc HB.out hx303_2
      have HR303_2 := am hi303_2
      have HC303_2 := am hl303_2
      clear hi303_2 hl303_2
      replace p303 := eq_true p303
      replace q303 := eq_true q303
      refine start_ (n := 10) (S := fun w' => w'.cell? (ad302.add ((x5_1).toNat * 3)) = some (.int .i64 ((T73 l0 x5_1).f0)) ∧ w'.cell? ⟨(ad302.add ((x5_1).toNat * 3)).block, (ad302.add ((x5_1).toNat * 3)).off + 1, none⟩ = some (.int .i64 ((T73 l0 x5_1).f1)) ∧ w'.cell? ⟨(ad302.add ((x5_1).toNat * 3)).block, (ad302.add ((x5_1).toNat * 3)).off + 2, none⟩ = some (.slice A302_2 ((T73 l0 x5_1).f2).length c302_2) ∧ w'.cell? (ad303.add ((x5_1).toNat * 3)) = some (.int .i64 ((T73 l1 x5_1).f0)) ∧ w'.cell? ⟨(ad303.add ((x5_1).toNat * 3)).block, (ad303.add ((x5_1).toNat * 3)).off + 1, none⟩ = some (.int .i64 ((T73 l1 x5_1).f1)) ∧ w'.cell? ⟨(ad303.add ((x5_1).toNat * 3)).block, (ad303.add ((x5_1).toNat * 3)).off + 2, none⟩ = some (.slice A303_2 ((T73 l1 x5_1).f2).length c303_2)) (ds := []) #[O,O,O,O,O,O,O,O,O,O] (by kernel_rfl) rfl rfl ⟨((HB.out.cell (World.block_lt_of_cell? w _ hw302_0)).trans hw302_0), ((HB.out.cell (World.block_lt_of_cell? w _ hw302_1)).trans hw302_1), ((HB.out.cell (World.block_lt_of_cell? w _ hw302_2)).trans hw302_2), ((HB.out.cell (World.block_lt_of_cell? w _ hw303_0)).trans hw303_0), ((HB.out.cell (World.block_lt_of_cell? w _ hw303_1)).trans hw303_1), ((HB.out.cell (World.block_lt_of_cell? w _ hw303_2)).trans hw303_2)⟩ (fun hHeld => ?_); refine with_tabW laws_eqGroupS.tab6 laws_eqGroupS.bits6 (fun HT_ HW_ => ?_)
      generalize wr.drew = w11 at HB HR302_2 HR303_2 hx302_0 hx302_1 hx302_2 hx303_0 hx303_1 hx303_2 hHeld ⊢
      refine pu 0 (some 17) ?_
      refine pu 1 (some 18) ?_
      refine pu 2 (some 19) ?_
      refine pu 4 (some 21) ?_
      refine pu 5 (some 22) ?_
      refine pu 6 (some 23) ?_
      refine ta 3 (some 20) ?_
      refine ta 7 (some 24) ?_
      refine one_ (i := 8) (N := some 25) #[Y,Y,Y,Y,Y,Y,Y,Y,Y,O] rfl rfl (one_of HT_.out (by kernel_rfl)) (by decide) (fun K hK => ?_)
      refine goes_ Try.func54 (by kernel_rfl) rfl #[.agg #[.int .i64 ((T73 l0 x5_1).f0), .int .i64 ((T73 l0 x5_1).f1), .slice A302_2 ((T73 l0 x5_1).f2).length c302_2], .agg #[.int .i64 ((T73 l1 x5_1).f0), .int .i64 ((T73 l1 x5_1).f1), .slice A303_2 ((T73 l1 x5_1).f2).length c303_2]] (by rfl) rfl rfl zm ?_
      with_reducible refine (laws_eqGroup.calls k1 ((T73 l0 x5_1).f0) ((T73 l0 x5_1).f1) _ _ ((T73 l0 x5_1).f2) ((T73 l1 x5_1).f0) ((T73 l1 x5_1).f1) _ _ ((T73 l1 x5_1).f2) false _ ?side1 ?side2 ?side3 ?side4 A7.out).mono ?_
      (case side1 => exact zq (Kd.C_below HR302_2.out HB.out))
      (case side2 => exact HC302_2.out)
      (case side3 => exact zq (Kd.C_below HR303_2.out HB.out))
      (case side4 => exact HC303_2.out)
      rintro e w12 ⟨rfl, hb⟩
      refine ⟨_, rfl, ?_⟩
      replace HB := am (below_step zb hb)
      (try clear hb)
      (try clear hb2)
      (try clear hk)
      (try clear hi)
      refine hK.out _ _ ⟨((HB.out.cell (World.block_lt_of_cell? w _ hw302_0)).trans hw302_0), ((HB.out.cell (World.block_lt_of_cell? w _ hw302_1)).trans hw302_1), ((HB.out.cell (World.block_lt_of_cell? w _ hw302_2)).trans hw302_2), ((HB.out.cell (World.block_lt_of_cell? w _ hw303_0)).trans hw303_0), ((HB.out.cell (World.block_lt_of_cell? w _ hw303_1)).trans hw303_1), ((HB.out.cell (World.block_lt_of_cell? w _ hw303_2)).trans hw303_2)⟩ (fun hHeld => ?_)
      clear hK K
      refine norm_ (a' := ?_) ?_ ?_
      rotate_left
      ·show Act.put _ (some 25) _ = _
       simp only [Act.put,qa,qb,qc,i64_w,i32_w]
       rfl
      refine pu 9 (some 26) ?_
      refine done_ (done_of HT_.out (by kernel_rfl)) ?_
      try go_wp2
      go_ret
      exact ⟨by first | rfl | (simp [errW_none, errW_some] <;> rfl) | (simp [*, errW_none, errW_some] <;> rfl), zb⟩
    ·rw [if_neg c4] at H
     have c4b0 : decide (x5_1 < (l0.length : Int)) = false := decide_eq_false c4
     clear c4
     obtain rfl := Option.some.inj H
     go_wp2
     go_ret
     exact ⟨by first | rfl | (simp [errW_none, errW_some] <;> rfl) | (simp [*, errW_none, errW_some] <;> rfl), zb⟩
 ·rw [if_neg c3] at H
  have c3b0 : ((l0.length : Int) == (l1.length : Int)) = false := beq_eq_false_iff_ne.mpr c3
  have c3b1 : ((l0.length : Int) != (l1.length : Int)) = true := bne_iff_ne.mpr c3
  have c3b2 : (l0.length == l1.length) = false := by first | simpa using c3 | (simp at c3 ⊢; omega)
  obtain rfl := Option.some.inj H
  go_enter Try.func43, Try.ntmps43
  go_wp2
  go_ret
  exact ⟨by first | rfl | (simp [errW_none, errW_some] <;> rfl) | (simp [*, errW_none, errW_some] <;> rfl), zb⟩
end Go.Proofs.Ytmcldkobejhaeaa.My
namespace Go.Proofs.Ytmcldkobejhaeaa.Pl
open Go.RowKit Go.Proofs.YtmcldkobejhaeaaW.PrintWords Go.Proofs.YtmcldkobejhaeaaW.PrintLast Go.Proofs.Ytmcldkobejhaeaa.My
set_option linter.unusedVariables false
set_option linter.unusedSimpArgs false
abbrev LG := S68
abbrev IG := S73
def toG (x : LG) : IG := ⟨x.f0, x.f1, x.f2.map toR⟩
def FitG (l : List LG) : Prop := l.length ≤ 9223372036854775807 ∧ ∀ x ∈ l, Wint x.f0 ∧ Wint x.f1 ∧ FitR x.f2
def szG (l : List LG) : Nat := l.length + (l.map fun x => szR x.f2).sum
theorem fitG_of_wl {l : List LG} (h : WL W68 l) : FitG l := by
  refine ⟨h.1, fun x hx => ?_⟩
  obtain ⟨h0, h1, h2⟩ := h.2 x hx
  exact ⟨h0, h1, fitR_of_wl h2⟩
theorem sumG_drop (l : List LG) (i : Nat) (h : i < l.length) : ((l.drop i).map fun x => szR x.f2).sum = szR l[i].f2 + ((l.drop (i + 1)).map fun x => szR x.f2).sum := by
  rw [List.drop_eq_getElem_cons h, List.map_cons, List.sum_cons]
theorem sumG_mem (l : List LG) (x : LG) (h : x ∈ l) : szR x.f2 ≤ szG l := by
  unfold szG
  induction l with
  | nil => simp at h
  | cons a l ih =>
    simp only [List.map_cons, List.sum_cons, List.length_cons]
    rcases List.mem_cons.1 h with rfl | h
    · omega
    · have := ih h
      omega
theorem rdLG (l : List LG) (i : Nat) (h : i < l.length) : T68 l (i : Int) = l[i] := getD_lt l _ i h
theorem rdIG (l : List IG) (i : Nat) (h : i < l.length) : T73 l (i : Int) = l[i] := getD_lt l _ i h
theorem szGroupS_l0 (l : List LG) (hf : FitG l) : ∀ d i (a : Int), i + d = l.length → 0 ≤ a → a ≤ 1048576 → ∃ r, Ev (fun k => laws_szGroupS.l0 k l a (i : Int)) r ∧ leftOf a (((l.drop i).map fun x => szR x.f2).sum) r := by
  intro d
  have hL := hf.1
  induction d with
  | zero =>
    intro i a hi h0 h1
    refine ⟨a, Ev.step (fun k => laws_szGroupS.l0.eq_2 ..) (ev_neg (by omega) (ev_some rfl)), .inr ⟨h0, ?_⟩⟩
    rw [List.drop_of_length_le (by omega)]
    simp
  | succ d ih =>
    intro i a hi h0 h1
    have hlt : i < l.length := by omega
    obtain ⟨q, hq, hm⟩ := szRowS_ev l[i].f2 (hf.2 _ (List.getElem_mem hlt)).2.2 a h0 h1
    rw [sumG_drop l i hlt]
    have hz : Ev (fun k => laws_szGroup.f k (T68 l (i : Int)).f0 (T68 l (i : Int)).f1 (T68 l (i : Int)).f2 a) (if q < 0 then -1 else q) := by
      rw [rdLG l i hlt]
      simp only [laws_szGroup.f]
      refine ev_bind hq (ev_ite (fun h => ev_some (by rw [if_pos h])) (fun h => ev_some (by rw [if_neg h])))
    by_cases h : q < 0
    · rw [if_pos h] at hz
      exact ⟨-1, Ev.step (fun k => laws_szGroupS.l0.eq_2 ..) (ev_pos (by omega) (ev_pos (by omega) (ev_bind hz (ev_pos (by omega) (ev_some rfl))))), .inl (by omega)⟩
    · rw [if_neg h] at hz
      obtain ⟨r, hr, hl⟩ := ih (i + 1) q (by omega) (by omega) (by rcases hm with hm | hm <;> omega)
      refine ⟨r, Ev.step (fun k => laws_szGroupS.l0.eq_2 ..) (ev_pos (by omega) (ev_pos (by omega) (ev_bind hz (ev_neg h ?_)))), ?_⟩
      · rw [wrap_succ i (by omega)]
        exact hr
      · rcases hl with hl | hl
        · exact .inl hl
        · rcases hm with hm | hm
          · omega
          · exact .inr (by omega)
theorem szGroupS_ev (l : List LG) (hf : FitG l) (a : Int) (h0 : 0 ≤ a) (h1 : a ≤ 1048576) : ∃ r, Ev (fun k => laws_szGroupS.f k l a) r ∧ leftOf a (szG l) r := by
  have hL := hf.1
  simp only [laws_szGroupS.f]
  rw [wrap64_id (by omega) (by omega)]
  by_cases h : a - (l.length : Int) < 0
  · exact ⟨-1, ev_pos h (ev_some rfl), .inl (by omega)⟩
  · obtain ⟨r, hr, hl⟩ := szGroupS_l0 l hf l.length 0 (a - (l.length : Int)) (by omega) (by omega) (by omega)
    refine ⟨r, ev_neg h hr, ?_⟩
    rcases hl with hl | hl
    · exact .inl hl
    · rw [List.drop_zero] at hl
      exact .inr (by unfold szG; omega)
def SmallG (l : List LG) : Prop := l.length ≤ 1048576 ∧ ∀ x ∈ l, x.f2.length ≤ 1048576
theorem smallG {l : List LG} (h : szG l ≤ 1048576) : SmallG l := by
  refine ⟨by unfold szG at h; omega, fun x hx => ?_⟩
  have := sumG_mem l x hx
  unfold szR at this
  omega
theorem toGroupS_l0 (l : List LG) (hs : SmallG l) : ∀ d i (o : List IG), i + d = l.length → o.length = l.length → o.take i = (l.map toG).take i → Ev (fun k => laws_toGroupS.l0 k l o (i : Int)) (l.map toG) := by
  intro d
  have hL := hs.1
  induction d with
  | zero =>
    intro i o hi hl ht
    refine Ev.step (fun k => laws_toGroupS.l0.eq_2 ..) (ev_neg (by omega) (ev_some ?_))
    rw [List.take_of_length_le (by omega), List.take_of_length_le (by rw [List.length_map]; omega)] at ht
    exact ht
  | succ d ih =>
    intro i o hi hl ht
    have hlt : i < l.length := by omega
    have hx : Ev (fun k => laws_toGroup.f k (T68 l (i : Int)).f0 (T68 l (i : Int)).f1 (T68 l (i : Int)).f2) (l[i].f0, l[i].f1, l[i].f2.map toR) := by
      rw [rdLG l i hlt]
      simp only [laws_toGroup.f]
      exact ev_bind (toRowS_ev _ (by have := hs.2 _ (List.getElem_mem hlt); omega)) (ev_some rfl)
    refine Ev.step (fun k => laws_toGroupS.l0.eq_2 ..) (ev_pos (by omega) (ev_pos (by omega) (ev_bind hx (ev_pos (by omega) ?_))))
    rw [wrap_succ i (by omega), Int.toNat_natCast]
    refine ih (i + 1) _ (by omega) (by rw [List.length_set]; exact hl) ?_
    rw [List.take_succ_eq_append_getElem (by rw [List.length_set]; omega), List.take_succ_eq_append_getElem (by rw [List.length_map]; exact hlt), List.getElem_set_self, List.take_set_of_le (Nat.le_refl i), ht, List.getElem_map]
    rfl
theorem toGroupS_ev (l : List LG) (hs : SmallG l) : Ev (fun k => laws_toGroupS.f k l) (l.map toG) := by
  have hL := hs.1
  simp only [laws_toGroupS.f]
  refine ev_pos (by omega) (ev_pos (by omega) ?_)
  exact toGroupS_l0 l hs l.length 0 _ (by omega) (by simp) rfl
theorem ig_ext {x y : IG} (h0 : x.f0 = y.f0) (h1 : x.f1 = y.f1) (h2 : x.f2 = y.f2) : x = y := by
  cases x; cases y; simp_all
def FitIG (l : List IG) : Prop := l.length ≤ 9223372036854775807 ∧ ∀ x ∈ l, (-9223372036854775808 ≤ x.f0 ∧ x.f0 ≤ 9223372036854775807) ∧ (-9223372036854775808 ≤ x.f1 ∧ x.f1 ≤ 9223372036854775807) ∧ FitIR x.f2
theorem fitIG_of {l : List LG} (h : FitG l) : FitIG (l.map toG) := by
  refine ⟨by rw [List.length_map]; exact h.1, fun x hx => ?_⟩
  obtain ⟨y, hy, rfl⟩ := List.mem_map.1 hx
  obtain ⟨h0, h1, h2⟩ := h.2 y hy
  exact ⟨wint_bounds h0, wint_bounds h1, fitIR_of h2⟩
instance : DecidableEq IG := fun x y => decidable_of_iff (x.f0 = y.f0 ∧ x.f1 = y.f1 ∧ x.f2 = y.f2) ⟨fun ⟨a, b, c⟩ => ig_ext a b c, fun h => by rw [h]; exact ⟨rfl, rfl, rfl⟩⟩
theorem eqGroup_ev (x y : IG) (h : FitIR x.f2) : Ev (fun k => laws_eqGroup.f k x.f0 x.f1 x.f2 y.f0 y.f1 y.f2) (decide (x = y)) := by
  simp only [laws_eqGroup.f]
  refine ev_ite (fun h0 => ev_ite (fun h1 => ev_bind (eqRowS_ev _ _ h.1) ?_) (fun h1 => ev_some ?_)) (fun h0 => ev_some ?_)
  · refine ev_ite (fun h2 => ev_some ?_) (fun h2 => ev_some ?_)
    · rw [ig_ext h0 h1 (of_decide_eq_true h2)]
      simp
    · have : ¬ x = y := fun e => h2 (by rw [e]; simp)
      simp [this]
  · have : ¬ x = y := fun e => h1 (by rw [e])
    simp [this]
  · have : ¬ x = y := fun e => h0 (by rw [e])
    simp [this]
theorem eqGroupS_l0 (a b : List IG) (hab : a.length = b.length) (hf : FitIG a) : ∀ d i, i + d = a.length → Ev (fun k => laws_eqGroupS.l0 k a b (i : Int)) (decide (a.drop i = b.drop i)) := by
  intro d
  have hL := hf.1
  induction d with
  | zero =>
    intro i hi
    refine Ev.step (fun k => laws_eqGroupS.l0.eq_2 ..) (ev_neg (by omega) (ev_some ?_))
    rw [List.drop_of_length_le (by omega), List.drop_of_length_le (by omega)]
    simp
  | succ d ih =>
    intro i hi
    have h1 : i < a.length := by omega
    have h2 : i < b.length := by omega
    refine Ev.step (fun k => laws_eqGroupS.l0.eq_2 ..) (ev_pos (by omega) (ev_pos (by omega) (ev_pos (by omega) ?_)))
    simp only [rdIG _ _ h1, rdIG _ _ h2, drop_cons a i h1, drop_cons b i h2]
    refine ev_bind (eqGroup_ev _ _ (hf.2 _ (List.getElem_mem h1)).2.2) (ev_ite (fun h => ?_) (fun h => ev_some ?_))
    · rw [wrap_succ i (by omega)]
      refine ev_to (ih (i + 1) (by omega)) ?_
      rw [of_decide_eq_true h]
      simp only [List.cons.injEq, true_and]
    · have : ¬ a[i] = b[i] := fun e => h (decide_eq_true e)
      simp only [List.cons.injEq, this, false_and, decide_false]
theorem eqGroupS_ev (a b : List IG) (hf : FitIG a) : Ev (fun k => laws_eqGroupS.f k a b) (decide (a = b)) := by
  simp only [laws_eqGroupS.f]
  refine ev_ite (fun h => ?_) (fun h => ev_some ?_)
  · exact eqGroupS_l0 a b (by omega) hf a.length 0 (by omega)
  · have : ¬ a = b := fun e => h (by rw [e])
    simp [this]
end Go.Proofs.Ytmcldkobejhaeaa.Pl
namespace Go.Proofs.Ytmcldkobejhaeaa.My
open Go.RowKit Go.Proofs.YtmcldkobejhaeaaW.PrintWords Go.Proofs.YtmcldkobejhaeaaW.PrintLast Go.Proofs.YtmcldkobejhaeaaW.PrintMore
attribute [local go_sem] max2_int min2_int max_two min_two max_three min_three max_four min_four
set_option linter.unusedVariables false
set_option linter.unusedSimpArgs false
def impl_goodGroups.l0 : Nat → List (S73) → List (S73) → Int → Int → Option (Bool)
 | 0, _, _, _, _ => none
 | k + 1, x0, x8, x9, x10 => if x10 < x9 then (if 0 ≤ x10 then (if x10 < (x8.length : Int) then ((impl_goodGroup.f k ((T73 x8 x10).f0) ((T73 x8 x10).f1) ((T73 x8 x10).f2)).bind fun t652 => (if t652 = true then (if x10 > 0 then (if 0 ≤ (wrap64 (x10 - 1)) then (if (wrap64 (x10 - 1)) < (x0.length : Int) then ((impl_Group_old.f k ((T73 x0 (wrap64 (x10 - 1))).f0) ((T73 x0 (wrap64 (x10 - 1))).f1) ((T73 x0 (wrap64 (x10 - 1))).f2)).bind fun t655 => (if ((T73 x8 x10).f0) < (wrap64 (((T73 x0 (wrap64 (x10 - 1))).f0) + (t655.length : Int))) then (some false) else ((impl_Group_fresh.f k ((T73 x0 (wrap64 (x10 - 1))).f0) ((T73 x0 (wrap64 (x10 - 1))).f1) ((T73 x0 (wrap64 (x10 - 1))).f2)).bind fun t660 => (if ((T73 x8 x10).f1) < (wrap64 (((T73 x0 (wrap64 (x10 - 1))).f1) + (t660.length : Int))) then (some false) else (impl_goodGroups.l0 k x0 x8 x9 (wrap64 (x10 + 1))))))) else (none)) else (none)) else (impl_goodGroups.l0 k x0 x8 x9 (wrap64 (x10 + 1)))) else (some false))) else (none)) else (none)) else (some true)
def impl_goodGroups.f (k : Nat) (l0 : List (S73)) : Option (Bool) := if (l0.length : Int) > 20 then (some false) else (impl_goodGroups.l0 k l0 l0 (l0.length : Int) 0)
def impl_goodGroups.T8 : Bool × List (List Nat × List Nat) := (true, [([], []), ([0], [0]), ([1], [1]), ([2], [2]), ([3, 2], [2, 3]), ([2], [2]), ([2], [2]), ([6, 2], [2, 6]), ([5, 7, 2], [2, 5, 7]), ([8, 2], [2, 8]), ([9, 2], [2, 9]), ([2], [2]), ([2], [2]), ([12, 2], [2, 12]), ([11, 13, 2], [2, 11, 13]), ([14, 2], [2, 14]), ([15, 2, 2], [2, 15]), ([16, 2], [2, 16]), ([10, 17, 2], [2, 10, 17]), ([4, 18, 2], [2, 4, 18]), ([19, 16, 2], [2, 19]), ([20], [20]), ([21, 20], [20, 21]), ([20], [20]), ([20], [20]), ([24, 20], [20, 24]), ([23, 25, 20], [20, 23, 25]), ([26, 20], [20, 26]), ([27, 20], [20, 27]), ([20], [20]), ([20], [20]), ([30, 20], [20, 30]), ([29, 31, 20], [20, 29, 31]), ([32, 20], [20, 32]), ([33, 20, 20], [20, 33]), ([34, 20], [20, 34]), ([28, 35, 20], [20, 28, 35]), ([22, 36, 20], [20, 22, 36]), ([20, 37, 2], [2, 20, 37]), ([2, 38], [2, 38])])
def impl_goodGroups.B8 : List Nat := [0, 1, 3, 7, 15, 7, 7, 71, 231, 487, 999, 7, 7, 4103, 14343, 30727, 63495, 129031, 262119, 524287, 1048575, 2097151, 4194303, 2097151, 2097151, 18874367, 60817407, 127926271, 262143999, 2097151, 2097151, 1075838975, 3760193535, 8055160831, 16645095423, 33824964607, 68713185279, 137438953471, 274877906943, 549755813887]
theorem impl_goodGroups.tab8 : rtab .any (opsOf Try.f117 8) = impl_goodGroups.T8 := by kernel_rfl
theorem impl_goodGroups.bits8 : waitsOk impl_goodGroups.T8.2 impl_goodGroups.B8 = true := by kernel_rfl
set_option maxHeartbeats 8000000 in
set_option maxRecDepth 100000 in
theorem impl_goodGroups.calls (k : Nat) (A0 : Option Addr) (c0 : Nat) (l0 : List (S73)) (r : Bool) (w : World) (hr0 : Kd.C k73 w A0 l0.length l0) (hc0 : l0.length ≤ c0) (h : impl_goodGroups.f k l0 = some r) :
  Calls Try.prog 117 #[.slice A0 l0.length c0] w fun e w' => e = .returned (.bool r) ∧ Below w.heap.size w w' := by
 have hu73 := Try.underlying73
 have HR0 := am hr0
 have HC0 := am hc0
 clear hr0 hc0
 have HB := am (Below.refl w.heap.size w)
 have H := h
 clear h
 unfold impl_goodGroups.f at H
 by_cases c2 : (l0.length : Int) > 20
 ·rw [if_pos c2] at H
  have c2b0 : decide (20 < (l0.length : Int)) = true := decide_eq_true c2
  have c2b1 : decide (20 < l0.length) = true := decide_eq_true (by omega)
  clear c2
  obtain rfl := Option.some.inj H
  go_enter Try.func117, Try.ntmps117
  go_wp2
  go_ret
  exact ⟨by rfl, by repeat ((with_reducible exact HB.out))⟩
 ·rw [if_neg c2] at H
  have c2b0 : decide (20 < (l0.length : Int)) = false := decide_eq_false c2
  have c2b1 : decide (20 < l0.length) = false := decide_eq_false (by omega)
  clear c2
  have H' := am H
  clear H
  go_enter Try.func117, Try.ntmps117
  go_wp2
  go_loopg [10] k (fun kq v10 w' => ∃ (x10_1 : Int), v10 = .int .i64 x10_1 ∧ Aside0 (impl_goodGroups.l0 kq l0 l0 (l0.length : Int) x10_1 = some r) ∧ Aside0 (kq ≤ k) ∧ Aside0 (Below w.heap.size w w'))
  case atStart => exact ⟨(0), zf, H', ⟨Nat.le_refl _⟩, ⟨by repeat ((with_reducible exact HB.out))⟩⟩
  case round =>
   clear H'
   try clear c2b0
   try clear c2b1
   obtain ⟨x10_1, rfl, HA, HK1, HB⟩ := hrel
   cases gk with
   | zero => exact absurd HA.out (by simp [impl_goodGroups.l0])
   | succ k1 =>
    have H := HA.out
    clear HA
    simp only [impl_goodGroups.l0] at H
    by_cases c3 : x10_1 < (l0.length : Int)
    ·rw [if_pos c3] at H
     have c3b0 : decide (x10_1 < (l0.length : Int)) = true := decide_eq_true c3
     clear c3
     obtain ⟨c4, H⟩ := itn H
     have c4b0 := decide_eq_true c4
     clear c4
     obtain ⟨c5, H⟩ := itn H
     have c5b0 := decide_eq_true c5
     clear c5
     replace H := Option.bind_eq_some_iff.mp H
     obtain ⟨t652, A60, H⟩ := H
     replace H : (if t652 = true then (if x10_1 > 0 then (if 0 ≤ (wrap64 (x10_1 - 1)) then (if (wrap64 (x10_1 - 1)) < (l0.length : Int) then ((impl_Group_old.f k1 ((T73 l0 (wrap64 (x10_1 - 1))).f0) ((T73 l0 (wrap64 (x10_1 - 1))).f1) ((T73 l0 (wrap64 (x10_1 - 1))).f2)).bind fun t655 => (if ((T73 l0 x10_1).f0) < (wrap64 (((T73 l0 (wrap64 (x10_1 - 1))).f0) + (t655.length : Int))) then (some false) else ((impl_Group_fresh.f k1 ((T73 l0 (wrap64 (x10_1 - 1))).f0) ((T73 l0 (wrap64 (x10_1 - 1))).f1) ((T73 l0 (wrap64 (x10_1 - 1))).f2)).bind fun t660 => (if ((T73 l0 x10_1).f1) < (wrap64 (((T73 l0 (wrap64 (x10_1 - 1))).f1) + (t660.length : Int))) then (some false) else (impl_goodGroups.l0 k1 l0 l0 (l0.length : Int) (wrap64 (x10_1 + 1))))))) else (none)) else (none)) else (impl_goodGroups.l0 k1 l0 l0 (l0.length : Int) (wrap64 (x10_1 + 1)))) else (some false)) = some r := H
     have A6 := am A60
     clear A60
     by_cases c7 : t652 = true
     ·subst c7
      rw [if_pos rfl] at H
      by_cases c8 : x10_1 > 0
      ·rw [if_pos c8] at H
       have c8b0 : decide (0 < x10_1) = true := decide_eq_true c8
       clear c8
       obtain ⟨ji9, hji9⟩ : ∃ j_ : Int, (wrap64 (x10_1 - 1)) = j_ := ⟨_, rfl⟩
       rw [hji9] at H
       have hji9w : (IntKind.i64.wrap (x10_1 - 1)) = ji9 := (i64_w _).trans hji9
       obtain ⟨c10, H⟩ := itn H
       have c10b0 := decide_eq_true c10
       clear c10
       obtain ⟨c11, H⟩ := itn H
       have c11b0 := decide_eq_true c11
       clear c11
       replace H := Option.bind_eq_some_iff.mp H
       obtain ⟨t655, A120, H⟩ := H
       replace H : (if ((T73 l0 x10_1).f0) < (wrap64 (((T73 l0 (ji9)).f0) + (t655.length : Int))) then (some false) else ((impl_Group_fresh.f k1 ((T73 l0 (ji9)).f0) ((T73 l0 (ji9)).f1) ((T73 l0 (ji9)).f2)).bind fun t660 => (if ((T73 l0 x10_1).f1) < (wrap64 (((T73 l0 (ji9)).f1) + (t660.length : Int))) then (some false) else (impl_goodGroups.l0 k1 l0 l0 (l0.length : Int) (wrap64 (x10_1 + 1)))))) = some r := H
       have A12 := am A120
       clear A120
       by_cases c13 : ((T73 l0 x10_1).f0) < (wrap64 (((T73 l0 (ji9)).f0) + (t655.length : Int)))
       ·rw [if_pos c13] at H
        have c13b0 : decide (((T73 l0 x10_1).f0) < (wrap64 (((T73 l0 (ji9)).f0) + (t655.length : Int)))) = true := decide_eq_true c13
        clear c13
        obtain rfl := Option.some.inj H
        have p650 : 0 ≤ (x10_1 : Int) := oa
        have q650 : x10_1 < (l0.length : Int) := oa
        obtain ⟨ad650, A650_2, c650_2, e650, hx650_0, hx650_1, hx650_2, hl650_2, hi650_2⟩ := at_T73 HR0.out x10_1 p650 q650
        cases e650
        replace hx650_0 := bc HB.out hx650_0
        replace hx650_1 := bc HB.out hx650_1
        replace hx650_2 := bc HB.out hx650_2
        have HR650_2 := am hi650_2
        have HC650_2 := am hl650_2
        clear hi650_2 hl650_2
        replace p650 := eq_true p650
        replace q650 := eq_true q650
        try go_wp2_with (first | ((with_reducible refine gate_dst (N := 4) rfl ?_); (try (refine gate_guard (by rfl) ?_; dsimp only)); refine box_event ?hg (N := 4) ?hd (cs := #[.int .i64 0, .int .i64 0, .slice none 0 0]) (t := 73) ?hr ?_; (case hd => rfl); (case hg => rfl); (case hr => (go_simp; done)); intro gb651 hg w14 hbox hb; have BK651 := am (hbox); have GW651 := am ((by rw [hg]; exact (below_size zb) : w.heap.size ≤ gb651)); have GE651 := am ((by rw [hg]; exact (below_size zb) : w.heap.size ≤ gb651)); replace HB := am (below_step zb hb); clear hb hbox hg; obtain ⟨hcz15_0, hcz15_1, hcz15_2⟩ := cz3 BK651.out; obtain ⟨hfz15_0, hfz15_1, hfz15_2⟩ := fz3 BK651.out) | ((with_reducible refine gateC (f := 111) rfl ?_); refine goesL_ (some 16) rfl rfl Try.func111 (by kernel_rfl) rfl #[.agg #[.int .i64 ((T73 l0 x10_1).f0), .int .i64 ((T73 l0 x10_1).f1), .slice A650_2 ((T73 l0 x10_1).f2).length c650_2]] rfl zm ?_; (with_reducible refine (impl_goodGroup.calls k1 ((T73 l0 x10_1).f0) ((T73 l0 x10_1).f1) _ _ ((T73 l0 x10_1).f2) true _ ?side1 ?side2 A6.out).mono ?_); (case side1 => exact Kd.C_below HR650_2.out (by repeat ((with_reducible first | exact HB.out | refine below_set ?_ GE651.out)))); (case side2 => exact HC650_2.out); rintro e w16 ⟨rfl, hb⟩; refine ⟨_, rfl, ?_⟩; replace BK651 := am (blk_below (g := gb651) (o := .cells #[.int .i64 ((T73 l0 x10_1).f0), .int .i64 ((T73 l0 x10_1).f1), .slice A650_2 ((T73 l0 x10_1).f2).length c650_2] 73 (0, 0)) (by refine blk_put (cs := #[.int .i64 ((T73 l0 x10_1).f0), .int .i64 ((T73 l0 x10_1).f1), .slice none 0 0]) ?_ 2 _ rfl; refine blk_put (cs := #[.int .i64 ((T73 l0 x10_1).f0), .int .i64 0, .slice none 0 0]) ?_ 1 _ rfl; refine blk_put (cs := #[.int .i64 0, .int .i64 0, .slice none 0 0]) ?_ 0 _ rfl; exact BK651.out) hb); replace HB := am (below_step (by repeat ((with_reducible first | exact HB.out | refine below_set ?_ GE651.out))) hb); (try clear hb)))
        replace BK651 := am (blk_drew BK651.out)
        replace HB := am (below_drew1 HB.out)
        have p653 : 0 ≤ ((ji9) : Int) := oa
        have q653 : (ji9) < (l0.length : Int) := oa
        obtain ⟨ad653, A653_2, c653_2, e653, hx653_0, hx653_1, hx653_2, hl653_2, hi653_2⟩ := at_T73 HR0.out (ji9) p653 q653
        have hw653_2 := hx653_2
        have hw653_1 := hx653_1
        have hw653_0 := hx653_0
        obtain rfl : ad650 = ad653 := (by injection e653)
        replace hx653_0 := bc HB.out hx653_0
        replace hx653_1 := bc HB.out hx653_1
        replace hx653_2 := bc HB.out hx653_2
        have HR653_2 := am hi653_2
        have HC653_2 := am hl653_2
        clear hi653_2 hl653_2
        replace p653 := eq_true p653
        replace q653 := eq_true q653
        have p654 : 0 ≤ ((ji9) : Int) := oa
        have q654 : (ji9) < (l0.length : Int) := oa
        obtain ⟨ad654, A654_2, c654_2, e654, hx654_0, hx654_1, hx654_2, hl654_2, hi654_2⟩ := at_T73 HR0.out (ji9) p654 q654
        have hw654_2 := hx654_2
        have hw654_1 := hx654_1
        have hw654_0 := hx654_0
        obtain rfl : ad650 = ad654 := (by injection e654)
        replace hx654_0 := bc HB.out hx654_0
        replace hx654_1 := bc HB.out hx654_1
        replace hx654_2 := bc HB.out hx654_2
        have HR654_2 := am hi654_2
        have HC654_2 := am hl654_2
        clear hi654_2 hl654_2
        replace p654 := eq_true p654
        replace q654 := eq_true q654
        have ea_ := Option.some.inj (hx653_2.symm.trans hx654_2)
        injection ea_ with ea_ en_ ec_
        subst ea_
        subst ec_
        clear en_
        refine start_ (n := 40) (S := fun w' => w'.cell? ⟨gb651, 0, none⟩ = some (.int .i64 ((T73 l0 x10_1).f0)) ∧ w'.cell? ⟨gb651, 1, none⟩ = some (.int .i64 ((T73 l0 x10_1).f1)) ∧ w'.cell? ⟨gb651, 2, none⟩ = some (.slice A650_2 ((T73 l0 x10_1).f2).length c650_2) ∧ w'.cell? (ad650.add (((ji9)).toNat * 3)) = some (.int .i64 ((T73 l0 (ji9)).f0)) ∧ w'.cell? ⟨(ad650.add (((ji9)).toNat * 3)).block, (ad650.add (((ji9)).toNat * 3)).off + 1, none⟩ = some (.int .i64 ((T73 l0 (ji9)).f1)) ∧ w'.cell? ⟨(ad650.add (((ji9)).toNat * 3)).block, (ad650.add (((ji9)).toNat * 3)).off + 2, none⟩ = some (.slice A653_2 ((T73 l0 (ji9)).f2).length c653_2) ∧ w'.cell? (ad650.add (((ji9)).toNat * 3)) = some (.int .i64 ((T73 l0 (ji9)).f0)) ∧ w'.cell? ⟨(ad650.add (((ji9)).toNat * 3)).block, (ad650.add (((ji9)).toNat * 3)).off + 1, none⟩ = some (.int .i64 ((T73 l0 (ji9)).f1)) ∧ w'.cell? ⟨(ad650.add (((ji9)).toNat * 3)).block, (ad650.add (((ji9)).toNat * 3)).off + 2, none⟩ = some (.slice A653_2 ((T73 l0 (ji9)).f2).length c653_2)) (ds := []) #[O,O,O,O,O,O,O,O,O,O,O,O,O,O,O,O,O,O,O,O,O,O,O,O,O,O,O,O,O,O,O,O,O,O,O,O,O,O,O,O] (by kernel_rfl) rfl rfl ⟨(blk_cell BK651.out 0).trans rfl, (blk_cell BK651.out 1).trans rfl, (blk_cell BK651.out 2).trans rfl, ((HB.out.cell (World.block_lt_of_cell? w _ hw653_0)).trans hw653_0), ((HB.out.cell (World.block_lt_of_cell? w _ hw653_1)).trans hw653_1), ((HB.out.cell (World.block_lt_of_cell? w _ hw653_2)).trans hw653_2), ((HB.out.cell (World.block_lt_of_cell? w _ hw654_0)).trans hw654_0), ((HB.out.cell (World.block_lt_of_cell? w _ hw654_1)).trans hw654_1), ((HB.out.cell (World.block_lt_of_cell? w _ hw654_2)).trans hw654_2)⟩ (fun hHeld => ?_); refine with_tabW impl_goodGroups.tab8 impl_goodGroups.bits8 (fun HT_ HW_ => ?_)
        generalize w16.drew = w17 at BK651 HB HR653_2 HR654_2 hx653_0 hx653_1 hx653_2 hx654_0 hx654_1 hx654_2 hHeld ⊢
        refine pu 0 (some 18) ?_
        refine pu 1 (some 19) ?_
        refine pu 2 (some 20) ?_
        refine pu 3 (some 21) ?_
        refine pu 5 (some 23) ?_
        refine pu 6 (some 24) ?_
        refine pu 7 (some 25) ?_
        refine pu 8 (some 26) ?_
        refine pu 9 (some 27) ?_
        refine pu 11 (some 29) ?_
        refine pu 12 (some 30) ?_
        refine pu 13 (some 31) ?_
        refine pu 14 (some 32) ?_
        refine ta 4 (some 22) ?_
        refine ta 10 (some 28) ?_
        refine ta 15 (some 33) ?_
        refine one_ (i := 16) (N := some 34) #[Y,Y,Y,Y,Y,Y,Y,Y,Y,Y,Y,Y,Y,Y,Y,Y,Y,O,O,O,O,O,O,O,O,O,O,O,O,O,O,O,O,O,O,O,O,O,O,O] rfl rfl (one_of HT_.out (by kernel_rfl)) (by decide) (fun K hK => ?_)
        refine goes_ Try.func112 (by kernel_rfl) rfl #[.agg #[.int .i64 ((T73 l0 (ji9)).f0), .int .i64 ((T73 l0 (ji9)).f1), .slice A653_2 ((T73 l0 (ji9)).f2).length c653_2]] (by rfl) rfl rfl (by (try simp only [List.map_toArray, List.map_cons, List.map_nil]); rfl) ?_
        with_reducible refine (impl_Group_old.calls k1 ((T73 l0 (ji9)).f0) ((T73 l0 (ji9)).f1) _ _ ((T73 l0 (ji9)).f2) t655 _ ?side1 ?side2 A12.out).mono ?_
        (case side1 => exact zq (Kd.C_below HR654_2.out HB.out))
        (case side2 => exact HC654_2.out)
        rintro e w18 ⟨v656, rfl, ho0, hb⟩
        refine ⟨_, rfl, ?_⟩
        have HO657 := am (Kd.R_lower ho0 (below_size (by repeat ((with_reducible exact HB.out)))))
        replace BK651 := am (blk_below (g := gb651) (o := .cells #[.int .i64 ((T73 l0 x10_1).f0), .int .i64 ((T73 l0 x10_1).f1), .slice A650_2 ((T73 l0 x10_1).f2).length c650_2] 73 (0, 0)) (zk BK651.out) hb)
        replace HB := am (below_step (by repeat ((with_reducible exact HB.out))) hb)
        (try clear hb)
        (try clear ho0)
        obtain ⟨Ao19, co19, eo19⟩ := Kd.R_slice HO657.out
        (subst eo19)
        refine hK.out _ _ ⟨(blk_cell BK651.out 0).trans rfl, (blk_cell BK651.out 1).trans rfl, (blk_cell BK651.out 2).trans rfl, ((HB.out.cell (World.block_lt_of_cell? w _ hw653_0)).trans hw653_0), ((HB.out.cell (World.block_lt_of_cell? w _ hw653_1)).trans hw653_1), ((HB.out.cell (World.block_lt_of_cell? w _ hw653_2)).trans hw653_2), ((HB.out.cell (World.block_lt_of_cell? w _ hw654_0)).trans hw654_0), ((HB.out.cell (World.block_lt_of_cell? w _ hw654_1)).trans hw654_1), ((HB.out.cell (World.block_lt_of_cell? w _ hw654_2)).trans hw654_2)⟩ (fun hHeld => ?_)
        clear hK K
        refine norm_ (a' := ?_) ?_ ?_
        rotate_left
        ·show Act.put _ (some 34) _ = _
         simp only [Act.put,qa,qb,qc,i64_w,i32_w]
         rfl
        refine pu 17 (some 35) ?_
        refine pu 18 (some 36) ?_
        refine pu 19 (some 37) ?_
        refine pu 20 (some 38) ?_
        refine pure_ (i := 21) (N := some 39) (v := undef) (a' := ?_) #[Y,Y,Y,Y,Y,Y,Y,Y,Y,Y,Y,Y,Y,Y,Y,Y,Y,Y,Y,Y,Y,Y,O,O,O,O,O,O,O,O,O,O,O,O,O,O,O,O,O,O] rfl rfl zx (fun _ _ _ h => h) (Or.inr ⟨by rfl, rfl⟩) ?_ ?_
        rotate_left
        ·simp only [Act.put,qa,qb,qc,i64_w,i32_w]
         rfl
        refine pure_ (i := 22) (N := some 40) (v := undef) (a' := ?_) #[Y,Y,Y,Y,Y,Y,Y,Y,Y,Y,Y,Y,Y,Y,Y,Y,Y,Y,Y,Y,Y,Y,Y,O,O,O,O,O,O,O,O,O,O,O,O,O,O,O,O,O] rfl rfl zx (fun _ _ _ h => h) (Or.inr ⟨by rfl, rfl⟩) ?_ ?_
        rotate_left
        ·simp only [Act.put,qa,qb,qc,i64_w,i32_w]
         rfl
        refine pure_ (i := 23) (N := some 41) (v := undef) (a' := ?_) #[Y,Y,Y,Y,Y,Y,Y,Y,Y,Y,Y,Y,Y,Y,Y,Y,Y,Y,Y,Y,Y,Y,Y,Y,O,O,O,O,O,O,O,O,O,O,O,O,O,O,O,O] rfl rfl zx (fun _ _ _ h => h) (Or.inr ⟨by rfl, rfl⟩) ?_ ?_
        rotate_left
        ·simp only [Act.put,qa,qb,qc,i64_w,i32_w]
         rfl
        refine pure_ (i := 24) (N := some 42) (v := undef) (a' := ?_) #[Y,Y,Y,Y,Y,Y,Y,Y,Y,Y,Y,Y,Y,Y,Y,Y,Y,Y,Y,Y,Y,Y,Y,Y,Y,O,O,O,O,O,O,O,O,O,O,O,O,O,O,O] rfl rfl zx (fun _ _ _ h => h) (Or.inr ⟨by rfl, rfl⟩) ?_ ?_
        rotate_left
        ·simp only [Act.put,qa,qb,qc,i64_w,i32_w]
         rfl
        refine pure_ (i := 25) (N := some 43) (v := undef) (a' := ?_) #[Y,Y,Y,Y,Y,Y,Y,Y,Y,Y,Y,Y,Y,Y,Y,Y,Y,Y,Y,Y,Y,Y,Y,Y,Y,Y,O,O,O,O,O,O,O,O,O,O,O,O,O,O] rfl rfl zx (fun _ _ _ h => h) (Or.inr ⟨by rfl, rfl⟩) ?_ ?_
        rotate_left
        ·simp only [Act.put,qa,qb,qc,i64_w,i32_w]
         rfl
        refine pure_ (i := 26) (N := some 44) (v := undef) (a' := ?_) #[Y,Y,Y,Y,Y,Y,Y,Y,Y,Y,Y,Y,Y,Y,Y,Y,Y,Y,Y,Y,Y,Y,Y,Y,Y,Y,Y,O,O,O,O,O,O,O,O,O,O,O,O,O] rfl rfl zx (fun _ _ _ h => h) (Or.inr ⟨by rfl, rfl⟩) ?_ ?_
        rotate_left
        ·simp only [Act.put,qa,qb,qc,i64_w,i32_w]
         rfl
        refine pure_ (i := 27) (N := some 45) (v := undef) (a' := ?_) #[Y,Y,Y,Y,Y,Y,Y,Y,Y,Y,Y,Y,Y,Y,Y,Y,Y,Y,Y,Y,Y,Y,Y,Y,Y,Y,Y,Y,O,O,O,O,O,O,O,O,O,O,O,O] rfl rfl zx (fun _ _ _ h => h) (Or.inr ⟨by rfl, rfl⟩) ?_ ?_
        rotate_left
        ·simp only [Act.put,qa,qb,qc,i64_w,i32_w]
         rfl
        refine pure_ (i := 28) (N := some 46) (v := undef) (a' := ?_) #[Y,Y,Y,Y,Y,Y,Y,Y,Y,Y,Y,Y,Y,Y,Y,Y,Y,Y,Y,Y,Y,Y,Y,Y,Y,Y,Y,Y,Y,O,O,O,O,O,O,O,O,O,O,O] rfl rfl zx (fun _ _ _ h => h) (Or.inr ⟨by rfl, rfl⟩) ?_ ?_
        rotate_left
        ·simp only [Act.put,qa,qb,qc,i64_w,i32_w]
         rfl
        refine pure_ (i := 29) (N := some 47) (v := undef) (a' := ?_) #[Y,Y,Y,Y,Y,Y,Y,Y,Y,Y,Y,Y,Y,Y,Y,Y,Y,Y,Y,Y,Y,Y,Y,Y,Y,Y,Y,Y,Y,Y,O,O,O,O,O,O,O,O,O,O] rfl rfl zx (fun _ _ _ h => h) (Or.inr ⟨by rfl, rfl⟩) ?_ ?_
        rotate_left
        ·simp only [Act.put,qa,qb,qc,i64_w,i32_w]
         rfl
        refine pure_ (i := 30) (N := some 48) (v := undef) (a' := ?_) #[Y,Y,Y,Y,Y,Y,Y,Y,Y,Y,Y,Y,Y,Y,Y,Y,Y,Y,Y,Y,Y,Y,Y,Y,Y,Y,Y,Y,Y,Y,Y,O,O,O,O,O,O,O,O,O] rfl rfl zx (fun _ _ _ h => h) (Or.inr ⟨by rfl, rfl⟩) ?_ ?_
        rotate_left
        ·simp only [Act.put,qa,qb,qc,i64_w,i32_w]
         rfl
        refine pure_ (i := 31) (N := some 49) (v := undef) (a' := ?_) #[Y,Y,Y,Y,Y,Y,Y,Y,Y,Y,Y,Y,Y,Y,Y,Y,Y,Y,Y,Y,Y,Y,Y,Y,Y,Y,Y,Y,Y,Y,Y,Y,O,O,O,O,O,O,O,O] rfl rfl zx (fun _ _ _ h => h) (Or.inr ⟨by rfl, rfl⟩) ?_ ?_
        rotate_left
        ·simp only [Act.put,qa,qb,qc,i64_w,i32_w]
         rfl
        refine pure_ (i := 32) (N := some 50) (v := undef) (a' := ?_) #[Y,Y,Y,Y,Y,Y,Y,Y,Y,Y,Y,Y,Y,Y,Y,Y,Y,Y,Y,Y,Y,Y,Y,Y,Y,Y,Y,Y,Y,Y,Y,Y,Y,O,O,O,O,O,O,O] rfl rfl zx (fun _ _ _ h => h) (Or.inr ⟨by rfl, rfl⟩) ?_ ?_
        rotate_left
        ·simp only [Act.put,qa,qb,qc,i64_w,i32_w]
         rfl
        refine pure_ (i := 33) (N := some 51) (v := undef) (a' := ?_) #[Y,Y,Y,Y,Y,Y,Y,Y,Y,Y,Y,Y,Y,Y,Y,Y,Y,Y,Y,Y,Y,Y,Y,Y,Y,Y,Y,Y,Y,Y,Y,Y,Y,Y,O,O,O,O,O,O] rfl rfl zx (fun _ _ _ h => h) (Or.inr ⟨by rfl, rfl⟩) ?_ ?_
        rotate_left
        ·simp only [Act.put,qa,qb,qc,i64_w,i32_w]
         rfl
        refine pure_ (i := 34) (N := some 52) (v := undef) (a' := ?_) #[Y,Y,Y,Y,Y,Y,Y,Y,Y,Y,Y,Y,Y,Y,Y,Y,Y,Y,Y,Y,Y,Y,Y,Y,Y,Y,Y,Y,Y,Y,Y,Y,Y,Y,Y,O,O,O,O,O] rfl rfl zx (fun _ _ _ h => h) (Or.inr ⟨by rfl, rfl⟩) ?_ ?_
        rotate_left
        ·simp only [Act.put,qa,qb,qc,i64_w,i32_w]
         rfl
        refine pure_ (i := 35) (N := some 53) (v := undef) (a' := ?_) #[Y,Y,Y,Y,Y,Y,Y,Y,Y,Y,Y,Y,Y,Y,Y,Y,Y,Y,Y,Y,Y,Y,Y,Y,Y,Y,Y,Y,Y,Y,Y,Y,Y,Y,Y,Y,O,O,O,O] rfl rfl zx (fun _ _ _ h => h) (Or.inr ⟨by rfl, rfl⟩) ?_ ?_
        rotate_left
        ·simp only [Act.put,qa,qb,qc,i64_w,i32_w]
         rfl
        refine pure_ (i := 36) (N := some 54) (v := undef) (a' := ?_) #[Y,Y,Y,Y,Y,Y,Y,Y,Y,Y,Y,Y,Y,Y,Y,Y,Y,Y,Y,Y,Y,Y,Y,Y,Y,Y,Y,Y,Y,Y,Y,Y,Y,Y,Y,Y,Y,O,O,O] rfl rfl zx (fun _ _ _ h => h) (Or.inr ⟨by rfl, rfl⟩) ?_ ?_
        rotate_left
        ·simp only [Act.put,qa,qb,qc,i64_w,i32_w]
         rfl
        refine pure_ (i := 37) (N := some 55) (v := undef) (a' := ?_) #[Y,Y,Y,Y,Y,Y,Y,Y,Y,Y,Y,Y,Y,Y,Y,Y,Y,Y,Y,Y,Y,Y,Y,Y,Y,Y,Y,Y,Y,Y,Y,Y,Y,Y,Y,Y,Y,Y,O,O] rfl rfl zx (fun _ _ _ h => h) (Or.inr ⟨by rfl, rfl⟩) ?_ ?_
        rotate_left
        ·simp only [Act.put,qa,qb,qc,i64_w,i32_w]
         rfl
        refine pu 38 (some 56) ?_
        refine pu 39 (some 57) ?_
        refine done_ (done_of HT_.out (by kernel_rfl)) ?_
        try go_wp2
        go_ret
        exact ⟨by rfl, by repeat ((with_reducible exact HB.out))⟩
       ·rw [if_neg c13] at H
        have c13b0 : decide (((T73 l0 x10_1).f0) < (wrap64 (((T73 l0 (ji9)).f0) + (t655.length : Int)))) = false := decide_eq_false c13
        clear c13
        replace H := Option.bind_eq_some_iff.mp H
        obtain ⟨t660, A200, H⟩ := H
        replace H : (if ((T73 l0 x10_1).f1) < (wrap64 (((T73 l0 (ji9)).f1) + (t660.length : Int))) then (some false) else (impl_goodGroups.l0 k1 l0 l0 (l0.length : Int) (wrap64 (x10_1 + 1)))) = some r := H
        have A20 := am A200
        clear A200
        by_cases c21 : ((T73 l0 x10_1).f1) < (wrap64 (((T73 l0 (ji9)).f1) + (t660.length : Int)))
        ·rw [if_pos c21] at H
         have c21b0 : decide (((T73 l0 x10_1).f1) < (wrap64 (((T73 l0 (ji9)).f1) + (t660.length : Int)))) = true := decide_eq_true c21
         clear c21
         obtain rfl := Option.some.inj H
         have p650 : 0 ≤ (x10_1 : Int) := oa
         have q650 : x10_1 < (l0.length : Int) := oa
         obtain ⟨ad650, A650_2, c650_2, e650, hx650_0, hx650_1, hx650_2, hl650_2, hi650_2⟩ := at_T73 HR0.out x10_1 p650 q650
         cases e650
         replace hx650_0 := bc HB.out hx650_0
         replace hx650_1 := bc HB.out hx650_1
         replace hx650_2 := bc HB.out hx650_2
         have HR650_2 := am hi650_2
         have HC650_2 := am hl650_2
         clear hi650_2 hl650_2
         replace p650 := eq_true p650
         replace q650 := eq_true q650
         try go_wp2_with (first | ((with_reducible refine gate_dst (N := 4) rfl ?_); (try (refine gate_guard (by rfl) ?_; dsimp only)); refine box_event ?hg (N := 4) ?hd (cs := #[.int .i64 0, .int .i64 0, .slice none 0 0]) (t := 73) ?hr ?_; (case hd => rfl); (case hg => rfl); (case hr => (go_simp; done)); intro gb651 hg w22 hbox hb; have BK651 := am (hbox); have GW651 := am ((by rw [hg]; exact (below_size zb) : w.heap.size ≤ gb651)); have GE651 := am ((by rw [hg]; exact (below_size zb) : w.heap.size ≤ gb651)); replace HB := am (below_step zb hb); clear hb hbox hg; obtain ⟨hcz23_0, hcz23_1, hcz23_2⟩ := cz3 BK651.out; obtain ⟨hfz23_0, hfz23_1, hfz23_2⟩ := fz3 BK651.out) | ((with_reducible refine gateC (f := 111) rfl ?_); refine goesL_ (some 16) rfl rfl Try.func111 (by kernel_rfl) rfl #[.agg #[.int .i64 ((T73 l0 x10_1).f0), .int .i64 ((T73 l0 x10_1).f1), .slice A650_2 ((T73 l0 x10_1).f2).length c650_2]] rfl zm ?_; (with_reducible refine (impl_goodGroup.calls k1 ((T73 l0 x10_1).f0) ((T73 l0 x10_1).f1) _ _ ((T73 l0 x10_1).f2) true _ ?side1 ?side2 A6.out).mono ?_); (case side1 => exact Kd.C_below HR650_2.out (by repeat ((with_reducible first | exact HB.out | refine below_set ?_ GE651.out)))); (case side2 => exact HC650_2.out); rintro e w24 ⟨rfl, hb⟩; refine ⟨_, rfl, ?_⟩; replace BK651 := am (blk_below (g := gb651) (o := .cells #[.int .i64 ((T73 l0 x10_1).f0), .int .i64 ((T73 l0 x10_1).f1), .slice A650_2 ((T73 l0 x10_1).f2).length c650_2] 73 (0, 0)) (by refine blk_put (cs := #[.int .i64 ((T73 l0 x10_1).f0), .int .i64 ((T73 l0 x10_1).f1), .slice none 0 0]) ?_ 2 _ rfl; refine blk_put (cs := #[.int .i64 ((T73 l0 x10_1).f0), .int .i64 0, .slice none 0 0]) ?_ 1 _ rfl; refine blk_put (cs := #[.int .i64 0, .int .i64 0, .slice none 0 0]) ?_ 0 _ rfl; exact BK651.out) hb); replace HB := am (below_step (by repeat ((with_reducible first | exact HB.out | refine below_set ?_ GE651.out))) hb); (try clear hb)))
         replace BK651 := am (blk_drew BK651.out)
         replace HB := am (below_drew1 HB.out)
         have p653 : 0 ≤ ((ji9) : Int) := oa
         have q653 : (ji9) < (l0.length : Int) := oa
         obtain ⟨ad653, A653_2, c653_2, e653, hx653_0, hx653_1, hx653_2, hl653_2, hi653_2⟩ := at_T73 HR0.out (ji9) p653 q653
         have hw653_2 := hx653_2
         have hw653_1 := hx653_1
         have hw653_0 := hx653_0
         obtain rfl : ad650 = ad653 := (by injection e653)
         replace hx653_0 := bc HB.out hx653_0
         replace hx653_1 := bc HB.out hx653_1
         replace hx653_2 := bc HB.out hx653_2
         have HR653_2 := am hi653_2
         have HC653_2 := am hl653_2
         clear hi653_2 hl653_2
         replace p653 := eq_true p653
         replace q653 := eq_true q653
         have p654 : 0 ≤ ((ji9) : Int) := oa
         have q654 : (ji9) < (l0.length : Int) := oa
         obtain ⟨ad654, A654_2, c654_2, e654, hx654_0, hx654_1, hx654_2, hl654_2, hi654_2⟩ := at_T73 HR0.out (ji9) p654 q654
         have hw654_2 := hx654_2
         have hw654_1 := hx654_1
         have hw654_0 := hx654_0
         obtain rfl : ad650 = ad654 := (by injection e654)
         replace hx654_0 := bc HB.out hx654_0
         replace hx654_1 := bc HB.out hx654_1
         replace hx654_2 := bc HB.out hx654_2
         have HR654_2 := am hi654_2
         have HC654_2 := am hl654_2
         clear hi654_2 hl654_2
         replace p654 := eq_true p654
         replace q654 := eq_true q654
         have ea_ := Option.some.inj (hx653_2.symm.trans hx654_2)
         injection ea_ with ea_ en_ ec_
         subst ea_
         subst ec_
         clear en_
         have p658 : 0 ≤ ((ji9) : Int) := oa
         have q658 : (ji9) < (l0.length : Int) := oa
         obtain ⟨ad658, A658_2, c658_2, e658, hx658_0, hx658_1, hx658_2, hl658_2, hi658_2⟩ := at_T73 HR0.out (ji9) p658 q658
         have hw658_2 := hx658_2
         have hw658_1 := hx658_1
         have hw658_0 := hx658_0
         obtain rfl : ad650 = ad658 := (by injection e658)
         replace hx658_0 := bc HB.out hx658_0
         replace hx658_1 := bc HB.out hx658_1
         replace hx658_2 := bc HB.out hx658_2
         have HR658_2 := am hi658_2
         have HC658_2 := am hl658_2
         clear hi658_2 hl658_2
         replace p658 := eq_true p658
         replace q658 := eq_true q658
         have eb_ := Option.some.inj (hx653_2.symm.trans hx658_2)
         injection eb_ with ea_ en_ ec_
         subst ea_
         subst ec_
         clear en_
         have p659 : 0 ≤ ((ji9) : Int) := oa
         have q659 : (ji9) < (l0.length : Int) := oa
         obtain ⟨ad659, A659_2, c659_2, e659, hx659_0, hx659_1, hx659_2, hl659_2, hi659_2⟩ := at_T73 HR0.out (ji9) p659 q659
         have hw659_2 := hx659_2
         have hw659_1 := hx659_1
         have hw659_0 := hx659_0
         obtain rfl : ad650 = ad659 := (by injection e659)
         replace hx659_0 := bc HB.out hx659_0
         replace hx659_1 := bc HB.out hx659_1
         replace hx659_2 := bc HB.out hx659_2
         have HR659_2 := am hi659_2
         have HC659_2 := am hl659_2
         clear hi659_2 hl659_2
         replace p659 := eq_true p659
         replace q659 := eq_true q659
         have ea_ := Option.some.inj (hx658_2.symm.trans hx659_2)
         injection ea_ with ea_ en_ ec_
         subst ea_
         subst ec_
         clear en_
         refine start_ (n := 40) (S := fun w' => w'.cell? ⟨gb651, 0, none⟩ = some (.int .i64 ((T73 l0 x10_1).f0)) ∧ w'.cell? ⟨gb651, 1, none⟩ = some (.int .i64 ((T73 l0 x10_1).f1)) ∧ w'.cell? ⟨gb651, 2, none⟩ = some (.slice A650_2 ((T73 l0 x10_1).f2).length c650_2) ∧ w'.cell? (ad650.add (((ji9)).toNat * 3)) = some (.int .i64 ((T73 l0 (ji9)).f0)) ∧ w'.cell? ⟨(ad650.add (((ji9)).toNat * 3)).block, (ad650.add (((ji9)).toNat * 3)).off + 1, none⟩ = some (.int .i64 ((T73 l0 (ji9)).f1)) ∧ w'.cell? ⟨(ad650.add (((ji9)).toNat * 3)).block, (ad650.add (((ji9)).toNat * 3)).off + 2, none⟩ = some (.slice A653_2 ((T73 l0 (ji9)).f2).length c653_2) ∧ w'.cell? (ad650.add (((ji9)).toNat * 3)) = some (.int .i64 ((T73 l0 (ji9)).f0)) ∧ w'.cell? ⟨(ad650.add (((ji9)).toNat * 3)).block, (ad650.add (((ji9)).toNat * 3)).off + 1, none⟩ = some (.int .i64 ((T73 l0 (ji9)).f1)) ∧ w'.cell? ⟨(ad650.add (((ji9)).toNat * 3)).block, (ad650.add (((ji9)).toNat * 3)).off + 2, none⟩ = some (.slice A653_2 ((T73 l0 (ji9)).f2).length c653_2) ∧ w'.cell? (ad650.add (((ji9)).toNat * 3)) = some (.int .i64 ((T73 l0 (ji9)).f0)) ∧ w'.cell? ⟨(ad650.add (((ji9)).toNat * 3)).block, (ad650.add (((ji9)).toNat * 3)).off + 1, none⟩ = some (.int .i64 ((T73 l0 (ji9)).f1)) ∧ w'.cell? ⟨(ad650.add (((ji9)).toNat * 3)).block, (ad650.add (((ji9)).toNat * 3)).off + 2, none⟩ = some (.slice A653_2 ((T73 l0 (ji9)).f2).length c653_2) ∧ w'.cell? (ad650.add (((ji9)).toNat * 3)) = some (.int .i64 ((T73 l0 (ji9)).f0)) ∧ w'.cell? ⟨(ad650.add (((ji9)).toNat * 3)).block, (ad650.add (((ji9)).toNat * 3)).off + 1, none⟩ = some (.int .i64 ((T73 l0 (ji9)).f1)) ∧ w'.cell? ⟨(ad650.add (((ji9)).toNat * 3)).block, (ad650.add (((ji9)).toNat * 3)).off + 2, none⟩ = some (.slice A653_2 ((T73 l0 (ji9)).f2).length c653_2)) (ds := []) #[O,O,O,O,O,O,O,O,O,O,O,O,O,O,O,O,O,O,O,O,O,O,O,O,O,O,O,O,O,O,O,O,O,O,O,O,O,O,O,O] (by kernel_rfl) rfl rfl ⟨(blk_cell BK651.out 0).trans rfl, (blk_cell BK651.out 1).trans rfl, (blk_cell BK651.out 2).trans rfl, ((HB.out.cell (World.block_lt_of_cell? w _ hw653_0)).trans hw653_0), ((HB.out.cell (World.block_lt_of_cell? w _ hw653_1)).trans hw653_1), ((HB.out.cell (World.block_lt_of_cell? w _ hw653_2)).trans hw653_2), ((HB.out.cell (World.block_lt_of_cell? w _ hw654_0)).trans hw654_0), ((HB.out.cell (World.block_lt_of_cell? w _ hw654_1)).trans hw654_1), ((HB.out.cell (World.block_lt_of_cell? w _ hw654_2)).trans hw654_2), ((HB.out.cell (World.block_lt_of_cell? w _ hw658_0)).trans hw658_0), ((HB.out.cell (World.block_lt_of_cell? w _ hw658_1)).trans hw658_1), ((HB.out.cell (World.block_lt_of_cell? w _ hw658_2)).trans hw658_2), ((HB.out.cell (World.block_lt_of_cell? w _ hw659_0)).trans hw659_0), ((HB.out.cell (World.block_lt_of_cell? w _ hw659_1)).trans hw659_1), ((HB.out.cell (World.block_lt_of_cell? w _ hw659_2)).trans hw659_2)⟩ (fun hHeld => ?_); refine with_tabW impl_goodGroups.tab8 impl_goodGroups.bits8 (fun HT_ HW_ => ?_)
         generalize w24.drew = w25 at BK651 HB HR653_2 HR654_2 HR658_2 HR659_2 hx653_0 hx653_1 hx653_2 hx654_0 hx654_1 hx654_2 hx658_0 hx658_1 hx658_2 hx659_0 hx659_1 hx659_2 hHeld ⊢
         refine pu 0 (some 18) ?_
         refine pu 1 (some 19) ?_
         refine pu 2 (some 20) ?_
         refine pu 3 (some 21) ?_
         refine pu 5 (some 23) ?_
         refine pu 6 (some 24) ?_
         refine pu 7 (some 25) ?_
         refine pu 8 (some 26) ?_
         refine pu 9 (some 27) ?_
         refine pu 11 (some 29) ?_
         refine pu 12 (some 30) ?_
         refine pu 13 (some 31) ?_
         refine pu 14 (some 32) ?_
         refine ta 4 (some 22) ?_
         refine ta 10 (some 28) ?_
         refine ta 15 (some 33) ?_
         refine one_ (i := 16) (N := some 34) #[Y,Y,Y,Y,Y,Y,Y,Y,Y,Y,Y,Y,Y,Y,Y,Y,Y,O,O,O,O,O,O,O,O,O,O,O,O,O,O,O,O,O,O,O,O,O,O,O] rfl rfl (one_of HT_.out (by kernel_rfl)) (by decide) (fun K hK => ?_)
         refine goes_ Try.func112 (by kernel_rfl) rfl #[.agg #[.int .i64 ((T73 l0 (ji9)).f0), .int .i64 ((T73 l0 (ji9)).f1), .slice A653_2 ((T73 l0 (ji9)).f2).length c653_2]] (by rfl) rfl rfl (by (try simp only [List.map_toArray, List.map_cons, List.map_nil]); rfl) ?_
         with_reducible refine (impl_Group_old.calls k1 ((T73 l0 (ji9)).f0) ((T73 l0 (ji9)).f1) _ _ ((T73 l0 (ji9)).f2) t655 _ ?side1 ?side2 A12.out).mono ?_
         (case side1 => exact zq (Kd.C_below HR654_2.out HB.out))
         (case side2 => exact HC654_2.out)
         rintro e w26 ⟨v656, rfl, ho0, hb⟩
         refine ⟨_, rfl, ?_⟩
         have HO657 := am (Kd.R_lower ho0 (below_size (by repeat ((with_reducible exact HB.out)))))
         replace BK651 := am (blk_below (g := gb651) (o := .cells #[.int .i64 ((T73 l0 x10_1).f0), .int .i64 ((T73 l0 x10_1).f1), .slice A650_2 ((T73 l0 x10_1).f2).length c650_2] 73 (0, 0)) (zk BK651.out) hb)
         replace HB := am (below_step (by repeat ((with_reducible exact HB.out))) hb)
         (try clear hb)
         (try clear ho0)
         obtain ⟨Ao27, co27, eo27⟩ := Kd.R_slice HO657.out
         (subst eo27)
         refine hK.out _ _ ⟨(blk_cell BK651.out 0).trans rfl, (blk_cell BK651.out 1).trans rfl, (blk_cell BK651.out 2).trans rfl, ((HB.out.cell (World.block_lt_of_cell? w _ hw653_0)).trans hw653_0), ((HB.out.cell (World.block_lt_of_cell? w _ hw653_1)).trans hw653_1), ((HB.out.cell (World.block_lt_of_cell? w _ hw653_2)).trans hw653_2), ((HB.out.cell (World.block_lt_of_cell? w _ hw654_0)).trans hw654_0), ((HB.out.cell (World.block_lt_of_cell? w _ hw654_1)).trans hw654_1), ((HB.out.cell (World.block_lt_of_cell? w _ hw654_2)).trans hw654_2), ((HB.out.cell (World.block_lt_of_cell? w _ hw658_0)).trans hw658_0), ((HB.out.cell (World.block_lt_of_cell? w _ hw658_1)).trans hw658_1), ((HB.out.cell (World.block_lt_of_cell? w _ hw658_2)).trans hw658_2), ((HB.out.cell (World.block_lt_of_cell? w _ hw659_0)).trans hw659_0), ((HB.out.cell (World.block_lt_of_cell? w _ hw659_1)).trans hw659_1), ((HB.out.cell (World.block_lt_of_cell? w _ hw659_2)).trans hw659_2)⟩ (fun hHeld => ?_)
         clear hK K
         refine norm_ (a' := ?_) ?_ ?_
         rotate_left
         ·show Act.put _ (some 34) _ = _
          simp only [Act.put,qa,qb,qc,i64_w,i32_w]
          rfl
         refine pu 17 (some 35) ?_
         refine pu 18 (some 36) ?_
         refine pu 19 (some 37) ?_
         refine pu 20 (some 38) ?_
         refine pu 21 (some 39) ?_
         refine pu 23 (some 41) ?_
         refine pu 24 (some 42) ?_
         refine pu 25 (some 43) ?_
         refine pu 26 (some 44) ?_
         refine pu 27 (some 45) ?_
         refine pu 29 (some 47) ?_
         refine pu 30 (some 48) ?_
         refine pu 31 (some 49) ?_
         refine pu 32 (some 50) ?_
         refine ta 22 (some 40) ?_
         refine ta 28 (some 46) ?_
         refine ta 33 (some 51) ?_
         refine one_ (i := 34) (N := some 52) #[Y,Y,Y,Y,Y,Y,Y,Y,Y,Y,Y,Y,Y,Y,Y,Y,Y,Y,Y,Y,Y,Y,Y,Y,Y,Y,Y,Y,Y,Y,Y,Y,Y,Y,Y,O,O,O,O,O] rfl rfl (one_of HT_.out (by kernel_rfl)) (by decide) (fun K hK => ?_)
         refine goes_ Try.func121 (by kernel_rfl) rfl #[.agg #[.int .i64 ((T73 l0 (ji9)).f0), .int .i64 ((T73 l0 (ji9)).f1), .slice A653_2 ((T73 l0 (ji9)).f2).length c653_2]] (by rfl) rfl rfl (by (try simp only [List.map_toArray, List.map_cons, List.map_nil]); rfl) ?_
         with_reducible refine (impl_Group_fresh.calls k1 ((T73 l0 (ji9)).f0) ((T73 l0 (ji9)).f1) _ _ ((T73 l0 (ji9)).f2) t660 _ ?side1 ?side2 A20.out).mono ?_
         (case side1 => exact zq (Kd.C_below HR659_2.out HB.out))
         (case side2 => exact HC659_2.out)
         rintro e w28 ⟨v661, rfl, ho0, hb⟩
         refine ⟨_, rfl, ?_⟩
         have HO662 := am (Kd.R_lower (Kd.R_new' ho0 (Kd.R_lt (zr HO657.out))) (below_size (by repeat ((with_reducible exact HB.out)))))
         replace HO657 := am (Kd.R_elder' (zr HO657.out) (Kd.R_base ho0) hb)
         replace BK651 := am (blk_below (g := gb651) (o := .cells #[.int .i64 ((T73 l0 x10_1).f0), .int .i64 ((T73 l0 x10_1).f1), .slice A650_2 ((T73 l0 x10_1).f2).length c650_2] 73 (0, 0)) (zk BK651.out) hb)
         replace HB := am (below_step (by repeat ((with_reducible exact HB.out))) hb)
         (try clear hb)
         (try clear ho0)
         obtain ⟨Ao29, co29, eo29⟩ := Kd.R_slice HO662.out
         (subst eo29)
         refine hK.out _ _ ⟨(blk_cell BK651.out 0).trans rfl, (blk_cell BK651.out 1).trans rfl, (blk_cell BK651.out 2).trans rfl, ((HB.out.cell (World.block_lt_of_cell? w _ hw653_0)).trans hw653_0), ((HB.out.cell (World.block_lt_of_cell? w _ hw653_1)).trans hw653_1), ((HB.out.cell (World.block_lt_of_cell? w _ hw653_2)).trans hw653_2), ((HB.out.cell (World.block_lt_of_cell? w _ hw654_0)).trans hw654_0), ((HB.out.cell (World.block_lt_of_cell? w _ hw654_1)).trans hw654_1), ((HB.out.cell (World.block_lt_of_cell? w _ hw654_2)).trans hw654_2), ((HB.out.cell (World.block_lt_of_cell? w _ hw658_0)).trans hw658_0), ((HB.out.cell (World.block_lt_of_cell? w _ hw658_1)).trans hw658_1), ((HB.out.cell (World.block_lt_of_cell? w _ hw658_2)).trans hw658_2), ((HB.out.cell (World.block_lt_of_cell? w _ hw659_0)).trans hw659_0), ((HB.out.cell (World.block_lt_of_cell? w _ hw659_1)).trans hw659_1), ((HB.out.cell (World.block_lt_of_cell? w _ hw659_2)).trans hw659_2)⟩ (fun hHeld => ?_)
         clear hK K
         refine norm_ (a' := ?_) ?_ ?_
         rotate_left
         ·show Act.put _ (some 52) _ = _
          simp only [Act.put,qa,qb,qc,i64_w,i32_w]
          rfl
         refine pu 35 (some 53) ?_
         refine pu 36 (some 54) ?_
         refine pu 37 (some 55) ?_
         refine pu 38 (some 56) ?_
         refine pu 39 (some 57) ?_
         refine done_ (done_of HT_.out (by kernel_rfl)) ?_
         try go_wp2
         go_ret
         exact ⟨by rfl, by repeat ((with_reducible exact HB.out))⟩
        ·rw [if_neg c21] at H
         have c21b0 : decide (((T73 l0 x10_1).f1) < (wrap64 (((T73 l0 (ji9)).f1) + (t660.length : Int)))) = false := decide_eq_false c21
         clear c21
         have H' := am H
         clear H
         have p650 : 0 ≤ (x10_1 : Int) := oa
         have q650 : x10_1 < (l0.length : Int) := oa
         obtain ⟨ad650, A650_2, c650_2, e650, hx650_0, hx650_1, hx650_2, hl650_2, hi650_2⟩ := at_T73 HR0.out x10_1 p650 q650
         cases e650
         replace hx650_0 := bc HB.out hx650_0
         replace hx650_1 := bc HB.out hx650_1
         replace hx650_2 := bc HB.out hx650_2
         have HR650_2 := am hi650_2
         have HC650_2 := am hl650_2
         clear hi650_2 hl650_2
         replace p650 := eq_true p650
         replace q650 := eq_true q650
         try go_wp2_with (first | ((with_reducible refine gate_dst (N := 4) rfl ?_); (try (refine gate_guard (by rfl) ?_; dsimp only)); refine box_event ?hg (N := 4) ?hd (cs := #[.int .i64 0, .int .i64 0, .slice none 0 0]) (t := 73) ?hr ?_; (case hd => rfl); (case hg => rfl); (case hr => (go_simp; done)); intro gb651 hg w30 hbox hb; have BK651 := am (hbox); have GW651 := am ((by rw [hg]; exact (below_size zb) : w.heap.size ≤ gb651)); have GE651 := am ((by rw [hg]; exact (below_size zb) : w.heap.size ≤ gb651)); replace HB := am (below_step zb hb); clear hb hbox hg; obtain ⟨hcz31_0, hcz31_1, hcz31_2⟩ := cz3 BK651.out; obtain ⟨hfz31_0, hfz31_1, hfz31_2⟩ := fz3 BK651.out) | ((with_reducible refine gateC (f := 111) rfl ?_); refine goesL_ (some 16) rfl rfl Try.func111 (by kernel_rfl) rfl #[.agg #[.int .i64 ((T73 l0 x10_1).f0), .int .i64 ((T73 l0 x10_1).f1), .slice A650_2 ((T73 l0 x10_1).f2).length c650_2]] rfl zm ?_; (with_reducible refine (impl_goodGroup.calls k1 ((T73 l0 x10_1).f0) ((T73 l0 x10_1).f1) _ _ ((T73 l0 x10_1).f2) true _ ?side1 ?side2 A6.out).mono ?_); (case side1 => exact Kd.C_below HR650_2.out (by repeat ((with_reducible first | exact HB.out | refine below_set ?_ GE651.out)))); (case side2 => exact HC650_2.out); rintro e w32 ⟨rfl, hb⟩; refine ⟨_, rfl, ?_⟩; replace BK651 := am (blk_below (g := gb651) (o := .cells #[.int .i64 ((T73 l0 x10_1).f0), .int .i64 ((T73 l0 x10_1).f1), .slice A650_2 ((T73 l0 x10_1).f2).length c650_2] 73 (0, 0)) (by refine blk_put (cs := #[.int .i64 ((T73 l0 x10_1).f0), .int .i64 ((T73 l0 x10_1).f1), .slice none 0 0]) ?_ 2 _ rfl; refine blk_put (cs := #[.int .i64 ((T73 l0 x10_1).f0), .int .i64 0, .slice none 0 0]) ?_ 1 _ rfl; refine blk_put (cs := #[.int .i64 0, .int .i64 0, .slice none 0 0]) ?_ 0 _ rfl; exact BK651.out) hb); replace HB := am (below_step (by repeat ((with_reducible first | exact HB.out | refine below_set ?_ GE651.out))) hb); (try clear hb)))
         replace BK651 := am (blk_drew BK651.out)
         replace HB := am (below_drew1 HB.out)
         have p653 : 0 ≤ ((ji9) : Int) := oa
         have q653 : (ji9) < (l0.length : Int) := oa
         obtain ⟨ad653, A653_2, c653_2, e653, hx653_0, hx653_1, hx653_2, hl653_2, hi653_2⟩ := at_T73 HR0.out (ji9) p653 q653
         have hw653_2 := hx653_2
         have hw653_1 := hx653_1
         have hw653_0 := hx653_0
         obtain rfl : ad650 = ad653 := (by injection e653)
         replace hx653_0 := bc HB.out hx653_0
         replace hx653_1 := bc HB.out hx653_1
         replace hx653_2 := bc HB.out hx653_2
         have HR653_2 := am hi653_2
         have HC653_2 := am hl653_2
         clear hi653_2 hl653_2
         replace p653 := eq_true p653
         replace q653 := eq_true q653
         have p654 : 0 ≤ ((ji9) : Int) := oa
         have q654 : (ji9) < (l0.length : Int) := oa
         obtain ⟨ad654, A654_2, c654_2, e654, hx654_0, hx654_1, hx654_2, hl654_2, hi654_2⟩ := at_T73 HR0.out (ji9) p654 q654
         have hw654_2 := hx654_2
         have hw654_1 := hx654_1
         have hw654_0 := hx654_0
         obtain rfl : ad650 = ad654 := (by injection e654)
         replace hx654_0 := bc HB.out hx654_0
         replace hx654_1 := bc HB.out hx654_1
         replace hx654_2 := bc HB.out hx654_2
         have HR654_2 := am hi654_2
         have HC654_2 := am hl654_2
         clear hi654_2 hl654_2
         replace p654 := eq_true p654
         replace q654 := eq_true q654
         have ea_ := Option.some.inj (hx653_2.symm.trans hx654_2)
         injection ea_ with ea_ en_ ec_
         subst ea_
         subst ec_
         clear en_
         have p658 : 0 ≤ ((ji9) : Int) := oa
         have q658 : (ji9) < (l0.length : Int) := oa
         obtain ⟨ad658, A658_2, c658_2, e658, hx658_0, hx658_1, hx658_2, hl658_2, hi658_2⟩ := at_T73 HR0.out (ji9) p658 q658
         have hw658_2 := hx658_2
         have hw658_1 := hx658_1
         have hw658_0 := hx658_0
         obtain rfl : ad650 = ad658 := (by injection e658)
         replace hx658_0 := bc HB.out hx658_0
         replace hx658_1 := bc HB.out hx658_1
         replace hx658_2 := bc HB.out hx658_2
         have HR658_2 := am hi658_2
         have HC658_2 := am hl658_2
         clear hi658_2 hl658_2
         replace p658 := eq_true p658
         replace q658 := eq_true q658
         have eb_ := Option.some.inj (hx653_2.symm.trans hx658_2)
         injection eb_ with ea_ en_ ec_
         subst ea_
         subst ec_
         clear en_
         have p659 : 0 ≤ ((ji9) : Int) := oa
         have q659 : (ji9) < (l0.length : Int) := oa
         obtain ⟨ad659, A659_2, c659_2, e659, hx659_0, hx659_1, hx659_2, hl659_2, hi659_2⟩ := at_T73 HR0.out (ji9) p659 q659
         have hw659_2 := hx659_2
         have hw659_1 := hx659_1
         have hw659_0 := hx659_0
         obtain rfl : ad650 = ad659 := (by injection e659)
         replace hx659_0 := bc HB.out hx659_0
         replace hx659_1 := bc HB.out hx659_1
         replace hx659_2 := bc HB.out hx659_2
         have HR659_2 := am hi659_2
         have HC659_2 := am hl659_2
         clear hi659_2 hl659_2
         replace p659 := eq_true p659
         replace q659 := eq_true q659
         have ea_ := Option.some.inj (hx658_2.symm.trans hx659_2)
         injection ea_ with ea_ en_ ec_
         subst ea_
         subst ec_
         clear en_
         refine start_ (n := 40) (S := fun w' => w'.cell? ⟨gb651, 0, none⟩ = some (.int .i64 ((T73 l0 x10_1).f0)) ∧ w'.cell? ⟨gb651, 1, none⟩ = some (.int .i64 ((T73 l0 x10_1).f1)) ∧ w'.cell? ⟨gb651, 2, none⟩ = some (.slice A650_2 ((T73 l0 x10_1).f2).length c650_2) ∧ w'.cell? (ad650.add (((ji9)).toNat * 3)) = some (.int .i64 ((T73 l0 (ji9)).f0)) ∧ w'.cell? ⟨(ad650.add (((ji9)).toNat * 3)).block, (ad650.add (((ji9)).toNat * 3)).off + 1, none⟩ = some (.int .i64 ((T73 l0 (ji9)).f1)) ∧ w'.cell? ⟨(ad650.add (((ji9)).toNat * 3)).block, (ad650.add (((ji9)).toNat * 3)).off + 2, none⟩ = some (.slice A653_2 ((T73 l0 (ji9)).f2).length c653_2) ∧ w'.cell? (ad650.add (((ji9)).toNat * 3)) = some (.int .i64 ((T73 l0 (ji9)).f0)) ∧ w'.cell? ⟨(ad650.add (((ji9)).toNat * 3)).block, (ad650.add (((ji9)).toNat * 3)).off + 1, none⟩ = some (.int .i64 ((T73 l0 (ji9)).f1)) ∧ w'.cell? ⟨(ad650.add (((ji9)).toNat * 3)).block, (ad650.add (((ji9)).toNat * 3)).off + 2, none⟩ = some (.slice A653_2 ((T73 l0 (ji9)).f2).length c653_2) ∧ w'.cell? (ad650.add (((ji9)).toNat * 3)) = some (.int .i64 ((T73 l0 (ji9)).f0)) ∧ w'.cell? ⟨(ad650.add (((ji9)).toNat * 3)).block, (ad650.add (((ji9)).toNat * 3)).off + 1, none⟩ = some (.int .i64 ((T73 l0 (ji9)).f1)) ∧ w'.cell? ⟨(ad650.add (((ji9)).toNat * 3)).block, (ad650.add (((ji9)).toNat * 3)).off + 2, none⟩ = some (.slice A653_2 ((T73 l0 (ji9)).f2).length c653_2) ∧ w'.cell? (ad650.add (((ji9)).toNat * 3)) = some (.int .i64 ((T73 l0 (ji9)).f0)) ∧ w'.cell? ⟨(ad650.add (((ji9)).toNat * 3)).block, (ad650.add (((ji9)).toNat * 3)).off + 1, none⟩ = some (.int .i64 ((T73 l0 (ji9)).f1)) ∧ w'.cell? ⟨(ad650.add (((ji9)).toNat * 3)).block, (ad650.add (((ji9)).toNat * 3)).off + 2, none⟩ = some (.slice A653_2 ((T73 l0 (ji9)).f2).length c653_2)) (ds := []) #[O,O,O,O,O,O,O,O,O,O,O,O,O,O,O,O,O,O,O,O,O,O,O,O,O,O,O,O,O,O,O,O,O,O,O,O,O,O,O,O] (by kernel_rfl) rfl rfl ⟨(blk_cell BK651.out 0).trans rfl, (blk_cell BK651.out 1).trans rfl, (blk_cell BK651.out 2).trans rfl, ((HB.out.cell (World.block_lt_of_cell? w _ hw653_0)).trans hw653_0), ((HB.out.cell (World.block_lt_of_cell? w _ hw653_1)).trans hw653_1), ((HB.out.cell (World.block_lt_of_cell? w _ hw653_2)).trans hw653_2), ((HB.out.cell (World.block_lt_of_cell? w _ hw654_0)).trans hw654_0), ((HB.out.cell (World.block_lt_of_cell? w _ hw654_1)).trans hw654_1), ((HB.out.cell (World.block_lt_of_cell? w _ hw654_2)).trans hw654_2), ((HB.out.cell (World.block_lt_of_cell? w _ hw658_0)).trans hw658_0), ((HB.out.cell (World.block_lt_of_cell? w _ hw658_1)).trans hw658_1), ((HB.out.cell (World.block_lt_of_cell? w _ hw658_2)).trans hw658_2), ((HB.out.cell (World.block_lt_of_cell? w _ hw659_0)).trans hw659_0), ((HB.out.cell (World.block_lt_of_cell? w _ hw659_1)).trans hw659_1), ((HB.out.cell (World.block_lt_of_cell? w _ hw659_2)).trans hw659_2)⟩ (fun hHeld => ?_); refine with_tabW impl_goodGroups.tab8 impl_goodGroups.bits8 (fun HT_ HW_ => ?_)
         generalize w32.drew = w33 at BK651 HB HR653_2 HR654_2 HR658_2 HR659_2 hx653_0 hx653_1 hx653_2 hx654_0 hx654_1 hx654_2 hx658_0 hx658_1 hx658_2 hx659_0 hx659_1 hx659_2 hHeld ⊢
         refine pu 0 (some 18) ?_
         refine pu 1 (some 19) ?_
         refine pu 2 (some 20) ?_
         refine pu 3 (some 21) ?_
         refine pu 5 (some 23) ?_
         refine pu 6 (some 24) ?_
         refine pu 7 (some 25) ?_
         refine pu 8 (some 26) ?_
         refine pu 9 (some 27) ?_
         refine pu 11 (some 29) ?_
         refine pu 12 (some 30) ?_
         refine pu 13 (some 31) ?_
         refine pu 14 (some 32) ?_
         refine ta 4 (some 22) ?_
         refine ta 10 (some 28) ?_
         refine ta 15 (some 33) ?_
         refine one_ (i := 16) (N := some 34) #[Y,Y,Y,Y,Y,Y,Y,Y,Y,Y,Y,Y,Y,Y,Y,Y,Y,O,O,O,O,O,O,O,O,O,O,O,O,O,O,O,O,O,O,O,O,O,O,O] rfl rfl (one_of HT_.out (by kernel_rfl)) (by decide) (fun K hK => ?_)
         refine goes_ Try.func112 (by kernel_rfl) rfl #[.agg #[.int .i64 ((T73 l0 (ji9)).f0), .int .i64 ((T73 l0 (ji9)).f1), .slice A653_2 ((T73 l0 (ji9)).f2).length c653_2]] (by rfl) rfl rfl (by (try simp only [List.map_toArray, List.map_cons, List.map_nil]); rfl) ?_
         with_reducible refine (impl_Group_old.calls k1 ((T73 l0 (ji9)).f0) ((T73 l0 (ji9)).f1) _ _ ((T73 l0 (ji9)).f2) t655 _ ?side1 ?side2 A12.out).mono ?_
         (case side1 => exact zq (Kd.C_below HR654_2.out HB.out))
         (case side2 => exact HC654_2.out)
         rintro e w34 ⟨v656, rfl, ho0, hb⟩
         refine ⟨_, rfl, ?_⟩
         have HO657 := am (Kd.R_lower ho0 (below_size (by repeat ((with_reducible exact HB.out)))))
         replace BK651 := am (blk_below (g := gb651) (o := .cells #[.int .i64 ((T73 l0 x10_1).f0), .int .i64 ((T73 l0 x10_1).f1), .slice A650_2 ((T73 l0 x10_1).f2).length c650_2] 73 (0, 0)) (zk BK651.out) hb)
         replace HB := am (below_step (by repeat ((with_reducible exact HB.out))) hb)
         (try clear hb)
         (try clear ho0)
         obtain ⟨Ao35, co35, eo35⟩ := Kd.R_slice HO657.out
         (subst eo35)
         refine hK.out _ _ ⟨(blk_cell BK651.out 0).trans rfl, (blk_cell BK651.out 1).trans rfl, (blk_cell BK651.out 2).trans rfl, ((HB.out.cell (World.block_lt_of_cell? w _ hw653_0)).trans hw653_0), ((HB.out.cell (World.block_lt_of_cell? w _ hw653_1)).trans hw653_1), ((HB.out.cell (World.block_lt_of_cell? w _ hw653_2)).trans hw653_2), ((HB.out.cell (World.block_lt_of_cell? w _ hw654_0)).trans hw654_0), ((HB.out.cell (World.block_lt_of_cell? w _ hw654_1)).trans hw654_1), ((HB.out.cell (World.block_lt_of_cell? w _ hw654_2)).trans hw654_2), ((HB.out.cell (World.block_lt_of_cell? w _ hw658_0)).trans hw658_0), ((HB.out.cell (World.block_lt_of_cell? w _ hw658_1)).trans hw658_1), ((HB.out.cell (World.block_lt_of_cell? w _ hw658_2)).trans hw658_2), ((HB.out.cell (World.block_lt_of_cell? w _ hw659_0)).trans hw659_0), ((HB.out.cell (World.block_lt_of_cell? w _ hw659_1)).trans hw659_1), ((HB.out.cell (World.block_lt_of_cell? w _ hw659_2)).trans hw659_2)⟩ (fun hHeld => ?_)
         clear hK K
         refine norm_ (a' := ?_) ?_ ?_
         rotate_left
         ·show Act.put _ (some 34) _ = _
          simp only [Act.put,qa,qb,qc,i64_w,i32_w]
          rfl
         refine pu 17 (some 35) ?_
         refine pu 18 (some 36) ?_
         refine pu 19 (some 37) ?_
         refine pu 20 (some 38) ?_
         refine pu 21 (some 39) ?_
         refine pu 23 (some 41) ?_
         refine pu 24 (some 42) ?_
         refine pu 25 (some 43) ?_
         refine pu 26 (some 44) ?_
         refine pu 27 (some 45) ?_
         refine pu 29 (some 47) ?_
         refine pu 30 (some 48) ?_
         refine pu 31 (some 49) ?_
         refine pu 32 (some 50) ?_
         refine ta 22 (some 40) ?_
         refine ta 28 (some 46) ?_
         refine ta 33 (some 51) ?_
         refine one_ (i := 34) (N := some 52) #[Y,Y,Y,Y,Y,Y,Y,Y,Y,Y,Y,Y,Y,Y,Y,Y,Y,Y,Y,Y,Y,Y,Y,Y,Y,Y,Y,Y,Y,Y,Y,Y,Y,Y,Y,O,O,O,O,O] rfl rfl (one_of HT_.out (by kernel_rfl)) (by decide) (fun K hK => ?_)
         refine goes_ Try.func121 (by kernel_rfl) rfl #[.agg #[.int .i64 ((T73 l0 (ji9)).f0), .int .i64 ((T73 l0 (ji9)).f1), .slice A653_2 ((T73 l0 (ji9)).f2).length c653_2]] (by rfl) rfl rfl (by (try simp only [List.map_toArray, List.map_cons, List.map_nil]); rfl) ?_
         with_reducible refine (impl_Group_fresh.calls k1 ((T73 l0 (ji9)).f0) ((T73 l0 (ji9)).f1) _ _ ((T73 l0 (ji9)).f2) t660 _ ?side1 ?side2 A20.out).mono ?_
         (case side1 => exact zq (Kd.C_below HR659_2.out HB.out))
         (case side2 => exact HC659_2.out)
         rintro e w36 ⟨v661, rfl, ho0, hb⟩
         refine ⟨_, rfl, ?_⟩
         have HO662 := am (Kd.R_lower (Kd.R_new' ho0 (Kd.R_lt (zr HO657.out))) (below_size (by repeat ((with_reducible exact HB.out)))))
         replace HO657 := am (Kd.R_elder' (zr HO657.out) (Kd.R_base ho0) hb)
         replace BK651 := am (blk_below (g := gb651) (o := .cells #[.int .i64 ((T73 l0 x10_1).f0), .int .i64 ((T73 l0 x10_1).f1), .slice A650_2 ((T73 l0 x10_1).f2).length c650_2] 73 (0, 0)) (zk BK651.out) hb)
         replace HB := am (below_step (by repeat ((with_reducible exact HB.out))) hb)
         (try clear hb)
         (try clear ho0)
         obtain ⟨Ao37, co37, eo37⟩ := Kd.R_slice HO662.out
         (subst eo37)
         refine hK.out _ _ ⟨(blk_cell BK651.out 0).trans rfl, (blk_cell BK651.out 1).trans rfl, (blk_cell BK651.out 2).trans rfl, ((HB.out.cell (World.block_lt_of_cell? w _ hw653_0)).trans hw653_0), ((HB.out.cell (World.block_lt_of_cell? w _ hw653_1)).trans hw653_1), ((HB.out.cell (World.block_lt_of_cell? w _ hw653_2)).trans hw653_2), ((HB.out.cell (World.block_lt_of_cell? w _ hw654_0)).trans hw654_0), ((HB.out.cell (World.block_lt_of_cell? w _ hw654_1)).trans hw654_1), ((HB.out.cell (World.block_lt_of_cell? w _ hw654_2)).trans hw654_2), ((HB.out.cell (World.block_lt_of_cell? w _ hw658_0)).trans hw658_0), ((HB.out.cell (World.block_lt_of_cell? w _ hw658_1)).trans hw658_1), ((HB.out.cell (World.block_lt_of_cell? w _ hw658_2)).trans hw658_2), ((HB.out.cell (World.block_lt_of_cell? w _ hw659_0)).trans hw659_0), ((HB.out.cell (World.block_lt_of_cell? w _ hw659_1)).trans hw659_1), ((HB.out.cell (World.block_lt_of_cell? w _ hw659_2)).trans hw659_2)⟩ (fun hHeld => ?_)
         clear hK K
         refine norm_ (a' := ?_) ?_ ?_
         rotate_left
         ·show Act.put _ (some 52) _ = _
          simp only [Act.put,qa,qb,qc,i64_w,i32_w]
          rfl
         refine pu 35 (some 53) ?_
         refine pu 36 (some 54) ?_
         refine pu 37 (some 55) ?_
         refine pu 38 (some 56) ?_
         refine pu 39 (some 57) ?_
         refine done_ (done_of HT_.out (by kernel_rfl)) ?_
         try go_wp2
         go_roundg k1
         case measure => have := HK1.out; omega
         case rel => exact ⟨(wrap64 (x10_1 + 1)), zf, H', ⟨by have := HK1.out; omega⟩, ⟨by repeat ((with_reducible exact HB.out))⟩⟩
      ·rw [if_neg c8] at H
       have c8b0 : decide (0 < x10_1) = false := decide_eq_false c8
       clear c8
       have H' := am H
       clear H
       have p650 : 0 ≤ (x10_1 : Int) := oa
       have q650 : x10_1 < (l0.length : Int) := oa
       obtain ⟨ad650, A650_2, c650_2, e650, hx650_0, hx650_1, hx650_2, hl650_2, hi650_2⟩ := at_T73 HR0.out x10_1 p650 q650
       cases e650
       replace hx650_0 := bc HB.out hx650_0
       replace hx650_1 := bc HB.out hx650_1
       replace hx650_2 := bc HB.out hx650_2
       have HR650_2 := am hi650_2
       have HC650_2 := am hl650_2
       clear hi650_2 hl650_2
       replace p650 := eq_true p650
       replace q650 := eq_true q650
       try go_wp2_with (first | ((with_reducible refine gate_dst (N := 4) rfl ?_); (try (refine gate_guard (by rfl) ?_; dsimp only)); refine box_event ?hg (N := 4) ?hd (cs := #[.int .i64 0, .int .i64 0, .slice none 0 0]) (t := 73) ?hr ?_; (case hd => rfl); (case hg => rfl); (case hr => (go_simp; done)); intro gb651 hg w38 hbox hb; have BK651 := am (hbox); have GW651 := am ((by rw [hg]; exact (below_size zb) : w.heap.size ≤ gb651)); have GE651 := am ((by rw [hg]; exact (below_size zb) : w.heap.size ≤ gb651)); replace HB := am (below_step zb hb); clear hb hbox hg; obtain ⟨hcz39_0, hcz39_1, hcz39_2⟩ := cz3 BK651.out; obtain ⟨hfz39_0, hfz39_1, hfz39_2⟩ := fz3 BK651.out) | ((with_reducible refine gateC (f := 111) rfl ?_); refine goesL_ (some 16) rfl rfl Try.func111 (by kernel_rfl) rfl #[.agg #[.int .i64 ((T73 l0 x10_1).f0), .int .i64 ((T73 l0 x10_1).f1), .slice A650_2 ((T73 l0 x10_1).f2).length c650_2]] rfl zm ?_; (with_reducible refine (impl_goodGroup.calls k1 ((T73 l0 x10_1).f0) ((T73 l0 x10_1).f1) _ _ ((T73 l0 x10_1).f2) true _ ?side1 ?side2 A6.out).mono ?_); (case side1 => exact Kd.C_below HR650_2.out (by repeat ((with_reducible first | exact HB.out | refine below_set ?_ GE651.out)))); (case side2 => exact HC650_2.out); rintro e w40 ⟨rfl, hb⟩; refine ⟨_, rfl, ?_⟩; replace BK651 := am (blk_below (g := gb651) (o := .cells #[.int .i64 ((T73 l0 x10_1).f0), .int .i64 ((T73 l0 x10_1).f1), .slice A650_2 ((T73 l0 x10_1).f2).length c650_2] 73 (0, 0)) (by refine blk_put (cs := #[.int .i64 ((T73 l0 x10_1).f0), .int .i64 ((T73 l0 x10_1).f1), .slice none 0 0]) ?_ 2 _ rfl; refine blk_put (cs := #[.int .i64 ((T73 l0 x10_1).f0), .int .i64 0, .slice none 0 0]) ?_ 1 _ rfl; refine blk_put (cs := #[.int .i64 0, .int .i64 0, .slice none 0 0]) ?_ 0 _ rfl; exact BK651.out) hb); replace HB := am (below_step (by repeat ((with_reducible first | exact HB.out | refine below_set ?_ GE651.out))) hb); (try clear hb)))
       replace BK651 := am (blk_drew BK651.out)
       replace HB := am (below_drew1 HB.out)
       refine start_ (n := 40) (S := fun w' => True) (ds := []) #[O,O,O,O,O,O,O,O,O,O,O,O,O,O,O,O,O,O,O,O,O,O,O,O,O,O,O,O,O,O,O,O,O,O,O,O,O,O,O,O] (by kernel_rfl) rfl rfl trivial (fun hHeld => ?_); refine with_tabW impl_goodGroups.tab8 impl_goodGroups.bits8 (fun HT_ HW_ => ?_)
       generalize w40.drew = w41 at BK651 HB hHeld ⊢
       refine pu 0 (some 18) ?_
       refine pu 1 (some 19) ?_
       refine pu 2 (some 20) ?_
       refine pure_ (i := 3) (N := some 21) (v := undef) (a' := ?_) #[Y,Y,Y,Y,O,O,O,O,O,O,O,O,O,O,O,O,O,O,O,O,O,O,O,O,O,O,O,O,O,O,O,O,O,O,O,O,O,O,O,O] rfl rfl zx (fun _ _ _ h => h) (Or.inr ⟨by rfl, rfl⟩) ?_ ?_
       rotate_left
       ·simp only [Act.put,qa,qb,qc,i64_w,i32_w]
        rfl
       refine pure_ (i := 4) (N := some 22) (v := undef) (a' := ?_) #[Y,Y,Y,Y,Y,O,O,O,O,O,O,O,O,O,O,O,O,O,O,O,O,O,O,O,O,O,O,O,O,O,O,O,O,O,O,O,O,O,O,O] rfl rfl zx (fun _ _ _ h => h) (Or.inr ⟨by rfl, rfl⟩) ?_ ?_
       rotate_left
       ·simp only [Act.put,qa,qb,qc,i64_w,i32_w]
        rfl
       refine pure_ (i := 5) (N := some 23) (v := undef) (a' := ?_) #[Y,Y,Y,Y,Y,Y,O,O,O,O,O,O,O,O,O,O,O,O,O,O,O,O,O,O,O,O,O,O,O,O,O,O,O,O,O,O,O,O,O,O] rfl rfl zx (fun _ _ _ h => h) (Or.inr ⟨by rfl, rfl⟩) ?_ ?_
       rotate_left
       ·simp only [Act.put,qa,qb,qc,i64_w,i32_w]
        rfl
       refine pure_ (i := 6) (N := some 24) (v := undef) (a' := ?_) #[Y,Y,Y,Y,Y,Y,Y,O,O,O,O,O,O,O,O,O,O,O,O,O,O,O,O,O,O,O,O,O,O,O,O,O,O,O,O,O,O,O,O,O] rfl rfl zx (fun _ _ _ h => h) (Or.inr ⟨by rfl, rfl⟩) ?_ ?_
       rotate_left
       ·simp only [Act.put,qa,qb,qc,i64_w,i32_w]
        rfl
       refine pure_ (i := 7) (N := some 25) (v := undef) (a' := ?_) #[Y,Y,Y,Y,Y,Y,Y,Y,O,O,O,O,O,O,O,O,O,O,O,O,O,O,O,O,O,O,O,O,O,O,O,O,O,O,O,O,O,O,O,O] rfl rfl zx (fun _ _ _ h => h) (Or.inr ⟨by rfl, rfl⟩) ?_ ?_
       rotate_left
       ·simp only [Act.put,qa,qb,qc,i64_w,i32_w]
        rfl
       refine pure_ (i := 8) (N := some 26) (v := undef) (a' := ?_) #[Y,Y,Y,Y,Y,Y,Y,Y,Y,O,O,O,O,O,O,O,O,O,O,O,O,O,O,O,O,O,O,O,O,O,O,O,O,O,O,O,O,O,O,O] rfl rfl zx (fun _ _ _ h => h) (Or.inr ⟨by rfl, rfl⟩) ?_ ?_
       rotate_left
       ·simp only [Act.put,qa,qb,qc,i64_w,i32_w]
        rfl
       refine pure_ (i := 9) (N := some 27) (v := undef) (a' := ?_) #[Y,Y,Y,Y,Y,Y,Y,Y,Y,Y,O,O,O,O,O,O,O,O,O,O,O,O,O,O,O,O,O,O,O,O,O,O,O,O,O,O,O,O,O,O] rfl rfl zx (fun _ _ _ h => h) (Or.inr ⟨by rfl, rfl⟩) ?_ ?_
       rotate_left
       ·simp only [Act.put,qa,qb,qc,i64_w,i32_w]
        rfl
       refine pure_ (i := 10) (N := some 28) (v := undef) (a' := ?_) #[Y,Y,Y,Y,Y,Y,Y,Y,Y,Y,Y,O,O,O,O,O,O,O,O,O,O,O,O,O,O,O,O,O,O,O,O,O,O,O,O,O,O,O,O,O] rfl rfl zx (fun _ _ _ h => h) (Or.inr ⟨by rfl, rfl⟩) ?_ ?_
       rotate_left
       ·simp only [Act.put,qa,qb,qc,i64_w,i32_w]
        rfl
       refine pure_ (i := 11) (N := some 29) (v := undef) (a' := ?_) #[Y,Y,Y,Y,Y,Y,Y,Y,Y,Y,Y,Y,O,O,O,O,O,O,O,O,O,O,O,O,O,O,O,O,O,O,O,O,O,O,O,O,O,O,O,O] rfl rfl zx (fun _ _ _ h => h) (Or.inr ⟨by rfl, rfl⟩) ?_ ?_
       rotate_left
       ·simp only [Act.put,qa,qb,qc,i64_w,i32_w]
        rfl
       refine pure_ (i := 12) (N := some 30) (v := undef) (a' := ?_) #[Y,Y,Y,Y,Y,Y,Y,Y,Y,Y,Y,Y,Y,O,O,O,O,O,O,O,O,O,O,O,O,O,O,O,O,O,O,O,O,O,O,O,O,O,O,O] rfl rfl zx (fun _ _ _ h => h) (Or.inr ⟨by rfl, rfl⟩) ?_ ?_
       rotate_left
       ·simp only [Act.put,qa,qb,qc,i64_w,i32_w]
        rfl
       refine pure_ (i := 13) (N := some 31) (v := undef) (a' := ?_) #[Y,Y,Y,Y,Y,Y,Y,Y,Y,Y,Y,Y,Y,Y,O,O,O,O,O,O,O,O,O,O,O,O,O,O,O,O,O,O,O,O,O,O,O,O,O,O] rfl rfl zx (fun _ _ _ h => h) (Or.inr ⟨by rfl, rfl⟩) ?_ ?_
       rotate_left
       ·simp only [Act.put,qa,qb,qc,i64_w,i32_w]
        rfl
       refine pure_ (i := 14) (N := some 32) (v := undef) (a' := ?_) #[Y,Y,Y,Y,Y,Y,Y,Y,Y,Y,Y,Y,Y,Y,Y,O,O,O,O,O,O,O,O,O,O,O,O,O,O,O,O,O,O,O,O,O,O,O,O,O] rfl rfl zx (fun _ _ _ h => h) (Or.inr ⟨by rfl, rfl⟩) ?_ ?_
       rotate_left
       ·simp only [Act.put,qa,qb,qc,i64_w,i32_w]
        rfl
       refine pure_ (i := 15) (N := some 33) (v := undef) (a' := ?_) #[Y,Y,Y,Y,Y,Y,Y,Y,Y,Y,Y,Y,Y,Y,Y,Y,O,O,O,O,O,O,O,O,O,O,O,O,O,O,O,O,O,O,O,O,O,O,O,O] rfl rfl zx (fun _ _ _ h => h) (Or.inr ⟨by rfl, rfl⟩) ?_ ?_
       rotate_left
       ·simp only [Act.put,qa,qb,qc,i64_w,i32_w]
        rfl
       refine pure_ (i := 16) (N := some 34) (v := undef) (a' := ?_) #[Y,Y,Y,Y,Y,Y,Y,Y,Y,Y,Y,Y,Y,Y,Y,Y,Y,O,O,O,O,O,O,O,O,O,O,O,O,O,O,O,O,O,O,O,O,O,O,O] rfl rfl zx (fun _ _ _ h => h) (Or.inr ⟨by rfl, rfl⟩) ?_ ?_
       rotate_left
       ·simp only [Act.put,qa,qb,qc,i64_w,i32_w]
        rfl
       refine pure_ (i := 17) (N := some 35) (v := undef) (a' := ?_) #[Y,Y,Y,Y,Y,Y,Y,Y,Y,Y,Y,Y,Y,Y,Y,Y,Y,Y,O,O,O,O,O,O,O,O,O,O,O,O,O,O,O,O,O,O,O,O,O,O] rfl rfl zx (fun _ _ _ h => h) (Or.inr ⟨by rfl, rfl⟩) ?_ ?_
       rotate_left
       ·simp only [Act.put,qa,qb,qc,i64_w,i32_w]
        rfl
       refine pure_ (i := 18) (N := some 36) (v := undef) (a' := ?_) #[Y,Y,Y,Y,Y,Y,Y,Y,Y,Y,Y,Y,Y,Y,Y,Y,Y,Y,Y,O,O,O,O,O,O,O,O,O,O,O,O,O,O,O,O,O,O,O,O,O] rfl rfl zx (fun _ _ _ h => h) (Or.inr ⟨by rfl, rfl⟩) ?_ ?_
       rotate_left
       ·simp only [Act.put,qa,qb,qc,i64_w,i32_w]
        rfl
       refine pure_ (i := 19) (N := some 37) (v := undef) (a' := ?_) #[Y,Y,Y,Y,Y,Y,Y,Y,Y,Y,Y,Y,Y,Y,Y,Y,Y,Y,Y,Y,O,O,O,O,O,O,O,O,O,O,O,O,O,O,O,O,O,O,O,O] rfl rfl zx (fun _ _ _ h => h) (Or.inr ⟨by rfl, rfl⟩) ?_ ?_
       rotate_left
       ·simp only [Act.put,qa,qb,qc,i64_w,i32_w]
        rfl
       refine pure_ (i := 20) (N := some 38) (v := undef) (a' := ?_) #[Y,Y,Y,Y,Y,Y,Y,Y,Y,Y,Y,Y,Y,Y,Y,Y,Y,Y,Y,Y,Y,O,O,O,O,O,O,O,O,O,O,O,O,O,O,O,O,O,O,O] rfl rfl zx (fun _ _ _ h => h) (Or.inr ⟨by rfl, rfl⟩) ?_ ?_
       rotate_left
       ·simp only [Act.put,qa,qb,qc,i64_w,i32_w]
        rfl
       refine pure_ (i := 21) (N := some 39) (v := undef) (a' := ?_) #[Y,Y,Y,Y,Y,Y,Y,Y,Y,Y,Y,Y,Y,Y,Y,Y,Y,Y,Y,Y,Y,Y,O,O,O,O,O,O,O,O,O,O,O,O,O,O,O,O,O,O] rfl rfl zx (fun _ _ _ h => h) (Or.inr ⟨by rfl, rfl⟩) ?_ ?_
       rotate_left
       ·simp only [Act.put,qa,qb,qc,i64_w,i32_w]
        rfl
       refine pure_ (i := 22) (N := some 40) (v := undef) (a' := ?_) #[Y,Y,Y,Y,Y,Y,Y,Y,Y,Y,Y,Y,Y,Y,Y,Y,Y,Y,Y,Y,Y,Y,Y,O,O,O,O,O,O,O,O,O,O,O,O,O,O,O,O,O] rfl rfl zx (fun _ _ _ h => h) (Or.inr ⟨by rfl, rfl⟩) ?_ ?_
       rotate_left
       ·simp only [Act.put,qa,qb,qc,i64_w,i32_w]
        rfl
       refine pure_ (i := 23) (N := some 41) (v := undef) (a' := ?_) #[Y,Y,Y,Y,Y,Y,Y,Y,Y,Y,Y,Y,Y,Y,Y,Y,Y,Y,Y,Y,Y,Y,Y,Y,O,O,O,O,O,O,O,O,O,O,O,O,O,O,O,O] rfl rfl zx (fun _ _ _ h => h) (Or.inr ⟨by rfl, rfl⟩) ?_ ?_
       rotate_left
       ·simp only [Act.put,qa,qb,qc,i64_w,i32_w]
        rfl
       refine pure_ (i := 24) (N := some 42) (v := undef) (a' := ?_) #[Y,Y,Y,Y,Y,Y,Y,Y,Y,Y,Y,Y,Y,Y,Y,Y,Y,Y,Y,Y,Y,Y,Y,Y,Y,O,O,O,O,O,O,O,O,O,O,O,O,O,O,O] rfl rfl zx (fun _ _ _ h => h) (Or.inr ⟨by rfl, rfl⟩) ?_ ?_
       rotate_left
       ·simp only [Act.put,qa,qb,qc,i64_w,i32_w]
        rfl
       refine pure_ (i := 25) (N := some 43) (v := undef) (a' := ?_) #[Y,Y,Y,Y,Y,Y,Y,Y,Y,Y,Y,Y,Y,Y,Y,Y,Y,Y,Y,Y,Y,Y,Y,Y,Y,Y,O,O,O,O,O,O,O,O,O,O,O,O,O,O] rfl rfl zx (fun _ _ _ h => h) (Or.inr ⟨by rfl, rfl⟩) ?_ ?_
       rotate_left
       ·simp only [Act.put,qa,qb,qc,i64_w,i32_w]
        rfl
       refine pure_ (i := 26) (N := some 44) (v := undef) (a' := ?_) #[Y,Y,Y,Y,Y,Y,Y,Y,Y,Y,Y,Y,Y,Y,Y,Y,Y,Y,Y,Y,Y,Y,Y,Y,Y,Y,Y,O,O,O,O,O,O,O,O,O,O,O,O,O] rfl rfl zx (fun _ _ _ h => h) (Or.inr ⟨by rfl, rfl⟩) ?_ ?_
       rotate_left
       ·simp only [Act.put,qa,qb,qc,i64_w,i32_w]
        rfl
       refine pure_ (i := 27) (N := some 45) (v := undef) (a' := ?_) #[Y,Y,Y,Y,Y,Y,Y,Y,Y,Y,Y,Y,Y,Y,Y,Y,Y,Y,Y,Y,Y,Y,Y,Y,Y,Y,Y,Y,O,O,O,O,O,O,O,O,O,O,O,O] rfl rfl zx (fun _ _ _ h => h) (Or.inr ⟨by rfl, rfl⟩) ?_ ?_
       rotate_left
       ·simp only [Act.put,qa,qb,qc,i64_w,i32_w]
        rfl
       refine pure_ (i := 28) (N := some 46) (v := undef) (a' := ?_) #[Y,Y,Y,Y,Y,Y,Y,Y,Y,Y,Y,Y,Y,Y,Y,Y,Y,Y,Y,Y,Y,Y,Y,Y,Y,Y,Y,Y,Y,O,O,O,O,O,O,O,O,O,O,O] rfl rfl zx (fun _ _ _ h => h) (Or.inr ⟨by rfl, rfl⟩) ?_ ?_
       rotate_left
       ·simp only [Act.put,qa,qb,qc,i64_w,i32_w]
        rfl
       refine pure_ (i := 29) (N := some 47) (v := undef) (a' := ?_) #[Y,Y,Y,Y,Y,Y,Y,Y,Y,Y,Y,Y,Y,Y,Y,Y,Y,Y,Y,Y,Y,Y,Y,Y,Y,Y,Y,Y,Y,Y,O,O,O,O,O,O,O,O,O,O] rfl rfl zx (fun _ _ _ h => h) (Or.inr ⟨by rfl, rfl⟩) ?_ ?_
       rotate_left
       ·simp only [Act.put,qa,qb,qc,i64_w,i32_w]
        rfl
       refine pure_ (i := 30) (N := some 48) (v := undef) (a' := ?_) #[Y,Y,Y,Y,Y,Y,Y,Y,Y,Y,Y,Y,Y,Y,Y,Y,Y,Y,Y,Y,Y,Y,Y,Y,Y,Y,Y,Y,Y,Y,Y,O,O,O,O,O,O,O,O,O] rfl rfl zx (fun _ _ _ h => h) (Or.inr ⟨by rfl, rfl⟩) ?_ ?_
       rotate_left
       ·simp only [Act.put,qa,qb,qc,i64_w,i32_w]
        rfl
       refine pure_ (i := 31) (N := some 49) (v := undef) (a' := ?_) #[Y,Y,Y,Y,Y,Y,Y,Y,Y,Y,Y,Y,Y,Y,Y,Y,Y,Y,Y,Y,Y,Y,Y,Y,Y,Y,Y,Y,Y,Y,Y,Y,O,O,O,O,O,O,O,O] rfl rfl zx (fun _ _ _ h => h) (Or.inr ⟨by rfl, rfl⟩) ?_ ?_
       rotate_left
       ·simp only [Act.put,qa,qb,qc,i64_w,i32_w]
        rfl
       refine pure_ (i := 32) (N := some 50) (v := undef) (a' := ?_) #[Y,Y,Y,Y,Y,Y,Y,Y,Y,Y,Y,Y,Y,Y,Y,Y,Y,Y,Y,Y,Y,Y,Y,Y,Y,Y,Y,Y,Y,Y,Y,Y,Y,O,O,O,O,O,O,O] rfl rfl zx (fun _ _ _ h => h) (Or.inr ⟨by rfl, rfl⟩) ?_ ?_
       rotate_left
       ·simp only [Act.put,qa,qb,qc,i64_w,i32_w]
        rfl
       refine pure_ (i := 33) (N := some 51) (v := undef) (a' := ?_) #[Y,Y,Y,Y,Y,Y,Y,Y,Y,Y,Y,Y,Y,Y,Y,Y,Y,Y,Y,Y,Y,Y,Y,Y,Y,Y,Y,Y,Y,Y,Y,Y,Y,Y,O,O,O,O,O,O] rfl rfl zx (fun _ _ _ h => h) (Or.inr ⟨by rfl, rfl⟩) ?_ ?_
       rotate_left
       ·simp only [Act.put,qa,qb,qc,i64_w,i32_w]
        rfl
       refine pure_ (i := 34) (N := some 52) (v := undef) (a' := ?_) #[Y,Y,Y,Y,Y,Y,Y,Y,Y,Y,Y,Y,Y,Y,Y,Y,Y,Y,Y,Y,Y,Y,Y,Y,Y,Y,Y,Y,Y,Y,Y,Y,Y,Y,Y,O,O,O,O,O] rfl rfl zx (fun _ _ _ h => h) (Or.inr ⟨by rfl, rfl⟩) ?_ ?_
       rotate_left
       ·simp only [Act.put,qa,qb,qc,i64_w,i32_w]
        rfl
       refine pure_ (i := 35) (N := some 53) (v := undef) (a' := ?_) #[Y,Y,Y,Y,Y,Y,Y,Y,Y,Y,Y,Y,Y,Y,Y,Y,Y,Y,Y,Y,Y,Y,Y,Y,Y,Y,Y,Y,Y,Y,Y,Y,Y,Y,Y,Y,O,O,O,O] rfl rfl zx (fun _ _ _ h => h) (Or.inr ⟨by rfl, rfl⟩) ?_ ?_
       rotate_left
       ·simp only [Act.put,qa,qb,qc,i64_w,i32_w]
        rfl
       refine pure_ (i := 36) (N := some 54) (v := undef) (a' := ?_) #[Y,Y,Y,Y,Y,Y,Y,Y,Y,Y,Y,Y,Y,Y,Y,Y,Y,Y,Y,Y,Y,Y,Y,Y,Y,Y,Y,Y,Y,Y,Y,Y,Y,Y,Y,Y,Y,O,O,O] rfl rfl zx (fun _ _ _ h => h) (Or.inr ⟨by rfl, rfl⟩) ?_ ?_
       rotate_left
       ·simp only [Act.put,qa,qb,qc,i64_w,i32_w]
        rfl
       refine pure_ (i := 37) (N := some 55) (v := undef) (a' := ?_) #[Y,Y,Y,Y,Y,Y,Y,Y,Y,Y,Y,Y,Y,Y,Y,Y,Y,Y,Y,Y,Y,Y,Y,Y,Y,Y,Y,Y,Y,Y,Y,Y,Y,Y,Y,Y,Y,Y,O,O] rfl rfl zx (fun _ _ _ h => h) (Or.inr ⟨by rfl, rfl⟩) ?_ ?_
       rotate_left
       ·simp only [Act.put,qa,qb,qc,i64_w,i32_w]
        rfl
       refine pure_ (i := 38) (N := some 56) (v := undef) (a' := ?_) #[Y,Y,Y,Y,Y,Y,Y,Y,Y,Y,Y,Y,Y,Y,Y,Y,Y,Y,Y,Y,Y,Y,Y,Y,Y,Y,Y,Y,Y,Y,Y,Y,Y,Y,Y,Y,Y,Y,Y,O] rfl rfl zx (fun _ _ _ h => h) (Or.inr ⟨by rfl, rfl⟩) ?_ ?_
       rotate_left
       ·simp only [Act.put,qa,qb,qc,i64_w,i32_w]
        rfl
       refine pu 39 (some 57) ?_
       refine done_ (done_of HT_.out (by kernel_rfl)) ?_
       try go_wp2
       go_roundg k1
       case measure => have := HK1.out; omega
       case rel => exact ⟨(wrap64 (x10_1 + 1)), zf, H', ⟨by have := HK1.out; omega⟩, ⟨by repeat ((with_reducible exact HB.out))⟩⟩
     ·replace c7 := Bool.eq_false_iff.mpr c7
      subst c7
      rw [if_neg nofun] at H
      obtain rfl := Option.some.inj H
      have p650 : 0 ≤ (x10_1 : Int) := oa
      have q650 : x10_1 < (l0.length : Int) := oa
      obtain ⟨ad650, A650_2, c650_2, e650, hx650_0, hx650_1, hx650_2, hl650_2, hi650_2⟩ := at_T73 HR0.out x10_1 p650 q650
      cases e650
      replace hx650_0 := bc HB.out hx650_0
      replace hx650_1 := bc HB.out hx650_1
      replace hx650_2 := bc HB.out hx650_2
      have HR650_2 := am hi650_2
      have HC650_2 := am hl650_2
      clear hi650_2 hl650_2
      replace p650 := eq_true p650
      replace q650 := eq_true q650
      go_wp2_with (first | ((with_reducible refine gate_dst (N := 4) rfl ?_); (try (refine gate_guard (by rfl) ?_; dsimp only)); refine box_event ?hg (N := 4) ?hd (cs := #[.int .i64 0, .int .i64 0, .slice none 0 0]) (t := 73) ?hr ?_; (case hd => rfl); (case hg => rfl); (case hr => (go_simp; done)); intro gb651 hg w42 hbox hb; have BK651 := am (hbox); have GW651 := am ((by rw [hg]; exact (below_size zb) : w.heap.size ≤ gb651)); have GE651 := am ((by rw [hg]; exact (below_size zb) : w.heap.size ≤ gb651)); replace HB := am (below_step zb hb); clear hb hbox hg; obtain ⟨hcz43_0, hcz43_1, hcz43_2⟩ := cz3 BK651.out; obtain ⟨hfz43_0, hfz43_1, hfz43_2⟩ := fz3 BK651.out) | ((with_reducible refine gateC (f := 111) rfl ?_); refine goesL_ (some 16) rfl rfl Try.func111 (by kernel_rfl) rfl #[.agg #[.int .i64 ((T73 l0 x10_1).f0), .int .i64 ((T73 l0 x10_1).f1), .slice A650_2 ((T73 l0 x10_1).f2).length c650_2]] rfl zm ?_; (with_reducible refine (impl_goodGroup.calls k1 ((T73 l0 x10_1).f0) ((T73 l0 x10_1).f1) _ _ ((T73 l0 x10_1).f2) false _ ?side1 ?side2 A6.out).mono ?_); (case side1 => exact Kd.C_below HR650_2.out (by repeat ((with_reducible first | exact HB.out | refine below_set ?_ GE651.out)))); (case side2 => exact HC650_2.out); rintro e w44 ⟨rfl, hb⟩; refine ⟨_, rfl, ?_⟩; replace BK651 := am (blk_below (g := gb651) (o := .cells #[.int .i64 ((T73 l0 x10_1).f0), .int .i64 ((T73 l0 x10_1).f1), .slice A650_2 ((T73 l0 x10_1).f2).length c650_2] 73 (0, 0)) (by refine blk_put (cs := #[.int .i64 ((T73 l0 x10_1).f0), .int .i64 ((T73 l0 x10_1).f1), .slice none 0 0]) ?_ 2 _ rfl; refine blk_put (cs := #[.int .i64 ((T73 l0 x10_1).f0), .int .i64 0, .slice none 0 0]) ?_ 1 _ rfl; refine blk_put (cs := #[.int .i64 0, .int .i64 0, .slice none 0 0]) ?_ 0 _ rfl; exact BK651.out) hb); replace HB := am (below_step (by repeat ((with_reducible first | exact HB.out | refine below_set ?_ GE651.out))) hb); (try clear hb)))
      go_ret
      exact ⟨by rfl, by repeat ((with_reducible exact HB.out))⟩
    ·rw [if_neg c3] at H
     have c3b0 : decide (x10_1 < (l0.length : Int)) = false := decide_eq_false c3
     clear c3
     obtain rfl := Option.some.inj H
     go_wp2
     go_ret
     exact ⟨by rfl, by repeat ((with_reducible exact HB.out))⟩
end Go.Proofs.Ytmcldkobejhaeaa.My