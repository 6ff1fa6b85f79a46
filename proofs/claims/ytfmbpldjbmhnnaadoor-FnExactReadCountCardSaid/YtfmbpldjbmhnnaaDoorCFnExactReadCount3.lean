/- Part 3 of 3 of a proof of this sentence: The Go function loop.example/g00825/laws.FnExactReadCount returns true for every input, and each argument reads afterwards as it read before. No condition. -/
import Derived.Test.YtfmbpldjbmhnnaaDoorRows
import Derived.Test.YtfmbpldjbmhnnaaDoorCards
import Derived.Test.YtfmbpldjbmhnnaaDoorTie
import Derived.LaidMore
import Derived.LaidLaws
import Derived.Stop.LaidErr
import Derived.Stop.Joined
import Derived.SevenTiedAt
import Derived.Lib.LaidTab
import Derived.WalkKit
import Derived.ProofKit
import Derived.OpenShut
import Derived.ShutString
import Derived.ChangeOld
import Derived.Below
import Derived.SizedLaws
import Derived.Lib.SmallJoins
import Derived.Test.YtfmbpldjbmhnnaaDoorCFnExactReadCount2
/- Plain Lean: one number or two read of a text, cut at its comma. Asked: texts of at most 2^20 bytes. -/
namespace Go.Proofs.YtfmbpldjbmhnnaaDoor.Pl
open Go.RowKit Go.Proofs.YtfmbpldjbmhnnaaDoorW.PrintWords Go.Proofs.YtfmbpldjbmhnnaaDoorW.PrintLast Go.Proofs.YtfmbpldjbmhnnaaDoor.My
set_option linter.unusedVariables false
set_option linter.unusedSimpArgs false

def cutC : List UInt8 → List UInt8 × Option (List UInt8)
  | [] => ([], none)
  | c :: r => if c = 44 then ([], some r) else (c :: (cutC r).1, (cutC r).2)
def splitP : List UInt8 → List UInt8 → List (List UInt8)
  | pre, [] => [pre]
  | pre, c :: r => if c = 44 then pre :: splitP [] r else splitP (pre ++ [c]) r
theorem split_cut : ∀ (l pre : List UInt8), splitP pre l = match cutC l with
    | (a, none) => [pre ++ a]
    | (a, some b) => (pre ++ a) :: splitP [] b
  | [], pre => by simp [splitP, cutC]
  | c :: r, pre => by
    simp only [splitP, cutC]
    by_cases h : c = 44
    · rw [if_pos h, if_pos h]
      simp
    · rw [if_neg h, if_neg h, split_cut r (pre ++ [c])]
      cases h2 : cutC r with
      | mk a o => cases o with
        | none => simp
        | some b => simp
theorem cut_index : ∀ (l : List UInt8), match cutC l with
    | (a, none) => Lib.indexByte l 44 = -1 ∧ a = l
    | (a, some b) => Lib.indexByte l 44 = (a.length : Int) ∧ l = a ++ 44 :: b
  | [] => by simp [cutC, Lib.indexByte]
  | c :: r => by
    have ih := cut_index r
    simp only [cutC]
    by_cases h : c = 44
    · rw [if_pos h]
      subst h
      simp [Lib.indexByte]
    · rw [if_neg h]
      have hb : (c == 44) = false := by simpa using h
      cases h2 : cutC r with
      | mk a o =>
        rw [h2] at ih
        cases o with
        | none =>
          simp only at ih ⊢
          obtain ⟨i1, i2⟩ := ih
          subst i2
          unfold Lib.indexByte
          simp [hb, i1]
        | some b =>
          simp only at ih ⊢
          obtain ⟨i1, i2⟩ := ih
          refine ⟨?_, by rw [i2, List.cons_append]⟩
          unfold Lib.indexByte
          simp only [hb]
          rw [i1]
          have e : ((a.length : Int) == -1) = false := by
            have h9 : ¬ ((a.length : Int) = -1) := by omega
            exact beq_eq_false_iff_ne.2 h9
          simp only [e, List.length_cons]
          simp
theorem rd4_comma {a b : List UInt8} : rd4 (a ++ 44 :: b) = none := by
  cases h : rd4 (a ++ 44 :: b) with
  | none => rfl
  | some n =>
    exfalso
    obtain ⟨_, _, h3⟩ := rd4_some h
    unfold Lib.decNat at h3
    rw [if_neg (by simp)] at h3
    obtain ⟨d, hd⟩ := Lib.digit_of_decFrom _ _ _ h3 a.length 44 (by simp)
    cases hd
/-- One number or two; none where they are not in form. -/
def cutR (l : List UInt8) : Option (Nat × Option Nat) := match cutC l with
  | (a, none) => (rd4 a).map fun n => (n, none)
  | (a, some b) => (rd4 a).bind fun n => (rd4 b).map fun m => (n, some m)
def BA (l : List UInt8) : ByteArray := ⟨l.toArray⟩
theorem BA_data (l : List UInt8) : (BA l).data.toList = l := rfl
theorem ba_of {s : ByteArray} {l : List UInt8} (h : s.data.toList = l) : s = BA l := ba_ext (by rw [Lib.toList_data, Lib.toList_data, h, BA_data])
theorem BA_size (l : List UInt8) : (BA l).size = l.length := by rw [← size_len, BA_data]
theorem numR_BA (l : List UInt8) : numR (BA l) = match rd4 l with
  | some n => ((n : Int), true)
  | none => (0, false) := rfl
theorem extract_BA (s : ByteArray) (a b : Nat) : s.extract a b = BA ((s.data.toList.take b).drop a) := ba_of (by rw [ByteArray.data_extract, Array.toList_extract, List.extract_eq_take_drop, ← List.drop_take])

theorem l1Split_l0 (s : ByteArray) (hs : s.size ≤ 1048576) : ∀ d i f (out : List ByteArray), i + d = s.size → f ≤ i → out.length ≤ i →
    Ev (fun k => spec_l1Split.l0 k s 44 out (f : Int) (i : Int)) (out ++ (splitP ((s.data.toList.take i).drop f) (s.data.toList.drop i)).map BA) := by
  intro d
  induction d with
  | zero =>
    intro i f out hi hf ho
    refine Ev.step (fun k => spec_l1Split.l0.eq_2 ..) (ev_neg (by omega) (ev_pos (by omega) (ev_pos (by omega) (ev_pos (by omega) (ev_some ?_)))))
    have e0 : s.data.toList.drop i = [] := List.drop_eq_nil_of_le (by rw [size_len]; omega)
    rw [e0, Int.toNat_natCast, extract_BA]
    simp only [splitP, List.map_cons, List.map_nil]
    rw [show i = s.size from by omega]
  | succ d ih =>
    intro i f out hi hf ho
    obtain ⟨c, hc, hb⟩ := bt_drop s i (by omega)
    rw [hc]
    simp only [splitP]
    refine Ev.step (fun k => spec_l1Split.l0.eq_2 ..) (ev_pos (by omega) (ev_pos (by omega) ?_))
    rw [hb, wrap_succ i (by omega), Int.toNat_natCast, Int.toNat_natCast]
    have e44 : (44 : UInt8).toNat = 44 := rfl
    by_cases h : c = 44
    · subst h
      rw [if_pos rfl]
      refine ev_pos (by omega) (ev_pos (by omega) (ev_pos (by omega) (ev_pos (by omega) (ev_pos (by omega) ?_))))
      refine ev_to (ih (i + 1) (i + 1) _ (by omega) (Nat.le_refl _) (by rw [List.length_append, List.length_singleton]; omega)) ?_
      have e0 : (s.data.toList.take (i + 1)).drop (i + 1) = [] := List.drop_eq_nil_of_le (by rw [List.length_take]; omega)
      rw [e0, extract_BA]
      simp
    · rw [if_neg h]
      refine ev_neg (fun e => h (UInt8.toNat_inj.1 (by omega))) (ev_to (ih (i + 1) f out (by omega) (by omega) (by omega)) ?_)
      have hl : i < s.data.toList.length := by rw [size_len]; omega
      have hcc : s.data.toList[i] = c := by
        have h2 := List.drop_eq_getElem_cons hl
        rw [hc] at h2
        exact (List.cons.inj h2).1.symm
      rw [List.take_succ_eq_append_getElem hl, hcc, List.drop_append_of_le_length (by rw [List.length_take]; omega)]
theorem l1Split_ev (s : ByteArray) (hs : s.size ≤ 1048576) : Ev (fun k => spec_l1Split.f k s 44) ((splitP [] s.data.toList).map BA) := by
  simp only [spec_l1Split.f]
  exact ev_to (l1Split_l0 s hs s.size 0 0 [] (by omega) (Nat.le_refl _) (Nat.le_refl _)) (by simp)

theorem index2_ev (s : ByteArray) (c : UInt8) : Ev (fun k => stringslite_Index.f k s ⟨#[c]⟩) (Lib.indexByte s.data.toList c) := by
  have hj : ∀ b : Bool, (b = true → Lib.indexByte s.data.toList c = 0) → Ev (fun k => stringslite_Index.j0 k s ⟨#[c]⟩ 1 b) (Lib.indexByte s.data.toList c) := by
    intro b hb
    refine Ev.step (fun k => stringslite_Index.j0.eq_2 ..) ?_
    refine ev_ite (fun h => ev_some (hb h).symm) (fun _ => ?_)
    refine ev_pos rfl (ev_pos (by show (0 : Int) < ((1 : Nat) : Int); decide) ?_)
    refine ev_const ?_
    rw [show bt ⟨#[c]⟩ 0 = (c.toNat : Int) from rfl]
    simp [stringslite_IndexByte.f]
  simp only [stringslite_Index.f]
  refine ev_neg (by show ¬ (((1 : Nat) : Int) = 0); decide) ?_
  refine hj _ (fun h => ?_)
  have e : s.data.toList = [c] := by
    have := beq_iff_eq.1 h
    rw [Lib.toList_data, Lib.toList_data] at this
    exact this.symm
  rw [e]
  simp [Lib.indexByte]
theorem cut_ev (s : ByteArray) (hs : s.size ≤ 1048576) : Ev (fun k => strings_Cut.f k s ⟨#[44]⟩) (match cutC s.data.toList with
    | (a, none) => (BA a, BA [], false)
    | (a, some b) => (BA a, BA b, true)) := by
  have hl := size_len s
  have hci := cut_index s.data.toList
  simp only [strings_Cut.f, stringslite_Cut.f]
  refine ev_bind (ev_bind (index2_ev s 44) ?_) (ev_some rfl)
  cases h2 : cutC s.data.toList with
  | mk a o =>
    rw [h2] at hci
    cases o with
    | none =>
      simp only at hci ⊢
      rw [hci.1, hci.2]
      refine ev_neg (by decide) (ev_some ?_)
      rw [← ba_of rfl]
      rfl
    | some b =>
      simp only at hci ⊢
      have hlen := congrArg List.length hci.2
      rw [List.length_append, List.length_cons, hl] at hlen
      have e1 : wrap64 ((a.length : Int) + ((⟨#[44]⟩ : ByteArray).size : Int)) = ((a.length + 1 : Nat) : Int) := wrap_succ a.length (by omega)
      rw [hci.1, e1, Int.toNat_natCast, Int.toNat_natCast, extract_BA, extract_BA]
      refine ev_pos (by omega) (ev_pos (by omega) (ev_pos (by omega) (ev_pos (by omega) (ev_pos (by omega) (ev_some ?_)))))
      have e5 : (a ++ 44 :: b).drop (a.length + 1) = b := by
        rw [List.drop_append, List.drop_eq_nil_of_le (by omega), List.nil_append, show a.length + 1 - a.length = 1 from by omega]
        rfl
      rw [List.take_of_length_le (i := s.size) (by omega), hci.2, List.drop_zero, List.take_left' rfl, e5]
/-- What the program reads of one number or two. -/
theorem readTwo_ev (s : ByteArray) (hs : s.size ≤ 1048576) : ∃ r, Ev (fun k => impl_readTwo.f k s) r ∧ (match cutR s.data.toList with
    | some (n, none) => r = ((n : Int), (n : Int), false, true)
    | some (n, some m) => r = ((n : Int), (m : Int), true, true)
    | none => r.2.2.2 = false) := by
  have hl := size_len s
  have hci := cut_index s.data.toList
  have hcut := cut_ev s hs
  simp only [impl_readTwo.f]
  unfold cutR
  cases h2 : cutC s.data.toList with
  | mk a o =>
    rw [h2] at hci hcut
    cases o with
    | none =>
      simp only at hci hcut ⊢
      have hlen := congrArg List.length hci.2
      refine ⟨((impl_readNumber.v (BA a)).1, (impl_readNumber.v (BA a)).1, false, (impl_readNumber.v (BA a)).2), ev_bind hcut (ev_bind (ev_const (readNumber_eq (BA a) (by rw [BA_size]; omega))) (ev_neg (by simp) (ev_some rfl))), ?_⟩
      cases h3 : rd4 a with
      | none => exact readNumber_none h3
      | some n =>
        rw [readNumber_some (s := BA a) h3]
        rfl
    | some b =>
      simp only at hci hcut ⊢
      have hlen := congrArg List.length hci.2
      rw [List.length_append, List.length_cons, hl] at hlen
      have ra := readNumber_eq (BA a) (by rw [BA_size]; omega)
      have rb := readNumber_eq (BA b) (by rw [BA_size]; omega)
      cases h3 : (impl_readNumber.v (BA a)).2 with
      | false =>
        refine ⟨((impl_readNumber.v (BA a)).1, (impl_readNumber.v (BA b)).1, true, false), ev_bind hcut (ev_bind (ev_const ra) (ev_pos rfl (ev_bind (ev_const rb) (ev_neg (by rw [h3]; simp) (ev_some rfl))))), ?_⟩
        have h4 : rd4 a = none := by
          cases h5 : rd4 a with
          | none => rfl
          | some n => rw [readNumber_some (s := BA a) h5] at h3; cases h3
        rw [h4]
        rfl
      | true =>
        refine ⟨((impl_readNumber.v (BA a)).1, (impl_readNumber.v (BA b)).1, true, (impl_readNumber.v (BA b)).2), ev_bind hcut (ev_bind (ev_const ra) (ev_pos rfl (ev_bind (ev_const rb) (ev_pos h3 (ev_some rfl))))), ?_⟩
        cases h4 : rd4 a with
        | none => rw [readNumber_none (s := BA a) h4] at h3; cases h3
        | some n =>
          rw [readNumber_some (s := BA a) h4]
          cases h5 : rd4 b with
          | none => exact readNumber_none (s := BA b) h5
          | some m => rw [readNumber_some (s := BA b) h5]; rfl
theorem cutR_lt {l : List UInt8} {n : Nat} {o : Option Nat} (h : cutR l = some (n, o)) : n < 10000 ∧ ∀ m, o = some m → m < 10000 := by
  unfold cutR at h
  cases h2 : cutC l with
  | mk a q =>
    rw [h2] at h
    cases q with
    | none =>
      obtain ⟨x, hx, e⟩ := Option.map_eq_some_iff.1 h
      injection e with e1 e2
      subst e1; subst e2
      exact ⟨rd4_lt hx, fun m e => by cases e⟩
    | some b =>
      obtain ⟨x, hx, e⟩ := Option.bind_eq_some_iff.1 h
      obtain ⟨y, hy, e⟩ := Option.map_eq_some_iff.1 e
      injection e with e1 e2
      subst e1; subst e2
      exact ⟨rd4_lt hx, fun m e => by injection e with e; subst e; exact rd4_lt hy⟩
def endsR (less : Nat) (l : List UInt8) : Int × Int × Bool := match cutR l with
  | none => (0, 0, false)
  | some (n, o) => if n ≤ 1000 ∧ o.getD n ≤ 1000 ∧ n ≤ o.getD n + less then ((n : Int), ((o.getD n : Nat) : Int), true) else (0, 0, false)
theorem readEnds_ev (s : ByteArray) (hs : s.size ≤ 1048576) (less : Nat) (hle : less ≤ 1) : Ev (fun k => impl_readEnds.f k s (less : Int)) (endsR less s.data.toList) := by
  obtain ⟨r, hr, hm⟩ := readTwo_ev s hs
  simp only [impl_readEnds.f]
  refine ev_bind hr ?_
  unfold endsR
  cases h : cutR s.data.toList with
  | none =>
    rw [h] at hm
    exact ev_neg (by rw [hm]; simp) (ev_some rfl)
  | some p =>
    obtain ⟨n, o⟩ := p
    rw [h] at hm
    have hb := cutR_lt h
    cases o with
    | none =>
      simp only at hm
      subst hm
      simp only [Option.getD_none]
      refine ev_pos (by simp) (ev_ite (fun c => ev_some ?_) (fun c => ev_neg (by simp) (ev_some ?_)))
      · unfold mx at c
        rw [if_neg (by split at c <;> omega)]
      · unfold mx at c
        rw [if_pos (by split at c <;> omega)]
    | some m =>
      simp only at hm
      subst hm
      have hb2 := hb.2 m rfl
      simp only [Option.getD_some]
      have e : wrap64 ((m : Int) + (less : Int)) = ((m + less : Nat) : Int) := wrap_add m less (by omega)
      rw [e]
      refine ev_pos (by simp) (ev_ite (fun c => ev_some ?_) (fun c => ev_pos (by simp) (ev_ite (fun c2 => ev_some ?_) (fun c2 => ev_some ?_))))
      · unfold mx at c
        rw [if_neg (by split at c <;> omega)]
      · rw [if_neg (by omega)]
      · unfold mx at c
        rw [if_pos (by split at c <;> omega)]
def twoR (l : List UInt8) : Int × Int × Bool := match cutR l with
  | none => (0, 0, false)
  | some (n, o) => if n ≤ 1000 ∧ o.getD n ≤ 1000 then ((n : Int), ((o.getD n : Nat) : Int), true) else (0, 0, false)
theorem l4Two_ev (s : ByteArray) (hs : s.size ≤ 1048576) : Ev (fun k => spec_l4Two.f k s) (twoR s.data.toList) := by
  have hl := size_len s
  have hci := cut_index s.data.toList
  have hsp := l1Split_ev s hs
  rw [split_cut] at hsp
  simp only [spec_l4Two.f]
  unfold twoR cutR
  have fls : ∀ (p : List ByteArray) (x : Int), Ev (fun k => spec_l4Two.j0 k p x true) ((0 : Int), (0 : Int), false) := fun p x => Ev.step (fun k => spec_l4Two.j0.eq_2 ..) (ev_pos (by simp) (ev_some rfl))
  cases h2 : cutC s.data.toList with
  | mk a o =>
    rw [h2] at hci hsp
    cases o with
    | none =>
      simp only [List.nil_append, List.map_cons, List.map_nil] at hci hsp ⊢
      have hlen := congrArg List.length hci.2
      refine ev_bind hsp (ev_pos (by simp) (ev_bind (a := numR (BA a)) (spec_ReadNumber_ev (BA a) (by rw [BA_size]; omega)) ?_))
      rw [numR_BA]
      cases h3 : rd4 a with
      | none => exact ev_neg (by simp) (fls _ _)
      | some n =>
        have hb := rd4_lt h3
        refine ev_pos (by simp) (ev_neg (by simp) ?_)
        simp only [Option.map_some, Option.getD_none]
        by_cases c : (n : Int) > 1000
        · rw [decide_eq_true c, if_neg (by omega)]
          exact fls _ _
        · rw [decide_eq_false c, if_pos (by omega)]
          exact Ev.step (fun k => spec_l4Two.j0.eq_2 ..) (ev_neg (by simp) (ev_pos (by simp) (ev_some rfl)))
    | some b =>
      simp only [List.nil_append, List.map_cons] at hci hsp ⊢
      have hlen := congrArg List.length hci.2
      rw [List.length_append, List.length_cons, hl] at hlen
      rw [split_cut] at hsp
      have hcb := cut_index b
      refine ev_bind hsp (ev_pos (by simp) (ev_bind (a := numR (BA a)) (spec_ReadNumber_ev (BA a) (by rw [BA_size]; omega)) ?_))
      rw [numR_BA]
      cases h3 : rd4 a with
      | none => exact ev_neg (by simp) (fls _ _)
      | some n =>
        have hb := rd4_lt h3
        simp only [Option.bind_some]
        refine ev_pos (by simp) ?_
        cases h4 : cutC b with
        | mk a2 o2 =>
          rw [h4] at hcb
          cases o2 with
          | some b2 =>
            simp only at hcb
            rw [hcb.2, rd4_comma]
            refine ev_pos ?_ (fls _ _)
            show ((BA a :: (BA ([] ++ a2) :: (splitP [] b2).map BA)).length : Int) > 2
            rw [split_cut]
            cases cutC b2 with
            | mk a3 o3 => cases o3 <;> simp <;> omega
          | none =>
            simp only [List.nil_append, List.map_cons, List.map_nil] at hcb ⊢
            rw [hcb.2]
            refine ev_neg (by simp) ?_
            by_cases c : (n : Int) > 1000
            · rw [decide_eq_true c]
              refine ev_to (fls _ _) ?_
              cases rd4 b with
              | none => rfl
              | some m => simp only [Option.map_some, Option.getD_some]; rw [if_neg (by omega)]
            · rw [decide_eq_false c]
              refine Ev.step (fun k => spec_l4Two.j0.eq_2 ..) (ev_neg (by simp) (ev_neg (by simp) (ev_pos (by simp) (ev_bind (a := numR (BA b)) (spec_ReadNumber_ev (BA b) (by rw [BA_size]; omega)) ?_))))
              rw [numR_BA]
              cases h5 : rd4 b with
              | none => exact ev_neg (by simp) (ev_some rfl)
              | some m =>
                simp only [Option.map_some, Option.getD_some]
                refine ev_pos (by simp) (ev_ite (fun c2 => ev_some ?_) (fun c2 => ev_some ?_))
                · rw [if_neg (by omega)]
                · rw [if_pos (by omega)]
theorem two_ends (less : Nat) (l : List UInt8) : endsR less l = if (twoR l).2.2 = true ∧ (twoR l).1 ≤ (twoR l).2.1 + (less : Int) then twoR l else (0, 0, false) := by
  unfold endsR twoR
  cases cutR l with
  | none => simp
  | some p =>
    obtain ⟨n, o⟩ := p
    simp only
    by_cases c : n ≤ 1000 ∧ o.getD n ≤ 1000
    · rw [if_pos c]
      by_cases c2 : n ≤ o.getD n + less
      · rw [if_pos ⟨c.1, c.2, c2⟩, if_pos ⟨rfl, by show (n : Int) ≤ ((o.getD n : Nat) : Int) + (less : Int); omega⟩]
      · rw [if_neg (fun e => c2 e.2.2), if_neg (fun e => c2 (by have := e.2; simp only at this; omega))]
    · rw [if_neg c, if_neg (fun e => c ⟨e.1, e.2.1⟩)]
      simp
theorem twoR_small (l : List UInt8) : 0 ≤ (twoR l).2.1 ∧ (twoR l).2.1 ≤ 1000 := by
  unfold twoR
  cases cutR l with
  | none => simp
  | some p =>
    obtain ⟨n, o⟩ := p
    simp only
    split
    · simp only; omega
    · simp
theorem spec_ReadPair_ev (s : ByteArray) (hs : s.size ≤ 1048576) : Ev (fun k => spec_ReadPair.f k s) (endsR 0 s.data.toList) := by
  simp only [spec_ReadPair.f]
  rw [two_ends]
  refine ev_bind (l4Two_ev s hs) (ev_ite (fun c => ev_ite (fun c2 => ev_some ?_) (fun c2 => ev_some ?_)) (fun c => ev_some ?_))
  · rw [if_neg (by omega)]
  · rw [if_pos ⟨c, by omega⟩, ← c]
  · rw [if_neg (fun e => c e.1)]
theorem spec_ReadEnd_ev (s : ByteArray) (hs : s.size ≤ 1048576) : Ev (fun k => spec_ReadEnd.f k s) (endsR 1 s.data.toList) := by
  simp only [spec_ReadEnd.f]
  rw [two_ends]
  have hb := twoR_small s.data.toList
  refine ev_bind (l4Two_ev s hs) ?_
  rw [wrap64_id (by omega) (by omega)]
  refine ev_ite (fun c => ev_ite (fun c2 => ev_some ?_) (fun c2 => ev_some ?_)) (fun c => ev_some ?_)
  · rw [if_neg (by omega)]
  · rw [if_pos ⟨c, by omega⟩, ← c]
  · rw [if_neg (fun e => c e.1)]
theorem impl_ReadPair_ev (s : ByteArray) (hs : s.size ≤ 1048576) : Ev (fun k => impl_ReadPair.f k s) (endsR 0 s.data.toList) := by
  simp only [impl_ReadPair.f]
  exact ev_bind (readEnds_ev s hs 0 (by decide)) (ev_some rfl)
theorem impl_ReadEnd_ev (s : ByteArray) (hs : s.size ≤ 1048576) : Ev (fun k => impl_ReadEnd.f k s) (endsR 1 s.data.toList) := by
  simp only [impl_ReadEnd.f]
  exact ev_bind (readEnds_ev s hs 1 (by decide)) (ev_some rfl)

def countV (n m : Int) : Int × Int × Bool := if inRange (if m > 0 then n - 1 else n) m = true then (if m > 0 then n - 1 else n, m, true) else (0, 0, false)
def countR (l : List UInt8) : Int × Int × Bool := match cutR l with
  | none => (0, 0, false)
  | some (n, o) => countV (n : Int) ((o.getD 1 : Nat) : Int)
theorem implCount_j0 (n m : Int) (h : -1000000 ≤ n ∧ n ≤ 1000000) : Ev (fun k => impl_ReadCount.j0 k n m true) (countV n m) := by
  unfold countV
  refine Ev.step (fun k => impl_ReadCount.j0.eq_2 ..) ?_
  rw [wrap64_id (x := n - 1) (by omega) (by omega)]
  refine ev_ite (fun c => ev_pos (by simp) (ev_bind (ev_const (isRange_eq _ _)) (ev_ite (fun c2 => ev_some ?_) (fun c2 => ev_some ?_)))) (fun c => ev_pos (by simp) (ev_bind (ev_const (isRange_eq _ _)) (ev_ite (fun c2 => ev_some ?_) (fun c2 => ev_some ?_))))
  · rw [if_pos c, if_pos c2]
  · rw [if_pos c, if_neg c2]
  · rw [if_neg c, if_pos c2]
  · rw [if_neg c, if_neg c2]
theorem implCount_bad (n m : Int) : Ev (fun k => impl_ReadCount.j0 k n m false) ((0 : Int), (0 : Int), false) :=
  Ev.step (fun k => impl_ReadCount.j0.eq_2 ..) (ev_ite (fun _ => ev_neg (by simp) (ev_some rfl)) (fun _ => ev_neg (by simp) (ev_some rfl)))
theorem impl_ReadCount_ev (s : ByteArray) (hs : s.size ≤ 1048576) : Ev (fun k => impl_ReadCount.f k s) (countR s.data.toList) := by
  obtain ⟨r, hr, hm⟩ := readTwo_ev s hs
  simp only [impl_ReadCount.f]
  refine ev_bind hr ?_
  unfold countR
  cases h : cutR s.data.toList with
  | none =>
    rw [h] at hm
    simp only at hm
    rw [hm]
    exact ev_ite (fun _ => implCount_bad _ _) (fun _ => implCount_bad _ _)
  | some p =>
    obtain ⟨n, o⟩ := p
    rw [h] at hm
    have hb := cutR_lt h
    cases o with
    | none =>
      simp only at hm
      subst hm
      exact ev_neg (by simp) (implCount_j0 _ _ (by omega))
    | some m =>
      simp only at hm
      subst hm
      exact ev_pos (by simp) (implCount_j0 _ _ (by omega))
theorem specCount_j0 (p : List ByteArray) (n m : Int) (h : -1000000 ≤ n ∧ n ≤ 1000000) (hp : p.length ≤ 2) : Ev (fun k => spec_ReadCount.j0 k p n true m) (countV n m) := by
  unfold countV
  refine Ev.step (fun k => spec_ReadCount.j0.eq_2 ..) ?_
  rw [wrap64_id (x := n - 1) (by omega) (by omega)]
  refine ev_ite (fun c => ev_pos (by simp) (ev_neg (by omega) (ev_bind (ev_const (l4Range_eq _ _)) (ev_ite (fun c2 => ev_some ?_) (fun c2 => ev_some ?_))))) (fun c => ev_pos (by simp) (ev_neg (by omega) (ev_bind (ev_const (l4Range_eq _ _)) (ev_ite (fun c2 => ev_some ?_) (fun c2 => ev_some ?_)))))
  · rw [if_pos c, if_pos c2]
  · rw [if_pos c, if_neg c2]
  · rw [if_neg c, if_pos c2]
  · rw [if_neg c, if_neg c2]
theorem specCount_bad (p : List ByteArray) (n m : Int) (b : Bool) (h : b = false ∨ 2 < p.length) : Ev (fun k => spec_ReadCount.j0 k p n b m) ((0 : Int), (0 : Int), false) := by
  refine Ev.step (fun k => spec_ReadCount.j0.eq_2 ..) ?_
  rcases h with h | h
  · subst h
    exact ev_ite (fun _ => ev_neg (by simp) (ev_some rfl)) (fun _ => ev_neg (by simp) (ev_some rfl))
  · exact ev_ite (fun _ => ev_ite (fun _ => ev_pos (by omega) (ev_some rfl)) (fun _ => ev_some rfl)) (fun _ => ev_ite (fun _ => ev_pos (by omega) (ev_some rfl)) (fun _ => ev_some rfl))
theorem spec_ReadCount_ev (s : ByteArray) (hs : s.size ≤ 1048576) : Ev (fun k => spec_ReadCount.f k s) (countR s.data.toList) := by
  have hl := size_len s
  have hci := cut_index s.data.toList
  have hsp := l1Split_ev s hs
  rw [split_cut] at hsp
  simp only [spec_ReadCount.f]
  unfold countR cutR
  cases h2 : cutC s.data.toList with
  | mk a o =>
    rw [h2] at hci hsp
    cases o with
    | none =>
      simp only [List.nil_append, List.map_cons, List.map_nil] at hci hsp ⊢
      have hlen := congrArg List.length hci.2
      refine ev_bind hsp (ev_pos (by simp) (ev_bind (a := numR (BA a)) (spec_ReadNumber_ev (BA a) (by rw [BA_size]; omega)) (ev_neg (by simp) ?_)))
      rw [numR_BA]
      cases h3 : rd4 a with
      | none => exact specCount_bad _ _ _ _ (.inl rfl)
      | some n =>
        have hb := rd4_lt h3
        exact specCount_j0 _ _ _ (by simp only; omega) (by simp)
    | some b =>
      simp only [List.nil_append, List.map_cons] at hci hsp ⊢
      have hlen := congrArg List.length hci.2
      rw [List.length_append, List.length_cons, hl] at hlen
      rw [split_cut] at hsp
      have hcb := cut_index b
      refine ev_bind hsp (ev_pos (by simp) (ev_bind (a := numR (BA a)) (spec_ReadNumber_ev (BA a) (by rw [BA_size]; omega)) ?_))
      cases h4 : cutC b with
      | mk a2 o2 =>
        rw [h4] at hcb
        cases o2 with
        | some b2 =>
          simp only at hcb
          have e : ((rd4 a).bind fun n => (rd4 b).map fun m => (n, some m)) = none := by
            rw [hcb.2, rd4_comma]
            cases rd4 a <;> rfl
          rw [e]
          have hlong : 2 < ((BA a) :: (BA ([] ++ a2) :: (splitP [] b2).map BA)).length := by
            rw [split_cut]
            cases cutC b2 with
            | mk a3 o3 => cases o3 <;> simp
          refine ev_neg ?_ (specCount_bad _ _ _ _ (.inr hlong))
          simp only [List.map_cons]
          omega
        | none =>
          simp only [List.nil_append, List.map_cons, List.map_nil] at hcb ⊢
          rw [hcb.2]
          refine ev_pos (by simp) (ev_pos (by simp) (ev_bind (a := numR (BA b)) (spec_ReadNumber_ev (BA b) (by rw [BA_size]; omega)) ?_))
          rw [numR_BA, numR_BA]
          cases h3 : rd4 a with
          | none => exact ev_neg (by simp) (specCount_bad _ _ _ _ (.inl rfl))
          | some n =>
            have hb := rd4_lt h3
            refine ev_pos (by simp) ?_
            cases h5 : rd4 b with
            | none => exact specCount_bad _ _ _ _ (.inl rfl)
            | some m => exact specCount_j0 _ _ _ (by simp only; omega) (by simp)
end Go.Proofs.YtfmbpldjbmhnnaaDoor.Pl

/- ReadCount's law, in plain Lean. No condition. -/
namespace Go.Proofs.YtfmbpldjbmhnnaaDoor.Pure
open Go.RowKit Go.Proofs.YtfmbpldjbmhnnaaDoor.My Go.Proofs.YtfmbpldjbmhnnaaDoor.Pl Go.Proofs.YtfmbpldjbmhnnaaDoorW.PrintWords Go.Proofs.YtfmbpldjbmhnnaaDoorW.PrintLast
theorem FnExactReadCount : laws_FnExactReadCount.Pure := by
  intro s _
  refine Ev.rounds (r := true) ?_
  simp only [laws_FnExactReadCount.f]
  refine ev_ite (fun _ => ev_some rfl) (fun h => ?_)
  exact ev_bind (spec_ReadCount_ev s (by omega)) (ev_bind (impl_ReadCount_ev s (by omega)) (ev_pos rfl (ev_pos rfl (ev_neg (by simp) (ev_some rfl)))))
end Go.Proofs.YtfmbpldjbmhnnaaDoor.Pure

/- The Go function loop.example/g00825/laws.FnExactReadCount returns true for every input, and each argument reads afterwards as it read before. No condition. -/
namespace Go.Proofs.YtfmbpldjbmhnnaaDoor.fnExactReadCount
open Go.ChangeShapes Go.WideShapes Go.ChangeAt Go.RowKit Go.Joins Go.Proofs.YtfmbpldjbmhnnaaDoor.Opens Go.Proofs.YtfmbpldjbmhnnaaDoor.My
open Go.ChangeMaps (open_string shut_string)
set_option linter.unusedVariables false
set_option linter.unusedSimpArgs false
theorem own : ownKnob Tryd.prog.godebug = none := by kernel_rfl
/-- WHAT THE ROW's LIST GIVES THE WALK. -/
theorem door {W : World} (h : laidMetH Tryd.prog Rows.fnExactReadCountRow.laid W) : Door true W := by
  rw [MakeChecks.laidMetH_plain _ _ _ (by kernel_rfl)] at h
  have hT : Lib.TabIs Tryd.prog W "internal/strconv.uint64pow10" .u64 Lib.pow10Tab := doorTab (h.tail.tail)
  exact ⟨hT, fun _ => doorSyn (h.tail.tail.tail.tail), fun _ => doorRng (h.tail.tail.tail)⟩
theorem door_met (os : Os) (args : Array Value) : laidMetH Tryd.prog Rows.fnExactReadCountRow.laid ((World.doorLaid Tryd.prog 62 os).forCall (fun _ _ => 0) ⟨#[], args, []⟩).memory :=
  laidMetH_of_parts3 (fuel := 8) (laidMet_of_run' 8 (by kernel_rfl) (by kernel_rfl)) (by kernel_rfl) (by kernel_rfl)
set_option maxRecDepth 100000 in
theorem lifted (os : Os) (started : os.Started) (H : Type) (enc : TypeId × Value → H) :
    ReturnsInHanded {} Tryd.checked os 9 .any (fun w args => (Rows.fnExactReadCountSpec.pre enc Tryd.prog Tryd.f9 [] false w args ∧ laidMetH Tryd.prog Rows.fnExactReadCountRow.laid w) ∧ sizedMet enc Tryd.prog Tryd.f9 (OpenSpec.ofChange Rows.fnExactReadCountSpec) false w args) (Rows.fnExactReadCountSpec.post enc Tryd.prog Tryd.f9 false true false false) := by
  refine returnsInHanded_of_change_and (C := Tryd.checked) (X := fun w _ => laidMetH Tryd.prog Rows.fnExactReadCountRow.laid w) (fun _ _ _ hh h => h.of_heap hh) own started (by kernel_rfl) Tryd.func9
    (ChangeSpec.witness_shaped (enc := enc) (C := Tryd.checked) (os := os) (X := fun w _ => laidMetH Tryd.prog Rows.fnExactReadCountRow.laid w) false (World.doorLaid Tryd.prog 62 os) #[.string ByteArray.empty] 8 rfl (World.shaped_of_RefB (by kernel_rfl) (by kernel_rfl)) (by kernel_rfl) (by kernel_rfl) (by kernel_rfl) (door_met os _)) ?_
  intro W base args ds gs before hval0 hW hcnd hsz0 hL _
  have hval : ∀ (j : Nat) t v, Tryd.f9.params[j]? = some t → args[j]? = some v → Value.okWide Tryd.prog W .any base t v := hval0
  have hW' := hW
  obtain ⟨p, q, hA0, hV, rfl, hfz, hnd⟩ := hW
  have hA : DataW.TrodAll enc Tryd.prog W 0 (fun _ => true) true Tryd.f9.params.toList args.toList ds p := hA0
  rw [Tryd.params9] at hA hval
  obtain ⟨v0, vs0, d0, ds0, p0, q0, hargs, rfl, rfl, h0, r0⟩ := trodAll_cons hA
  obtain ⟨rfl, rfl, rfl⟩ := trodAll_nil r0
  obtain rfl : args = #[v0] := by cases args; simp_all
  obtain ⟨rfl, rfl⟩ := trodVars_none hV
  obtain ⟨a0, rfl, rfl, rfl, y0⟩ := open_string Tryd.underlying9 (hval 0 9 v0 rfl rfl) h0
  clear hA0 hval0 hsz0
  obtain ⟨kr, hk⟩ := Pure.FnExactReadCount a0 y0
  refine (laws_FnExactReadCount.calls kr a0 true W (door hL)  hk).mono fun e W' hh => ?_
  obtain ⟨rfl, hd⟩ := hh
  have bel : Below W.heap.size W W' := hd
  exact ⟨_, rfl, _, _, _, [], _, [], hW', trodAll_mk1 (shut_bool Tryd.underlying4 _), (trodAll_cons_mk (shut_string Tryd.underlying9 y0) trodAll_mk0), rfl, bel.frame _, fun h => by cases h⟩
theorem over : Rows.fnExactReadCountRow.holds Tryd.pinned (OpenSpec.ofChange Rows.fnExactReadCountSpec) :=
  OpenClaim.holds_of_wide 9 Tryd.f9 rfl rfl rfl rfl rfl rfl rfl ⟨rfl, rfl, rfl, rfl, rfl⟩ rfl rfl rfl rfl rfl (by kernel_rfl) Tryd.func9 (by kernel_rfl)
    (of_decide_eq_true (by kernel_rfl)) (by unfold Func.isWrapper; first | (rw [if_pos (by decide +kernel)]; kernel_rfl) | (rw [if_neg (by decide +kernel)]; exact ⟨rfl, rfl⟩))
    (fun os started H enc _ => lifted os started H enc)
theorem plain (f : FuncId) (fn : Func) (hf : Tryd.pinned.checked.prog.funcNamed "loop.example/g00825/laws.FnExactReadCount" = some f) (hfn : Tryd.pinned.checked.prog.funcs[f]? = some fn) :
    true = Tryd.pinned.checked.prog.looks [] ∧ ∀ (j : Nat) t, fn.params[j]? = some t → Tryd.pinned.checked.prog.wantsStandIn t = false := by
  obtain rfl : f = 9 := Option.some.inj ((show Tryd.prog.funcNamed "loop.example/g00825/laws.FnExactReadCount" = some 9 by kernel_rfl).symm.trans hf) |>.symm
  obtain rfl : fn = Tryd.f9 := (Option.some.inj (Tryd.func9.symm.trans hfn)).symm
  refine ⟨by kernel_rfl, fun j t ht => ?_⟩
  have hall : (Tryd.f9.params.all fun u => !Tryd.prog.wantsStandIn u) = true := by kernel_rfl
  have hm := (Array.all_eq_true_iff_forall_mem.1 hall) t (Array.mem_of_getElem? ht)
  exact (show Tryd.prog.wantsStandIn t = false by simpa using hm)
theorem proved : Rows.FnExactReadCountCardSaid :=
  Claim7.holds_tied_plain_at .later [] _ _ _ _ over (fun _ h => by cases h) (by kernel_rfl) (fun _ h => by cases h) fnExactReadCount_row_tie rfl ⟨rfl, rfl⟩ (by kernel_rfl) rfl plain (by kernel_rfl)
#print axioms proved
end Go.Proofs.YtfmbpldjbmhnnaaDoor.fnExactReadCount
namespace Go.Proofs.YtfmbpldjbmhnnaaDoor
/-- The row, under a short name, for the claim. -/
theorem fnExactReadCount_holds : Rows.FnExactReadCountCardSaid := fnExactReadCount.proved
end Go.Proofs.YtfmbpldjbmhnnaaDoor
