/- Part 6 of 6 of a proof of this sentence: The Go function loop.example/g00825/laws.FnExactNormalText returns true for every input, and each argument reads afterwards as it read before. No condition. -/
import Derived.Test.YtfmbpldjbmhnnaaDoorRows
import Derived.Test.YtfmbpldjbmhnnaaDoorCards
import Derived.Test.YtfmbpldjbmhnnaaDoorTie
import Derived.LaidMore
import Derived.LaidLaws
import Derived.Stop.LaidErr
import Derived.Stop.Joined
import Derived.SevenTiedAt
import Derived.Lib.LaidTab
import Derived.WalkKit
import Derived.ProofKit
import Derived.OpenShut
import Derived.ShutString
import Derived.ChangeOld
import Derived.Below
import Derived.SizedLaws
import Derived.Lib.SmallJoins
import Derived.Test.YtfmbpldjbmhnnaaDoorCFnExactNormalText5
/- Plain Lean: the text of steps, the program's and the reference's. Asked: steps that fit. -/
namespace Go.Proofs.YtfmbpldjbmhnnaaDoor.Pl
open Go.RowKit Go.Proofs.YtfmbpldjbmhnnaaDoorW.PrintWords Go.Proofs.YtfmbpldjbmhnnaaDoorW.PrintLast Go.Proofs.YtfmbpldjbmhnnaaDoor.My
set_option linter.unusedVariables false
set_option linter.unusedSimpArgs false

def nl : ByteArray := ⟨#[10]⟩
def noneT : ByteArray := ⟨#[10, 92, 32, 110, 111, 110, 101, 10]⟩
def shownV (g s : ByteArray) : ByteArray := if ends s = true then g ++ s else (g ++ s) ++ noneT
def allV (g : ByteArray) : List ByteArray → ByteArray
  | [] => ⟨#[]⟩
  | s :: t => shownV g s ++ allV g t
theorem shown_size (g s : ByteArray) (h : isLn s = true) : (shownV g s).size ≤ g.size + 38 := by
  have h1 := (isLn_size h).2
  unfold shownV
  split
  · rw [ByteArray.size_append]; omega
  · rw [ByteArray.size_append, ByteArray.size_append, show noneT.size = 8 from rfl]; omega
theorem allV_size (g : ByteArray) (hg : g.size ≤ 2) : ∀ (l : List ByteArray), (∀ s ∈ l, isLn s = true) → (allV g l).size ≤ 40 * l.length
  | [], _ => by simp [allV]; rfl
  | s :: t, h => by
    have h1 := shown_size g s (h s (List.mem_cons_self ..))
    have h2 := allV_size g hg t (fun x hx => h x (List.mem_cons_of_mem _ hx))
    simp only [allV, ByteArray.size_append, List.length_cons]
    omega
theorem append_empty (a : ByteArray) : a ++ (⟨#[]⟩ : ByteArray) = a := ba_ext (by simp [Lib.toList_data])
theorem empty_append (a : ByteArray) : (⟨#[]⟩ : ByteArray) ++ a = a := ba_ext (by simp [Lib.toList_data])

theorem shown_eq (g s : ByteArray) (hg : g.size ≤ 2) (h : isLn s = true) : impl_shown.f g s = some (shownV g s) := by
  have h1 := isLn_size h
  unfold impl_shown.f shownV
  rw [isEnded_eq s (by omega), Option.bind_some]
  by_cases he : ends s = true
  · rw [if_pos he, if_pos he, if_pos (by omega)]
  · rw [if_neg he, if_neg he, if_pos (by omega), if_pos (by rw [ByteArray.size_append]; omega), if_pos (by rw [ByteArray.size_append, ByteArray.size_append, show (⟨#[10]⟩ : ByteArray).size = 1 from rfl]; omega), ByteArray.append_assoc (a := g ++ s)]
    rfl
theorem l5Shown_eq (g s : ByteArray) (hg : g.size ≤ 2) (h : isLn s = true) : spec_l5Shown.f g s = some (shownV g s) := by
  have h1 := isLn_size h
  unfold spec_l5Shown.f shownV
  rw [l1Ends_eq s (by omega) (by omega), Option.bind_some]
  by_cases he : ends s = true
  · rw [if_pos he, if_pos he, if_pos (by omega)]
  · rw [if_neg he, if_neg he, if_pos (by omega), if_pos (by rw [ByteArray.size_append]; omega)]
    rfl
theorem allShown_l0 (g : ByteArray) (hg : g.size ≤ 2) (l : List ByteArray) (hl : l.length ≤ 40) (h : ∀ s ∈ l, isLn s = true) : ∀ d i (acc : ByteArray), i + d = l.length → acc.size ≤ 40 * i →
    Ev (fun k => impl_allShown.l0 k g acc l (l.length : Int) (i : Int)) (acc ++ allV g (l.drop i)) := by
  intro d
  induction d with
  | zero =>
    intro i acc hi ha
    refine Ev.step (fun k => impl_allShown.l0.eq_2 ..) (ev_neg (by omega) (ev_some ?_))
    rw [List.drop_of_length_le (by omega)]
    simp only [allV, append_empty]
  | succ d ih =>
    intro i acc hi ha
    have hlt : i < l.length := by omega
    have hm := h _ (List.getElem_mem hlt)
    have hs := shown_size g _ hm
    refine Ev.step (fun k => impl_allShown.l0.eq_2 ..) (ev_pos (by omega) (ev_pos (by omega) (ev_pos (by omega) ?_)))
    rw [rdOf_lt _ l i hlt, wrap_succ i (by omega)]
    refine ev_bind (ev_const (shown_eq g _ hg hm)) (ev_pos (by omega) (ev_to (ih (i + 1) _ (by omega) (by rw [ByteArray.size_append]; omega)) ?_))
    rw [List.drop_eq_getElem_cons hlt]
    simp only [allV, ByteArray.append_assoc]
theorem allShown_ev (g : ByteArray) (hg : g.size ≤ 2) (l : List ByteArray) (hl : l.length ≤ 40) (h : ∀ s ∈ l, isLn s = true) : Ev (fun k => impl_allShown.f k g l) (allV g l) := by
  simp only [impl_allShown.f]
  exact ev_to (allShown_l0 g hg l hl h l.length 0 _ (by omega) (by show (0 : Nat) ≤ _; omega)) (by rw [List.drop_zero, empty_append])

def kindV (x : IT) : ByteArray := if x.f2.length = 0 then ⟨#[97]⟩ else if x.f5.length = 0 then ⟨#[100]⟩ else ⟨#[99]⟩
def midV (x : IT) : ByteArray := if x.f2.length = 0 then ⟨#[]⟩ else if x.f5.length = 0 then ⟨#[]⟩ else ⟨#[45, 45, 45, 10]⟩
def lt_ : ByteArray := ⟨#[60, 32]⟩
def gt_ : ByteArray := ⟨#[62, 32]⟩
def headV (x : IT) (kd : ByteArray) : ByteArray := ((pairV x.f0.toNat x.f1.toNat ++ kd) ++ pairV x.f3.toNat x.f4.toNat) ++ nl
def textOne (x : IT) : ByteArray := ((headV x (kindV x) ++ allV lt_ x.f2) ++ midV x) ++ allV gt_ x.f5
def textFrom : ByteArray → List IT → ByteArray
  | acc, [] => acc
  | acc, x :: t => textFrom (acc ++ textOne x) t
/-- What is asked of a step. -/
structure StepOK (x : IT) : Prop where
  a0 : 0 ≤ x.f0 ∧ x.f0 ≤ 1000
  a1 : 0 ≤ x.f1 ∧ x.f1 ≤ 1000
  a3 : 0 ≤ x.f3 ∧ x.f3 ≤ 1000
  a4 : 0 ≤ x.f4 ∧ x.f4 ≤ 1000
  l2 : x.f2.length ≤ 40
  l5 : x.f5.length ≤ 40
  i2 : ∀ s ∈ x.f2, isLn s = true
  i5 : ∀ s ∈ x.f5, isLn s = true
theorem good_ln {l : List ByteArray} (h : good l = true) : ∀ s ∈ l, isLn s = true := by
  unfold good at h
  rw [Bool.and_eq_true, Bool.and_eq_true] at h
  exact fun s hs => List.all_eq_true.1 h.2.1 s hs
theorem stepOK_of {x : IT} (h : stepB x = true) : StepOK x := by
  unfold stepB at h
  rw [Bool.and_eq_true, Bool.and_eq_true] at h
  obtain ⟨h1, h2, _⟩ := h
  have e1 := told_len h1
  have e2 := told_len h2
  unfold toldB at h1 h2
  rw [Bool.and_eq_true, Bool.and_eq_true, Bool.and_eq_true, inB_iff, inB_iff] at h1 h2
  exact ⟨h1.1, h1.2.1, h2.1, h2.2.1, e1, e2, good_ln h1.2.2.1, good_ln h2.2.2.1⟩
theorem pairV_size (a b : Nat) (ha : a ≤ 100000) (hb : b ≤ 100000) : (pairV a b).size ≤ 41 := by
  have h1 := num_size' a ha
  have h2 := num_size' b hb
  unfold pairV
  split
  · omega
  · rw [ByteArray.size_append, ByteArray.size_append, show comma.size = 1 from rfl]; omega
theorem kindV_size (x : IT) : (kindV x).size = 1 := by
  unfold kindV
  split
  · rfl
  · split <;> rfl
theorem midV_size (x : IT) : (midV x).size ≤ 4 := by
  unfold midV
  split
  · exact Nat.zero_le _
  · split
    · exact Nat.zero_le _
    · exact Nat.le_refl 4
/-- The sizes of a step's parts. -/
structure Sizes (x : IT) : Prop where
  p : (pairV x.f0.toNat x.f1.toNat).size ≤ 41
  q : (pairV x.f3.toNat x.f4.toNat).size ≤ 41
  s : (allV lt_ x.f2).size ≤ 1600
  t : (allV gt_ x.f5).size ≤ 1600
  m : (midV x).size ≤ 4
  k : (kindV x).size = 1
theorem sizes_of {x : IT} (h : StepOK x) : Sizes x := by
  have h2 := h.l2
  have h5 := h.l5
  have e1 := allV_size lt_ (Nat.le_refl 2) x.f2 h.i2
  have e2 := allV_size gt_ (Nat.le_refl 2) x.f5 h.i5
  have := h.a0; have := h.a1; have := h.a3; have := h.a4
  exact ⟨pairV_size _ _ (by omega) (by omega), pairV_size _ _ (by omega) (by omega), by omega, by omega, midV_size x, kindV_size x⟩
theorem headV_size {x : IT} (h : Sizes x) (kd : ByteArray) (hk : kd.size = 1) : (headV x kd).size ≤ 84 := by
  have := h.p; have := h.q
  unfold headV
  rw [ByteArray.size_append, ByteArray.size_append, ByteArray.size_append, show nl.size = 1 from rfl]
  omega
theorem textOne_size {x : IT} (h : Sizes x) : (textOne x).size ≤ 4000 := by
  have := headV_size h _ h.k
  have := h.s; have := h.t; have := h.m
  unfold textOne
  rw [ByteArray.size_append, ByteArray.size_append, ByteArray.size_append]
  omega
theorem pairOf_eq' {a b : Int} (ha : 0 ≤ a ∧ a ≤ 1000) (hb : 0 ≤ b ∧ b ≤ 1000) : impl_pairOf.f a b = some (pairV a.toNat b.toNat) := by
  have := pairOf_eq a.toNat b.toNat (by omega) (by omega)
  rw [Int.toNat_of_nonneg ha.1, Int.toNat_of_nonneg hb.1] at this
  exact this
theorem stepText_j0 (x : IT) (h : StepOK x) (kd md : ByteArray) (hk : kd.size = 1) (hm : md.size ≤ 4) : Ev (fun k => impl_stepText.j0 k kd md x.f0 x.f1 x.f2 x.f3 x.f4 x.f5) (((headV x kd ++ allV lt_ x.f2) ++ md) ++ allV gt_ x.f5) := by
  have z := sizes_of h
  have := z.p; have := z.q; have := z.s; have := z.t
  have e1 : (⟨#[10]⟩ : ByteArray).size = 1 := rfl
  refine Ev.step (fun k => impl_stepText.j0.eq_2 ..) ?_
  refine ev_bind (ev_const (pairOf_eq' h.a0 h.a1)) (ev_pos (by omega) ?_)
  refine ev_bind (ev_const (pairOf_eq' h.a3 h.a4)) (ev_pos (by simp only [ByteArray.size_append]; omega) (ev_pos (by simp only [ByteArray.size_append]; omega) ?_))
  refine ev_bind (allShown_ev lt_ (Nat.le_refl 2) x.f2 h.l2 h.i2) (ev_pos (by simp only [ByteArray.size_append, e1]; omega) (ev_pos (by simp only [ByteArray.size_append, e1]; omega) ?_))
  exact ev_bind (allShown_ev gt_ (Nat.le_refl 2) x.f5 h.l5 h.i5) (ev_pos (by simp only [ByteArray.size_append, e1]; omega) (ev_some rfl))
theorem stepText_ev (x : IT) (h : StepOK x) : Ev (fun k => impl_stepText.f k x.f0 x.f1 x.f2 x.f3 x.f4 x.f5) (textOne x) := by
  simp only [impl_stepText.f]
  unfold textOne kindV midV
  refine ev_ite (fun c => ?_) (fun c => ev_ite (fun c2 => ?_) (fun c2 => ?_))
  · have c' : x.f2.length = 0 := by omega
    simp only [if_pos c']
    exact stepText_j0 x h _ _ rfl (Nat.zero_le _)
  · have c' : ¬ x.f2.length = 0 := by omega
    have c2' : x.f5.length = 0 := by omega
    simp only [if_neg c', if_pos c2']
    exact stepText_j0 x h _ _ rfl (Nat.zero_le _)
  · have c' : ¬ x.f2.length = 0 := by omega
    have c2' : ¬ x.f5.length = 0 := by omega
    simp only [if_neg c', if_neg c2']
    exact stepText_j0 x h _ _ rfl (Nat.le_refl 4)
def shortV (s : ByteArray) : ByteArray × Bool := if s.size > 3000 then (⟨#[]⟩, false) else (s, true)
theorem short_eq (s : ByteArray) : impl_short.f s = some (shortV s) := by
  unfold impl_short.f shortV
  by_cases h : s.size > 3000
  · rw [if_pos (by omega), if_pos h]
  · rw [if_neg (by omega), if_neg h]
theorem stepsText_l0 (l : List IT) (hl : l.length ≤ 20) (h : ∀ x ∈ l, StepOK x) : ∀ d i (acc : ByteArray), i + d = l.length → acc.size ≤ 4000 * i →
    Ev (fun k => impl_StepsText.l0 k acc l (l.length : Int) (i : Int)) (shortV (textFrom acc (l.drop i))) := by
  intro d
  induction d with
  | zero =>
    intro i acc hi ha
    refine Ev.step (fun k => impl_StepsText.l0.eq_2 ..) (ev_neg (by omega) (ev_bind (ev_const (short_eq acc)) (ev_some ?_)))
    rw [List.drop_of_length_le (by omega)]
    rfl
  | succ d ih =>
    intro i acc hi ha
    have hlt : i < l.length := by omega
    have hx := h _ (List.getElem_mem hlt)
    have hz := textOne_size (sizes_of hx)
    refine Ev.step (fun k => impl_StepsText.l0.eq_2 ..) (ev_pos (by omega) (ev_pos (by omega) (ev_pos (by omega) ?_)))
    rw [rdIT l i hlt, wrap_succ i (by omega), List.drop_eq_getElem_cons hlt]
    exact ev_bind (stepText_ev _ hx) (ev_pos (by omega) (ih (i + 1) _ (by omega) (by rw [ByteArray.size_append]; omega)))
def stepsTextR (l : List IT) : ByteArray × Bool := if goodT l = true then shortV (textFrom ⟨#[]⟩ l) else (⟨#[]⟩, false)
theorem goodT_ok {l : List IT} (h : goodT l = true) : l.length ≤ 20 ∧ ∀ x ∈ l, StepOK x := by
  unfold goodT at h
  rw [Bool.and_eq_true, decide_eq_true_eq] at h
  exact ⟨h.1, fun x hx => stepOK_of (List.all_eq_true.1 h.2 x hx)⟩
theorem impl_StepsText_ev (l : List IT) (hf : FitIT l) : Ev (fun k => impl_StepsText.f k l) (stepsTextR l) := by
  simp only [impl_StepsText.f]
  unfold stepsTextR
  refine ev_bind (goodSteps_ev l hf) (ev_ite (fun c => ?_) (fun c => ev_some ?_))
  · rw [if_pos c]
    obtain ⟨h1, h2⟩ := goodT_ok c
    exact stepsText_l0 l h1 h2 l.length 0 _ (by omega) (by show (0 : Nat) ≤ _; omega)
  · rw [if_neg c]

theorem l5Numbers_ev {a b : Int} (ha : 0 ≤ a ∧ a ≤ 1000) (hb : 0 ≤ b ∧ b ≤ 1000) : Ev (fun k => spec_l5Numbers.f k a b) (pairV a.toNat b.toNat) := by
  simp only [spec_l5Numbers.f]
  unfold pairV
  have h1 := num_size' a.toNat (by omega)
  have h2 := num_size' b.toNat (by omega)
  have na : Ev (fun k => spec_l1Num.f k a) (num a.toNat) := by
    have := l1Num_ev a.toNat (by omega)
    rw [Int.toNat_of_nonneg ha.1] at this
    exact this
  have nb : Ev (fun k => spec_l1Num.f k b) (num b.toNat) := by
    have := l1Num_ev b.toNat (by omega)
    rw [Int.toNat_of_nonneg hb.1] at this
    exact this
  refine ev_ite (fun c => ev_bind na (ev_some ?_)) (fun c => ev_bind na (ev_pos (by omega) (ev_bind nb (ev_pos ?_ (ev_some ?_)))))
  · rw [if_pos (by omega)]
  · rw [ByteArray.size_append, show (⟨#[44]⟩ : ByteArray).size = 1 from rfl]; omega
  · rw [if_neg (by omega)]
    rfl
section
variable (L : List IT) (n i : Int) (R : ByteArray)
theorem l5_l2 (l : List ByteArray) (hl : l.length ≤ 40) (h : ∀ s ∈ l, isLn s = true) : ∀ d j (acc : ByteArray), j + d = l.length → acc.size + 40 * d ≤ 1000000 → Ev (fun k => spec_l5Text.l0 k (acc ++ allV gt_ (l.drop j)) L n (wrap64 (i + 1))) R →
    Ev (fun k => spec_l5Text.l2 k acc L n i l (l.length : Int) (j : Int)) R := by
  intro d
  induction d with
  | zero =>
    intro j acc hj ha hk
    rw [List.drop_of_length_le (by omega)] at hk
    simp only [allV, append_empty] at hk
    exact Ev.step (fun k => spec_l5Text.l2.eq_2 ..) (ev_neg (by omega) hk)
  | succ d ih =>
    intro j acc hj ha hk
    have hlt : j < l.length := by omega
    have hm := h _ (List.getElem_mem hlt)
    have hs := shown_size gt_ _ hm
    have h2 : gt_.size = 2 := rfl
    rw [List.drop_eq_getElem_cons hlt] at hk
    simp only [allV, ← ByteArray.append_assoc] at hk
    refine Ev.step (fun k => spec_l5Text.l2.eq_2 ..) (ev_pos (by omega) (ev_pos (by omega) (ev_pos (by omega) ?_)))
    rw [rdOf_lt _ l j hlt, wrap_succ j (by omega)]
    exact ev_bind (ev_const (l5Shown_eq gt_ _ (Nat.le_refl 2) hm)) (ev_pos (by omega) (ih (j + 1) _ (by omega) (by rw [ByteArray.size_append]; omega) hk))
theorem l5_l1 (x : IT) (kd : ByteArray) (h5 : x.f5.length ≤ 40) (i5 : ∀ s ∈ x.f5, isLn s = true) (l : List ByteArray) (hl : l.length ≤ 40) (h : ∀ s ∈ l, isLn s = true) : ∀ d j (acc : ByteArray), j + d = l.length → acc.size + 40 * d ≤ 900000 →
    Ev (fun k => spec_l5Text.l0 k (((acc ++ allV lt_ (l.drop j)) ++ (if kd.toList = [99] then (⟨#[45, 45, 45, 10]⟩ : ByteArray) else ⟨#[]⟩)) ++ allV gt_ x.f5) L n (wrap64 (i + 1))) R →
    Ev (fun k => spec_l5Text.l1 k acc kd L n i l (l.length : Int) (j : Int) x.f0 x.f1 x.f2 x.f3 x.f4 x.f5) R := by
  intro d
  induction d with
  | zero =>
    intro j acc hj ha hk
    rw [List.drop_of_length_le (by omega)] at hk
    simp only [allV, append_empty] at hk
    have e4 : (⟨#[45, 45, 45, 10]⟩ : ByteArray).size = 4 := rfl
    refine Ev.step (fun k => spec_l5Text.l1.eq_2 ..) (ev_neg (by omega) (ev_ite (fun c => ev_pos (by omega) ?_) (fun c => ?_)))
    · rw [if_pos c] at hk
      exact Ev.step (fun k => spec_l5Text.j3.eq_2 ..) (l5_l2 L n i R x.f5 h5 i5 x.f5.length 0 _ (by omega) (by rw [ByteArray.size_append, e4]; omega) (by rw [List.drop_zero]; exact hk))
    · rw [if_neg c, append_empty] at hk
      exact Ev.step (fun k => spec_l5Text.j3.eq_2 ..) (l5_l2 L n i R x.f5 h5 i5 x.f5.length 0 _ (by omega) (by omega) (by rw [List.drop_zero]; exact hk))
  | succ d ih =>
    intro j acc hj ha hk
    have hlt : j < l.length := by omega
    have hm := h _ (List.getElem_mem hlt)
    have hs := shown_size lt_ _ hm
    have h2 : lt_.size = 2 := rfl
    rw [List.drop_eq_getElem_cons hlt] at hk
    simp only [allV, ← ByteArray.append_assoc] at hk
    refine Ev.step (fun k => spec_l5Text.l1.eq_2 ..) (ev_pos (by omega) (ev_pos (by omega) (ev_pos (by omega) ?_)))
    rw [rdOf_lt _ l j hlt, wrap_succ j (by omega)]
    refine ev_bind (ev_const (l5Shown_eq lt_ _ (Nat.le_refl 2) hm)) (ev_pos (by omega) (ih (j + 1) _ (by omega) (by rw [ByteArray.size_append]; omega) ?_))
    exact hk
theorem l5_j1 (x : IT) (hx : StepOK x) (kd : ByteArray) (hk1 : kd.size = 1) (acc : ByteArray) (ha : acc.size ≤ 800000)
    (hk : Ev (fun k => spec_l5Text.l0 k (acc ++ (((headV x kd ++ allV lt_ x.f2) ++ (if kd.toList = [99] then (⟨#[45, 45, 45, 10]⟩ : ByteArray) else ⟨#[]⟩)) ++ allV gt_ x.f5)) L n (wrap64 (i + 1))) R) :
    Ev (fun k => spec_l5Text.j1 k acc kd L n i x.f0 x.f1 x.f2 x.f3 x.f4 x.f5) R := by
  have z := sizes_of hx
  have := z.p; have := z.q
  have e1 : (⟨#[10]⟩ : ByteArray).size = 1 := rfl
  have hh := headV_size z kd hk1
  have l2 := hx.l2
  refine Ev.step (fun k => spec_l5Text.j1.eq_2 ..) (ev_bind (l5Numbers_ev hx.a0 hx.a1) (ev_pos (by omega) (ev_bind (l5Numbers_ev hx.a3 hx.a4) (ev_pos (by simp only [ByteArray.size_append]; omega) (ev_pos (by simp only [ByteArray.size_append]; omega) (ev_pos (by simp only [ByteArray.size_append, e1]; omega) ?_))))))
  refine l5_l1 L n i R x kd hx.l5 hx.i5 x.f2 hx.l2 hx.i2 x.f2.length 0 _ (by omega) ?_ ?_
  · rw [ByteArray.size_append]
    have : (((pairV x.f0.toNat x.f1.toNat ++ kd) ++ pairV x.f3.toNat x.f4.toNat) ++ (⟨#[10]⟩ : ByteArray)).size ≤ 84 := hh
    omega
  · rw [List.drop_zero]
    simp only [← ByteArray.append_assoc] at hk
    simp only [← ByteArray.append_assoc]
    unfold headV at hk
    simp only [← ByteArray.append_assoc] at hk
    exact hk
end
theorem l5Text_l0 (l : List IT) (hl : l.length ≤ 20) (h : ∀ x ∈ l, StepOK x) : ∀ d i (acc : ByteArray), i + d = l.length → acc.size ≤ 4000 * i →
    Ev (fun k => spec_l5Text.l0 k acc l (l.length : Int) (i : Int)) (textFrom acc (l.drop i)) := by
  intro d
  induction d with
  | zero =>
    intro i acc hi ha
    refine Ev.step (fun k => spec_l5Text.l0.eq_2 ..) (ev_neg (by omega) (ev_some ?_))
    rw [List.drop_of_length_le (by omega)]
    rfl
  | succ d ih =>
    intro i acc hi ha
    have hlt : i < l.length := by omega
    have hx := h _ (List.getElem_mem hlt)
    have hz := textOne_size (sizes_of hx)
    have nx := ih (i + 1) (acc ++ textOne l[i]) (by omega) (by rw [ByteArray.size_append]; omega)
    rw [← wrap_succ i (by omega)] at nx
    rw [List.drop_eq_getElem_cons hlt]
    simp only [textFrom]
    refine Ev.step (fun k => spec_l5Text.l0.eq_2 ..) (ev_pos (by omega) (ev_pos (by omega) (ev_pos (by omega) ?_)))
    rw [rdIT l i hlt]
    unfold textOne kindV midV at nx
    unfold textOne kindV midV
    refine ev_ite (fun c => ?_) (fun c => ev_ite (fun c2 => ?_) (fun c2 => ?_))
    · have c' : l[i].f2.length = 0 := by omega
      simp only [if_pos c'] at nx ⊢
      exact l5_j1 _ _ _ _ l[i] hx ⟨#[97]⟩ rfl acc (by omega) (by rw [if_neg (by rw [Lib.toList_data]; decide)]; exact nx)
    · have c' : ¬ l[i].f2.length = 0 := by omega
      have c2' : l[i].f5.length = 0 := by omega
      simp only [if_neg c', if_pos c2'] at nx ⊢
      exact l5_j1 _ _ _ _ l[i] hx ⟨#[100]⟩ rfl acc (by omega) (by rw [if_neg (by rw [Lib.toList_data]; decide)]; exact nx)
    · have c' : ¬ l[i].f2.length = 0 := by omega
      have c2' : ¬ l[i].f5.length = 0 := by omega
      simp only [if_neg c', if_neg c2'] at nx ⊢
      exact l5_j1 _ _ _ _ l[i] hx ⟨#[99]⟩ rfl acc (by omega) (by rw [if_pos (by rw [Lib.toList_data])]; exact nx)
theorem spec_StepsText_ev (l : List IT) (hf : FitIT l) : Ev (fun k => spec_StepsText.f k l) (stepsTextR l) := by
  simp only [spec_StepsText.f]
  unfold stepsTextR
  refine ev_bind (spec_GoodSteps_ev l hf) (ev_ite (fun c => ?_) (fun c => ev_some ?_))
  · rw [if_pos c]
    obtain ⟨h1, h2⟩ := goodT_ok c
    have ht : Ev (fun k => spec_l5Text.f k l) (textFrom ⟨#[]⟩ l) := by
      simp only [spec_l5Text.f]
      exact l5Text_l0 l h1 h2 l.length 0 _ (by omega) (by show (0 : Nat) ≤ _; omega)
    unfold shortV
    refine ev_bind ht (ev_ite (fun c2 => ev_some ?_) (fun c2 => ev_bind ht (ev_some ?_)))
    · rw [if_pos (by omega)]
    · rw [if_neg (by omega)]
  · rw [if_neg c]
end Go.Proofs.YtfmbpldjbmhnnaaDoor.Pl

/- Plain Lean: what a whole number that came in is bounded by. No condition. -/
namespace Go.Proofs.YtfmbpldjbmhnnaaDoor.Pl
open Go.RowKit Go.Proofs.YtfmbpldjbmhnnaaDoorW.PrintWords Go.Proofs.YtfmbpldjbmhnnaaDoorW.PrintLast Go.Proofs.YtfmbpldjbmhnnaaDoor.My
theorem wint_bounds {z : Int} (h : Wint z) : -9223372036854775808 ≤ z ∧ z ≤ 9223372036854775807 := by
  have h' : (Lit.int .i64 z).wf = true := h
  simp [Lit.wf, show IntKind.i64.min = -9223372036854775808 from rfl, show IntKind.i64.max = 9223372036854775807 from rfl] at h'
  omega
end Go.Proofs.YtfmbpldjbmhnnaaDoor.Pl

/- Plain Lean: what the laws' helpers on hunks come to, and whether hunks are the same. Conditions: lengths and sizes below 2^63. -/
namespace Go.Proofs.YtfmbpldjbmhnnaaDoor.Pl
open Go.RowKit Go.Proofs.YtfmbpldjbmhnnaaDoorW.PrintWords Go.Proofs.YtfmbpldjbmhnnaaDoorW.PrintLast Go.Proofs.YtfmbpldjbmhnnaaDoor.My
set_option linter.unusedVariables false
set_option linter.unusedSimpArgs false

abbrev LH := S67
abbrev IH := S70
def toH (x : LH) : IH := ⟨x.f0, x.f1, x.f2⟩
def FitH (l : List LH) : Prop := l.length ≤ 9223372036854775807 ∧ ∀ x ∈ l, Wint x.f0 ∧ Wint x.f1 ∧ FitS x.f2
def szH (l : List LH) : Nat := l.length + (l.map fun x => szS x.f2).sum

theorem fitH_of_wl {l : List LH} (h : WL W67 l) : FitH l := by
  refine ⟨h.1, fun x hx => ?_⟩
  obtain ⟨h0, h1, h2⟩ := h.2 x hx
  exact ⟨h0, h1, fitS_of_wl h2⟩

theorem sumH_drop (l : List LH) (i : Nat) (h : i < l.length) : ((l.drop i).map fun x => szS x.f2).sum = szS l[i].f2 + ((l.drop (i + 1)).map fun x => szS x.f2).sum := by
  rw [List.drop_eq_getElem_cons h, List.map_cons, List.sum_cons]

theorem sumH_mem (l : List LH) (x : LH) (h : x ∈ l) : szS x.f2 ≤ szH l := by
  unfold szH
  induction l with
  | nil => simp at h
  | cons a l ih =>
    simp only [List.map_cons, List.sum_cons, List.length_cons]
    rcases List.mem_cons.1 h with rfl | h
    · omega
    · have := ih h
      omega

theorem rdLH (l : List LH) (i : Nat) (h : i < l.length) : rd_T67 l (i : Int) = l[i] := getD_lt l _ i h
theorem rdIH (l : List IH) (i : Nat) (h : i < l.length) : rd_T70 l (i : Int) = l[i] := getD_lt l _ i h

theorem szHunkS_l0 (l : List LH) (hf : FitH l) : ∀ d i (a : Int), i + d = l.length → 0 ≤ a → a ≤ 1048576 → ∃ r, Ev (fun k => laws_szHunkS.l0 k l a (i : Int)) r ∧ leftOf a (((l.drop i).map fun x => szS x.f2).sum) r := by
  intro d
  have hL := hf.1
  induction d with
  | zero =>
    intro i a hi h0 h1
    refine ⟨a, Ev.step (fun k => laws_szHunkS.l0.eq_2 ..) (ev_neg (by omega) (ev_some rfl)), .inr ⟨h0, ?_⟩⟩
    rw [List.drop_of_length_le (by omega)]
    simp
  | succ d ih =>
    intro i a hi h0 h1
    have hlt : i < l.length := by omega
    obtain ⟨q, hq, hm⟩ := szStringS_ev l[i].f2 (hf.2 _ (List.getElem_mem hlt)).2.2 a h0 h1
    rw [sumH_drop l i hlt]
    have hz : Ev (fun k => laws_szHunk.f k (rd_T67 l (i : Int)).f0 (rd_T67 l (i : Int)).f1 (rd_T67 l (i : Int)).f2 a) (if q < 0 then -1 else q) := by
      rw [rdLH l i hlt]
      simp only [laws_szHunk.f]
      refine ev_bind hq (ev_ite (fun h => ev_some (by rw [if_pos h])) (fun h => ev_some (by rw [if_neg h])))
    by_cases h : q < 0
    · rw [if_pos h] at hz
      exact ⟨-1, Ev.step (fun k => laws_szHunkS.l0.eq_2 ..) (ev_pos (by omega) (ev_pos (by omega) (ev_bind hz (ev_pos (by omega) (ev_some rfl))))), .inl (by omega)⟩
    · rw [if_neg h] at hz
      obtain ⟨r, hr, hl⟩ := ih (i + 1) q (by omega) (by omega) (by rcases hm with hm | hm <;> omega)
      refine ⟨r, Ev.step (fun k => laws_szHunkS.l0.eq_2 ..) (ev_pos (by omega) (ev_pos (by omega) (ev_bind hz (ev_neg h ?_)))), ?_⟩
      · rw [wrap_succ i (by omega)]
        exact hr
      · rcases hl with hl | hl
        · exact .inl hl
        · rcases hm with hm | hm
          · omega
          · exact .inr (by omega)

theorem szHunkS_ev (l : List LH) (hf : FitH l) (a : Int) (h0 : 0 ≤ a) (h1 : a ≤ 1048576) : ∃ r, Ev (fun k => laws_szHunkS.f k l a) r ∧ leftOf a (szH l) r := by
  have hL := hf.1
  simp only [laws_szHunkS.f]
  rw [wrap64_id (by omega) (by omega)]
  by_cases h : a - (l.length : Int) < 0
  · exact ⟨-1, ev_pos h (ev_some rfl), .inl (by omega)⟩
  · obtain ⟨r, hr, hl⟩ := szHunkS_l0 l hf l.length 0 (a - (l.length : Int)) (by omega) (by omega) (by omega)
    refine ⟨r, ev_neg h hr, ?_⟩
    rcases hl with hl | hl
    · exact .inl hl
    · rw [List.drop_zero] at hl
      exact .inr (by unfold szH; omega)

/-- Small enough to be copied. -/
def SmallH (l : List LH) : Prop := l.length ≤ 1048576 ∧ ∀ x ∈ l, x.f2.length ≤ 1048576
theorem smallH {l : List LH} (h : szH l ≤ 1048576) : SmallH l := by
  refine ⟨by unfold szH at h; omega, fun x hx => ?_⟩
  have := sumH_mem l x hx
  unfold szS at this
  omega

theorem toHunkS_l0 (l : List LH) (hs : SmallH l) : ∀ d i (o : List IH), i + d = l.length → o.length = l.length → o.take i = (l.map toH).take i → Ev (fun k => laws_toHunkS.l0 k l o (i : Int)) (l.map toH) := by
  intro d
  have hL := hs.1
  induction d with
  | zero =>
    intro i o hi hl ht
    refine Ev.step (fun k => laws_toHunkS.l0.eq_2 ..) (ev_neg (by omega) (ev_some ?_))
    rw [List.take_of_length_le (by omega), List.take_of_length_le (by rw [List.length_map]; omega)] at ht
    exact ht
  | succ d ih =>
    intro i o hi hl ht
    have hlt : i < l.length := by omega
    have hx : Ev (fun k => laws_toHunk.f k (rd_T67 l (i : Int)).f0 (rd_T67 l (i : Int)).f1 (rd_T67 l (i : Int)).f2) (l[i].f0, l[i].f1, l[i].f2) := by
      rw [rdLH l i hlt]
      simp only [laws_toHunk.f]
      exact ev_bind (toStringS_ev _ (by have := hs.2 _ (List.getElem_mem hlt); omega)) (ev_some rfl)
    refine Ev.step (fun k => laws_toHunkS.l0.eq_2 ..) (ev_pos (by omega) (ev_pos (by omega) (ev_bind hx (ev_pos (by omega) ?_))))
    rw [wrap_succ i (by omega), Int.toNat_natCast]
    refine ih (i + 1) _ (by omega) (by rw [List.length_set]; exact hl) ?_
    rw [List.take_succ_eq_append_getElem (by rw [List.length_set]; omega), List.take_succ_eq_append_getElem (by rw [List.length_map]; exact hlt), List.getElem_set_self, List.take_set_of_le (Nat.le_refl i), ht, List.getElem_map]
    rfl

theorem toHunkS_ev (l : List LH) (hs : SmallH l) : Ev (fun k => laws_toHunkS.f k l) (l.map toH) := by
  have hL := hs.1
  simp only [laws_toHunkS.f]
  refine ev_pos (by omega) (ev_pos (by omega) ?_)
  exact toHunkS_l0 l hs l.length 0 _ (by omega) (by simp) rfl

theorem ih_ext {x y : IH} (h0 : x.f0 = y.f0) (h1 : x.f1 = y.f1) (h2 : x.f2 = y.f2) : x = y := by
  cases x; cases y; simp_all

/-- Hunks that came in fit. -/
def FitI (l : List IH) : Prop := l.length ≤ 9223372036854775807 ∧ ∀ x ∈ l, (-9223372036854775808 ≤ x.f0 ∧ x.f0 ≤ 9223372036854775807) ∧ (-9223372036854775808 ≤ x.f1 ∧ x.f1 ≤ 9223372036854775807) ∧ FitS x.f2

theorem fitI_of {l : List LH} (h : FitH l) : FitI (l.map toH) := by
  refine ⟨by rw [List.length_map]; exact h.1, fun x hx => ?_⟩
  obtain ⟨y, hy, rfl⟩ := List.mem_map.1 hx
  obtain ⟨h0, h1, h2⟩ := h.2 y hy
  exact ⟨wint_bounds h0, wint_bounds h1, h2⟩

instance : DecidableEq IH := fun x y => decidable_of_iff (x.f0 = y.f0 ∧ x.f1 = y.f1 ∧ x.f2 = y.f2) ⟨fun ⟨a, b, c⟩ => ih_ext a b c, fun h => by rw [h]; exact ⟨rfl, rfl, rfl⟩⟩

theorem eqHunk_ev (x y : IH) (h : FitS x.f2) : Ev (fun k => laws_eqHunk.f k x.f0 x.f1 x.f2 y.f0 y.f1 y.f2) (decide (x = y)) := by
  simp only [laws_eqHunk.f]
  refine ev_ite (fun h0 => ev_ite (fun h1 => ev_bind (eqStringS_ev _ _ h.1) ?_) (fun h1 => ev_some ?_)) (fun h0 => ev_some ?_)
  · refine ev_ite (fun h2 => ev_some ?_) (fun h2 => ev_some ?_)
    · rw [ih_ext h0 h1 (of_decide_eq_true h2)]
      simp
    · have : ¬ x = y := fun e => h2 (by rw [e]; simp)
      simp [this]
  · have : ¬ x = y := fun e => h1 (by rw [e])
    simp [this]
  · have : ¬ x = y := fun e => h0 (by rw [e])
    simp [this]

theorem eqHunkS_l0 (a b : List IH) (hab : a.length = b.length) (hf : FitI a) : ∀ d i, i + d = a.length → Ev (fun k => laws_eqHunkS.l0 k a b (i : Int)) (decide (a.drop i = b.drop i)) := by
  intro d
  have hL := hf.1
  induction d with
  | zero =>
    intro i hi
    refine Ev.step (fun k => laws_eqHunkS.l0.eq_2 ..) (ev_neg (by omega) (ev_some ?_))
    rw [List.drop_of_length_le (by omega), List.drop_of_length_le (by omega)]
    simp
  | succ d ih =>
    intro i hi
    have h1 : i < a.length := by omega
    have h2 : i < b.length := by omega
    refine Ev.step (fun k => laws_eqHunkS.l0.eq_2 ..) (ev_pos (by omega) (ev_pos (by omega) (ev_pos (by omega) ?_)))
    simp only [rdIH _ _ h1, rdIH _ _ h2, drop_cons a i h1, drop_cons b i h2]
    refine ev_bind (eqHunk_ev _ _ (hf.2 _ (List.getElem_mem h1)).2.2) (ev_ite (fun h => ?_) (fun h => ev_some ?_))
    · rw [wrap_succ i (by omega)]
      refine ev_to (ih (i + 1) (by omega)) ?_
      rw [of_decide_eq_true h]
      simp only [List.cons.injEq, true_and]
    · have : ¬ a[i] = b[i] := fun e => h (decide_eq_true e)
      simp only [List.cons.injEq, this, false_and, decide_false]

theorem eqHunkS_ev (a b : List IH) (hf : FitI a) : Ev (fun k => laws_eqHunkS.f k a b) (decide (a = b)) := by
  simp only [laws_eqHunkS.f]
  refine ev_ite (fun h => ?_) (fun h => ev_some ?_)
  · exact eqHunkS_l0 a b (by omega) hf a.length 0 (by omega)
  · have : ¬ a = b := fun e => h (by rw [e])
    simp [this]
end Go.Proofs.YtfmbpldjbmhnnaaDoor.Pl

/- Plain Lean: chapter 2: when hunks are good, for the program and the reference. Conditions: lengths and sizes below 2^63. -/
namespace Go.Proofs.YtfmbpldjbmhnnaaDoor.Pl
open Go.RowKit Go.Proofs.YtfmbpldjbmhnnaaDoorW.PrintWords Go.Proofs.YtfmbpldjbmhnnaaDoorW.PrintLast Go.Proofs.YtfmbpldjbmhnnaaDoor.My
set_option linter.unusedVariables false
set_option linter.unusedSimpArgs false

/-- What one hunk must be, the last one having ended at p. -/
def hNum (n p : Int) (x : IH) : Prop := 0 ≤ x.f0 ∧ 0 ≤ x.f1 ∧ x.f0 + x.f1 ≤ n ∧ ¬ (x.f1 = 0 ∧ x.f2.length = 0) ∧ x.f2.length ≤ 40 ∧ p < x.f0
instance (n p : Int) (x : IH) : Decidable (hNum n p x) := by unfold hNum; infer_instance
def hOK (n p : Int) (x : IH) : Bool := decide (hNum n p x) && x.f2.all isLn
/-- Each starts past the last one's end. -/
def chain (n : Int) : Int → List IH → Bool
  | _, [] => true
  | p, x :: t => hOK n p x && chain n (x.f0 + x.f1) t
def goodH (n : Int) (h : List IH) : Bool := inB n 0 40 && (decide (h.length ≤ 20) && chain n (-1) h)

/-- Where the last one before place i ended. -/
def before (n : Int) (h : List IH) (i : Nat) (p : Int) : Prop := (i = 0 ∧ p = -1) ∨ ∃ (j : Nat) (hj : j < h.length), i = j + 1 ∧ p = h[j].f0 + h[j].f1 ∧ 0 ≤ h[j].f0 ∧ 0 ≤ h[j].f1 ∧ p ≤ n

theorem chain_cons (n p : Int) (h : List IH) (i : Nat) (hi : i < h.length) : chain n p (h.drop i) = (hOK n p h[i] && chain n (h[i].f0 + h[i].f1) (h.drop (i + 1))) := by
  rw [List.drop_eq_getElem_cons hi]
  rfl

theorem goodHunks_l0 (n : Int) (h : List IH) (hf : FitI h) (h0 : 0 ≤ n) (h1 : n ≤ 40) : ∀ d i p, i + d = h.length → before n h i p → Ev (fun k => impl_goodHunks.l0 k n h h (h.length : Int) (i : Int)) (chain n p (h.drop i)) := by
  intro d
  have hL := hf.1
  induction d with
  | zero =>
    intro i p hi hp
    refine Ev.step (fun k => impl_goodHunks.l0.eq_2 ..) (ev_neg (by omega) (ev_some ?_))
    rw [List.drop_of_length_le (by omega)]
    rfl
  | succ d ih =>
    intro i p hi hp
    have hlt : i < h.length := by omega
    obtain ⟨b0, b1, b2⟩ := hf.2 _ (List.getElem_mem hlt)
    refine Ev.step (fun k => impl_goodHunks.l0.eq_2 ..) ?_
    simp only [rdIH h i hlt, impl_in_eq, Option.bind_some, chain_cons n p h i hlt]
    generalize hx : h[i] = x at *
    have bad : ¬ (hNum n (-1) x ∧ x.f2.all isLn = true) → Ev (fun k => impl_goodHunks.j2 k n h (i : Int) h (h.length : Int) (i : Int) true x.f0 x.f1 x.f2) (hOK n p x && chain n (x.f0 + x.f1) (h.drop (i + 1))) := by
      intro hb
      refine Ev.step (fun k => impl_goodHunks.j2.eq_2 ..) (ev_pos rfl (ev_some ?_))
      have : hOK n p x = false := by
        rw [Bool.eq_false_iff]
        intro ht
        unfold hOK at ht
        rw [Bool.and_eq_true, decide_eq_true_eq] at ht
        obtain ⟨⟨q0, q1, q2, q3, q4, q5⟩, q6⟩ := ht
        exact hb ⟨⟨q0, q1, q2, q3, q4, by omega⟩, q6⟩
      rw [this]
      rfl
    have ok : hNum n (-1) x → x.f2.all isLn = true → Ev (fun k => impl_goodHunks.j2 k n h (i : Int) h (h.length : Int) (i : Int) false x.f0 x.f1 x.f2) (hOK n p x && chain n (x.f0 + x.f1) (h.drop (i + 1))) := by
      intro hb hl
      obtain ⟨q0, q1, q2, q3, q4, q5⟩ := hb
      have nx : before n h (i + 1) (x.f0 + x.f1) := .inr ⟨i, hlt, rfl, by rw [hx], by rw [hx]; exact q0, by rw [hx]; exact q1, q2⟩
      have go : p < x.f0 → Ev (fun k => impl_goodHunks.l0 k n h h (h.length : Int) (wrap64 ((i : Int) + 1))) (hOK n p x && chain n (x.f0 + x.f1) (h.drop (i + 1))) := by
        intro hp
        rw [wrap_succ i (by omega)]
        refine ev_to (ih (i + 1) _ (by omega) nx) ?_
        have : hOK n p x = true := by
          unfold hOK
          rw [Bool.and_eq_true, decide_eq_true_eq]
          exact ⟨⟨q0, q1, q2, q3, q4, hp⟩, hl⟩
        rw [this, Bool.true_and]
      refine Ev.step (fun k => impl_goodHunks.j2.eq_2 ..) (ev_neg (by simp) (ev_ite (fun hi0 => ?_) (fun hi0 => go ?_)))
      · rcases hp with ⟨e, _⟩ | ⟨j, hj, rfl, rfl, r0, r1, r2⟩
        · omega
        · have ew : wrap64 (((j + 1 : Nat) : Int) - 1) = (j : Int) := by rw [wrap64_id (by omega) (by omega)]; omega
          simp only [ew, rdIH h j hj]
          rw [wrap64_id (by omega) (by omega)]
          refine ev_pos (by omega) (ev_pos (by omega) (ev_ite (fun hc => ev_some ?_) (fun hc => go (by omega))))
          have : hOK n (h[j].f0 + h[j].f1) x = false := by
            rw [Bool.eq_false_iff]
            intro ht
            unfold hOK at ht
            rw [Bool.and_eq_true, decide_eq_true_eq] at ht
            have := ht.1.2.2.2.2.2
            omega
          rw [this]
          rfl
      · rcases hp with ⟨_, e⟩ | ⟨j, hj, e, _⟩ <;> omega
    refine ev_pos (by omega) (ev_pos (by omega) (ev_pos (by omega) (ev_ite (fun c0 => ?_) (fun c0 => bad (fun hb => c0 ?_)))))
    · rw [inB_iff] at c0
      rw [wrap64_id (by omega) (by omega)]
      refine ev_ite (fun c1 => ?_) (fun c1 => bad (fun hb => c1 ?_))
      · rw [inB_iff] at c1
        refine ev_bind (areLines_ev x.f2 b2) (ev_ite (fun c2 => ?_) (fun c2 => bad (fun hb => c2 ?_)))
        · rw [Bool.and_eq_true, decide_eq_true_eq] at c2
          refine ev_ite (fun c3 => ?_) (fun c3 => ok ⟨c0.1, c1.1, by omega, fun e => c3 e.1, c2.1, by omega⟩ c2.2)
          by_cases c4 : x.f2.length = 0
          · rw [show (((x.f2.length : Int) == 0) = true) from by rw [c4]; rfl]
            exact bad (fun hb => hb.1.2.2.2.1 ⟨c3, c4⟩)
          · rw [show (((x.f2.length : Int) == 0) = false) from by rw [beq_eq_false_iff_ne]; omega]
            exact ok ⟨c0.1, c1.1, by omega, fun e => c4 e.2, c2.1, by omega⟩ c2.2
        · rw [Bool.and_eq_true, decide_eq_true_eq]
          exact ⟨hb.1.2.2.2.2.1, hb.2⟩
      · rw [inB_iff]
        obtain ⟨⟨q0, q1, q2, q3, q4, q5⟩, q6⟩ := hb
        omega
    · rw [inB_iff]
      obtain ⟨⟨q0, q1, q2, q3, q4, q5⟩, q6⟩ := hb
      omega

theorem goodHunks_ev (n : Int) (h : List IH) (hf : FitI h) : Ev (fun k => impl_goodHunks.f k n h) (goodH n h) := by
  simp only [impl_goodHunks.f, impl_in_eq, Option.bind_some]
  unfold goodH
  refine ev_ite (fun c => ?_) (fun c => ?_)
  · rw [c, Bool.true_and]
    rw [inB_iff] at c
    refine Ev.step (fun k => impl_goodHunks.j0.eq_2 ..) (ev_ite (fun e => ev_some ?_) (fun e => ?_))
    · rw [decide_eq_true_eq] at e
      rw [decide_eq_false (by omega), Bool.false_and]
    · rw [decide_eq_true_eq] at e
      rw [decide_eq_true (by omega), Bool.true_and]
      exact goodHunks_l0 n h hf c.1 c.2 h.length 0 (-1) (by omega) (.inl ⟨rfl, rfl⟩)
  · refine Ev.step (fun k => impl_goodHunks.j0.eq_2 ..) (ev_pos rfl (ev_some ?_))
    rw [Bool.not_eq_true] at c
    rw [c, Bool.false_and]
end Go.Proofs.YtfmbpldjbmhnnaaDoor.Pl

/- Plain Lean: chapter 2: when hunks are good for the reference: as for the program. Conditions: lengths and sizes below 2^63. -/
namespace Go.Proofs.YtfmbpldjbmhnnaaDoor.Pl
open Go.RowKit Go.Proofs.YtfmbpldjbmhnnaaDoorW.PrintWords Go.Proofs.YtfmbpldjbmhnnaaDoorW.PrintLast Go.Proofs.YtfmbpldjbmhnnaaDoor.My
set_option linter.unusedVariables false
set_option linter.unusedSimpArgs false

theorem wrap_zero (a : Int) (m : Nat) (h0 : 0 ≤ a) (h1 : a ≤ 9223372036854775807) (h2 : m ≤ 9223372036854775807) : wrap64 (a + (m : Int)) = 0 ↔ a = 0 ∧ m = 0 := by
  unfold wrap64
  omega

theorem l2Hunks_l0 (n : Int) (h : List IH) (hf : FitI h) (hn0 : -9223372036854775808 ≤ n) (hn : n ≤ 9223372036854775807) : ∀ d i p, i + d = h.length → before n h i p → Ev (fun k => spec_l2Hunks.l0 k n h h (h.length : Int) (i : Int)) (chain n p (h.drop i) && (decide (h.length ≤ 20) && inB n 0 40)) := by
  intro d
  have hL := hf.1
  induction d with
  | zero =>
    intro i p hi hp
    refine Ev.step (fun k => spec_l2Hunks.l0.eq_2 ..) (ev_neg (by omega) ?_)
    rw [List.drop_of_length_le (by omega)]
    simp only [spec_l1In_eq, Option.bind_some]
    refine ev_ite (fun c => ev_some ?_) (fun c => ev_some ?_)
    · rw [decide_eq_true (by omega)]
      rfl
    · rw [decide_eq_false (by omega)]
      rfl
  | succ d ih =>
    intro i p hi hp
    have hlt : i < h.length := by omega
    obtain ⟨b0, b1, b2⟩ := hf.2 _ (List.getElem_mem hlt)
    refine Ev.step (fun k => spec_l2Hunks.l0.eq_2 ..) ?_
    simp only [rdIH h i hlt, chain_cons n p h i hlt]
    generalize hx : h[i] = x at *
    have no : ¬ (hNum n p x ∧ x.f2.all isLn = true) → hOK n p x = false := by
      intro hb
      rw [Bool.eq_false_iff]
      intro ht
      unfold hOK at ht
      rw [Bool.and_eq_true, decide_eq_true_eq] at ht
      exact hb ht
    have bad : ¬ hNum n p x → Ev (fun k => spec_l2Hunks.j1 k n h h (h.length : Int) (i : Int) true x.f0 x.f1 x.f2) (hOK n p x && chain n (x.f0 + x.f1) (h.drop (i + 1)) && (decide (h.length ≤ 20) && inB n 0 40)) := by
      intro hb
      refine Ev.step (fun k => spec_l2Hunks.j1.eq_2 ..) (ev_pos rfl (ev_some ?_))
      rw [no (fun c => hb c.1)]
      rfl
    have ok : hNum n p x → Ev (fun k => spec_l2Hunks.j1 k n h h (h.length : Int) (i : Int) false x.f0 x.f1 x.f2) (hOK n p x && chain n (x.f0 + x.f1) (h.drop (i + 1)) && (decide (h.length ≤ 20) && inB n 0 40)) := by
      intro hb
      have nx : before n h (i + 1) (x.f0 + x.f1) := .inr ⟨i, hlt, rfl, by rw [hx], by rw [hx]; exact hb.1, by rw [hx]; exact hb.2.1, hb.2.2.1⟩
      have lp : ∀ e r, r + e = x.f2.length → Ev (fun k => spec_l2Hunks.l1 k n h h (h.length : Int) (i : Int) x.f2 (x.f2.length : Int) (r : Int)) (((x.f2.drop r).all isLn && chain n (x.f0 + x.f1) (h.drop (i + 1))) && (decide (h.length ≤ 20) && inB n 0 40)) := by
        intro e
        have hT := b2.1
        induction e with
        | zero =>
          intro r hr
          refine Ev.step (fun k => spec_l2Hunks.l1.eq_2 ..) (ev_neg (by omega) ?_)
          rw [List.drop_of_length_le (l := x.f2) (by omega), wrap_succ i (by omega), List.all_nil, Bool.true_and]
          exact ih (i + 1) _ (by omega) nx
        | succ e ihe =>
          intro r hr
          have hrt : r < x.f2.length := by omega
          refine Ev.step (fun k => spec_l2Hunks.l1.eq_2 ..) (ev_pos (by omega) (ev_pos (by omega) (ev_pos (by omega) ?_)))
          rw [rdOf_lt _ _ _ hrt, drop_cons x.f2 r hrt, List.all_cons]
          refine ev_bind (l1Line_ev _ (b2.2 _ (List.getElem_mem hrt))) (ev_ite (fun c => ?_) (fun c => ev_some ?_))
          · rw [wrap_succ r (by omega), c, Bool.true_and]
            exact ihe (r + 1) (by omega)
          · rw [Bool.not_eq_true] at c
            rw [c]
            rfl
      refine Ev.step (fun k => spec_l2Hunks.j1.eq_2 ..) (ev_neg (by simp) (ev_to (lp x.f2.length 0 (by omega)) ?_))
      unfold hOK
      rw [decide_eq_true hb, Bool.true_and, List.drop_zero]
    refine ev_pos (by omega) (ev_pos (by omega) (ev_pos (by omega) (ev_ite (fun c => bad (fun hb => ?_)) (fun c0 => ev_ite (fun c => bad (fun hb => ?_)) (fun c1 => ev_ite (fun c => bad (fun hb => ?_)) (fun c2 => ?_))))))
    · have := hb.1
      omega
    · have := hb.2.1
      omega
    · obtain ⟨q0, q1, q2, q3, q4, q5⟩ := hb
      omega
    rw [wrap64_id (x := n - x.f1) (by omega) (by omega)]
    refine ev_ite (fun c => bad (fun hb => ?_)) (fun c3 => ev_ite (fun c => bad (fun hb => ?_)) (fun c4 => ev_ite (fun c => bad (fun hb => ?_)) (fun c5 => ?_)))
    · have := hb.2.2.1
      omega
    · rw [wrap_zero _ _ (by omega) (by omega) b2.1] at c
      exact hb.2.2.2.1 c
    · have := hb.2.2.2.2.1
      omega
    rw [wrap_zero _ _ (by omega) (by omega) b2.1] at c4
    rcases hp with ⟨rfl, rfl⟩ | ⟨j, hj, rfl, rfl, r0, r1, r2⟩
    · refine ev_neg (by omega) (ok ⟨by omega, by omega, by omega, c4, by omega, by omega⟩)
    · have ew : wrap64 (((j + 1 : Nat) : Int) - 1) = (j : Int) := by rw [wrap64_id (by omega) (by omega)]; omega
      simp only [ew, rdIH h j hj]
      rw [wrap64_id (x := h[j].f0 + h[j].f1) (by omega) (by omega)]
      refine ev_pos (by omega) (ev_pos (by omega) (ev_pos (by omega) ?_))
      by_cases c : x.f0 ≤ h[j].f0 + h[j].f1
      · rw [decide_eq_true c]
        refine bad (fun hb => ?_)
        have := hb.2.2.2.2.2
        omega
      · rw [decide_eq_false c]
        exact ok ⟨by omega, by omega, by omega, c4, by omega, by omega⟩

theorem l2Hunks_ev (n : Int) (h : List IH) (hf : FitI h) (hn0 : -9223372036854775808 ≤ n) (hn : n ≤ 9223372036854775807) : Ev (fun k => spec_l2Hunks.f k n h) (goodH n h) := by
  simp only [spec_l2Hunks.f]
  refine ev_to (l2Hunks_l0 n h hf hn0 hn h.length 0 (-1) (by omega) (.inl ⟨rfl, rfl⟩)) ?_
  unfold goodH
  rw [List.drop_zero]
  cases inB n 0 40 <;> cases chain n (-1) h <;> cases decide (h.length ≤ 20) <;> rfl
end Go.Proofs.YtfmbpldjbmhnnaaDoor.Pl

/- Plain Lean: chapter 2: good hunks' numbers are small. No condition. -/
namespace Go.Proofs.YtfmbpldjbmhnnaaDoor.Pl
open Go.RowKit Go.Proofs.YtfmbpldjbmhnnaaDoorW.PrintWords Go.Proofs.YtfmbpldjbmhnnaaDoorW.PrintLast Go.Proofs.YtfmbpldjbmhnnaaDoor.My
set_option linter.unusedVariables false
set_option linter.unusedSimpArgs false

/-- All numbers small. -/
def near (h : List IH) : Prop := ∀ x ∈ h, 0 ≤ x.f0 ∧ x.f0 ≤ 40 ∧ 0 ≤ x.f1 ∧ x.f1 ≤ 40 ∧ x.f2.length ≤ 40

theorem near_of_chain {n : Int} (hn : n ≤ 40) : ∀ (h : List IH) (p : Int), chain n p h = true → near h := by
  intro h
  induction h with
  | nil => intro p _ x hx; simp at hx
  | cons y t ih =>
    intro p hc x hx
    simp only [chain, Bool.and_eq_true, hOK, decide_eq_true_eq] at hc
    rcases List.mem_cons.1 hx with rfl | hx
    · obtain ⟨⟨⟨q0, q1, q2, q3, q4, q5⟩, _⟩, _⟩ := hc
      omega
    · exact ih _ hc.2 x hx
theorem near_of_good {n : Int} {h : List IH} (g : goodH n h = true) : near h ∧ h.length ≤ 20 ∧ 0 ≤ n ∧ n ≤ 40 := by
  unfold goodH at g
  rw [Bool.and_eq_true, Bool.and_eq_true, inB_iff, decide_eq_true_eq] at g
  exact ⟨near_of_chain g.1.2 h _ g.2.2, g.2.1, g.1.1, g.1.2⟩

end Go.Proofs.YtfmbpldjbmhnnaaDoor.Pl

/- Plain Lean: chapter 2: hunks carried out, for the program and the reference. Conditions: lengths and sizes below 2^62. -/
namespace Go.Proofs.YtfmbpldjbmhnnaaDoor.Pl
open Go.RowKit Go.Proofs.YtfmbpldjbmhnnaaDoorW.PrintWords Go.Proofs.YtfmbpldjbmhnnaaDoorW.PrintLast Go.Proofs.YtfmbpldjbmhnnaaDoor.My
set_option linter.unusedVariables false
set_option linter.unusedSimpArgs false

/-- What is left of the lines from p on, the hunks carried out. -/
def patchFrom (a : List ByteArray) : Nat → List IH → List ByteArray
  | p, [] => a.drop p
  | p, x :: t => (a.take x.f0.toNat).drop p ++ (x.f2 ++ patchFrom a (x.f0 + x.f1).toNat t)
theorem patchFrom_mem (a : List ByteArray) (s : ByteArray) : ∀ (h : List IH) (p : Nat), s ∈ patchFrom a p h → s ∈ a ∨ ∃ x ∈ h, s ∈ x.f2 := by
  intro h
  induction h with
  | nil => intro p hs; exact .inl (List.mem_of_mem_drop hs)
  | cons y t ih =>
    intro p hs
    simp only [patchFrom, List.mem_append] at hs
    rcases hs with hs | hs | hs
    · exact .inl (List.mem_of_mem_take (List.mem_of_mem_drop hs))
    · exact .inr ⟨y, List.mem_cons_self .., hs⟩
    · rcases ih _ hs with hs | ⟨x, hx, hs⟩
      · exact .inl hs
      · exact .inr ⟨x, List.mem_cons_of_mem _ hx, hs⟩
theorem patchFrom_len (a : List ByteArray) (ha : a.length ≤ 40) : ∀ (h : List IH) (p : Nat), near h → (patchFrom a p h).length ≤ 40 + 80 * h.length := by
  intro h
  induction h with
  | nil => intro p _; simp only [patchFrom, List.length_drop, List.length_nil]; omega
  | cons y t ih =>
    intro p hn
    have h1 := ih (y.f0 + y.f1).toNat (fun x hx => hn x (List.mem_cons_of_mem _ hx))
    have h2 := hn y (List.mem_cons_self ..)
    simp only [patchFrom, List.length_append, List.length_drop, List.length_take, List.length_cons]
    omega
theorem patchFrom_fit {a : List ByteArray} {h : List IH} (fa : FitS a) (fh : FitI h) (ha : a.length ≤ 40) (hn : near h) (hl : h.length ≤ 20) (p : Nat) : FitS (patchFrom a p h) := by
  have := patchFrom_len a ha h p hn
  refine ⟨by omega, fun s hs => ?_⟩
  rcases patchFrom_mem a s h p hs with hs | ⟨x, hx, hs⟩
  · exact fa.2 s hs
  · exact (fh.2 x hx).2.2.2 s hs

theorem patched_l0 (a : List ByteArray) (h : List IH) (hn : a.length ≤ 40) (hl : h.length ≤ 20) : ∀ d i (q : Int) (p : Nat) (acc : List ByteArray), i + d = h.length → chain a.length q (h.drop i) = true → (p : Int) ≤ q + 1 → p ≤ a.length → acc.length ≤ 40 * i + p →
    Ev (fun k => impl_patched.l0 k a acc (p : Int) h (h.length : Int) (i : Int)) (acc ++ patchFrom a p (h.drop i)) := by
  intro d
  induction d with
  | zero =>
    intro i q p acc hi hc hpq hp hacc
    refine Ev.step (fun k => impl_patched.l0.eq_2 ..) (ev_neg (by omega) (ev_pos (by omega) (ev_pos (by omega) (ev_pos ?_ (ev_some ?_)))))
    · rw [List.length_drop]
      omega
    · rw [List.drop_of_length_le (l := h) (by omega), Int.toNat_natCast]
      rfl
  | succ d ih =>
    intro i q p acc hi hc hpq hp hacc
    have hlt : i < h.length := by omega
    rw [List.drop_eq_getElem_cons hlt] at hc
    rw [List.drop_eq_getElem_cons hlt]
    simp only [chain, Bool.and_eq_true, hOK, decide_eq_true_eq] at hc
    obtain ⟨⟨⟨q0, q1, q2, q3, q4, q5⟩, _⟩, hc'⟩ := hc
    refine Ev.step (fun k => impl_patched.l0.eq_2 ..) ?_
    simp only [rdIH h i hlt, Option.bind_some]
    have e1 : wrap64 (h[i].f0 + h[i].f1) = (((h[i].f0 + h[i].f1).toNat : Nat) : Int) := by rw [wrap64_id (by omega) (by omega)]; omega
    rw [e1, wrap_succ i (by omega), Int.toNat_natCast]
    have e2 : ((a.take h[i].f0.toNat).drop p).length = h[i].f0.toNat - p := by rw [List.length_drop, List.length_take]; omega
    refine ev_pos (by omega) (ev_pos (by omega) (ev_pos (by omega) (ev_pos (by omega) (ev_pos (by omega) (ev_pos (by omega) (ev_pos (by rw [e2]; omega) (ev_pos (by rw [List.length_append, e2]; omega) ?_)))))))
    refine ev_to (ih (i + 1) _ _ _ (by omega) hc' (by omega) (by omega) (by rw [List.length_append, List.length_append, e2]; omega)) ?_
    simp only [patchFrom, List.append_assoc]

theorem l2Patch_l0 (a : List ByteArray) (h : List IH) (hn : a.length ≤ 40) (hl : h.length ≤ 20) : ∀ d i (q : Int) (p : Nat) (acc : List ByteArray), i + d = h.length → chain a.length q (h.drop i) = true → (p : Int) ≤ q + 1 → p ≤ a.length → acc.length ≤ 40 * i + p →
    Ev (fun k => spec_l2Patch.l0 k a acc (p : Int) h (h.length : Int) (i : Int)) (acc ++ patchFrom a p (h.drop i)) := by
  intro d
  induction d with
  | zero =>
    intro i q p acc hi hc hpq hp hacc
    refine Ev.step (fun k => spec_l2Patch.l0.eq_2 ..) (ev_neg (by omega) (ev_pos (by omega) (ev_pos (by omega) (ev_pos ?_ (ev_some ?_)))))
    · rw [List.length_drop]
      omega
    · rw [List.drop_of_length_le (l := h) (by omega), Int.toNat_natCast]
      rfl
  | succ d ih =>
    intro i q p acc hi hc hpq hp hacc
    have hlt : i < h.length := by omega
    rw [List.drop_eq_getElem_cons hlt] at hc
    rw [List.drop_eq_getElem_cons hlt]
    simp only [chain, Bool.and_eq_true, hOK, decide_eq_true_eq] at hc
    obtain ⟨⟨⟨q0, q1, q2, q3, q4, q5⟩, _⟩, hc'⟩ := hc
    refine Ev.step (fun k => spec_l2Patch.l0.eq_2 ..) ?_
    simp only [rdIH h i hlt, Option.bind_some]
    have e1 : wrap64 (h[i].f0 + h[i].f1) = (((h[i].f0 + h[i].f1).toNat : Nat) : Int) := by rw [wrap64_id (by omega) (by omega)]; omega
    rw [e1, wrap_succ i (by omega), Int.toNat_natCast]
    have e2 : ((a.take h[i].f0.toNat).drop p).length = h[i].f0.toNat - p := by rw [List.length_drop, List.length_take]; omega
    refine ev_pos (by omega) (ev_pos (by omega) (ev_pos (by omega) (ev_pos (by omega) (ev_pos (by omega) (ev_pos (by omega) (ev_pos (by rw [e2]; omega) (ev_pos (by rw [List.length_append, e2]; omega) ?_)))))))
    refine ev_to (ih (i + 1) _ _ _ (by omega) hc' (by omega) (by omega) (by rw [List.length_append, List.length_append, e2]; omega)) ?_
    simp only [patchFrom, List.append_assoc]

def asked (a : List ByteArray) (h : List IH) : Bool := good a && goodH a.length h
def patchH (a : List ByteArray) (h : List IH) : List ByteArray := patchFrom a 0 h
def patchR (a : List ByteArray) (h : List IH) : List ByteArray × Bool := if asked a h = true ∧ good (patchH a h) = true then (patchH a h, true) else ([], false)
theorem asked_of {a : List ByteArray} {h : List IH} (c : asked a h = true) : a.length ≤ 40 ∧ h.length ≤ 20 ∧ near h ∧ chain a.length (-1) h = true := by
  unfold asked at c
  rw [Bool.and_eq_true] at c
  obtain ⟨g1, g2, g3, g4⟩ := near_of_good c.2
  have := c.2
  unfold goodH at this
  rw [Bool.and_eq_true, Bool.and_eq_true] at this
  exact ⟨good_len c.1, g2, g1, this.2.2⟩
theorem patched_ev {a : List ByteArray} {h : List IH} (c : asked a h = true) : Ev (fun k => impl_patched.f k a h) (patchH a h) := by
  obtain ⟨c1, c2, c3, c4⟩ := asked_of c
  simp only [impl_patched.f]
  exact patched_l0 a h c1 c2 h.length 0 (-1) 0 [] (by omega) c4 (by omega) (by omega) (Nat.zero_le _)
theorem l2Patch_ev {a : List ByteArray} {h : List IH} (c : asked a h = true) : Ev (fun k => spec_l2Patch.f k a h) (patchH a h) := by
  obtain ⟨c1, c2, c3, c4⟩ := asked_of c
  simp only [spec_l2Patch.f]
  exact l2Patch_l0 a h c1 c2 h.length 0 (-1) 0 [] (by omega) c4 (by omega) (by omega) (Nat.zero_le _)
theorem l2Asked_ev (a : List ByteArray) (h : List IH) (fa : FitS a) (fh : FitI h) : Ev (fun k => spec_l2Asked.f k a h) (asked a h) := by
  simp only [spec_l2Asked.f]
  unfold asked
  have hL := fa.1
  refine ev_bind (l1Good_ev a fa) (ev_ite (fun c => ?_) (fun c => ev_some ?_))
  · rw [c, Bool.true_and]
    exact ev_bind (l2Hunks_ev _ h fh (by omega) (by omega)) (ev_some rfl)
  · rw [Bool.not_eq_true] at c
    rw [c, Bool.false_and]
theorem patchR_small (a : List ByteArray) (h : List IH) : (patchR a h).1.length ≤ 40 := by
  unfold patchR
  split
  · rename_i c
    exact good_len c.2
  · exact Nat.zero_le _
theorem impl_Patch_ev (a : List ByteArray) (h : List IH) (fa : FitS a) (fh : FitI h) : Ev (fun k => impl_Patch.f k a h) (patchR a h) := by
  simp only [impl_Patch.f]
  unfold patchR
  have fin : asked a h = false → Ev (fun k => impl_Patch.j0 k a h true) (if asked a h = true ∧ good (patchH a h) = true then (patchH a h, true) else (([] : List ByteArray), false)) := by
    intro c
    rw [if_neg (fun e => by rw [c] at e; cases e.1)]
    exact Ev.step (fun k => impl_Patch.j0.eq_2 ..) (ev_pos rfl (ev_some rfl))
  refine ev_bind (goodLines_ev a fa) (ev_ite (fun c => ?_) (fun c => ?_))
  · refine ev_bind (goodHunks_ev _ h fh) ?_
    cases g : goodH a.length h with
    | false =>
      refine fin ?_
      unfold asked
      rw [g, Bool.and_false]
    | true =>
      have ca : asked a h = true := by unfold asked; rw [c, g]; rfl
      obtain ⟨c1, c2, c3, c4⟩ := asked_of ca
      refine Ev.step (fun k => impl_Patch.j0.eq_2 ..) (ev_neg (by simp) (ev_bind (patched_ev ca) (ev_bind (goodLines_ev _ (patchFrom_fit fa fh c1 c3 c2 0)) (ev_ite (fun c5 => ev_some ?_) (fun c5 => ev_some ?_)))))
      · rw [if_pos ⟨ca, c5⟩]
      · rw [if_neg (fun e => c5 e.2)]
  · refine fin ?_
    unfold asked
    rw [Bool.not_eq_true] at c
    rw [c, Bool.false_and]
theorem spec_Patch_ev (a : List ByteArray) (h : List IH) (fa : FitS a) (fh : FitI h) : Ev (fun k => spec_Patch.f k a h) (patchR a h) := by
  simp only [spec_Patch.f]
  unfold patchR
  refine ev_bind (l2Asked_ev a h fa fh) (ev_ite (fun ca => ?_) (fun ca => ev_some ?_))
  · obtain ⟨c1, c2, c3, c4⟩ := asked_of ca
    refine ev_bind (l2Patch_ev ca) (ev_bind (l1Good_ev _ (patchFrom_fit fa fh c1 c3 c2 0)) (ev_ite (fun c5 => ev_some ?_) (fun c5 => ev_some ?_)))
    · rw [if_pos (show asked a h = true ∧ good (patchH a h) = true from ⟨ca, c5⟩)]
    · rw [if_neg (show ¬ (asked a h = true ∧ good (patchH a h) = true) from fun e => c5 e.2)]
  · rw [if_neg (show ¬ (asked a h = true ∧ good (patchH a h) = true) from fun e => ca e.1)]
theorem patchR_asked {a : List ByteArray} {h : List IH} (c : (patchR a h).2 = true) : asked a h = true := by
  unfold patchR at c
  split at c
  · rename_i e
    exact e.1
  · cases c
end Go.Proofs.YtfmbpldjbmhnnaaDoor.Pl

/- Plain Lean: copies of lists of strings. Condition: lengths below 2^43. -/
namespace Go.Proofs.YtfmbpldjbmhnnaaDoor.Pl
open Go.RowKit Go.Proofs.YtfmbpldjbmhnnaaDoorW.PrintWords Go.Proofs.YtfmbpldjbmhnnaaDoorW.PrintLast Go.Proofs.YtfmbpldjbmhnnaaDoor.My
set_option linter.unusedVariables false
set_option linter.unusedSimpArgs false

theorem cloneT_eq (l : List ByteArray) (h : l.length < 8796093022208) : slices_Clone_string_string.f l = some l := by
  unfold slices_Clone_string_string.f
  simp [h]
theorem ownT_eq (l : List ByteArray) (h : l.length < 8796093022208) : spec_l1OwnT.f l = some l := by
  unfold spec_l1OwnT.f
  simp [h]
end Go.Proofs.YtfmbpldjbmhnnaaDoor.Pl

/- Plain Lean: chapter 5: a step for each hunk, for the program and the reference. Conditions: lengths and sizes below 2^62. -/
namespace Go.Proofs.YtfmbpldjbmhnnaaDoor.Pl
open Go.RowKit Go.Proofs.YtfmbpldjbmhnnaaDoorW.PrintWords Go.Proofs.YtfmbpldjbmhnnaaDoorW.PrintLast Go.Proofs.YtfmbpldjbmhnnaaDoor.My
set_option linter.unusedVariables false
set_option linter.unusedSimpArgs false

/-- The number by which a place is written. -/
def numI (f m : Int) : Int := if m > 0 then f + 1 else f
theorem numberOf_eq (f m : Int) (h : -1000000 ≤ f ∧ f ≤ 1000000) : impl_numberOf.f f m = some (numI f m) := by
  unfold impl_numberOf.f numI
  rw [wrap64_id (by omega) (by omega)]
  split <;> rfl
theorem l4Number_eq (f m : Int) (h : -1000000 ≤ f ∧ f ≤ 1000000) : spec_l4Number.f f m = some (numI f m) := by
  unfold spec_l4Number.f numI
  rw [wrap64_id (by omega) (by omega)]
  split <;> rfl
theorem endOf_eq (f m : Int) (h : -1000000 ≤ f + m ∧ f + m ≤ 1000000) : impl_endOf.f f m = some (f + m) := by
  unfold impl_endOf.f
  rw [wrap64_id (by omega) (by omega)]
/-- A hunk's step, the text ahead having moved by s. -/
def stepOne (a : List ByteArray) (s : Int) (x : IH) : IT := ⟨numI x.f0 x.f1, x.f0 + x.f1, (a.take (x.f0 + x.f1).toNat).drop x.f0.toNat, numI (x.f0 + s) (x.f2.length : Int), x.f0 + s + (x.f2.length : Int), x.f2⟩
def stepsFrom (a : List ByteArray) : Int → List IH → List IT
  | _, [] => []
  | s, x :: t => stepOne a s x :: stepsFrom a (s + ((x.f2.length : Int) - x.f1)) t
theorem stepsFrom_len (a : List ByteArray) : ∀ (h : List IH) (s : Int), (stepsFrom a s h).length = h.length
  | [], _ => rfl
  | x :: t, s => by simp only [stepsFrom, List.length_cons, stepsFrom_len a t]
theorem stepsFrom_mem (a : List ByteArray) : ∀ (h : List IH) (s : Int) (y : IT), y ∈ stepsFrom a s h → y.f2.length ≤ a.length ∧ (∀ z ∈ y.f2, z ∈ a) ∧ ∃ x ∈ h, y.f5 = x.f2
  | [], _, y, hy => by simp [stepsFrom] at hy
  | x :: t, s, y, hy => by
    simp only [stepsFrom, List.mem_cons] at hy
    rcases hy with rfl | hy
    · exact ⟨by unfold stepOne; rw [List.length_drop, List.length_take]; omega, fun z hz => List.mem_of_mem_take (List.mem_of_mem_drop hz), x, List.mem_cons_self .., rfl⟩
    · obtain ⟨h1, h2, z, hz, e⟩ := stepsFrom_mem a t _ y hy
      exact ⟨h1, h2, z, List.mem_cons_of_mem _ hz, e⟩

theorem steps_l0 (a : List ByteArray) (h : List IH) (hn : a.length ≤ 40) (hl : h.length ≤ 20) : ∀ d i (q s : Int) (acc : List IT), i + d = h.length → chain a.length q (h.drop i) = true → -40 * (i : Int) ≤ s → s ≤ 40 * (i : Int) → acc.length ≤ i →
    Ev (fun k => impl_stepsOf.l0 k a acc s h (h.length : Int) (i : Int)) (acc ++ stepsFrom a s (h.drop i)) := by
  intro d
  induction d with
  | zero =>
    intro i q s acc hi hc h1 h2 hacc
    refine Ev.step (fun k => impl_stepsOf.l0.eq_2 ..) (ev_neg (by omega) (ev_some ?_))
    rw [List.drop_of_length_le (l := h) (by omega)]
    simp only [stepsFrom, List.append_nil]
  | succ d ih =>
    intro i q s acc hi hc h1 h2 hacc
    have hlt : i < h.length := by omega
    rw [List.drop_eq_getElem_cons hlt] at hc
    rw [List.drop_eq_getElem_cons hlt]
    simp only [chain, Bool.and_eq_true, hOK, decide_eq_true_eq] at hc
    obtain ⟨⟨⟨q0, q1, q2, q3, q4, q5⟩, _⟩, hc'⟩ := hc
    refine Ev.step (fun k => impl_stepsOf.l0.eq_2 ..) ?_
    simp only [rdIH h i hlt]
    rw [endOf_eq h[i].f0 h[i].f1 (by omega), wrap64_id (x := h[i].f0 + h[i].f1) (by omega) (by omega), wrap64_id (x := h[i].f0 + s) (by omega) (by omega), wrap64_id (x := (h[i].f2.length : Int) - h[i].f1) (by omega) (by omega), wrap64_id (x := s + ((h[i].f2.length : Int) - h[i].f1)) (by omega) (by omega), wrap_succ i (by omega)]
    have e2 : ((a.take (h[i].f0 + h[i].f1).toNat).drop h[i].f0.toNat).length < 8796093022208 := by rw [List.length_drop, List.length_take]; omega
    rw [cloneT_eq _ e2, cloneT_eq h[i].f2 (by omega), numberOf_eq h[i].f0 h[i].f1 (by omega), numberOf_eq (h[i].f0 + s) (h[i].f2.length : Int) (by omega), endOf_eq (h[i].f0 + s) (h[i].f2.length : Int) (by omega)]
    simp only [Option.bind_some]
    refine ev_pos (by omega) (ev_pos (by omega) (ev_pos (by omega) (ev_pos (by omega) (ev_pos (by omega) (ev_pos (by omega) (ev_pos (by omega) ?_))))))
    refine ev_to (ih (i + 1) _ _ _ (by omega) hc' (by omega) (by omega) (by rw [List.length_append, List.length_singleton]; omega)) ?_
    simp only [stepsFrom, stepOne, List.append_assoc, List.singleton_append]

theorem l5Steps_l0 (a : List ByteArray) (h : List IH) (hn : a.length ≤ 40) (hl : h.length ≤ 20) : ∀ d i (q s : Int) (acc : List IT), i + d = h.length → chain a.length q (h.drop i) = true → -40 * (i : Int) ≤ s → s ≤ 40 * (i : Int) → acc.length ≤ i →
    Ev (fun k => spec_l5Steps.l0 k a acc s h (h.length : Int) (i : Int)) (acc ++ stepsFrom a s (h.drop i)) := by
  intro d
  induction d with
  | zero =>
    intro i q s acc hi hc h1 h2 hacc
    refine Ev.step (fun k => spec_l5Steps.l0.eq_2 ..) (ev_neg (by omega) (ev_some ?_))
    rw [List.drop_of_length_le (l := h) (by omega)]
    simp only [stepsFrom, List.append_nil]
  | succ d ih =>
    intro i q s acc hi hc h1 h2 hacc
    have hlt : i < h.length := by omega
    rw [List.drop_eq_getElem_cons hlt] at hc
    rw [List.drop_eq_getElem_cons hlt]
    simp only [chain, Bool.and_eq_true, hOK, decide_eq_true_eq] at hc
    obtain ⟨⟨⟨q0, q1, q2, q3, q4, q5⟩, _⟩, hc'⟩ := hc
    refine Ev.step (fun k => spec_l5Steps.l0.eq_2 ..) ?_
    simp only [rdIH h i hlt]
    rw [wrap64_id (x := h[i].f0 + h[i].f1) (by omega) (by omega), wrap64_id (x := h[i].f0 + s) (by omega) (by omega), wrap64_id (x := (h[i].f2.length : Int) - h[i].f1) (by omega) (by omega), wrap64_id (x := s + ((h[i].f2.length : Int) - h[i].f1)) (by omega) (by omega), wrap_succ i (by omega)]
    have e2 : ((a.take (h[i].f0 + h[i].f1).toNat).drop h[i].f0.toNat).length < 8796093022208 := by rw [List.length_drop, List.length_take]; omega
    rw [ownT_eq _ e2, ownT_eq h[i].f2 (by omega), l4Number_eq h[i].f0 h[i].f1 (by omega), l4Number_eq (h[i].f0 + s) (h[i].f2.length : Int) (by omega), wrap64_id (x := h[i].f0 + s + (h[i].f2.length : Int)) (by omega) (by omega)]
    simp only [Option.bind_some]
    refine ev_pos (by omega) (ev_pos (by omega) (ev_pos (by omega) (ev_pos (by omega) (ev_pos (by omega) (ev_pos (by omega) (ev_pos (by omega) ?_))))))
    refine ev_to (ih (i + 1) _ _ _ (by omega) hc' (by omega) (by omega) (by rw [List.length_append, List.length_singleton]; omega)) ?_
    simp only [stepsFrom, stepOne, List.append_assoc, List.singleton_append]

def stepsR (a : List ByteArray) (h : List IH) : List IT × Bool := if (patchR a h).2 = true then (stepsFrom a 0 h, true) else ([], false)
theorem impl_NormalSteps_ev (a : List ByteArray) (h : List IH) (fa : FitS a) (fh : FitI h) : Ev (fun k => impl_NormalSteps.f k a h) (stepsR a h) := by
  simp only [impl_NormalSteps.f]
  unfold stepsR
  refine ev_bind (impl_Patch_ev a h fa fh) (ev_ite (fun c => ?_) (fun c => ev_some ?_))
  · rw [if_pos c]
    obtain ⟨c1, c2, c3, c4⟩ := asked_of (patchR_asked c)
    simp only [impl_stepsOf.f]
    exact ev_bind (steps_l0 a h c1 c2 h.length 0 (-1) 0 [] (by omega) c4 (by omega) (by omega) (Nat.zero_le _)) (ev_some rfl)
  · rw [if_neg c]
theorem spec_NormalSteps_ev (a : List ByteArray) (h : List IH) (fa : FitS a) (fh : FitI h) : Ev (fun k => spec_NormalSteps.f k a h) (stepsR a h) := by
  simp only [spec_NormalSteps.f]
  unfold stepsR
  refine ev_bind (spec_Patch_ev a h fa fh) (ev_ite (fun c => ?_) (fun c => ev_some ?_))
  · rw [if_pos c]
    obtain ⟨c1, c2, c3, c4⟩ := asked_of (patchR_asked c)
    simp only [spec_l5Steps.f]
    exact ev_bind (l5Steps_l0 a h c1 c2 h.length 0 (-1) 0 [] (by omega) c4 (by omega) (by omega) (Nat.zero_le _)) (ev_some rfl)
  · rw [if_neg c]
theorem stepsR_small (a : List ByteArray) (h : List IH) : (stepsR a h).1.length ≤ 20 ∧ ∀ y ∈ (stepsR a h).1, y.f2.length ≤ 40 ∧ y.f5.length ≤ 40 := by
  unfold stepsR
  split
  · rename_i c
    obtain ⟨c1, c2, c3, c4⟩ := asked_of (patchR_asked c)
    refine ⟨by rw [stepsFrom_len]; exact c2, fun y hy => ?_⟩
    obtain ⟨h1, _, x, hx, e⟩ := stepsFrom_mem a h 0 y hy
    have := c3 x hx
    rw [e]
    exact ⟨by omega, by omega⟩
  · exact ⟨Nat.zero_le _, fun y hy => by cases hy⟩
theorem stepsR_fit (a : List ByteArray) (h : List IH) (fa : FitS a) (fh : FitI h) : FitIT (stepsR a h).1 := by
  have hs := stepsR_small a h
  refine ⟨by omega, fun y hy => ?_⟩
  have h2 := hs.2 y hy
  unfold stepsR at hy
  split at hy
  · obtain ⟨_, h1, x, hx, e⟩ := stepsFrom_mem a h 0 y hy
    refine ⟨⟨by omega, fun s hs => fa.2 s (h1 s hs)⟩, ?_⟩
    rw [e]
    exact (fh.2 x hx).2.2
  · cases hy
end Go.Proofs.YtfmbpldjbmhnnaaDoor.Pl

/- Plain Lean: whether hunks are the same, of which no number is asked. Conditions: lengths and sizes below 2^63. -/
namespace Go.Proofs.YtfmbpldjbmhnnaaDoor.Pl
open Go.RowKit Go.Proofs.YtfmbpldjbmhnnaaDoorW.PrintWords Go.Proofs.YtfmbpldjbmhnnaaDoorW.PrintLast Go.Proofs.YtfmbpldjbmhnnaaDoor.My
set_option linter.unusedVariables false
set_option linter.unusedSimpArgs false

theorem eqHunkS_l0' (a b : List IH) (hab : a.length = b.length) (hL : a.length ≤ 9223372036854775807) (hf : ∀ x ∈ a, FitS x.f2) : ∀ d i, i + d = a.length → Ev (fun k => laws_eqHunkS.l0 k a b (i : Int)) (decide (a.drop i = b.drop i)) := by
  intro d
  induction d with
  | zero =>
    intro i hi
    refine Ev.step (fun k => laws_eqHunkS.l0.eq_2 ..) (ev_neg (by omega) (ev_some ?_))
    rw [List.drop_of_length_le (by omega), List.drop_of_length_le (by omega)]
    simp
  | succ d ih =>
    intro i hi
    have h1 : i < a.length := by omega
    have h2 : i < b.length := by omega
    refine Ev.step (fun k => laws_eqHunkS.l0.eq_2 ..) (ev_pos (by omega) (ev_pos (by omega) (ev_pos (by omega) ?_)))
    simp only [rdIH _ _ h1, rdIH _ _ h2, drop_cons a i h1, drop_cons b i h2]
    refine ev_bind (eqHunk_ev _ _ (hf _ (List.getElem_mem h1))) (ev_ite (fun h => ?_) (fun h => ev_some ?_))
    · rw [wrap_succ i (by omega)]
      refine ev_to (ih (i + 1) (by omega)) ?_
      rw [of_decide_eq_true h]
      simp only [List.cons.injEq, true_and]
    · have : ¬ a[i] = b[i] := fun e => h (decide_eq_true e)
      simp only [List.cons.injEq, this, false_and, decide_false]

theorem eqHunkS_ev' (a b : List IH) (hL : a.length ≤ 9223372036854775807) (hf : ∀ x ∈ a, FitS x.f2) : Ev (fun k => laws_eqHunkS.f k a b) (decide (a = b)) := by
  simp only [laws_eqHunkS.f]
  refine ev_ite (fun h => ?_) (fun h => ev_some ?_)
  · exact eqHunkS_l0' a b (by omega) hL hf a.length 0 (by omega)
  · have : ¬ a = b := fun e => h (by rw [e])
    simp [this]
end Go.Proofs.YtfmbpldjbmhnnaaDoor.Pl

/- NormalText's law, in plain Lean. No condition. -/
namespace Go.Proofs.YtfmbpldjbmhnnaaDoor.Pure
open Go.RowKit Go.Proofs.YtfmbpldjbmhnnaaDoor.My Go.Proofs.YtfmbpldjbmhnnaaDoor.Pl Go.Proofs.YtfmbpldjbmhnnaaDoorW.PrintWords Go.Proofs.YtfmbpldjbmhnnaaDoorW.PrintLast
def normR (l : List ByteArray) (h : List IH) : ByteArray × Bool := if (stepsR l h).2 = true then stepsTextR (stepsR l h).1 else (⟨#[]⟩, false)
theorem spec_NormalText_ev (l : List ByteArray) (h : List IH) (fl : FitS l) (fh : FitI h) : Ev (fun k => spec_NormalText.f k l h) (normR l h) := by
  simp only [spec_NormalText.f]
  unfold normR
  refine ev_bind (spec_NormalSteps_ev l h fl fh) (ev_ite (fun c => ev_bind (spec_StepsText_ev _ (stepsR_fit l h fl fh)) (ev_some ?_)) (fun c => ev_some ?_))
  · rw [if_pos c]
  · rw [if_neg c]
theorem impl_NormalText_ev (l : List ByteArray) (h : List IH) (fl : FitS l) (fh : FitI h) : Ev (fun k => impl_NormalText.f k l h) (normR l h) := by
  simp only [impl_NormalText.f]
  unfold normR
  refine ev_bind (impl_NormalSteps_ev l h fl fh) (ev_ite (fun c => ev_bind (impl_StepsText_ev _ (stepsR_fit l h fl fh)) (ev_some ?_)) (fun c => ev_some ?_))
  · rw [if_pos c]
  · rw [if_neg c]
theorem FnExactNormalText : laws_FnExactNormalText.Pure := by
  intro l h ql qh
  have fl := fitS_of_wl ql
  have fh := fitH_of_wl qh
  refine Ev.rounds (r := true) ?_
  simp only [laws_FnExactNormalText.f]
  obtain ⟨r, hr, hl⟩ := szStringS_ev l fl 1048576 (by omega) (by omega)
  refine ev_bind hr (ev_ite (fun _ => ev_some rfl) (fun h0 => ?_))
  have hz : szS l ≤ 1048576 ∧ 0 ≤ r ∧ r ≤ 1048576 := by rcases hl with hl | hl <;> omega
  obtain ⟨r2, hr2, hl2⟩ := szHunkS_ev h fh r (by omega) (by omega)
  refine ev_bind hr2 (ev_ite (fun _ => ev_some rfl) (fun h1 => ?_))
  have hz2 : szH h ≤ 1048576 ∧ 0 ≤ r2 ∧ r2 ≤ 1048576 := by rcases hl2 with hl2 | hl2 <;> omega
  have ts := toStringS_ev l (by have := hz.1; unfold szS at this; omega)
  have th := toHunkS_ev h (smallH hz2.1)
  have ih := fitI_of fh
  refine ev_bind ts (ev_bind th (ev_bind (spec_NormalText_ev _ _ fl ih) (ev_bind ts (ev_bind th (ev_bind (impl_NormalText_ev _ _ fl ih) (ev_pos rfl ?_))))))
  refine Ev.step (fun k => laws_FnExactNormalText.j0.eq_2 ..) (ev_neg (by simp) ?_)
  exact ev_bind ts (ev_bind (eqStringS_ev l l fl.1) (ev_pos (by simp) (ev_bind th (ev_bind (eqHunkS_ev _ _ ih) (ev_pos (by simp) (ev_some rfl))))))
end Go.Proofs.YtfmbpldjbmhnnaaDoor.Pure

/- The Go function loop.example/g00825/laws.FnExactNormalText returns true for every input, and each argument reads afterwards as it read before. No condition. -/
namespace Go.Proofs.YtfmbpldjbmhnnaaDoor.fnExactNormalText
open Go.ChangeShapes Go.WideShapes Go.ChangeAt Go.RowKit Go.Joins Go.Proofs.YtfmbpldjbmhnnaaDoor.Opens Go.Proofs.YtfmbpldjbmhnnaaDoor.My
open Go.ChangeMaps (open_string shut_string)
set_option linter.unusedVariables false
set_option linter.unusedSimpArgs false
theorem own : ownKnob Tryd.prog.godebug = none := by kernel_rfl
theorem laidOut : laidOutB Tryd.prog = true := by kernel_rfl
/-- WHAT THE ROW's LIST GIVES THE WALK. -/
theorem door {W : World} (h : laidMetH Tryd.prog Rows.fnExactNormalTextRow.laid W) : Door false W := by
  rw [MakeChecks.laidMetH_plain _ _ _ (by kernel_rfl)] at h
  have hT : Lib.TabIs Tryd.prog W "internal/strconv.uint64pow10" .u64 Lib.pow10Tab := doorTab (h.tail.tail)
  exact ⟨hT, fun e => (by cases e), fun e => (by cases e)⟩
theorem door_met (os : Os) (args : Array Value) : laidMetH Tryd.prog Rows.fnExactNormalTextRow.laid ((World.doorLaid Tryd.prog 62 os).forCall (fun _ _ => 0) ⟨#[], args, []⟩).memory :=
  laidMetH_of_parts3 (fuel := 8) (laidMet_of_run' 8 (by kernel_rfl) (by kernel_rfl)) (by kernel_rfl) (by kernel_rfl)
set_option maxRecDepth 100000 in
theorem lifted (os : Os) (started : os.Started) (H : Type) (enc : TypeId × Value → H) :
    ReturnsInHanded {} Tryd.checked os 10 .any (fun w args => (Rows.fnExactNormalTextSpec.pre enc Tryd.prog Tryd.f10 [] false w args ∧ laidMetH Tryd.prog Rows.fnExactNormalTextRow.laid w) ∧ sizedMet enc Tryd.prog Tryd.f10 (OpenSpec.ofChange Rows.fnExactNormalTextSpec) false w args) (Rows.fnExactNormalTextSpec.post enc Tryd.prog Tryd.f10 false true false false) := by
  refine returnsInHanded_of_change_and (C := Tryd.checked) (X := fun w _ => laidMetH Tryd.prog Rows.fnExactNormalTextRow.laid w) (fun _ _ _ hh h => h.of_heap hh) own started (by kernel_rfl) Tryd.func10
    (ChangeSpec.witness_shaped (enc := enc) (C := Tryd.checked) (os := os) (X := fun w _ => laidMetH Tryd.prog Rows.fnExactNormalTextRow.laid w) false (World.doorLaid Tryd.prog 62 os) #[.slice none 0 0, .slice none 0 0] 8 rfl (World.shaped_of_RefB (by kernel_rfl) (by kernel_rfl)) (by kernel_rfl) (by kernel_rfl) (by kernel_rfl) (door_met os _)) ?_
  intro W base args ds gs before hval0 hW hcnd hsz0 hL _
  have hval : ∀ (j : Nat) t v, Tryd.f10.params[j]? = some t → args[j]? = some v → Value.okWide Tryd.prog W .any base t v := hval0
  have hW' := hW
  obtain ⟨p, q, hA0, hV, rfl, hfz, hnd⟩ := hW
  have hA : DataW.TrodAll enc Tryd.prog W 0 (fun _ => true) true Tryd.f10.params.toList args.toList ds p := hA0
  rw [Tryd.params10] at hA hval
  obtain ⟨v0, vs0, d0, ds0, p0, q0, hargs, rfl, rfl, h0, r0⟩ := trodAll_cons hA
  obtain ⟨v1, vs1, d1, ds1, p1, q1, rfl, rfl, rfl, h1, r1⟩ := trodAll_cons r0
  obtain ⟨rfl, rfl, rfl⟩ := trodAll_nil r1
  obtain rfl : args = #[v0, v1] := by cases args; simp_all
  obtain ⟨rfl, rfl⟩ := trodVars_none hV
  obtain ⟨A0, n0, c0, rfl⟩ := okWide_slice Tryd.underlying37 (hval 0 37 v0 rfl rfl)
  have k0 := h0
  have lt0 : ∀ x ∈ p0, x.block < W.heap.size := by obtain ⟨m, hm⟩ := k0; exact DataW.trod_lt m _ _ _ hm
  obtain ⟨l0, rfl, hc0, hr0, q0_⟩ := Opens.row (opens_slice Tryd.underlying37 (by kernel_rfl) (opens_string Tryd.underlying9)) h0
  obtain ⟨A1, n1, c1, rfl⟩ := okWide_slice Tryd.underlying38 (hval 1 38 v1 rfl rfl)
  have k1 := h1
  have lt1 : ∀ x ∈ p1, x.block < W.heap.size := by obtain ⟨m, hm⟩ := k1; exact DataW.trod_lt m _ _ _ hm
  obtain ⟨l1, rfl, hc1, hr1, q1_⟩ := Opens.row (opens_slice Tryd.underlying38 (by kernel_rfl) opens67) h1
  clear hA0 hval0 hsz0
  obtain ⟨kr, hk⟩ := Pure.FnExactNormalText l0 l1 q0_ q1_
  refine (laws_FnExactNormalText.calls false kr _ _ l0 _ _ l1 true W (door hL) hr0 hc0 hr1 hc1 hk).mono fun e W' hh => ?_
  obtain ⟨rfl, hd⟩ := hh
  have bel : Below W.heap.size W W' := hd
  exact ⟨_, rfl, _, _, _, [], _, [], hW', trodAll_mk1 (shut_bool Tryd.underlying4 _), (trodAll_cons_mk (Below.trod laidOut (by kernel_rfl) (of_decide_eq_true (by kernel_rfl)) k0 bel lt0) (trodAll_cons_mk (Below.trod laidOut (by kernel_rfl) (of_decide_eq_true (by kernel_rfl)) k1 bel lt1) trodAll_mk0)), rfl, bel.frame _, fun h => by cases h⟩
theorem over : Rows.fnExactNormalTextRow.holds Tryd.pinned (OpenSpec.ofChange Rows.fnExactNormalTextSpec) :=
  OpenClaim.holds_of_wide 10 Tryd.f10 rfl rfl rfl rfl rfl rfl rfl ⟨rfl, rfl, rfl, rfl, rfl⟩ rfl rfl rfl rfl rfl (by kernel_rfl) Tryd.func10 (by kernel_rfl)
    (of_decide_eq_true (by kernel_rfl)) (by unfold Func.isWrapper; first | (rw [if_pos (by decide +kernel)]; kernel_rfl) | (rw [if_neg (by decide +kernel)]; exact ⟨rfl, rfl⟩))
    (fun os started H enc _ => lifted os started H enc)
theorem plain (f : FuncId) (fn : Func) (hf : Tryd.pinned.checked.prog.funcNamed "loop.example/g00825/laws.FnExactNormalText" = some f) (hfn : Tryd.pinned.checked.prog.funcs[f]? = some fn) :
    true = Tryd.pinned.checked.prog.looks [] ∧ ∀ (j : Nat) t, fn.params[j]? = some t → Tryd.pinned.checked.prog.wantsStandIn t = false := by
  obtain rfl : f = 10 := Option.some.inj ((show Tryd.prog.funcNamed "loop.example/g00825/laws.FnExactNormalText" = some 10 by kernel_rfl).symm.trans hf) |>.symm
  obtain rfl : fn = Tryd.f10 := (Option.some.inj (Tryd.func10.symm.trans hfn)).symm
  refine ⟨by kernel_rfl, fun j t ht => ?_⟩
  have hall : (Tryd.f10.params.all fun u => !Tryd.prog.wantsStandIn u) = true := by kernel_rfl
  have hm := (Array.all_eq_true_iff_forall_mem.1 hall) t (Array.mem_of_getElem? ht)
  exact (show Tryd.prog.wantsStandIn t = false by simpa using hm)
theorem proved : Rows.FnExactNormalTextCardSaid :=
  Claim7.holds_tied_plain_at .later [] _ _ _ _ over (fun _ h => by cases h) (by kernel_rfl) (fun _ h => by cases h) fnExactNormalText_row_tie rfl ⟨rfl, rfl⟩ (by kernel_rfl) rfl plain (by kernel_rfl)
#print axioms proved
end Go.Proofs.YtfmbpldjbmhnnaaDoor.fnExactNormalText
namespace Go.Proofs.YtfmbpldjbmhnnaaDoor
/-- The row, under a short name, for the claim. -/
theorem fnExactNormalText_holds : Rows.FnExactNormalTextCardSaid := fnExactNormalText.proved
end Go.Proofs.YtfmbpldjbmhnnaaDoor
