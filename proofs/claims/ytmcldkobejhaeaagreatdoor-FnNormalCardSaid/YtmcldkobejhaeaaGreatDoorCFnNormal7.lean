/- Part 7 of 7 of a proof of this sentence: The Go function loop.example/g00825/laws.FnNormal returns true for every input, and each argument reads afterwards as it read before. No condition. -/
import Derived.Test.YtmcldkobejhaeaaGreatDoorRows
import Derived.Test.YtmcldkobejhaeaaGreatDoorCards
import Derived.Test.YtmcldkobejhaeaaGreatDoorTie
import Derived.LaidMore
import Derived.LaidLaws
import Derived.Stop.LaidErr
import Derived.Stop.Joined
import Derived.SevenTiedAt
import Derived.Lib.LaidTab
import Derived.WalkKit
import Derived.ProofKit
import Derived.OpenShut
import Derived.ShutString
import Derived.ChangeOld
import Derived.Below
import Derived.SizedLaws
import Derived.Lib.SmallJoins
import Derived.Test.YtmcldkobejhaeaaGreatDoorCFnNormal6
namespace Go.Proofs.YtmcldkobejhaeaaGreatDoor.Pl
open Go.RowKit Go.Proofs.YtmcldkobejhaeaaGreatDoorW.PrintWords Go.Proofs.YtmcldkobejhaeaaGreatDoorW.PrintLast Go.Proofs.YtmcldkobejhaeaaGreatDoor.My
set_option linter.unusedVariables false
set_option linter.unusedSimpArgs false
def nl : ByteArray := ⟨#[10]⟩
def noneT : ByteArray := ⟨#[10, 92, 32, 110, 111, 110, 101, 10]⟩
def shownV (g s : ByteArray) : ByteArray := if ends s = true then g ++ s else (g ++ s) ++ noneT
def allV (g : ByteArray) : List ByteArray → ByteArray
  | [] => ⟨#[]⟩
  | s :: t => shownV g s ++ allV g t
theorem shown_size (g s : ByteArray) (h : isLn s = true) : (shownV g s).size ≤ g.size + 38 := by
  have h1 := (isLn_size h).2
  unfold shownV
  split
  · rw [ByteArray.size_append]; omega
  · rw [ByteArray.size_append, ByteArray.size_append, show noneT.size = 8 from rfl]; omega
theorem allV_size (g : ByteArray) (hg : g.size ≤ 2) : ∀ (l : List ByteArray), (∀ s ∈ l, isLn s = true) → (allV g l).size ≤ 40 * l.length
  | [], _ => by simp [allV]; rfl
  | s :: t, h => by
    have h1 := shown_size g s (h s (List.mem_cons_self ..))
    have h2 := allV_size g hg t (fun x hx => h x (List.mem_cons_of_mem _ hx))
    simp only [allV, ByteArray.size_append, List.length_cons]
    omega
theorem append_empty (a : ByteArray) : a ++ (⟨#[]⟩ : ByteArray) = a := ba_ext (by simp [Lib.toList_data])
theorem empty_append (a : ByteArray) : (⟨#[]⟩ : ByteArray) ++ a = a := ba_ext (by simp [Lib.toList_data])
theorem shown_eq (g s : ByteArray) (hg : g.size ≤ 2) (h : isLn s = true) : impl_shown.f g s = some (shownV g s) := by
  have h1 := isLn_size h
  unfold impl_shown.f shownV
  rw [isEnded_eq s (by omega), Option.bind_some]
  by_cases he : ends s = true
  · rw [if_pos he, if_pos he, if_pos (by omega)]
  · rw [if_neg he, if_neg he, if_pos (by omega), if_pos (by rw [ByteArray.size_append]; omega), if_pos (by rw [ByteArray.size_append, ByteArray.size_append, show (⟨#[10]⟩ : ByteArray).size = 1 from rfl]; omega), ByteArray.append_assoc (a := g ++ s)]
    rfl
theorem l5Shown_eq (g s : ByteArray) (hg : g.size ≤ 2) (h : isLn s = true) : spec_l5Shown.f g s = some (shownV g s) := by
  have h1 := isLn_size h
  unfold spec_l5Shown.f shownV
  rw [l1Ends_eq s (by omega) (by omega), Option.bind_some]
  by_cases he : ends s = true
  · rw [if_pos he, if_pos he, if_pos (by omega)]
  · rw [if_neg he, if_neg he, if_pos (by omega), if_pos (by rw [ByteArray.size_append]; omega)]
    rfl
theorem allShown_l0 (g : ByteArray) (hg : g.size ≤ 2) (l : List ByteArray) (hl : l.length ≤ 40) (h : ∀ s ∈ l, isLn s = true) : ∀ d i (acc : ByteArray), i + d = l.length → acc.size ≤ 40 * i →
    Ev (fun k => impl_allShown.l0 k g acc l (l.length : Int) (i : Int)) (acc ++ allV g (l.drop i)) := by
  intro d
  induction d with
  | zero =>
    intro i acc hi ha
    refine Ev.step (fun k => impl_allShown.l0.eq_2 ..) (ev_neg (by omega) (ev_some ?_))
    rw [List.drop_of_length_le (by omega)]
    simp only [allV, append_empty]
  | succ d ih =>
    intro i acc hi ha
    have hlt : i < l.length := by omega
    have hm := h _ (List.getElem_mem hlt)
    have hs := shown_size g _ hm
    refine Ev.step (fun k => impl_allShown.l0.eq_2 ..) (ev_pos (by omega) (ev_pos (by omega) (ev_pos (by omega) ?_)))
    rw [rdOf_lt _ l i hlt, wrap_succ i (by omega)]
    refine ev_bind (ev_const (shown_eq g _ hg hm)) (ev_pos (by omega) (ev_to (ih (i + 1) _ (by omega) (by rw [ByteArray.size_append]; omega)) ?_))
    rw [List.drop_eq_getElem_cons hlt]
    simp only [allV, ByteArray.append_assoc]
theorem allShown_ev (g : ByteArray) (hg : g.size ≤ 2) (l : List ByteArray) (hl : l.length ≤ 40) (h : ∀ s ∈ l, isLn s = true) : Ev (fun k => impl_allShown.f k g l) (allV g l) := by
  simp only [impl_allShown.f]
  exact ev_to (allShown_l0 g hg l hl h l.length 0 _ (by omega) (by show (0 : Nat) ≤ _; omega)) (by rw [List.drop_zero, empty_append])
def kindV (x : IT) : ByteArray := if x.f2.length = 0 then ⟨#[97]⟩ else if x.f5.length = 0 then ⟨#[100]⟩ else ⟨#[99]⟩
def midV (x : IT) : ByteArray := if x.f2.length = 0 then ⟨#[]⟩ else if x.f5.length = 0 then ⟨#[]⟩ else ⟨#[45, 45, 45, 10]⟩
def lt_ : ByteArray := ⟨#[60, 32]⟩
def gt_ : ByteArray := ⟨#[62, 32]⟩
def headV (x : IT) (kd : ByteArray) : ByteArray := ((pairV x.f0.toNat x.f1.toNat ++ kd) ++ pairV x.f3.toNat x.f4.toNat) ++ nl
def textOne (x : IT) : ByteArray := ((headV x (kindV x) ++ allV lt_ x.f2) ++ midV x) ++ allV gt_ x.f5
def textFrom : ByteArray → List IT → ByteArray
  | acc, [] => acc
  | acc, x :: t => textFrom (acc ++ textOne x) t
structure StepOK (x : IT) : Prop where
  a0 : 0 ≤ x.f0 ∧ x.f0 ≤ 1000
  a1 : 0 ≤ x.f1 ∧ x.f1 ≤ 1000
  a3 : 0 ≤ x.f3 ∧ x.f3 ≤ 1000
  a4 : 0 ≤ x.f4 ∧ x.f4 ≤ 1000
  l2 : x.f2.length ≤ 40
  l5 : x.f5.length ≤ 40
  i2 : ∀ s ∈ x.f2, isLn s = true
  i5 : ∀ s ∈ x.f5, isLn s = true
theorem good_ln {l : List ByteArray} (h : good l = true) : ∀ s ∈ l, isLn s = true := by
  unfold good at h
  rw [Bool.and_eq_true, Bool.and_eq_true] at h
  exact fun s hs => List.all_eq_true.1 h.2.1 s hs
theorem stepOK_of {x : IT} (h : stepB x = true) : StepOK x := by
  unfold stepB at h
  rw [Bool.and_eq_true, Bool.and_eq_true] at h
  obtain ⟨h1, h2, _⟩ := h
  have e1 := told_len h1
  have e2 := told_len h2
  unfold toldB at h1 h2
  rw [Bool.and_eq_true, Bool.and_eq_true, Bool.and_eq_true, inB_iff, inB_iff] at h1 h2
  exact ⟨h1.1, h1.2.1, h2.1, h2.2.1, e1, e2, good_ln h1.2.2.1, good_ln h2.2.2.1⟩
theorem pairV_size (a b : Nat) (ha : a ≤ 100000) (hb : b ≤ 100000) : (pairV a b).size ≤ 41 := by
  have h1 := num_size' a ha
  have h2 := num_size' b hb
  unfold pairV
  split
  · omega
  · rw [ByteArray.size_append, ByteArray.size_append, show comma.size = 1 from rfl]; omega
theorem kindV_size (x : IT) : (kindV x).size = 1 := by
  unfold kindV
  split
  · rfl
  · split <;> rfl
theorem midV_size (x : IT) : (midV x).size ≤ 4 := by
  unfold midV
  split
  · exact Nat.zero_le _
  · split
    · exact Nat.zero_le _
    · exact Nat.le_refl 4
structure Sizes (x : IT) : Prop where
  p : (pairV x.f0.toNat x.f1.toNat).size ≤ 41
  q : (pairV x.f3.toNat x.f4.toNat).size ≤ 41
  s : (allV lt_ x.f2).size ≤ 1600
  t : (allV gt_ x.f5).size ≤ 1600
  m : (midV x).size ≤ 4
  k : (kindV x).size = 1
theorem sizes_of {x : IT} (h : StepOK x) : Sizes x := by
  have h2 := h.l2
  have h5 := h.l5
  have e1 := allV_size lt_ (Nat.le_refl 2) x.f2 h.i2
  have e2 := allV_size gt_ (Nat.le_refl 2) x.f5 h.i5
  have := h.a0; have := h.a1; have := h.a3; have := h.a4
  exact ⟨pairV_size _ _ (by omega) (by omega), pairV_size _ _ (by omega) (by omega), by omega, by omega, midV_size x, kindV_size x⟩
theorem headV_size {x : IT} (h : Sizes x) (kd : ByteArray) (hk : kd.size = 1) : (headV x kd).size ≤ 84 := by
  have := h.p; have := h.q
  unfold headV
  rw [ByteArray.size_append, ByteArray.size_append, ByteArray.size_append, show nl.size = 1 from rfl]
  omega
theorem textOne_size {x : IT} (h : Sizes x) : (textOne x).size ≤ 4000 := by
  have := headV_size h _ h.k
  have := h.s; have := h.t; have := h.m
  unfold textOne
  rw [ByteArray.size_append, ByteArray.size_append, ByteArray.size_append]
  omega
theorem pairOf_eq' {a b : Int} (ha : 0 ≤ a ∧ a ≤ 1000) (hb : 0 ≤ b ∧ b ≤ 1000) : impl_pairOf.f a b = some (pairV a.toNat b.toNat) := by
  have := pairOf_eq a.toNat b.toNat (by omega) (by omega)
  rw [Int.toNat_of_nonneg ha.1, Int.toNat_of_nonneg hb.1] at this
  exact this
theorem stepText_j0 (x : IT) (h : StepOK x) (kd md : ByteArray) (hk : kd.size = 1) (hm : md.size ≤ 4) : Ev (fun k => impl_stepText.j0 k kd md x.f0 x.f1 x.f2 x.f3 x.f4 x.f5) (((headV x kd ++ allV lt_ x.f2) ++ md) ++ allV gt_ x.f5) := by
  have z := sizes_of h
  have := z.p; have := z.q; have := z.s; have := z.t
  have e1 : (⟨#[10]⟩ : ByteArray).size = 1 := rfl
  refine Ev.step (fun k => impl_stepText.j0.eq_2 ..) ?_
  refine ev_bind (ev_const (pairOf_eq' h.a0 h.a1)) (ev_pos (by omega) ?_)
  refine ev_bind (ev_const (pairOf_eq' h.a3 h.a4)) (ev_pos (by simp only [ByteArray.size_append]; omega) (ev_pos (by simp only [ByteArray.size_append]; omega) ?_))
  refine ev_bind (allShown_ev lt_ (Nat.le_refl 2) x.f2 h.l2 h.i2) (ev_pos (by simp only [ByteArray.size_append, e1]; omega) (ev_pos (by simp only [ByteArray.size_append, e1]; omega) ?_))
  exact ev_bind (allShown_ev gt_ (Nat.le_refl 2) x.f5 h.l5 h.i5) (ev_pos (by simp only [ByteArray.size_append, e1]; omega) (ev_some rfl))
theorem stepText_ev (x : IT) (h : StepOK x) : Ev (fun k => impl_stepText.f k x.f0 x.f1 x.f2 x.f3 x.f4 x.f5) (textOne x) := by
  simp only [impl_stepText.f]
  unfold textOne kindV midV
  refine ev_ite (fun c => ?_) (fun c => ev_ite (fun c2 => ?_) (fun c2 => ?_))
  · have c' : x.f2.length = 0 := by omega
    simp only [if_pos c']
    exact stepText_j0 x h _ _ rfl (Nat.zero_le _)
  · have c' : ¬ x.f2.length = 0 := by omega
    have c2' : x.f5.length = 0 := by omega
    simp only [if_neg c', if_pos c2']
    exact stepText_j0 x h _ _ rfl (Nat.zero_le _)
  · have c' : ¬ x.f2.length = 0 := by omega
    have c2' : ¬ x.f5.length = 0 := by omega
    simp only [if_neg c', if_neg c2']
    exact stepText_j0 x h _ _ rfl (Nat.le_refl 4)
def shortV (s : ByteArray) : ByteArray × Bool := if s.size > 3000 then (⟨#[]⟩, false) else (s, true)
theorem short_eq (s : ByteArray) : impl_short.f s = some (shortV s) := by
  unfold impl_short.f shortV
  by_cases h : s.size > 3000
  · rw [if_pos (by omega), if_pos h]
  · rw [if_neg (by omega), if_neg h]
theorem stepsText_l0 (l : List IT) (hl : l.length ≤ 20) (h : ∀ x ∈ l, StepOK x) : ∀ d i (acc : ByteArray), i + d = l.length → acc.size ≤ 4000 * i →
    Ev (fun k => impl_StepsText.l0 k acc l (l.length : Int) (i : Int)) (shortV (textFrom acc (l.drop i))) := by
  intro d
  induction d with
  | zero =>
    intro i acc hi ha
    refine Ev.step (fun k => impl_StepsText.l0.eq_2 ..) (ev_neg (by omega) (ev_bind (ev_const (short_eq acc)) (ev_some ?_)))
    rw [List.drop_of_length_le (by omega)]
    rfl
  | succ d ih =>
    intro i acc hi ha
    have hlt : i < l.length := by omega
    have hx := h _ (List.getElem_mem hlt)
    have hz := textOne_size (sizes_of hx)
    refine Ev.step (fun k => impl_StepsText.l0.eq_2 ..) (ev_pos (by omega) (ev_pos (by omega) (ev_pos (by omega) ?_)))
    rw [rdIT l i hlt, wrap_succ i (by omega), List.drop_eq_getElem_cons hlt]
    exact ev_bind (stepText_ev _ hx) (ev_pos (by omega) (ih (i + 1) _ (by omega) (by rw [ByteArray.size_append]; omega)))
def stepsTextR (l : List IT) : ByteArray × Bool := if goodT l = true then shortV (textFrom ⟨#[]⟩ l) else (⟨#[]⟩, false)
theorem goodT_ok {l : List IT} (h : goodT l = true) : l.length ≤ 20 ∧ ∀ x ∈ l, StepOK x := by
  unfold goodT at h
  rw [Bool.and_eq_true, decide_eq_true_eq] at h
  exact ⟨h.1, fun x hx => stepOK_of (List.all_eq_true.1 h.2 x hx)⟩
theorem impl_StepsText_ev (l : List IT) (hf : FitIT l) : Ev (fun k => impl_StepsText.f k l) (stepsTextR l) := by
  simp only [impl_StepsText.f]
  unfold stepsTextR
  refine ev_bind (goodSteps_ev l hf) (ev_ite (fun c => ?_) (fun c => ev_some ?_))
  · rw [if_pos c]
    obtain ⟨h1, h2⟩ := goodT_ok c
    exact stepsText_l0 l h1 h2 l.length 0 _ (by omega) (by show (0 : Nat) ≤ _; omega)
  · rw [if_neg c]
theorem l5Numbers_ev {a b : Int} (ha : 0 ≤ a ∧ a ≤ 1000) (hb : 0 ≤ b ∧ b ≤ 1000) : Ev (fun k => spec_l5Numbers.f k a b) (pairV a.toNat b.toNat) := by
  simp only [spec_l5Numbers.f]
  unfold pairV
  have h1 := num_size' a.toNat (by omega)
  have h2 := num_size' b.toNat (by omega)
  have na : Ev (fun k => spec_l1Num.f k a) (num a.toNat) := by
    have := l1Num_ev a.toNat (by omega)
    rw [Int.toNat_of_nonneg ha.1] at this
    exact this
  have nb : Ev (fun k => spec_l1Num.f k b) (num b.toNat) := by
    have := l1Num_ev b.toNat (by omega)
    rw [Int.toNat_of_nonneg hb.1] at this
    exact this
  refine ev_ite (fun c => ev_bind na (ev_some ?_)) (fun c => ev_bind na (ev_pos (by omega) (ev_bind nb (ev_pos ?_ (ev_some ?_)))))
  · rw [if_pos (by omega)]
  · rw [ByteArray.size_append, show (⟨#[44]⟩ : ByteArray).size = 1 from rfl]; omega
  · rw [if_neg (by omega)]
    rfl
section
variable (L : List IT) (n i : Int) (R : ByteArray)
theorem l5_l2 (l : List ByteArray) (hl : l.length ≤ 40) (h : ∀ s ∈ l, isLn s = true) : ∀ d j (acc : ByteArray), j + d = l.length → acc.size + 40 * d ≤ 1000000 → Ev (fun k => spec_l5Text.l0 k (acc ++ allV gt_ (l.drop j)) L n (wrap64 (i + 1))) R →
    Ev (fun k => spec_l5Text.l2 k acc L n i l (l.length : Int) (j : Int)) R := by
  intro d
  induction d with
  | zero =>
    intro j acc hj ha hk
    rw [List.drop_of_length_le (by omega)] at hk
    simp only [allV, append_empty] at hk
    exact Ev.step (fun k => spec_l5Text.l2.eq_2 ..) (ev_neg (by omega) hk)
  | succ d ih =>
    intro j acc hj ha hk
    have hlt : j < l.length := by omega
    have hm := h _ (List.getElem_mem hlt)
    have hs := shown_size gt_ _ hm
    have h2 : gt_.size = 2 := rfl
    rw [List.drop_eq_getElem_cons hlt] at hk
    simp only [allV, ← ByteArray.append_assoc] at hk
    refine Ev.step (fun k => spec_l5Text.l2.eq_2 ..) (ev_pos (by omega) (ev_pos (by omega) (ev_pos (by omega) ?_)))
    rw [rdOf_lt _ l j hlt, wrap_succ j (by omega)]
    exact ev_bind (ev_const (l5Shown_eq gt_ _ (Nat.le_refl 2) hm)) (ev_pos (by omega) (ih (j + 1) _ (by omega) (by rw [ByteArray.size_append]; omega) hk))
theorem l5_l1 (x : IT) (kd : ByteArray) (h5 : x.f5.length ≤ 40) (i5 : ∀ s ∈ x.f5, isLn s = true) (l : List ByteArray) (hl : l.length ≤ 40) (h : ∀ s ∈ l, isLn s = true) : ∀ d j (acc : ByteArray), j + d = l.length → acc.size + 40 * d ≤ 900000 →
    Ev (fun k => spec_l5Text.l0 k (((acc ++ allV lt_ (l.drop j)) ++ (if kd.toList = [99] then (⟨#[45, 45, 45, 10]⟩ : ByteArray) else ⟨#[]⟩)) ++ allV gt_ x.f5) L n (wrap64 (i + 1))) R →
    Ev (fun k => spec_l5Text.l1 k acc kd L n i l (l.length : Int) (j : Int) x.f0 x.f1 x.f2 x.f3 x.f4 x.f5) R := by
  intro d
  induction d with
  | zero =>
    intro j acc hj ha hk
    rw [List.drop_of_length_le (by omega)] at hk
    simp only [allV, append_empty] at hk
    have e4 : (⟨#[45, 45, 45, 10]⟩ : ByteArray).size = 4 := rfl
    refine Ev.step (fun k => spec_l5Text.l1.eq_2 ..) (ev_neg (by omega) (ev_ite (fun c => ev_pos (by omega) ?_) (fun c => ?_)))
    · rw [if_pos c] at hk
      exact Ev.step (fun k => spec_l5Text.j3.eq_2 ..) (l5_l2 L n i R x.f5 h5 i5 x.f5.length 0 _ (by omega) (by rw [ByteArray.size_append, e4]; omega) (by rw [List.drop_zero]; exact hk))
    · rw [if_neg c, append_empty] at hk
      exact Ev.step (fun k => spec_l5Text.j3.eq_2 ..) (l5_l2 L n i R x.f5 h5 i5 x.f5.length 0 _ (by omega) (by omega) (by rw [List.drop_zero]; exact hk))
  | succ d ih =>
    intro j acc hj ha hk
    have hlt : j < l.length := by omega
    have hm := h _ (List.getElem_mem hlt)
    have hs := shown_size lt_ _ hm
    have h2 : lt_.size = 2 := rfl
    rw [List.drop_eq_getElem_cons hlt] at hk
    simp only [allV, ← ByteArray.append_assoc] at hk
    refine Ev.step (fun k => spec_l5Text.l1.eq_2 ..) (ev_pos (by omega) (ev_pos (by omega) (ev_pos (by omega) ?_)))
    rw [rdOf_lt _ l j hlt, wrap_succ j (by omega)]
    refine ev_bind (ev_const (l5Shown_eq lt_ _ (Nat.le_refl 2) hm)) (ev_pos (by omega) (ih (j + 1) _ (by omega) (by rw [ByteArray.size_append]; omega) ?_))
    exact hk
theorem l5_j1 (x : IT) (hx : StepOK x) (kd : ByteArray) (hk1 : kd.size = 1) (acc : ByteArray) (ha : acc.size ≤ 800000)
    (hk : Ev (fun k => spec_l5Text.l0 k (acc ++ (((headV x kd ++ allV lt_ x.f2) ++ (if kd.toList = [99] then (⟨#[45, 45, 45, 10]⟩ : ByteArray) else ⟨#[]⟩)) ++ allV gt_ x.f5)) L n (wrap64 (i + 1))) R) :
    Ev (fun k => spec_l5Text.j1 k acc kd L n i x.f0 x.f1 x.f2 x.f3 x.f4 x.f5) R := by
  have z := sizes_of hx
  have := z.p; have := z.q
  have e1 : (⟨#[10]⟩ : ByteArray).size = 1 := rfl
  have hh := headV_size z kd hk1
  have l2 := hx.l2
  refine Ev.step (fun k => spec_l5Text.j1.eq_2 ..) (ev_bind (l5Numbers_ev hx.a0 hx.a1) (ev_pos (by omega) (ev_bind (l5Numbers_ev hx.a3 hx.a4) (ev_pos (by simp only [ByteArray.size_append]; omega) (ev_pos (by simp only [ByteArray.size_append]; omega) (ev_pos (by simp only [ByteArray.size_append, e1]; omega) ?_))))))
  refine l5_l1 L n i R x kd hx.l5 hx.i5 x.f2 hx.l2 hx.i2 x.f2.length 0 _ (by omega) ?_ ?_
  · rw [ByteArray.size_append]
    have : (((pairV x.f0.toNat x.f1.toNat ++ kd) ++ pairV x.f3.toNat x.f4.toNat) ++ (⟨#[10]⟩ : ByteArray)).size ≤ 84 := hh
    omega
  · rw [List.drop_zero]
    simp only [← ByteArray.append_assoc] at hk
    simp only [← ByteArray.append_assoc]
    unfold headV at hk
    simp only [← ByteArray.append_assoc] at hk
    exact hk
end
theorem l5Text_l0 (l : List IT) (hl : l.length ≤ 20) (h : ∀ x ∈ l, StepOK x) : ∀ d i (acc : ByteArray), i + d = l.length → acc.size ≤ 4000 * i →
    Ev (fun k => spec_l5Text.l0 k acc l (l.length : Int) (i : Int)) (textFrom acc (l.drop i)) := by
  intro d
  induction d with
  | zero =>
    intro i acc hi ha
    refine Ev.step (fun k => spec_l5Text.l0.eq_2 ..) (ev_neg (by omega) (ev_some ?_))
    rw [List.drop_of_length_le (by omega)]
    rfl
  | succ d ih =>
    intro i acc hi ha
    have hlt : i < l.length := by omega
    have hx := h _ (List.getElem_mem hlt)
    have hz := textOne_size (sizes_of hx)
    have nx := ih (i + 1) (acc ++ textOne l[i]) (by omega) (by rw [ByteArray.size_append]; omega)
    rw [← wrap_succ i (by omega)] at nx
    rw [List.drop_eq_getElem_cons hlt]
    simp only [textFrom]
    refine Ev.step (fun k => spec_l5Text.l0.eq_2 ..) (ev_pos (by omega) (ev_pos (by omega) (ev_pos (by omega) ?_)))
    rw [rdIT l i hlt]
    unfold textOne kindV midV at nx
    unfold textOne kindV midV
    refine ev_ite (fun c => ?_) (fun c => ev_ite (fun c2 => ?_) (fun c2 => ?_))
    · have c' : l[i].f2.length = 0 := by omega
      simp only [if_pos c'] at nx ⊢
      exact l5_j1 _ _ _ _ l[i] hx ⟨#[97]⟩ rfl acc (by omega) (by rw [if_neg (by rw [Lib.toList_data]; decide)]; exact nx)
    · have c' : ¬ l[i].f2.length = 0 := by omega
      have c2' : l[i].f5.length = 0 := by omega
      simp only [if_neg c', if_pos c2'] at nx ⊢
      exact l5_j1 _ _ _ _ l[i] hx ⟨#[100]⟩ rfl acc (by omega) (by rw [if_neg (by rw [Lib.toList_data]; decide)]; exact nx)
    · have c' : ¬ l[i].f2.length = 0 := by omega
      have c2' : ¬ l[i].f5.length = 0 := by omega
      simp only [if_neg c', if_neg c2'] at nx ⊢
      exact l5_j1 _ _ _ _ l[i] hx ⟨#[99]⟩ rfl acc (by omega) (by rw [if_pos (by rw [Lib.toList_data])]; exact nx)
theorem spec_StepsText_ev (l : List IT) (hf : FitIT l) : Ev (fun k => spec_StepsText.f k l) (stepsTextR l) := by
  simp only [spec_StepsText.f]
  unfold stepsTextR
  refine ev_bind (spec_GoodSteps_ev l hf) (ev_ite (fun c => ?_) (fun c => ev_some ?_))
  · rw [if_pos c]
    obtain ⟨h1, h2⟩ := goodT_ok c
    have ht : Ev (fun k => spec_l5Text.f k l) (textFrom ⟨#[]⟩ l) := by
      simp only [spec_l5Text.f]
      exact l5Text_l0 l h1 h2 l.length 0 _ (by omega) (by show (0 : Nat) ≤ _; omega)
    unfold shortV
    refine ev_bind ht (ev_ite (fun c2 => ev_some ?_) (fun c2 => ev_bind ht (ev_some ?_)))
    · rw [if_pos (by omega)]
    · rw [if_neg (by omega)]
  · rw [if_neg c]
end Go.Proofs.YtmcldkobejhaeaaGreatDoor.Pl
namespace Go.Proofs.YtmcldkobejhaeaaGreatDoor.Pl
open Go.RowKit Go.Proofs.YtmcldkobejhaeaaGreatDoorW.PrintWords Go.Proofs.YtmcldkobejhaeaaGreatDoorW.PrintLast Go.Proofs.YtmcldkobejhaeaaGreatDoor.My
def normT (l : List ByteArray) (h : List IH) : ByteArray × Bool := if (stepsR l h).2 = true then stepsTextR (stepsR l h).1 else (⟨#[]⟩, false)
theorem specNormalText_ev (l : List ByteArray) (h : List IH) (fl : FitS l) (fh : FitI h) : Ev (fun k => spec_NormalText.f k l h) (normT l h) := by
  simp only [spec_NormalText.f]
  unfold normT
  refine ev_bind (spec_NormalSteps_ev l h fl fh) (ev_ite (fun c => ev_bind (spec_StepsText_ev _ (stepsR_fit l h fl fh)) (ev_some ?_)) (fun c => ev_some ?_))
  · rw [if_pos c]
  · rw [if_neg c]
theorem implNormalText_ev (l : List ByteArray) (h : List IH) (fl : FitS l) (fh : FitI h) : Ev (fun k => impl_NormalText.f k l h) (normT l h) := by
  simp only [impl_NormalText.f]
  unfold normT
  refine ev_bind (impl_NormalSteps_ev l h fl fh) (ev_ite (fun c => ev_bind (impl_StepsText_ev _ (stepsR_fit l h fl fh)) (ev_some ?_)) (fun c => ev_some ?_))
  · rw [if_pos c]
  · rw [if_neg c]
end Go.Proofs.YtmcldkobejhaeaaGreatDoor.Pl
namespace Go.Proofs.YtmcldkobejhaeaaGreatDoor.Pl
open Go.RowKit Go.Proofs.YtmcldkobejhaeaaGreatDoorW.PrintWords Go.Proofs.YtmcldkobejhaeaaGreatDoorW.PrintLast Go.Proofs.YtmcldkobejhaeaaGreatDoor.My
set_option linter.unusedVariables false
theorem sameSteps_l0 (p : List IT) (hl : p.length ≤ 4611686018427387904) (hs : ∀ x ∈ p, x.f2.length ≤ 4611686018427387904 ∧ x.f5.length ≤ 4611686018427387904) : ∀ d i, i + d = p.length → Ev (fun k => laws_sameSteps.l0 k p p (p.length : Int) (i : Int)) true := by
  intro d
  induction d with
  | zero => intro i hi; exact Ev.step (fun k => laws_sameSteps.l0.eq_2 ..) (ev_neg (by omega) (ev_some rfl))
  | succ d ih =>
    intro i hi
    have hlt : i < p.length := by omega
    have hm := hs _ (List.getElem_mem hlt)
    refine Ev.step (fun k => laws_sameSteps.l0.eq_2 ..) (ev_pos (by omega) (ev_pos (by omega) (ev_pos (by omega) (ev_pos (by omega) (ev_pos rfl (ev_pos rfl (ev_pos rfl (ev_pos rfl ?_))))))))
    rw [wrap_succ i (by omega), rdIT p i hlt]
    exact ev_bind (sameTexts_self _ hm.1) (ev_pos rfl (ev_bind (sameTexts_self _ hm.2) (ev_pos rfl (ih (i + 1) (by omega)))))
theorem sameSteps_self (p : List IT) (hl : p.length ≤ 4611686018427387904) (hs : ∀ x ∈ p, x.f2.length ≤ 4611686018427387904 ∧ x.f5.length ≤ 4611686018427387904) : Ev (fun k => laws_sameSteps.f k p p) true := by
  unfold laws_sameSteps.f
  exact ev_pos rfl (sameSteps_l0 p hl hs p.length 0 (by omega))

theorem impl_GoodSteps_ev (l : List IT) (hf : FitIT l) : Ev (fun k => impl_GoodSteps.f k l) (goodT l) := by
  simp only [impl_GoodSteps.f]
  exact ev_bind (goodSteps_ev l hf) (ev_some rfl)
end Go.Proofs.YtmcldkobejhaeaaGreatDoor.Pl
namespace Go.Proofs.YtmcldkobejhaeaaGreatDoor.Pl
open Go.RowKit Go.Proofs.YtmcldkobejhaeaaGreatDoorW.PrintWords Go.Proofs.YtmcldkobejhaeaaGreatDoorW.PrintLast Go.Proofs.YtmcldkobejhaeaaGreatDoor.My
set_option linter.unusedVariables false
set_option linter.unusedSimpArgs false
theorem wu8_bounds {z : Int} (h : Wu8 z) : 0 ≤ z ∧ z ≤ 255 := by
  have h' : (Lit.int .u8 z).wf = true := h
  simp [Lit.wf, show IntKind.u8.min = 0 from rfl, show IntKind.u8.max = 255 from rfl] at h'
  omega
theorem bytes8_of {l : List Int} (h : (WL Wu8) l) : Bytes8 l := by
  refine ⟨?_, fun x hx => wu8_bounds (h.2 x hx)⟩
  have h1 := h.1
  have h2 : maxLen ≤ 9223372036854775807 := by decide
  omega
def bigB (a b : List Int) : Bool := if (a.length : Int) > 1048576 then true else decide ((b.length : Int) > 1048576 - (a.length : Int))
theorem big_eq (a b : List Int) (ha : Bytes8 a) (hb : Bytes8 b) : laws_big.f a b = some (bigB a b) := by
  unfold laws_big.f bigB
  have h1 := ha.1
  by_cases h : (a.length : Int) > 1048576
  · rw [if_pos h, if_pos h]
  · rw [if_neg h, if_neg h, wrap64_id (by omega) (by omega)]
end Go.Proofs.YtmcldkobejhaeaaGreatDoor.Pl
namespace Go.Proofs.YtmcldkobejhaeaaGreatDoor.Pure
open Go.RowKit Go.Proofs.YtmcldkobejhaeaaGreatDoor.My Go.Proofs.YtmcldkobejhaeaaGreatDoor.Pl Go.Proofs.YtmcldkobejhaeaaGreatDoorW.PrintWords Go.Proofs.YtmcldkobejhaeaaGreatDoorW.PrintLast
set_option linter.unusedVariables false
set_option linter.unusedSimpArgs false
theorem j1_ev (c : List Int) (hc : Bytes8 c) : Ev (fun k => laws_FnNormal.j1 k c) true := by
  obtain ⟨l, p, e, fl, sp⟩ := drawSteps_some c hc
  have fp := fitIT_smS sp
  have ha := applyR_len l p
  have hs := stepsHunksR_small l p
  refine Ev.step (fun k => laws_FnNormal.j1.eq_2 ..) (ev_bind e (ev_bind (impl_ApplySteps_ev l p fl fp) (ev_bind (spec_ApplySteps_ev l p fl fp) (ev_bind (impl_StepsHunks_ev l p fl fp) (ev_bind (spec_StepsHunks_ev l p fl fp) ?_)))))
  refine ev_pos (by simp) (ev_pos rfl (ev_bind (sameTexts_self _ (by omega)) (ev_pos rfl (ev_pos (by simp) (ev_pos rfl (ev_bind (sameHunks_self _ (by omega) (fun x hx => by have := hs.2 x hx; omega)) (ev_pos rfl (ev_ite (fun q => ev_some ?_) (fun q => ev_some rfl)))))))))
  by_cases c0 : (stepsHunksR l p).2.2 = true ∧ (stepsHunksR l p).2.1 = 0
  · rw [c0.2]; rfl
  · unfold applyR at q
    rw [if_neg c0] at q
    simp only at q
    rw [q]; rfl
theorem FnNormal : laws_FnNormal.Pure := by
  intro l0 l1 w0 w1
  have b0 := bytes8_of w0
  have b1 := bytes8_of w1
  have key : Ev (fun k => laws_FnNormal.f k l0 l1) true := by
    simp only [laws_FnNormal.f]
    refine ev_bind (ev_const (big_eq l0 l1 b0 b1)) (ev_ite (fun _ => ev_some rfl) (fun _ => ?_))
    obtain ⟨l, h, e, hl, hh⟩ := drawPatch_some l0 b0
    have e' : Ev (fun k => spec_DrawNormalSteps.f k l0) (l, h) := by
      simp only [spec_DrawNormalSteps.f]
      exact ev_bind e (ev_some rfl)
    have fl := fitS_smT hl
    have fh := fitI_smA hh
    have ss := stepsR_small l h
    have sf := stepsR_fit l h fl fh
    have main : Ev (fun k => laws_FnNormal.j0 k l1 l h (stepsR l h).1 (stepsR l h).2 false) true := by
      refine Ev.step (fun k => laws_FnNormal.j0.eq_2 ..) (ev_neg (by simp) (ev_ite (fun c => ?_) (fun c => j1_ev l1 b1)))
      have c1 : (patchR l h).2 = true := by
        unfold stepsR at c
        split at c
        · assumption
        · cases c
      obtain ⟨g1, g2, g3⟩ := steps_law c1
      have i1 := impl_StepsHunks_ev l (stepsR l h).1 fl sf
      have i2 := impl_ApplySteps_ev l (stepsR l h).1 fl sf
      have i3 := impl_GoodSteps_ev (stepsR l h).1 sf
      have ps := patchR_small l h
      rw [g2] at i1
      rw [g3] at i2
      rw [g1] at i3
      refine ev_bind i1 (ev_bind i2 (ev_bind (impl_Patch_ev l h fl fh) (ev_bind i3 ?_)))
      exact ev_pos rfl (ev_pos rfl (ev_pos rfl (ev_bind (sameHunks_self h (by have := hh.1; omega) (fun x hx => by have := (hh.2 x hx).2.2.1; omega)) (ev_pos rfl (ev_pos rfl (ev_pos rfl (ev_pos c1 (ev_bind (sameTexts_self _ (by dsimp only; omega)) (ev_pos rfl (j1_ev l1 b1))))))))))
    refine ev_bind e' (ev_bind (impl_NormalSteps_ev l h fl fh) (ev_bind (spec_NormalSteps_ev l h fl fh) (ev_bind (implNormalText_ev l h fl fh) (ev_bind (specNormalText_ev l h fl fh) ?_))))
    refine ev_neg (by simp) (ev_bind (sameSteps_self _ (by omega) (fun x hx => by have := ss.2 x hx; omega)) (ev_pos rfl (ev_neg (by simp) (ev_pos rfl (ev_ite (fun c => ?_) (fun c => main))))))
    have c2 : (stepsR l h).2 = true := by
      unfold normT at c
      split at c
      · assumption
      · cases c
    dsimp only
    rw [c2] at main ⊢
    exact main
  obtain ⟨n, hn⟩ := key
  exact ⟨n, hn n (Nat.le_refl _)⟩
end Go.Proofs.YtmcldkobejhaeaaGreatDoor.Pure
namespace Go.Proofs.YtmcldkobejhaeaaGreatDoor.fnNormal
open Go.ChangeShapes Go.WideShapes Go.ChangeAt Go.RowKit Go.Joins Go.Proofs.YtmcldkobejhaeaaGreatDoor.Opens Go.Proofs.YtmcldkobejhaeaaGreatDoor.My
open Go.ChangeMaps (open_string shut_string)
set_option linter.unusedVariables false
set_option linter.unusedSimpArgs false
theorem own : ownKnob Tryz.prog.godebug = none := by kernel_rfl
theorem laidOut : laidOutB Tryz.prog = true := by kernel_rfl
/-- WHAT THE ROW's LIST GIVES THE WALK. -/
theorem door {W : World} (h : laidMetH Tryz.prog Rows.fnNormalRow.laid W) : Door false W := by
  rw [MakeChecks.laidMetH_plain _ _ _ (by kernel_rfl)] at h
  have hT : Lib.TabIs Tryz.prog W "internal/strconv.uint64pow10" .u64 Lib.pow10Tab := doorTab (h.tail.tail)
  exact ⟨hT, fun e => (by cases e), fun e => (by cases e)⟩
theorem door_met (os : Os) (args : Array Value) : laidMetH Tryz.prog Rows.fnNormalRow.laid ((World.doorLaid Tryz.prog 72 os).forCall (fun _ _ => 0) ⟨#[], args, []⟩).memory :=
  laidMetH_of_parts3 (fuel := 8) (laidMet_of_run' 8 (by kernel_rfl) (by kernel_rfl)) (by kernel_rfl) (by kernel_rfl)
set_option maxRecDepth 100000 in
theorem lifted (os : Os) (started : os.Started) (H : Type) (enc : TypeId × Value → H) :
    ReturnsInHanded {} Tryz.checked os 3 .any (fun w args => (Rows.fnNormalSpec.pre enc Tryz.prog Tryz.f3 [] false w args ∧ laidMetH Tryz.prog Rows.fnNormalRow.laid w) ∧ sizedMet enc Tryz.prog Tryz.f3 (OpenSpec.ofChange Rows.fnNormalSpec) false w args) (Rows.fnNormalSpec.post enc Tryz.prog Tryz.f3 false true false false) := by
  refine returnsInHanded_of_change_and (C := Tryz.checked) (X := fun w _ => laidMetH Tryz.prog Rows.fnNormalRow.laid w) (fun _ _ _ hh h => h.of_heap hh) own started (by kernel_rfl) Tryz.func3
    (ChangeSpec.witness_shaped (enc := enc) (C := Tryz.checked) (os := os) (X := fun w _ => laidMetH Tryz.prog Rows.fnNormalRow.laid w) false (World.doorLaid Tryz.prog 72 os) #[.slice none 0 0, .slice none 0 0] 8 rfl (World.shaped_of_RefB (by kernel_rfl) (by kernel_rfl)) (by kernel_rfl) (by kernel_rfl) (by kernel_rfl) (door_met os _)) ?_
  intro W base args ds gs before hval0 hW hcnd hsz0 hL _
  have hval : ∀ (j : Nat) t v, Tryz.f3.params[j]? = some t → args[j]? = some v → Value.okWide Tryz.prog W .any base t v := hval0
  have hW' := hW
  obtain ⟨p, q, hA0, hV, rfl, hfz, hnd⟩ := hW
  have hA : DataW.TrodAll enc Tryz.prog W 0 (fun _ => true) true Tryz.f3.params.toList args.toList ds p := hA0
  rw [Tryz.params3] at hA hval
  obtain ⟨v0, vs0, d0, ds0, p0, q0, hargs, rfl, rfl, h0, r0⟩ := trodAll_cons hA
  obtain ⟨v1, vs1, d1, ds1, p1, q1, rfl, rfl, rfl, h1, r1⟩ := trodAll_cons r0
  obtain ⟨rfl, rfl, rfl⟩ := trodAll_nil r1
  obtain rfl : args = #[v0, v1] := by cases args; simp_all
  obtain ⟨rfl, rfl⟩ := trodVars_none hV
  obtain ⟨A0, n0, c0, rfl⟩ := okWide_slice Tryz.underlying22 (hval 0 22 v0 rfl rfl)
  have k0 := h0
  have lt0 : ∀ x ∈ p0, x.block < W.heap.size := by obtain ⟨m, hm⟩ := k0; exact DataW.trod_lt m _ _ _ hm
  obtain ⟨l0, rfl, hc0, hr0, q0_⟩ := Opens.row (opens_slice Tryz.underlying22 (by kernel_rfl) (opens_int .u8 Tryz.underlying5)) h0
  obtain ⟨A1, n1, c1, rfl⟩ := okWide_slice Tryz.underlying22 (hval 1 22 v1 rfl rfl)
  have k1 := h1
  have lt1 : ∀ x ∈ p1, x.block < W.heap.size := by obtain ⟨m, hm⟩ := k1; exact DataW.trod_lt m _ _ _ hm
  obtain ⟨l1, rfl, hc1, hr1, q1_⟩ := Opens.row (opens_slice Tryz.underlying22 (by kernel_rfl) (opens_int .u8 Tryz.underlying5)) h1
  clear hA0 hval0 hsz0
  obtain ⟨kr, hk⟩ := Pure.FnNormal l0 l1 q0_ q1_
  refine (laws_FnNormal.calls false kr _ _ l0 _ _ l1 true W (door hL) hr0 hc0 hr1 hc1 hk rfl).mono fun e W' hh => ?_
  obtain ⟨rfl, hd⟩ := hh
  have bel : Below W.heap.size W W' := hd
  exact ⟨_, rfl, _, _, _, [], _, [], hW', trodAll_mk1 (shut_bool Tryz.underlying4 _), (trodAll_cons_mk (Below.trod laidOut (by kernel_rfl) (of_decide_eq_true (by kernel_rfl)) k0 bel lt0) (trodAll_cons_mk (Below.trod laidOut (by kernel_rfl) (of_decide_eq_true (by kernel_rfl)) k1 bel lt1) trodAll_mk0)), rfl, bel.frame _, fun h => by cases h⟩
theorem over : Rows.fnNormalRow.holds Tryz.pinned (OpenSpec.ofChange Rows.fnNormalSpec) :=
  OpenClaim.holds_of_wide 3 Tryz.f3 rfl rfl rfl rfl rfl rfl rfl ⟨rfl, rfl, rfl, rfl, rfl⟩ rfl rfl rfl rfl rfl (by kernel_rfl) Tryz.func3 (by kernel_rfl)
    (of_decide_eq_true (by kernel_rfl)) (by unfold Func.isWrapper; first | (rw [if_pos (by decide +kernel)]; kernel_rfl) | (rw [if_neg (by decide +kernel)]; exact ⟨rfl, rfl⟩))
    (fun os started H enc _ => lifted os started H enc)
theorem plain (f : FuncId) (fn : Func) (hf : Tryz.pinned.checked.prog.funcNamed "loop.example/g00825/laws.FnNormal" = some f) (hfn : Tryz.pinned.checked.prog.funcs[f]? = some fn) :
    true = Tryz.pinned.checked.prog.looks [] ∧ ∀ (j : Nat) t, fn.params[j]? = some t → Tryz.pinned.checked.prog.wantsStandIn t = false := by
  obtain rfl : f = 3 := Option.some.inj ((show Tryz.prog.funcNamed "loop.example/g00825/laws.FnNormal" = some 3 by kernel_rfl).symm.trans hf) |>.symm
  obtain rfl : fn = Tryz.f3 := (Option.some.inj (Tryz.func3.symm.trans hfn)).symm
  refine ⟨by kernel_rfl, fun j t ht => ?_⟩
  have hall : (Tryz.f3.params.all fun u => !Tryz.prog.wantsStandIn u) = true := by kernel_rfl
  have hm := (Array.all_eq_true_iff_forall_mem.1 hall) t (Array.mem_of_getElem? ht)
  exact (show Tryz.prog.wantsStandIn t = false by simpa using hm)
theorem proved : Rows.FnNormalCardSaid :=
  Claim7.holds_tied_plain_at .later [] _ _ _ _ over (fun _ h => by cases h) (by kernel_rfl) (fun _ h => by cases h) fnNormal_row_tie rfl ⟨rfl, rfl⟩ (by kernel_rfl) rfl plain (by kernel_rfl)
#print axioms proved
end Go.Proofs.YtmcldkobejhaeaaGreatDoor.fnNormal
namespace Go.Proofs.YtmcldkobejhaeaaGreatDoor
/-- The row, under a short name, for the claim. -/
theorem fnNormal_holds : Rows.FnNormalCardSaid := fnNormal.proved
end Go.Proofs.YtmcldkobejhaeaaGreatDoor
