/- Part 4 of 4 of a proof of this sentence: The Go function loop.example/g00825/laws.FnExactNormalSteps returns true for every input, and each argument reads afterwards as it read before. No condition. -/
import Derived.Lib.Bytealg
import Derived.Test.YtbbkecdlapemfaaRows
import Derived.WalkKit
import Derived.ProofKit
import Derived.OpenShut
import Derived.ShutString
import Derived.ChangeOld
import Derived.Below
import Derived.SizedLaws
import Derived.Lib.SmallJoins
import Derived.Test.YtbbkecdlapemfaaCFnExactNormalSteps3
/- Plain Lean: what the laws' helpers on steps come to, and whether steps are the same. Conditions: lengths and sizes below 2^63. -/
namespace Go.Proofs.Ytbbkecdlapemfaa.Pl
open Go.RowKit Go.Proofs.YtbbkecdlapemfaaW.PrintWords Go.Proofs.YtbbkecdlapemfaaW.PrintLast Go.Proofs.Ytbbkecdlapemfaa.My
set_option linter.unusedVariables false
set_option linter.unusedSimpArgs false

abbrev LT := S103
abbrev IT := S104
def toT (x : LT) : IT := ⟨x.f0, x.f1, x.f2, x.f3, x.f4, x.f5⟩
def szOne (x : LT) : Nat := szS x.f2 + szS x.f5
def FitT (l : List LT) : Prop := l.length ≤ 9223372036854775807 ∧ ∀ x ∈ l, Wint x.f0 ∧ Wint x.f1 ∧ FitS x.f2 ∧ Wint x.f3 ∧ Wint x.f4 ∧ FitS x.f5
def szT (l : List LT) : Nat := l.length + (l.map szOne).sum

theorem fitT_of_wl {l : List LT} (h : WL W103 l) : FitT l := by
  refine ⟨h.1, fun x hx => ?_⟩
  obtain ⟨h0, h1, h2, h3, h4, h5⟩ := h.2 x hx
  exact ⟨h0, h1, fitS_of_wl h2, h3, h4, fitS_of_wl h5⟩

theorem sumT_drop (l : List LT) (i : Nat) (h : i < l.length) : ((l.drop i).map szOne).sum = szOne l[i] + ((l.drop (i + 1)).map szOne).sum := by
  rw [List.drop_eq_getElem_cons h, List.map_cons, List.sum_cons]

theorem sumT_mem (l : List LT) (x : LT) (h : x ∈ l) : szOne x ≤ szT l := by
  unfold szT
  induction l with
  | nil => simp at h
  | cons a l ih =>
    simp only [List.map_cons, List.sum_cons, List.length_cons]
    rcases List.mem_cons.1 h with rfl | h
    · omega
    · have := ih h
      omega

theorem rdLT (l : List LT) (i : Nat) (h : i < l.length) : rd_T103 l (i : Int) = l[i] := getD_lt l _ i h
theorem rdIT (l : List IT) (i : Nat) (h : i < l.length) : rd_T104 l (i : Int) = l[i] := getD_lt l _ i h

theorem szStepS_l0 (l : List LT) (hf : FitT l) : ∀ d i (a : Int), i + d = l.length → 0 ≤ a → a ≤ 1048576 → ∃ r, Ev (fun k => laws_szStepS.l0 k l a (i : Int)) r ∧ leftOf a (((l.drop i).map szOne).sum) r := by
  intro d
  have hL := hf.1
  induction d with
  | zero =>
    intro i a hi h0 h1
    refine ⟨a, Ev.step (fun k => laws_szStepS.l0.eq_2 ..) (ev_neg (by omega) (ev_some rfl)), .inr ⟨h0, ?_⟩⟩
    rw [List.drop_of_length_le (by omega)]
    simp
  | succ d ih =>
    intro i a hi h0 h1
    have hlt : i < l.length := by omega
    have hfx := hf.2 _ (List.getElem_mem hlt)
    have hone : ∃ q, Ev (fun k => laws_szStep.f k l[i].f0 l[i].f1 l[i].f2 l[i].f3 l[i].f4 l[i].f5 a) q ∧ leftOf a (szOne l[i]) q := by
      obtain ⟨q, hq, hm⟩ := szStringS_ev l[i].f2 hfx.2.2.1 a h0 h1
      simp only [laws_szStep.f]
      unfold szOne
      by_cases c : q < 0
      · exact ⟨-1, ev_bind hq (ev_pos c (ev_some rfl)), by rcases hm with hm | hm <;> unfold leftOf <;> omega⟩
      · obtain ⟨p, hp, hn⟩ := szStringS_ev l[i].f5 hfx.2.2.2.2.2 q (by omega) (by rcases hm with hm | hm <;> omega)
        by_cases c' : p < 0
        · exact ⟨-1, ev_bind hq (ev_neg c (ev_bind hp (ev_pos c' (ev_some rfl)))), by rcases hm with hm | hm <;> rcases hn with hn | hn <;> unfold leftOf <;> omega⟩
        · exact ⟨p, ev_bind hq (ev_neg c (ev_bind hp (ev_neg c' (ev_some rfl)))), by rcases hm with hm | hm <;> rcases hn with hn | hn <;> unfold leftOf <;> omega⟩
    obtain ⟨q, hq, hm⟩ := hone
    rw [sumT_drop l i hlt]
    have hz : Ev (fun k => laws_szStep.f k (rd_T103 l (i : Int)).f0 (rd_T103 l (i : Int)).f1 (rd_T103 l (i : Int)).f2 (rd_T103 l (i : Int)).f3 (rd_T103 l (i : Int)).f4 (rd_T103 l (i : Int)).f5 a) q := by
      rw [rdLT l i hlt]
      exact hq
    by_cases h : q < 0
    · exact ⟨-1, Ev.step (fun k => laws_szStepS.l0.eq_2 ..) (ev_pos (by omega) (ev_pos (by omega) (ev_bind hz (ev_pos h (ev_some rfl))))), .inl (by rcases hm with hm | hm <;> omega)⟩
    · obtain ⟨r, hr, hl⟩ := ih (i + 1) q (by omega) (by omega) (by rcases hm with hm | hm <;> omega)
      refine ⟨r, Ev.step (fun k => laws_szStepS.l0.eq_2 ..) (ev_pos (by omega) (ev_pos (by omega) (ev_bind hz (ev_neg h ?_)))), ?_⟩
      · rw [wrap_succ i (by omega)]
        exact hr
      · rcases hl with hl | hl
        · exact .inl hl
        · rcases hm with hm | hm
          · omega
          · exact .inr (by omega)

theorem szStepS_ev (l : List LT) (hf : FitT l) (a : Int) (h0 : 0 ≤ a) (h1 : a ≤ 1048576) : ∃ r, Ev (fun k => laws_szStepS.f k l a) r ∧ leftOf a (szT l) r := by
  have hL := hf.1
  simp only [laws_szStepS.f]
  rw [wrap64_id (by omega) (by omega)]
  by_cases h : a - (l.length : Int) < 0
  · exact ⟨-1, ev_pos h (ev_some rfl), .inl (by omega)⟩
  · obtain ⟨r, hr, hl⟩ := szStepS_l0 l hf l.length 0 (a - (l.length : Int)) (by omega) (by omega) (by omega)
    refine ⟨r, ev_neg h hr, ?_⟩
    rcases hl with hl | hl
    · exact .inl hl
    · rw [List.drop_zero] at hl
      exact .inr (by unfold szT; omega)

/-- Small enough to be copied. -/
def SmallT (l : List LT) : Prop := l.length ≤ 1048576 ∧ ∀ x ∈ l, x.f2.length ≤ 1048576 ∧ x.f5.length ≤ 1048576
theorem smallT {l : List LT} (h : szT l ≤ 1048576) : SmallT l := by
  refine ⟨by unfold szT at h; omega, fun x hx => ?_⟩
  have := sumT_mem l x hx
  unfold szOne szS at this
  omega

theorem toStepS_l0 (l : List LT) (hs : SmallT l) : ∀ d i (o : List IT), i + d = l.length → o.length = l.length → o.take i = (l.map toT).take i → Ev (fun k => laws_toStepS.l0 k l o (i : Int)) (l.map toT) := by
  intro d
  have hL := hs.1
  induction d with
  | zero =>
    intro i o hi hl ht
    refine Ev.step (fun k => laws_toStepS.l0.eq_2 ..) (ev_neg (by omega) (ev_some ?_))
    rw [List.take_of_length_le (by omega), List.take_of_length_le (by rw [List.length_map]; omega)] at ht
    exact ht
  | succ d ih =>
    intro i o hi hl ht
    have hlt : i < l.length := by omega
    have hx : Ev (fun k => laws_toStep.f k (rd_T103 l (i : Int)).f0 (rd_T103 l (i : Int)).f1 (rd_T103 l (i : Int)).f2 (rd_T103 l (i : Int)).f3 (rd_T103 l (i : Int)).f4 (rd_T103 l (i : Int)).f5) (l[i].f0, l[i].f1, l[i].f2, l[i].f3, l[i].f4, l[i].f5) := by
      have hs2 := hs.2 _ (List.getElem_mem hlt)
      rw [rdLT l i hlt]
      simp only [laws_toStep.f]
      exact ev_bind (toStringS_ev _ (by omega)) (ev_bind (toStringS_ev _ (by omega)) (ev_some rfl))
    refine Ev.step (fun k => laws_toStepS.l0.eq_2 ..) (ev_pos (by omega) (ev_pos (by omega) (ev_bind hx (ev_pos (by omega) ?_))))
    rw [wrap_succ i (by omega), Int.toNat_natCast]
    refine ih (i + 1) _ (by omega) (by rw [List.length_set]; exact hl) ?_
    rw [List.take_succ_eq_append_getElem (by rw [List.length_set]; omega), List.take_succ_eq_append_getElem (by rw [List.length_map]; exact hlt), List.getElem_set_self, List.take_set_of_le (Nat.le_refl i), ht, List.getElem_map]
    rfl

theorem toStepS_ev (l : List LT) (hs : SmallT l) : Ev (fun k => laws_toStepS.f k l) (l.map toT) := by
  have hL := hs.1
  simp only [laws_toStepS.f]
  refine ev_pos (by omega) (ev_pos (by omega) ?_)
  exact toStepS_l0 l hs l.length 0 _ (by omega) (by simp) rfl

theorem it_ext {x y : IT} (h0 : x.f0 = y.f0) (h1 : x.f1 = y.f1) (h2 : x.f2 = y.f2) (h3 : x.f3 = y.f3) (h4 : x.f4 = y.f4) (h5 : x.f5 = y.f5) : x = y := by
  cases x; cases y; simp_all
/-- Steps' lines fit. -/
def FitIT (l : List IT) : Prop := l.length ≤ 9223372036854775807 ∧ ∀ x ∈ l, FitS x.f2 ∧ FitS x.f5
theorem fitIT_of {l : List LT} (h : FitT l) : FitIT (l.map toT) := by
  refine ⟨by rw [List.length_map]; exact h.1, fun x hx => ?_⟩
  obtain ⟨y, hy, rfl⟩ := List.mem_map.1 hx
  obtain ⟨h0, h1, h2, h3, h4, h5⟩ := h.2 y hy
  exact ⟨h2, h5⟩
instance : DecidableEq IT := fun x y => decidable_of_iff (x.f0 = y.f0 ∧ x.f1 = y.f1 ∧ x.f2 = y.f2 ∧ x.f3 = y.f3 ∧ x.f4 = y.f4 ∧ x.f5 = y.f5) ⟨fun ⟨a, b, c, d, e, f⟩ => it_ext a b c d e f, fun h => by rw [h]; exact ⟨rfl, rfl, rfl, rfl, rfl, rfl⟩⟩
theorem eqStep_ev (x y : IT) (h : FitS x.f2 ∧ FitS x.f5) : Ev (fun k => laws_eqStep.f k x.f0 x.f1 x.f2 x.f3 x.f4 x.f5 y.f0 y.f1 y.f2 y.f3 y.f4 y.f5) (decide (x = y)) := by
  simp only [laws_eqStep.f]
  have no : ¬ x = y → Ev (fun _ => some false) (decide (x = y)) := fun hn => ev_some (by rw [decide_eq_false hn])
  refine ev_ite (fun h0 => ev_ite (fun h1 => ev_bind (eqStringS_ev _ _ h.1.1) (ev_ite (fun h2 => ev_ite (fun h3 => ev_ite (fun h4 => ev_bind (eqStringS_ev _ _ h.2.1) (ev_ite (fun h5 => ev_some ?_) (fun h5 => no ?_))) (fun h4 => no ?_)) (fun h3 => no ?_)) (fun h2 => no ?_))) (fun h1 => no ?_)) (fun h0 => no ?_)
  · rw [decide_eq_true (it_ext h0 h1 (of_decide_eq_true h2) h3 h4 (of_decide_eq_true h5))]
  · exact fun e => h5 (by rw [e]; simp)
  · exact fun e => h4 (by rw [e])
  · exact fun e => h3 (by rw [e])
  · exact fun e => h2 (by rw [e]; simp)
  · exact fun e => h1 (by rw [e])
  · exact fun e => h0 (by rw [e])

theorem eqStepS_l0 (a b : List IT) (hab : a.length = b.length) (hf : FitIT a) : ∀ d i, i + d = a.length → Ev (fun k => laws_eqStepS.l0 k a b (i : Int)) (decide (a.drop i = b.drop i)) := by
  intro d
  have hL := hf.1
  induction d with
  | zero =>
    intro i hi
    refine Ev.step (fun k => laws_eqStepS.l0.eq_2 ..) (ev_neg (by omega) (ev_some ?_))
    rw [List.drop_of_length_le (by omega), List.drop_of_length_le (by omega)]
    simp
  | succ d ih =>
    intro i hi
    have h1 : i < a.length := by omega
    have h2 : i < b.length := by omega
    refine Ev.step (fun k => laws_eqStepS.l0.eq_2 ..) (ev_pos (by omega) (ev_pos (by omega) (ev_pos (by omega) ?_)))
    simp only [rdIT _ _ h1, rdIT _ _ h2, drop_cons a i h1, drop_cons b i h2]
    refine ev_bind (eqStep_ev _ _ (hf.2 _ (List.getElem_mem h1))) (ev_ite (fun h => ?_) (fun h => ev_some ?_))
    · rw [wrap_succ i (by omega)]
      refine ev_to (ih (i + 1) (by omega)) ?_
      rw [of_decide_eq_true h]
      simp only [List.cons.injEq, true_and]
    · have : ¬ a[i] = b[i] := fun e => h (decide_eq_true e)
      simp only [List.cons.injEq, this, false_and, decide_false]

theorem eqStepS_ev (a b : List IT) (hf : FitIT a) : Ev (fun k => laws_eqStepS.f k a b) (decide (a = b)) := by
  simp only [laws_eqStepS.f]
  refine ev_ite (fun h => ?_) (fun h => ev_some ?_)
  · exact eqStepS_l0 a b (by omega) hf a.length 0 (by omega)
  · have : ¬ a = b := fun e => h (by rw [e])
    simp [this]
end Go.Proofs.Ytbbkecdlapemfaa.Pl

/- The marking of steps: what it writes, and that it writes nothing else. Asked: that the steps are made rows, few enough. -/
namespace Go.Proofs.Ytbbkecdlapemfaa.My
open Go.RowKit Go.Proofs.YtbbkecdlapemfaaW.PrintWords Go.Proofs.YtbbkecdlapemfaaW.PrintLast Go.Proofs.YtbbkecdlapemfaaW.PrintMore Go.Proofs.Ytbbkecdlapemfaa.Pl
set_option linter.unusedVariables false
set_option linter.unusedSimpArgs false

noncomputable def mkT (x : IT) (m : Nat) : IT := ⟨(m : Int), wrap64 ((m : Int) + 1), marks (m + 2) x.f2.length, ((m + 2 + x.f2.length : Nat) : Int), wrap64 (((m + 2 + x.f2.length : Nat) : Int) + 1), marks (m + 2 + x.f2.length + 2) x.f5.length⟩
noncomputable def mkTs : List IT → Nat → List IT
  | [], _ => []
  | x :: t, m => mkT x m :: mkTs t (m + 2 + x.f2.length + 2 + x.f5.length)
def endT : List IT → Nat → Nat
  | [], m => m
  | x :: t, m => endT t (m + 2 + x.f2.length + 2 + x.f5.length)
theorem endT_ge : ∀ (l : List IT) (m : Nat), m ≤ endT l m
  | [], _ => Nat.le_refl _
  | x :: t, m => by have := endT_ge t (m + 2 + x.f2.length + 2 + x.f5.length); simp only [endT]; omega
theorem mkT_step {l xs : List IT} {m mm i : Nat} (h : i < xs.length) (h1 : endT (xs.drop i) mm = endT l m) (h2 : xs.take i ++ mkTs (xs.drop i) mm = mkTs l m) :
    mm + 2 + xs[i].f2.length + 2 + xs[i].f5.length ≤ endT l m ∧ endT ((xs.set i (mkT xs[i] mm)).drop (i + 1)) (mm + 2 + xs[i].f2.length + 2 + xs[i].f5.length) = endT l m ∧ (xs.set i (mkT xs[i] mm)).take (i + 1) ++ mkTs ((xs.set i (mkT xs[i] mm)).drop (i + 1)) (mm + 2 + xs[i].f2.length + 2 + xs[i].f5.length) = mkTs l m := by
  rw [List.drop_eq_getElem_cons h] at h1 h2
  simp only [endT, mkTs] at h1 h2
  have := endT_ge (xs.drop (i + 1)) (mm + 2 + xs[i].f2.length + 2 + xs[i].f5.length)
  rw [List.drop_set_of_lt (by omega), List.take_succ_eq_append_getElem (by rw [List.length_set]; exact h), List.getElem_set_self, List.take_set_of_le (Nat.le_refl i), List.append_assoc]
  exact ⟨by omega, h1, h2⟩

/-- At a round's begin. -/
def MkTInv (l : List IT) (m : Nat) (xs : List IT) (x5 : Int) (mm kq : Nat) : Prop := 0 ≤ x5 ∧ x5.toNat + kq = l.length ∧ xs.length = l.length ∧ endT (xs.drop x5.toNat) mm = endT l m ∧ xs.take x5.toNat ++ mkTs (xs.drop x5.toNat) mm = mkTs l m
theorem MkTInv.start (l : List IT) (m : Nat) : MkTInv l m l 0 m l.length := ⟨by omega, by simp, rfl, rfl, rfl⟩
theorem wrT (mm n E : Nat) (h : mm + 2 + n ≤ E) (hE : E ≤ 1099511627776) : wrap64 (wrap64 ((mm : Int) + 1) + 1) = ((mm + 2 : Nat) : Int) := by rw [wrap_succ mm (by omega), wrap_succ (mm + 1) (by omega)]
theorem leT_a (mm n2 n5 E : Nat) (h : mm + 2 + n2 + 2 + n5 ≤ E) (hE : E ≤ 1099511627776) : n2 ≤ 1099511627776 ∧ mm + 2 ≤ 1099511627776 ∧ n5 ≤ 1099511627776 ∧ mm + 2 + n2 + 2 ≤ 1099511627776 ∧ mm + 2 + n2 ≤ E ∧ mm + 2 + n2 + 2 + n5 ≤ E := by omega
theorem MkTInv.step {l xs : List IT} {m mm kq : Nat} {x5 : Int} (h : MkTInv l m xs x5 mm kq) (hm : endT l m ≤ 1099511627776) (hL : l.length ≤ 1099511627776) (hi : x5 < (l.length : Int)) :
    ∃ k1, kq = k1 + 1 ∧ ∃ kk mm2 mm3, laws_markStringS.f kk (xs.getD x5.toNat z104).f2 (wrap64 (wrap64 ((mm : Int) + 1) + 1)) = some (((mm2 : Nat) : Int), marks (mm + 2) (xs.getD x5.toNat z104).f2.length) ∧
      laws_markStringS.f kk (xs.getD x5.toNat z104).f5 (wrap64 (wrap64 ((mm2 : Int) + 1) + 1)) = some (((mm3 : Nat) : Int), marks (mm2 + 2) (xs.getD x5.toNat z104).f5.length) ∧ mm2 = mm + 2 + (xs.getD x5.toNat z104).f2.length ∧
      MkTInv l m (xs.set x5.toNat (mkT (xs.getD x5.toNat z104) mm)) (wrap64 (x5 + 1)) mm3 k1 := by
  obtain ⟨h0, h1, h2, h3, h4⟩ := h
  have hxi : x5.toNat < xs.length := by omega
  have hgx : xs.getD x5.toNat z104 = xs[x5.toNat] := by rw [List.getD_eq_getElem?_getD, List.getElem?_eq_getElem hxi]; rfl
  obtain ⟨q1, q2, q3⟩ := mkT_step hxi h3 h4
  obtain ⟨b1, b2, b3, b4, b5, b6⟩ := leT_a _ _ _ _ q1 hm
  have ew := wrT mm _ _ b5 hm
  have ew2 := wrT (mm + 2 + xs[x5.toNat].f2.length) _ _ b6 hm
  obtain ⟨kk, hkk⟩ := markStringS_ev xs[x5.toNat].f2 (mm + 2) b1 b2
  obtain ⟨kk2, hkk2⟩ := markStringS_ev xs[x5.toNat].f5 (mm + 2 + xs[x5.toNat].f2.length + 2) b3 b4
  rw [hgx, ew]
  refine ⟨kq - 1, by omega, kk + kk2, mm + 2 + xs[x5.toNat].f2.length, mm + 2 + xs[x5.toNat].f2.length + 2 + xs[x5.toNat].f5.length, hkk _ (Nat.le_add_right _ _), ?_, rfl, ?_⟩
  · rw [ew2]
    exact hkk2 _ (Nat.le_add_left _ _)
  have e5 : wrap64 (x5 + 1) = x5 + 1 := wrap64_id (by omega) (by omega)
  have e6 : (x5 + 1).toNat = x5.toNat + 1 := by omega
  rw [e5]
  refine ⟨by omega, by omega, by rw [List.length_set]; exact h2, ?_, ?_⟩
  · rw [e6]; exact q2
  · rw [e6]; exact q3
theorem MkTInv.last {l xs : List IT} {m mm kq : Nat} {x5 : Int} (h : MkTInv l m xs x5 mm kq) (hi : ¬ x5 < (l.length : Int)) : mm = endT l m ∧ xs = mkTs l m := by
  obtain ⟨h0, h1, h2, h3, h4⟩ := h
  rw [List.drop_of_length_le (by omega)] at h3 h4
  rw [List.take_of_length_le (by omega)] at h4
  simp only [mkTs, endT, List.append_nil] at h3 h4
  exact ⟨h3, h4⟩
theorem MkTInv.len {l xs : List IT} {m mm kq : Nat} {x5 : Int} (h : MkTInv l m xs x5 mm kq) : 0 ≤ x5 ∧ xs.length = l.length := ⟨h.1, h.2.2.1⟩

set_option maxHeartbeats 16000000 in
set_option maxRecDepth 100000 in
theorem laws_markStepS_made (P : Nat → Prop) (u : Value) (l : List IT) (m : Nat) (w0 w : World) (hm : endT l m ≤ 1099511627776) (hL : l.length ≤ 1099511627776) (hB : Below w0.heap.size w0 w) (ho : Kd.S k104 104 w w0.heap.size P u l) :
    Calls Try.prog 65 #[u, .int .i64 (m : Int)] w fun e w' => e = .returned (.int .i64 ((endT l m : Nat) : Int)) ∧ Kd.S k104 104 w' w0.heap.size P u (mkTs l m) ∧ Below w0.heap.size w0 w' ∧ Kept w w' P := by
  obtain ⟨A, c, rfl⟩ := Kd.S_slice ho
  have HM := Aside0.mk hm
  have HL := Aside0.mk hL
  have HO := Aside0.mk ho
  have HB := Aside0.mk hB
  clear hm hL ho hB
  go_enter Try.func65, Try.ntmps65
  go_wp2
  go_loopg [1, 5] l.length (fun kq v1 v5 w' => ∃ (xs : List IT) (x5 : Int) (mm : Nat), v1 = .int .i64 (mm : Int) ∧ v5 = .int .i64 x5 ∧ Aside0 (MkTInv l m xs x5 mm kq) ∧ Aside0 (Kd.S k104 104 w' w0.heap.size P (.slice A l.length c) xs) ∧ Aside0 (Kept w w' P) ∧ Aside0 (Below w0.heap.size w0 w'))
  case atStart => exact ⟨l, 0, m, rfl, rfl, ⟨MkTInv.start l m⟩, HO, ⟨Kept.refl _ _⟩, HB⟩
  case round =>
    clear HO HB
    obtain ⟨xs, x5, mm, rfl, rfl, HF, HO, HK, HB⟩ := hrel
    by_cases hi : x5 < (l.length : Int)
    · obtain ⟨k1, rfl, kk, mm2, mm3, hkk, hkk2, hmm2, hnext⟩ := HF.out.step HM.out HL.out hi
      have HN := Aside0.mk hnext
      have HMM := Aside0.mk hmm2
      have hlen := HF.out.len
      clear HF hnext hmm2
      have hc : decide (x5 < (l.length : Int)) = true := decide_eq_true hi
      have hp := hlen.1
      have hxp : 0 < xs.length := by omega
      obtain ⟨g, cap, eg, hgb, hgl, hgc⟩ := Kd.S_form HO.out hxp
      injection eg with ea en ec
      clear en
      subst ea
      subst ec
      obtain ⟨oki, ce, hcl, hM, hcc, hfr, hoki, hH⟩ := Kd.S_elem HO.out z104 x5 hp hi
      obtain ⟨v2, v5, rfl, ge2, ge5, hsep⟩ := k104_openMS hM
      have hx0 := hcc 0 _ rfl
      have hx1 := hcc 1 _ rfl
      have hx2 := hcc 2 _ rfl
      have hf0 := hfr 0
      have hf1 := hfr 1
      simp only [show (k104).sz = 6 from rfl, Nat.add_zero] at hx0 hx1 hx2 hf0 hf1
      have hsg := Aside0.mk (Kd.H_seg hH hp hi (seg := [.int .i64 (mm : Int), .int .i64 (wrap64 ((mm : Int) + 1))]) (j := 0) (show 2 ≤ 6 from by decide) (by intro q hq; simp only [List.mem_cons, List.not_mem_nil, or_false] at hq; rcases hq with rfl | rfl <;> rfl)).1
      have hR2 := Aside0.mk (Kd.R_tight rfl (Kd.R_far (p := ⟨g, x5.toNat * 6 + 1, none⟩) (Kd.R_far (p := ⟨g, x5.toNat * 6, none⟩) ge2 (fun k hk => (hoki k hk).2) (.int .i64 (mm : Int))) (fun k hk => (hoki k hk).2) (.int .i64 (wrap64 ((mm : Int) + 1)))))
      have hR5 := Aside0.mk (Kd.R_tight rfl (Kd.R_far (p := ⟨g, x5.toNat * 6 + 1, none⟩) (Kd.R_far (p := ⟨g, x5.toNat * 6, none⟩) ge5 (fun k hk => (hoki k hk).2) (.int .i64 (mm : Int))) (fun k hk => (hoki k hk).2) (.int .i64 (wrap64 ((mm : Int) + 1)))))
      have hin2 := Aside0.mk (fun k (hk : some k = v2.ownBlock) => ge2.1 k hk.symm)
      have hin5 := Aside0.mk (fun k (hk : some k = v5.ownBlock) => ge5.1 k hk.symm)
      have hPg : P g := (Kd.S_R HO.out).1 g (by simp [Value.ownBlock])
      have HPG := Aside0.mk hPg
      have HGB := Aside0.mk hgb
      have hK2 := Aside0.mk (Kept.setCell (Kept.setCell HK.out (p := ⟨g, x5.toNat * 6, none⟩) (.inl hPg) (.int .i64 (mm : Int))) (p := ⟨g, x5.toNat * 6 + 1, none⟩) (.inl hPg) (.int .i64 (wrap64 ((mm : Int) + 1))))
      have hB2 := Aside0.mk (show Below w0.heap.size w0 ((wr.setCell ⟨g, x5.toNat * 6, none⟩ (.int .i64 (mm : Int))).setCell ⟨g, x5.toNat * 6 + 1, none⟩ (.int .i64 (wrap64 ((mm : Int) + 1)))) from below_set (below_set HB.out hgb) hgb)
      have hOK := Aside0.mk hoki
      have HSEP := Aside0.mk hsep
      have HKK := Aside0.mk hkk
      have HKK2 := Aside0.mk hkk2
      have HP := Aside0.mk hp
      have HI := Aside0.mk hi
      clear hcl hcc hfr hH hM ge2 ge5 hoki hkk hkk2 hlen hgc hPg hsep
      replace hp := eq_true hp
      replace hi := eq_true hi
      go_wp2_with fail
      refine (laws_markStringS.calls kk (fun k => some k = v2.ownBlock) v2 (xs.getD x5.toNat z104).f2 _ _ _ w0 _ hB2.out hR2.out HKK.out).mono ?_
      rintro e w4 ⟨rfl, hR4, hB4, hK4⟩
      have HS4 := Aside0.mk (Kd.H_step hsg.out (fun k hk hn hlt => hK4.2 k hlt (fun h2 => hn (hin2.out k h2))))
      have hR54 := Aside0.mk (Kd.R_kept hR5.out hK4 (fun k hk h2 => HSEP.out k hk.symm h2.symm))
      have HK4 := Aside0.mk (Kept.then_ hK2.out hK4 (fun k hk => .inl (hOK.out k (hin2.out k hk)).1))
      have HB4 := Aside0.mk hB4
      have HR4 := Aside0.mk (Kd.R_tight rfl hR4)
      obtain ⟨hc4, hfr4⟩ := Kd.H_at HS4.out HP.out HI.out
      have hx3 := hc4 3 _ rfl
      have hx4 := hc4 4 _ rfl
      have hx5 := hc4 5 _ rfl
      have hf3 := hfr4 3
      have hf4 := hfr4 4
      simp only [show (k104).sz = 6 from rfl] at hx3 hx4 hx5 hf3 hf4
      have hsg5 := Aside0.mk (Kd.H_seg HS4.out HP.out HI.out (seg := [.int .i64 (mm2 : Int), .int .i64 (wrap64 ((mm2 : Int) + 1))]) (j := 3) (show 3 + 2 ≤ 6 from by decide) (by intro q hq; simp only [List.mem_cons, List.not_mem_nil, or_false] at hq; rcases hq with rfl | rfl <;> rfl)).1
      have hR24 := Aside0.mk (Kd.R_far (p := ⟨g, x5.toNat * 6 + 4, none⟩) (Kd.R_far (p := ⟨g, x5.toNat * 6 + 3, none⟩) HR4.out (fun k hk => (hOK.out k (hin2.out k hk)).2) (.int .i64 (mm2 : Int))) (fun k hk => (hOK.out k (hin2.out k hk)).2) (.int .i64 (wrap64 ((mm2 : Int) + 1))))
      have hR55 := Aside0.mk (Kd.R_far (p := ⟨g, x5.toNat * 6 + 4, none⟩) (Kd.R_far (p := ⟨g, x5.toNat * 6 + 3, none⟩) hR54.out (fun k hk => (hOK.out k (hin5.out k hk)).2) (.int .i64 (mm2 : Int))) (fun k hk => (hOK.out k (hin5.out k hk)).2) (.int .i64 (wrap64 ((mm2 : Int) + 1))))
      have hK5 := Aside0.mk (Kept.setCell (Kept.setCell HK4.out (p := ⟨g, x5.toNat * 6 + 3, none⟩) (.inl HPG.out) (.int .i64 (mm2 : Int))) (p := ⟨g, x5.toNat * 6 + 4, none⟩) (.inl HPG.out) (.int .i64 (wrap64 ((mm2 : Int) + 1))))
      have hB5 := Aside0.mk (show Below w0.heap.size w0 ((w4.setCell ⟨g, x5.toNat * 6 + 3, none⟩ (.int .i64 (mm2 : Int))).setCell ⟨g, x5.toNat * 6 + 4, none⟩ (.int .i64 (wrap64 ((mm2 : Int) + 1)))) from below_set (below_set HB4.out HGB.out) HGB.out)
      clear hx0 hx1 hx2 hf0 hf1 hc4 hfr4 hR4 hB4 hK4 hsg hR2 hR5 hK2 hB2 HR4 hR54 HB4 HK4 HB HK
      go_wp2_with fail
      refine (laws_markStringS.calls kk (fun k => some k = v5.ownBlock) v5 (xs.getD x5.toNat z104).f5 _ _ _ w0 _ hB5.out hR55.out HKK2.out).mono ?_
      rintro e w6 ⟨rfl, hR6, hB6, hK6⟩
      have HS6 := Aside0.mk (show Kd.S k104 104 w6 w0.heap.size P (.slice (some ⟨g, 0, none⟩) l.length c) (xs.set x5.toNat (mkT (xs.getD x5.toNat z104) mm)) from
        Kd.H_back (okp := oki) (Kd.H_step hsg5.out (fun k hk hn hlt => hK6.2 k hlt (fun h2 => hn (hin5.out k h2)))) (by
          have e2 := HMM.out
          rw [e2] at hR6 ⊢
          exact k104_mkM HSEP.out w6 w0.heap.size oki (mkT (xs.getD x5.toNat z104) mm) (Kd.R_mono (Kd.R_kept hR24.out hK6 (fun k hk h2 => HSEP.out k h2.symm hk.symm)) hin2.out) (Kd.R_mono (Kd.R_tight rfl hR6) hin5.out)) (fun _ h => h))
      have HK6 := Aside0.mk (Kept.then_ hK5.out hK6 (fun k hk => .inl (hOK.out k (hin5.out k hk)).1))
      have HB6 := Aside0.mk hB6
      clear hR6 hB6 hK6 hsg5 hR24 hR55 hK5 hB5 HS4 HO hx3 hx4 hx5 hf3 hf4 HMM
      go_wp2
      go_roundg k1
      case measure => omega
      case rel => exact ⟨_, _, mm3, rfl, rfl, HN, HS6, HK6, HB6⟩
    · have hc : decide (x5 < (l.length : Int)) = false := decide_eq_false hi
      obtain ⟨rfl, rfl⟩ := HF.out.last hi
      go_wp2
      go_ret
      exact ⟨rfl, HO.out, HB.out, HK.out⟩
end Go.Proofs.Ytbbkecdlapemfaa.My

/- Plain Lean: what a whole number that came in is bounded by. No condition. -/
namespace Go.Proofs.Ytbbkecdlapemfaa.Pl
open Go.RowKit Go.Proofs.YtbbkecdlapemfaaW.PrintWords Go.Proofs.YtbbkecdlapemfaaW.PrintLast Go.Proofs.Ytbbkecdlapemfaa.My
theorem wint_bounds {z : Int} (h : Wint z) : -9223372036854775808 ≤ z ∧ z ≤ 9223372036854775807 := by
  have h' : (Lit.int .i64 z).wf = true := h
  simp [Lit.wf, show IntKind.i64.min = -9223372036854775808 from rfl, show IntKind.i64.max = 9223372036854775807 from rfl] at h'
  omega
end Go.Proofs.Ytbbkecdlapemfaa.Pl

/- Plain Lean: what the laws' helpers on hunks come to, and whether hunks are the same. Conditions: lengths and sizes below 2^63. -/
namespace Go.Proofs.Ytbbkecdlapemfaa.Pl
open Go.RowKit Go.Proofs.YtbbkecdlapemfaaW.PrintWords Go.Proofs.YtbbkecdlapemfaaW.PrintLast Go.Proofs.Ytbbkecdlapemfaa.My
set_option linter.unusedVariables false
set_option linter.unusedSimpArgs false

abbrev LH := S82
abbrev IH := S83
def toH (x : LH) : IH := ⟨x.f0, x.f1, x.f2⟩
def FitH (l : List LH) : Prop := l.length ≤ 9223372036854775807 ∧ ∀ x ∈ l, Wint x.f0 ∧ Wint x.f1 ∧ FitS x.f2
def szH (l : List LH) : Nat := l.length + (l.map fun x => szS x.f2).sum

theorem fitH_of_wl {l : List LH} (h : WL W82 l) : FitH l := by
  refine ⟨h.1, fun x hx => ?_⟩
  obtain ⟨h0, h1, h2⟩ := h.2 x hx
  exact ⟨h0, h1, fitS_of_wl h2⟩

theorem sumH_drop (l : List LH) (i : Nat) (h : i < l.length) : ((l.drop i).map fun x => szS x.f2).sum = szS l[i].f2 + ((l.drop (i + 1)).map fun x => szS x.f2).sum := by
  rw [List.drop_eq_getElem_cons h, List.map_cons, List.sum_cons]

theorem sumH_mem (l : List LH) (x : LH) (h : x ∈ l) : szS x.f2 ≤ szH l := by
  unfold szH
  induction l with
  | nil => simp at h
  | cons a l ih =>
    simp only [List.map_cons, List.sum_cons, List.length_cons]
    rcases List.mem_cons.1 h with rfl | h
    · omega
    · have := ih h
      omega

theorem rdLH (l : List LH) (i : Nat) (h : i < l.length) : rd_T82 l (i : Int) = l[i] := getD_lt l _ i h
theorem rdIH (l : List IH) (i : Nat) (h : i < l.length) : rd_T83 l (i : Int) = l[i] := getD_lt l _ i h

theorem szHunkS_l0 (l : List LH) (hf : FitH l) : ∀ d i (a : Int), i + d = l.length → 0 ≤ a → a ≤ 1048576 → ∃ r, Ev (fun k => laws_szHunkS.l0 k l a (i : Int)) r ∧ leftOf a (((l.drop i).map fun x => szS x.f2).sum) r := by
  intro d
  have hL := hf.1
  induction d with
  | zero =>
    intro i a hi h0 h1
    refine ⟨a, Ev.step (fun k => laws_szHunkS.l0.eq_2 ..) (ev_neg (by omega) (ev_some rfl)), .inr ⟨h0, ?_⟩⟩
    rw [List.drop_of_length_le (by omega)]
    simp
  | succ d ih =>
    intro i a hi h0 h1
    have hlt : i < l.length := by omega
    obtain ⟨q, hq, hm⟩ := szStringS_ev l[i].f2 (hf.2 _ (List.getElem_mem hlt)).2.2 a h0 h1
    rw [sumH_drop l i hlt]
    have hz : Ev (fun k => laws_szHunk.f k (rd_T82 l (i : Int)).f0 (rd_T82 l (i : Int)).f1 (rd_T82 l (i : Int)).f2 a) (if q < 0 then -1 else q) := by
      rw [rdLH l i hlt]
      simp only [laws_szHunk.f]
      refine ev_bind hq (ev_ite (fun h => ev_some (by rw [if_pos h])) (fun h => ev_some (by rw [if_neg h])))
    by_cases h : q < 0
    · rw [if_pos h] at hz
      exact ⟨-1, Ev.step (fun k => laws_szHunkS.l0.eq_2 ..) (ev_pos (by omega) (ev_pos (by omega) (ev_bind hz (ev_pos (by omega) (ev_some rfl))))), .inl (by omega)⟩
    · rw [if_neg h] at hz
      obtain ⟨r, hr, hl⟩ := ih (i + 1) q (by omega) (by omega) (by rcases hm with hm | hm <;> omega)
      refine ⟨r, Ev.step (fun k => laws_szHunkS.l0.eq_2 ..) (ev_pos (by omega) (ev_pos (by omega) (ev_bind hz (ev_neg h ?_)))), ?_⟩
      · rw [wrap_succ i (by omega)]
        exact hr
      · rcases hl with hl | hl
        · exact .inl hl
        · rcases hm with hm | hm
          · omega
          · exact .inr (by omega)

theorem szHunkS_ev (l : List LH) (hf : FitH l) (a : Int) (h0 : 0 ≤ a) (h1 : a ≤ 1048576) : ∃ r, Ev (fun k => laws_szHunkS.f k l a) r ∧ leftOf a (szH l) r := by
  have hL := hf.1
  simp only [laws_szHunkS.f]
  rw [wrap64_id (by omega) (by omega)]
  by_cases h : a - (l.length : Int) < 0
  · exact ⟨-1, ev_pos h (ev_some rfl), .inl (by omega)⟩
  · obtain ⟨r, hr, hl⟩ := szHunkS_l0 l hf l.length 0 (a - (l.length : Int)) (by omega) (by omega) (by omega)
    refine ⟨r, ev_neg h hr, ?_⟩
    rcases hl with hl | hl
    · exact .inl hl
    · rw [List.drop_zero] at hl
      exact .inr (by unfold szH; omega)

/-- Small enough to be copied. -/
def SmallH (l : List LH) : Prop := l.length ≤ 1048576 ∧ ∀ x ∈ l, x.f2.length ≤ 1048576
theorem smallH {l : List LH} (h : szH l ≤ 1048576) : SmallH l := by
  refine ⟨by unfold szH at h; omega, fun x hx => ?_⟩
  have := sumH_mem l x hx
  unfold szS at this
  omega

theorem toHunkS_l0 (l : List LH) (hs : SmallH l) : ∀ d i (o : List IH), i + d = l.length → o.length = l.length → o.take i = (l.map toH).take i → Ev (fun k => laws_toHunkS.l0 k l o (i : Int)) (l.map toH) := by
  intro d
  have hL := hs.1
  induction d with
  | zero =>
    intro i o hi hl ht
    refine Ev.step (fun k => laws_toHunkS.l0.eq_2 ..) (ev_neg (by omega) (ev_some ?_))
    rw [List.take_of_length_le (by omega), List.take_of_length_le (by rw [List.length_map]; omega)] at ht
    exact ht
  | succ d ih =>
    intro i o hi hl ht
    have hlt : i < l.length := by omega
    have hx : Ev (fun k => laws_toHunk.f k (rd_T82 l (i : Int)).f0 (rd_T82 l (i : Int)).f1 (rd_T82 l (i : Int)).f2) (l[i].f0, l[i].f1, l[i].f2) := by
      rw [rdLH l i hlt]
      simp only [laws_toHunk.f]
      exact ev_bind (toStringS_ev _ (by have := hs.2 _ (List.getElem_mem hlt); omega)) (ev_some rfl)
    refine Ev.step (fun k => laws_toHunkS.l0.eq_2 ..) (ev_pos (by omega) (ev_pos (by omega) (ev_bind hx (ev_pos (by omega) ?_))))
    rw [wrap_succ i (by omega), Int.toNat_natCast]
    refine ih (i + 1) _ (by omega) (by rw [List.length_set]; exact hl) ?_
    rw [List.take_succ_eq_append_getElem (by rw [List.length_set]; omega), List.take_succ_eq_append_getElem (by rw [List.length_map]; exact hlt), List.getElem_set_self, List.take_set_of_le (Nat.le_refl i), ht, List.getElem_map]
    rfl

theorem toHunkS_ev (l : List LH) (hs : SmallH l) : Ev (fun k => laws_toHunkS.f k l) (l.map toH) := by
  have hL := hs.1
  simp only [laws_toHunkS.f]
  refine ev_pos (by omega) (ev_pos (by omega) ?_)
  exact toHunkS_l0 l hs l.length 0 _ (by omega) (by simp) rfl

theorem ih_ext {x y : IH} (h0 : x.f0 = y.f0) (h1 : x.f1 = y.f1) (h2 : x.f2 = y.f2) : x = y := by
  cases x; cases y; simp_all

/-- Hunks that came in fit. -/
def FitI (l : List IH) : Prop := l.length ≤ 9223372036854775807 ∧ ∀ x ∈ l, (-9223372036854775808 ≤ x.f0 ∧ x.f0 ≤ 9223372036854775807) ∧ (-9223372036854775808 ≤ x.f1 ∧ x.f1 ≤ 9223372036854775807) ∧ FitS x.f2

theorem fitI_of {l : List LH} (h : FitH l) : FitI (l.map toH) := by
  refine ⟨by rw [List.length_map]; exact h.1, fun x hx => ?_⟩
  obtain ⟨y, hy, rfl⟩ := List.mem_map.1 hx
  obtain ⟨h0, h1, h2⟩ := h.2 y hy
  exact ⟨wint_bounds h0, wint_bounds h1, h2⟩

instance : DecidableEq IH := fun x y => decidable_of_iff (x.f0 = y.f0 ∧ x.f1 = y.f1 ∧ x.f2 = y.f2) ⟨fun ⟨a, b, c⟩ => ih_ext a b c, fun h => by rw [h]; exact ⟨rfl, rfl, rfl⟩⟩

theorem eqHunk_ev (x y : IH) (h : FitS x.f2) : Ev (fun k => laws_eqHunk.f k x.f0 x.f1 x.f2 y.f0 y.f1 y.f2) (decide (x = y)) := by
  simp only [laws_eqHunk.f]
  refine ev_ite (fun h0 => ev_ite (fun h1 => ev_bind (eqStringS_ev _ _ h.1) ?_) (fun h1 => ev_some ?_)) (fun h0 => ev_some ?_)
  · refine ev_ite (fun h2 => ev_some ?_) (fun h2 => ev_some ?_)
    · rw [ih_ext h0 h1 (of_decide_eq_true h2)]
      simp
    · have : ¬ x = y := fun e => h2 (by rw [e]; simp)
      simp [this]
  · have : ¬ x = y := fun e => h1 (by rw [e])
    simp [this]
  · have : ¬ x = y := fun e => h0 (by rw [e])
    simp [this]

theorem eqHunkS_l0 (a b : List IH) (hab : a.length = b.length) (hf : FitI a) : ∀ d i, i + d = a.length → Ev (fun k => laws_eqHunkS.l0 k a b (i : Int)) (decide (a.drop i = b.drop i)) := by
  intro d
  have hL := hf.1
  induction d with
  | zero =>
    intro i hi
    refine Ev.step (fun k => laws_eqHunkS.l0.eq_2 ..) (ev_neg (by omega) (ev_some ?_))
    rw [List.drop_of_length_le (by omega), List.drop_of_length_le (by omega)]
    simp
  | succ d ih =>
    intro i hi
    have h1 : i < a.length := by omega
    have h2 : i < b.length := by omega
    refine Ev.step (fun k => laws_eqHunkS.l0.eq_2 ..) (ev_pos (by omega) (ev_pos (by omega) (ev_pos (by omega) ?_)))
    simp only [rdIH _ _ h1, rdIH _ _ h2, drop_cons a i h1, drop_cons b i h2]
    refine ev_bind (eqHunk_ev _ _ (hf.2 _ (List.getElem_mem h1)).2.2) (ev_ite (fun h => ?_) (fun h => ev_some ?_))
    · rw [wrap_succ i (by omega)]
      refine ev_to (ih (i + 1) (by omega)) ?_
      rw [of_decide_eq_true h]
      simp only [List.cons.injEq, true_and]
    · have : ¬ a[i] = b[i] := fun e => h (decide_eq_true e)
      simp only [List.cons.injEq, this, false_and, decide_false]

theorem eqHunkS_ev (a b : List IH) (hf : FitI a) : Ev (fun k => laws_eqHunkS.f k a b) (decide (a = b)) := by
  simp only [laws_eqHunkS.f]
  refine ev_ite (fun h => ?_) (fun h => ev_some ?_)
  · exact eqHunkS_l0 a b (by omega) hf a.length 0 (by omega)
  · have : ¬ a = b := fun e => h (by rw [e])
    simp [this]
end Go.Proofs.Ytbbkecdlapemfaa.Pl

/- The marking of hunks: what it writes, and that it writes nothing else. Asked: that the hunks are made rows, few enough. -/
namespace Go.Proofs.Ytbbkecdlapemfaa.My
open Go.RowKit Go.Proofs.YtbbkecdlapemfaaW.PrintWords Go.Proofs.YtbbkecdlapemfaaW.PrintLast Go.Proofs.YtbbkecdlapemfaaW.PrintMore Go.Proofs.Ytbbkecdlapemfaa.Pl
set_option linter.unusedVariables false
set_option linter.unusedSimpArgs false

noncomputable def mkH (x : IH) (m : Nat) : IH := ⟨(m : Int), wrap64 ((m : Int) + 1), marks (m + 2) x.f2.length⟩
noncomputable def mkHs : List IH → Nat → List IH
  | [], _ => []
  | x :: t, m => mkH x m :: mkHs t (m + 2 + x.f2.length)
def endH : List IH → Nat → Nat
  | [], m => m
  | x :: t, m => endH t (m + 2 + x.f2.length)
theorem endH_ge : ∀ (l : List IH) (m : Nat), m ≤ endH l m
  | [], _ => Nat.le_refl _
  | x :: t, m => by have := endH_ge t (m + 2 + x.f2.length); simp only [endH]; omega
theorem mk_step {l xs : List IH} {m mm i : Nat} (h : i < xs.length) (h1 : endH (xs.drop i) mm = endH l m) (h2 : xs.take i ++ mkHs (xs.drop i) mm = mkHs l m) :
    mm + 2 + xs[i].f2.length ≤ endH l m ∧ endH ((xs.set i (mkH xs[i] mm)).drop (i + 1)) (mm + 2 + xs[i].f2.length) = endH l m ∧ (xs.set i (mkH xs[i] mm)).take (i + 1) ++ mkHs ((xs.set i (mkH xs[i] mm)).drop (i + 1)) (mm + 2 + xs[i].f2.length) = mkHs l m := by
  rw [List.drop_eq_getElem_cons h] at h1 h2
  simp only [endH, mkHs] at h1 h2
  have := endH_ge (xs.drop (i + 1)) (mm + 2 + xs[i].f2.length)
  rw [List.drop_set_of_lt (by omega), List.take_succ_eq_append_getElem (by rw [List.length_set]; exact h), List.getElem_set_self, List.take_set_of_le (Nat.le_refl i), List.append_assoc]
  exact ⟨by omega, h1, h2⟩

/-- At a round's begin. -/
def MkInv (l : List IH) (m : Nat) (xs : List IH) (x5 : Int) (mm kq : Nat) : Prop := 0 ≤ x5 ∧ x5.toNat + kq = l.length ∧ xs.length = l.length ∧ endH (xs.drop x5.toNat) mm = endH l m ∧ xs.take x5.toNat ++ mkHs (xs.drop x5.toNat) mm = mkHs l m
theorem MkInv.start (l : List IH) (m : Nat) : MkInv l m l 0 m l.length := ⟨by omega, by simp, rfl, rfl, rfl⟩
theorem wr2 (mm n E : Nat) (h : mm + 2 + n ≤ E) (hE : E ≤ 1099511627776) : wrap64 (wrap64 ((mm : Int) + 1) + 1) = ((mm + 2 : Nat) : Int) := by rw [wrap_succ mm (by omega), wrap_succ (mm + 1) (by omega)]
theorem le_a (a n E : Nat) (h : a + n ≤ E) (hE : E ≤ 1099511627776) : n ≤ 1099511627776 := by omega
theorem le_b (a n E : Nat) (h : a + n ≤ E) (hE : E ≤ 1099511627776) : a ≤ 1099511627776 := by omega
theorem MkInv.step {l xs : List IH} {m mm kq : Nat} {x5 : Int} (h : MkInv l m xs x5 mm kq) (hm : endH l m ≤ 1099511627776) (hL : l.length ≤ 1099511627776) (hi : x5 < (l.length : Int)) :
    ∃ k1, kq = k1 + 1 ∧ ∃ kk mm2, laws_markStringS.f kk (xs.getD x5.toNat z83).f2 (wrap64 (wrap64 ((mm : Int) + 1) + 1)) = some (((mm2 : Nat) : Int), marks (mm + 2) (xs.getD x5.toNat z83).f2.length) ∧ MkInv l m (xs.set x5.toNat (mkH (xs.getD x5.toNat z83) mm)) (wrap64 (x5 + 1)) mm2 k1 := by
  obtain ⟨h0, h1, h2, h3, h4⟩ := h
  have hxi : x5.toNat < xs.length := by omega
  have hgx : xs.getD x5.toNat z83 = xs[x5.toNat] := by rw [List.getD_eq_getElem?_getD, List.getElem?_eq_getElem hxi]; rfl
  obtain ⟨q1, q2, q3⟩ := mk_step hxi h3 h4
  have ew := wr2 mm _ _ q1 hm
  obtain ⟨kk, hkk⟩ := markStringS_ev xs[x5.toNat].f2 (mm + 2) (le_a _ _ _ q1 hm) (le_b _ _ _ q1 hm)
  rw [hgx, ew]
  refine ⟨kq - 1, by omega, kk, _, hkk kk (Nat.le_refl _), ?_⟩
  have e5 : wrap64 (x5 + 1) = x5 + 1 := wrap64_id (by omega) (by omega)
  have e6 : (x5 + 1).toNat = x5.toNat + 1 := by omega
  rw [e5]
  refine ⟨by omega, by omega, by rw [List.length_set]; exact h2, ?_, ?_⟩
  · rw [e6]; exact q2
  · rw [e6]; exact q3
theorem MkInv.last {l xs : List IH} {m mm kq : Nat} {x5 : Int} (h : MkInv l m xs x5 mm kq) (hi : ¬ x5 < (l.length : Int)) : mm = endH l m ∧ xs = mkHs l m := by
  obtain ⟨h0, h1, h2, h3, h4⟩ := h
  rw [List.drop_of_length_le (by omega)] at h3 h4
  rw [List.take_of_length_le (by omega)] at h4
  simp only [mkHs, endH, List.append_nil] at h3 h4
  exact ⟨h3, h4⟩
theorem MkInv.len {l xs : List IH} {m mm kq : Nat} {x5 : Int} (h : MkInv l m xs x5 mm kq) : 0 ≤ x5 ∧ xs.length = l.length := ⟨h.1, h.2.2.1⟩

set_option maxHeartbeats 8000000 in
set_option maxRecDepth 100000 in
theorem laws_markHunkS_made (P : Nat → Prop) (u : Value) (l : List IH) (m : Nat) (w0 w : World) (hm : endH l m ≤ 1099511627776) (hL : l.length ≤ 1099511627776) (hB : Below w0.heap.size w0 w) (ho : Kd.S k83 83 w w0.heap.size P u l) :
    Calls Try.prog 43 #[u, .int .i64 (m : Int)] w fun e w' => e = .returned (.int .i64 ((endH l m : Nat) : Int)) ∧ Kd.S k83 83 w' w0.heap.size P u (mkHs l m) ∧ Below w0.heap.size w0 w' ∧ Kept w w' P := by
  obtain ⟨A, c, rfl⟩ := Kd.S_slice ho
  have HM := Aside0.mk hm
  have HL := Aside0.mk hL
  have HO := Aside0.mk ho
  have HB := Aside0.mk hB
  clear hm hL ho hB
  go_enter Try.func43, Try.ntmps43
  go_wp2
  go_loopg [1, 5] l.length (fun kq v1 v5 w' => ∃ (xs : List IH) (x5 : Int) (mm : Nat), v1 = .int .i64 (mm : Int) ∧ v5 = .int .i64 x5 ∧ Aside0 (MkInv l m xs x5 mm kq) ∧ Aside0 (Kd.S k83 83 w' w0.heap.size P (.slice A l.length c) xs) ∧ Aside0 (Kept w w' P) ∧ Aside0 (Below w0.heap.size w0 w'))
  case atStart => exact ⟨l, 0, m, rfl, rfl, ⟨MkInv.start l m⟩, HO, ⟨Kept.refl _ _⟩, HB⟩
  case round =>
    clear HO HB
    obtain ⟨xs, x5, mm, rfl, rfl, HF, HO, HK, HB⟩ := hrel
    by_cases hi : x5 < (l.length : Int)
    · obtain ⟨k1, rfl, kk, mm2, hkk, hnext⟩ := HF.out.step HM.out HL.out hi
      have HN := Aside0.mk hnext
      have hlen := HF.out.len
      clear HF hnext
      have hc : decide (x5 < (l.length : Int)) = true := decide_eq_true hi
      have hp := hlen.1
      have hxp : 0 < xs.length := by omega
      obtain ⟨g, cap, eg, hgb, hgl, hgc⟩ := Kd.S_form HO.out hxp
      injection eg with ea en ec
      clear en
      subst ea
      subst ec
      obtain ⟨oki, ce, hcl, hM, hcc, hfr, hoki, hH⟩ := Kd.S_elem HO.out z83 x5 hp hi
      obtain ⟨v2, rfl, ge2⟩ := k83_openM hM
      have hx0 := hcc 0 _ rfl
      have hx1 := hcc 1 _ rfl
      have hx2 := hcc 2 _ rfl
      have hf0 := hfr 0
      have hf1 := hfr 1
      simp only [show (k83).sz = 3 from rfl, Nat.add_zero] at hx0 hx1 hx2 hf0 hf1
      have hsg := Aside0.mk (Kd.H_seg hH hp hi (seg := [.int .i64 (mm : Int), .int .i64 (wrap64 ((mm : Int) + 1))]) (j := 0) (show 2 ≤ 3 from by decide) (by intro q hq; simp only [List.mem_cons, List.not_mem_nil, or_false] at hq; rcases hq with rfl | rfl <;> rfl)).1
      have hR2 := Aside0.mk (Kd.R_far (p := ⟨g, x5.toNat * 3 + 1, none⟩) (Kd.R_far (p := ⟨g, x5.toNat * 3, none⟩) ge2 (fun k hk => (hoki k hk).2) (.int .i64 (mm : Int))) (fun k hk => (hoki k hk).2) (.int .i64 (wrap64 ((mm : Int) + 1))))
      have hPg : P g := (Kd.S_R HO.out).1 g (by simp [Value.ownBlock])
      have hK2 := Aside0.mk (Kept.setCell (Kept.setCell HK.out (p := ⟨g, x5.toNat * 3, none⟩) (.inl hPg) (.int .i64 (mm : Int))) (p := ⟨g, x5.toNat * 3 + 1, none⟩) (.inl hPg) (.int .i64 (wrap64 ((mm : Int) + 1))))
      have hB2 := Aside0.mk (show Below w0.heap.size w0 ((wr.setCell ⟨g, x5.toNat * 3, none⟩ (.int .i64 (mm : Int))).setCell ⟨g, x5.toNat * 3 + 1, none⟩ (.int .i64 (wrap64 ((mm : Int) + 1)))) from below_set (below_set HB.out hgb) hgb)
      have hOK := Aside0.mk hoki
      have HKK := Aside0.mk hkk
      clear hcl hcc hfr hH hM ge2 hoki hkk hlen hgc hPg
      replace hp := eq_true hp
      replace hi := eq_true hi
      go_wp2_with fail
      refine (laws_markStringS.calls kk oki v2 (xs.getD x5.toNat z83).f2 _ _ _ w0 _ hB2.out hR2.out HKK.out).mono ?_
      rintro e w4 ⟨rfl, hR4, hB4, hK4⟩
      have HS4 := Aside0.mk (show Kd.S k83 83 w4 w0.heap.size P (.slice (some ⟨g, 0, none⟩) l.length c) (xs.set x5.toNat (mkH (xs.getD x5.toNat z83) mm)) from
        Kd.H_back (okp := oki) (Kd.H_step hsg.out (fun k hk hn hlt => hK4.2 k hlt hn)) (k83_mkM w4 w0.heap.size oki (mkH (xs.getD x5.toNat z83) mm) (Kd.R_flat (fun h => h) hR4 (fun k hk _ => hR2.out.1 k hk))) (fun _ h => h))
      have HK4 := Aside0.mk (Kept.then_ hK2.out hK4 (fun k hk => .inl (hOK.out k hk).1))
      have HB4 := Aside0.mk hB4
      clear hR4 hB4 hK4 hsg hR2 hK2 hB2 HO HK HB hx0 hx1 hx2 hf0 hf1
      go_wp2
      go_roundg k1
      case measure => omega
      case rel => exact ⟨_, _, mm2, rfl, rfl, HN, HS4, HK4, HB4⟩
    · have hc : decide (x5 < (l.length : Int)) = false := decide_eq_false hi
      obtain ⟨rfl, rfl⟩ := HF.out.last hi
      go_wp2
      trace_state
      go_ret
      exact ⟨rfl, HO.out, HB.out, HK.out⟩
end Go.Proofs.Ytbbkecdlapemfaa.My

/- The walk through FnExactNormalSteps where the helpers answer as they should, and where a size is too large. Asked: their answers. -/
namespace Go.Proofs.Ytbbkecdlapemfaa.My
open Go.RowKit Go.Proofs.YtbbkecdlapemfaaW.PrintWords Go.Proofs.YtbbkecdlapemfaaW.PrintLast Go.Proofs.YtbbkecdlapemfaaW.PrintMore Go.Proofs.Ytbbkecdlapemfaa.Pl
set_option linter.unusedVariables false
set_option linter.unusedSimpArgs false

set_option maxHeartbeats 4000000 in
set_option maxRecDepth 100000 in
theorem laws_FnExactNormalSteps_early0 (k : Nat) (A0 : Option Addr) (c0 : Nat) (l0 : List ByteArray) (A1 : Option Addr) (c1 : Nat) (l1 : List LH) (w : World) (hr0 : Kd.C Kd.string w A0 l0.length l0) (hc0 : l0.length ≤ c0) (hr1 : Kd.C k82 w A1 l1.length l1) (hc1 : l1.length ≤ c1)
    (s0 : Int) (es0 : laws_szStringS.f k l0 1048576 = some s0) (ns0 : s0 < 0) :
    Calls Try.prog 14 #[.slice A0 l0.length c0, .slice A1 l1.length c1] w fun e w' => e = .returned (.bool true) ∧ Below w.heap.size w w' := by
 have hr0_ := Aside0.mk hr0
 clear hr0
 have hr0 := hr0_
 clear hr0_
 have hc0_ := Aside0.mk hc0
 clear hc0
 have hc0 := hc0_
 clear hc0_
 have hr1_ := Aside0.mk hr1
 clear hr1
 have hr1 := hr1_
 clear hr1_
 have hc1_ := Aside0.mk hc1
 clear hc1
 have hc1 := hc1_
 clear hc1_
 have n0 : decide (s0 < 0) = true := decide_eq_true ns0
 clear ns0
 have es0_ := Aside0.mk es0
 clear es0
 have es0 := es0_
 clear es0_
 have HB := Aside0.mk (Below.refl w.heap.size w)
 go_enter Try.func14, Try.ntmps14
 go_wp2_with fail
 refine (laws_szStringS.calls k A0 c0 l0 1048576 s0 _ (Kd.C_below hr0.out HB.out) hc0.out es0.out).mono ?_
 rintro e w1 ⟨rfl, hb0⟩
 have hb : Below w.heap.size w w1 := by first | exact hb0 | (obtain ⟨nd_, e_⟩ := hb0; rw [e_]; exact pw_below_drewN (Below.refl _ _) nd_)
 clear hb0
 have HB_ := Aside0.mk (below_step HB.out hb)
 have Zw1 := Aside0.mk hb.size
 clear HB hb
 have HB := HB_
 clear HB_
 go_wp2
 go_ret
 exact ⟨rfl, HB.out⟩

set_option maxHeartbeats 4000000 in
set_option maxRecDepth 100000 in
theorem laws_FnExactNormalSteps_early1 (k : Nat) (A0 : Option Addr) (c0 : Nat) (l0 : List ByteArray) (A1 : Option Addr) (c1 : Nat) (l1 : List LH) (w : World) (hr0 : Kd.C Kd.string w A0 l0.length l0) (hc0 : l0.length ≤ c0) (hr1 : Kd.C k82 w A1 l1.length l1) (hc1 : l1.length ≤ c1)
    (s0 : Int) (es0 : laws_szStringS.f k l0 1048576 = some s0) (ns0 : ¬ s0 < 0)
    (s1 : Int) (es1 : laws_szHunkS.f k l1 s0 = some s1) (ns1 : s1 < 0) :
    Calls Try.prog 14 #[.slice A0 l0.length c0, .slice A1 l1.length c1] w fun e w' => e = .returned (.bool true) ∧ Below w.heap.size w w' := by
 have hr0_ := Aside0.mk hr0
 clear hr0
 have hr0 := hr0_
 clear hr0_
 have hc0_ := Aside0.mk hc0
 clear hc0
 have hc0 := hc0_
 clear hc0_
 have hr1_ := Aside0.mk hr1
 clear hr1
 have hr1 := hr1_
 clear hr1_
 have hc1_ := Aside0.mk hc1
 clear hc1
 have hc1 := hc1_
 clear hc1_
 have n0 : decide (s0 < 0) = false := decide_eq_false ns0
 clear ns0
 have es0_ := Aside0.mk es0
 clear es0
 have es0 := es0_
 clear es0_
 have n1 : decide (s1 < 0) = true := decide_eq_true ns1
 clear ns1
 have es1_ := Aside0.mk es1
 clear es1
 have es1 := es1_
 clear es1_
 have HB := Aside0.mk (Below.refl w.heap.size w)
 go_enter Try.func14, Try.ntmps14
 go_wp2_with fail
 refine (laws_szStringS.calls k A0 c0 l0 1048576 s0 _ (Kd.C_below hr0.out HB.out) hc0.out es0.out).mono ?_
 rintro e w1 ⟨rfl, hb0⟩
 have hb : Below w.heap.size w w1 := by first | exact hb0 | (obtain ⟨nd_, e_⟩ := hb0; rw [e_]; exact pw_below_drewN (Below.refl _ _) nd_)
 clear hb0
 have HB_ := Aside0.mk (below_step HB.out hb)
 have Zw1 := Aside0.mk hb.size
 clear HB hb
 have HB := HB_
 clear HB_
 go_wp2_with fail
 refine (laws_szHunkS.calls k A1 c1 l1 s0 s1 _ (Kd.C_below hr1.out HB.out) hc1.out es1.out).mono ?_
 rintro e w2 ⟨rfl, hb0⟩
 have hb : Below w1.heap.size w1 w2 := by first | exact hb0 | (obtain ⟨nd_, e_⟩ := hb0; rw [e_]; exact pw_below_drewN (Below.refl _ _) nd_)
 clear hb0
 have HB_ := Aside0.mk (below_step HB.out hb)
 have Zw2 := Aside0.mk hb.size
 clear HB hb
 have HB := HB_
 clear HB_
 go_wp2
 go_ret
 exact ⟨rfl, HB.out⟩

set_option maxHeartbeats 16000000 in
set_option maxRecDepth 100000 in
theorem laws_FnExactNormalSteps_true (k : Nat) (A0 : Option Addr) (c0 : Nat) (l0 : List ByteArray) (A1 : Option Addr) (c1 : Nat) (l1 : List LH) (w : World) (hr0 : Kd.C Kd.string w A0 l0.length l0) (hc0 : l0.length ≤ c0) (hr1 : Kd.C k82 w A1 l1.length l1) (hc1 : l1.length ≤ c1)
    (s0 : Int) (es0 : laws_szStringS.f k l0 1048576 = some s0) (ns0 : ¬ s0 < 0)
    (s1 : Int) (es1 : laws_szHunkS.f k l1 s0 = some s1) (ns1 : ¬ s1 < 0)
    (x0 : List ByteArray) (et0 : laws_toStringS.f k l0 = some x0) (ee0 : laws_eqStringS.f k x0 x0 = some true)
    (x1 : List IH) (et1 : laws_toHunkS.f k l1 = some x1) (ee1 : laws_eqHunkS.f k x1 x1 = some true)
    (v : List IT) (r0 : Bool) (esp : spec_NormalSteps.f k x0 x1 = some (v, r0)) (eim : impl_NormalSteps.f k x0 x1 = some (v, r0)) (eev : laws_eqStepS.f k v v = some true)
    (em0 : laws_markStringS.f k x0 ((1 : Nat) : Int) = some ((((1 + x0.length) : Nat) : Int), marks 1 x0.length))
    (hm1 : (endH x1 (1 + x0.length)) ≤ 1099511627776) (hL1 : x1.length ≤ 1099511627776)
    (hmv : (endT v 1) ≤ 1099511627776) (hLv : v.length ≤ 1099511627776) (ehv : laws_heldStepS.f k (mkTs v 1) 1 = some (((endT v 1) : Nat) : Int)) :
    Calls Try.prog 14 #[.slice A0 l0.length c0, .slice A1 l1.length c1] w fun e w' => e = .returned (.bool true) ∧ Below w.heap.size w w' := by
 have n0 : decide (s0 < 0) = false := decide_eq_false ns0
 clear ns0
 have hr0_ := Aside0.mk hr0
 clear hr0
 have hr0 := hr0_
 clear hr0_
 have hc0_ := Aside0.mk hc0
 clear hc0
 have hc0 := hc0_
 clear hc0_
 have es0_ := Aside0.mk es0
 clear es0
 have es0 := es0_
 clear es0_
 have et0_ := Aside0.mk et0
 clear et0
 have et0 := et0_
 clear et0_
 have ee0_ := Aside0.mk ee0
 clear ee0
 have ee0 := ee0_
 clear ee0_
 have em0_ := Aside0.mk em0
 clear em0
 have em0 := em0_
 clear em0_
 have n1 : decide (s1 < 0) = false := decide_eq_false ns1
 clear ns1
 have hr1_ := Aside0.mk hr1
 clear hr1
 have hr1 := hr1_
 clear hr1_
 have hc1_ := Aside0.mk hc1
 clear hc1
 have hc1 := hc1_
 clear hc1_
 have es1_ := Aside0.mk es1
 clear es1
 have es1 := es1_
 clear es1_
 have et1_ := Aside0.mk et1
 clear et1
 have et1 := et1_
 clear et1_
 have ee1_ := Aside0.mk ee1
 clear ee1
 have ee1 := ee1_
 clear ee1_
 have hm1_ := Aside0.mk hm1
 clear hm1
 have hm1 := hm1_
 clear hm1_
 have hL1_ := Aside0.mk hL1
 clear hL1
 have hL1 := hL1_
 clear hL1_
 have esp_ := Aside0.mk esp
 clear esp
 have esp := esp_
 clear esp_
 have eim_ := Aside0.mk eim
 clear eim
 have eim := eim_
 clear eim_
 have eev_ := Aside0.mk eev
 clear eev
 have eev := eev_
 clear eev_
 have ehv_ := Aside0.mk ehv
 clear ehv
 have ehv := ehv_
 clear ehv_
 have hmv_ := Aside0.mk hmv
 clear hmv
 have hmv := hmv_
 clear hmv_
 have hLv_ := Aside0.mk hLv
 clear hLv
 have hLv := hLv_
 clear hLv_
 have nm0 : decide (((((1 + x0.length) : Nat) : Int)) < 0) = false := decide_eq_false (Int.not_lt.2 (Int.natCast_nonneg _))
 have nm1 : decide (((((endH x1 (1 + x0.length)) : Nat) : Int)) < 0) = false := decide_eq_false (Int.not_lt.2 (Int.natCast_nonneg _))
 have nv : decide (((((endT v 1) : Nat) : Int)) < 0) = false := decide_eq_false (Int.not_lt.2 (Int.natCast_nonneg _))
 have HB := Aside0.mk (Below.refl w.heap.size w)
 go_enter Try.func14, Try.ntmps14
 go_wp2_with fail
 refine (laws_szStringS.calls k A0 c0 l0 1048576 s0 _ (Kd.C_below hr0.out HB.out) hc0.out es0.out).mono ?_
 rintro e w1 ⟨rfl, hb0⟩
 have hb : Below w.heap.size w w1 := by first | exact hb0 | (obtain ⟨nd_, e_⟩ := hb0; rw [e_]; exact pw_below_drewN (Below.refl _ _) nd_)
 clear hb0
 have HB_ := Aside0.mk (below_step HB.out hb)
 have Zw1 := Aside0.mk hb.size
 clear HB hb
 have HB := HB_
 clear HB_
 go_wp2_with fail
 refine (laws_szHunkS.calls k A1 c1 l1 s0 s1 _ (Kd.C_below hr1.out HB.out) hc1.out es1.out).mono ?_
 rintro e w2 ⟨rfl, hb0⟩
 have hb : Below w1.heap.size w1 w2 := by first | exact hb0 | (obtain ⟨nd_, e_⟩ := hb0; rw [e_]; exact pw_below_drewN (Below.refl _ _) nd_)
 clear hb0
 have HB_ := Aside0.mk (below_step HB.out hb)
 have Zw2 := Aside0.mk hb.size
 clear HB hb
 have HB := HB_
 clear HB_
 go_wp2_with fail
 refine (laws_toStringS.calls k A0 c0 l0 x0 _ (Kd.C_below hr0.out HB.out) hc0.out et0.out).mono ?_
 rintro e w3 ⟨vv, rfl, ho, hb⟩
 obtain ⟨AY0, cY0, rfl⟩ := Kd.R_slice ho
 have Y0 := Aside0.mk (Kd.R_mono (ok' := fun k_ => w2.heap.size ≤ k_ ∧ k_ < w3.heap.size) (Kd.R_lower (Kd.R_bound ho) HB.out.size) (fun k_ h_ => ⟨h_.2.1, h_.2.2.1⟩))
 clear ho
 have HB_ := Aside0.mk (below_step HB.out hb)
 have Zw3 := Aside0.mk hb.size
 clear HB hb
 have HB := HB_
 clear HB_
 go_wp2_with fail
 refine (laws_toHunkS.calls k A1 c1 l1 x1 _ (Kd.C_below hr1.out HB.out) hc1.out et1.out).mono ?_
 rintro e w4 ⟨vv, rfl, ho, hb⟩
 obtain ⟨AY1, cY1, rfl⟩ := Kd.S_slice ho
 have Y0_ := Aside0.mk (Kd.R_below Y0.out hb)
 clear Y0
 have Y0 := Y0_
 clear Y0_
 have Y1 := Aside0.mk (Kd.S_mono (ok' := fun k_ => w3.heap.size ≤ k_ ∧ k_ < w4.heap.size) (Kd.S_lower (Kd.S_bound ho) HB.out.size) (fun k_ h_ => ⟨h_.2.1, h_.2.2.1⟩))
 clear ho
 have HB_ := Aside0.mk (below_step HB.out hb)
 have Zw4 := Aside0.mk hb.size
 clear HB hb
 have HB := HB_
 clear HB_
 go_wp2_with fail
 refine (spec_NormalSteps.calls k AY0 cY0 x0 AY1 cY1 x1 v r0 _ (Kd.R_reads' Y0.out).2.2 (Kd.R_reads' Y0.out).2.1 (Kd.S_reads' Y1.out).2.2 (Kd.S_reads' Y1.out).2.1 esp.out).mono ?_
 rintro e w5 ⟨vv, rfl, ho, hb⟩
 obtain ⟨AVW, cVW, rfl⟩ := Kd.S_slice ho
 have Y0_ := Aside0.mk (Kd.R_below Y0.out hb)
 clear Y0
 have Y0 := Y0_
 clear Y0_
 have Y1_ := Aside0.mk (Kd.S_below Y1.out hb)
 clear Y1
 have Y1 := Y1_
 clear Y1_
 have VW := Aside0.mk (Kd.S_mono (ok' := fun k_ => w4.heap.size ≤ k_ ∧ k_ < w5.heap.size) (Kd.S_lower (Kd.S_bound ho) HB.out.size) (fun k_ h_ => ⟨h_.2.1, h_.2.2.1⟩))
 clear ho
 have HB_ := Aside0.mk (below_step HB.out hb)
 have Zw5 := Aside0.mk hb.size
 clear HB hb
 have HB := HB_
 clear HB_
 clear Y0
 clear Y1
 go_wp2_with fail
 refine (laws_toStringS.calls k A0 c0 l0 x0 _ (Kd.C_below hr0.out HB.out) hc0.out et0.out).mono ?_
 rintro e w6 ⟨vv, rfl, ho, hb⟩
 obtain ⟨AX0, cX0, rfl⟩ := Kd.R_slice ho
 have VW_ := Aside0.mk (Kd.S_below VW.out hb)
 clear VW
 have VW := VW_
 clear VW_
 have X0 := Aside0.mk (Kd.R_mono (ok' := fun k_ => w5.heap.size ≤ k_ ∧ k_ < w6.heap.size) (Kd.R_lower (Kd.R_bound ho) HB.out.size) (fun k_ h_ => ⟨h_.2.1, h_.2.2.1⟩))
 clear ho
 have HB_ := Aside0.mk (below_step HB.out hb)
 have Zw6 := Aside0.mk hb.size
 clear HB hb
 have HB := HB_
 clear HB_
 go_wp2_with fail
 refine (laws_toHunkS.calls k A1 c1 l1 x1 _ (Kd.C_below hr1.out HB.out) hc1.out et1.out).mono ?_
 rintro e w7 ⟨vv, rfl, ho, hb⟩
 obtain ⟨AX1, cX1, rfl⟩ := Kd.S_slice ho
 have VW_ := Aside0.mk (Kd.S_below VW.out hb)
 clear VW
 have VW := VW_
 clear VW_
 have X0_ := Aside0.mk (Kd.R_below X0.out hb)
 clear X0
 have X0 := X0_
 clear X0_
 have X1 := Aside0.mk (Kd.S_mono (ok' := fun k_ => w6.heap.size ≤ k_ ∧ k_ < w7.heap.size) (Kd.S_lower (Kd.S_bound ho) HB.out.size) (fun k_ h_ => ⟨h_.2.1, h_.2.2.1⟩))
 clear ho
 have HB_ := Aside0.mk (below_step HB.out hb)
 have Zw7 := Aside0.mk hb.size
 clear HB hb
 have HB := HB_
 clear HB_
 go_wp2_with fail
 refine (impl_NormalSteps.calls k AX0 cX0 x0 AX1 cX1 x1 v r0 _ (Kd.R_reads' X0.out).2.2 (Kd.R_reads' X0.out).2.1 (Kd.S_reads' X1.out).2.2 (Kd.S_reads' X1.out).2.1 eim.out).mono ?_
 rintro e w8 ⟨vv, rfl, ho, hb⟩
 obtain ⟨AVG, cVG, rfl⟩ := Kd.S_slice ho
 have VW_ := Aside0.mk (Kd.S_below VW.out hb)
 clear VW
 have VW := VW_
 clear VW_
 have X0_ := Aside0.mk (Kd.R_below X0.out hb)
 clear X0
 have X0 := X0_
 clear X0_
 have X1_ := Aside0.mk (Kd.S_below X1.out hb)
 clear X1
 have X1 := X1_
 clear X1_
 have VG := Aside0.mk (Kd.S_mono (ok' := fun k_ => w7.heap.size ≤ k_ ∧ k_ < w8.heap.size) (Kd.S_lower (Kd.S_bound ho) HB.out.size) (fun k_ h_ => ⟨h_.2.1, h_.2.2.1⟩))
 clear ho
 have HB_ := Aside0.mk (below_step HB.out hb)
 have Zw8 := Aside0.mk hb.size
 clear HB hb
 have HB := HB_
 clear HB_
 go_wp2_with fail
 refine (laws_eqStepS.calls k AVG cVG v AVW cVW v true _ (Kd.S_reads' VG.out).2.2 (Kd.S_reads' VG.out).2.1 (Kd.S_reads' VW.out).2.2 (Kd.S_reads' VW.out).2.1 eev.out).mono ?_
 rintro e w9 ⟨rfl, hb0⟩
 have hb : Below w8.heap.size w8 w9 := by first | exact hb0 | (obtain ⟨nd_, e_⟩ := hb0; rw [e_]; exact pw_below_drewN (Below.refl _ _) nd_)
 clear hb0
 have VW_ := Aside0.mk (Kd.S_below VW.out hb)
 clear VW
 have VW := VW_
 clear VW_
 have X0_ := Aside0.mk (Kd.R_below X0.out hb)
 clear X0
 have X0 := X0_
 clear X0_
 have X1_ := Aside0.mk (Kd.S_below X1.out hb)
 clear X1
 have X1 := X1_
 clear X1_
 have VG_ := Aside0.mk (Kd.S_below VG.out hb)
 clear VG
 have VG := VG_
 clear VG_
 have HB_ := Aside0.mk (below_step HB.out hb)
 have Zw9 := Aside0.mk hb.size
 clear HB hb
 have HB := HB_
 clear HB_
 go_wp2_with fail
 refine (laws_toStringS.calls k A0 c0 l0 x0 _ (Kd.C_below hr0.out HB.out) hc0.out et0.out).mono ?_
 rintro e w10 ⟨vv, rfl, ho, hb⟩
 obtain ⟨AQ0, cQ0, rfl⟩ := Kd.R_slice ho
 have VW_ := Aside0.mk (Kd.S_below VW.out hb)
 clear VW
 have VW := VW_
 clear VW_
 have X0_ := Aside0.mk (Kd.R_below X0.out hb)
 clear X0
 have X0 := X0_
 clear X0_
 have X1_ := Aside0.mk (Kd.S_below X1.out hb)
 clear X1
 have X1 := X1_
 clear X1_
 have VG_ := Aside0.mk (Kd.S_below VG.out hb)
 clear VG
 have VG := VG_
 clear VG_
 have Q0 := Aside0.mk (Kd.R_mono (ok' := fun k_ => w9.heap.size ≤ k_ ∧ k_ < w10.heap.size) (Kd.R_lower (Kd.R_bound ho) HB.out.size) (fun k_ h_ => ⟨h_.2.1, h_.2.2.1⟩))
 clear ho
 have HB_ := Aside0.mk (below_step HB.out hb)
 have Zw10 := Aside0.mk hb.size
 clear HB hb
 have HB := HB_
 clear HB_
 go_wp2_with fail
 refine (laws_eqStringS.calls k AX0 cX0 x0 AQ0 cQ0 x0 true _ (Kd.R_reads' X0.out).2.2 (Kd.R_reads' X0.out).2.1 (Kd.R_reads' Q0.out).2.2 (Kd.R_reads' Q0.out).2.1 ee0.out).mono ?_
 rintro e w11 ⟨rfl, hb0⟩
 have hb : Below w10.heap.size w10 w11 := by first | exact hb0 | (obtain ⟨nd_, e_⟩ := hb0; rw [e_]; exact pw_below_drewN (Below.refl _ _) nd_)
 clear hb0
 have VW_ := Aside0.mk (Kd.S_below VW.out hb)
 clear VW
 have VW := VW_
 clear VW_
 have X0_ := Aside0.mk (Kd.R_below X0.out hb)
 clear X0
 have X0 := X0_
 clear X0_
 have X1_ := Aside0.mk (Kd.S_below X1.out hb)
 clear X1
 have X1 := X1_
 clear X1_
 have VG_ := Aside0.mk (Kd.S_below VG.out hb)
 clear VG
 have VG := VG_
 clear VG_
 have Q0_ := Aside0.mk (Kd.R_below Q0.out hb)
 clear Q0
 have Q0 := Q0_
 clear Q0_
 have HB_ := Aside0.mk (below_step HB.out hb)
 have Zw11 := Aside0.mk hb.size
 clear HB hb
 have HB := HB_
 clear HB_
 clear Q0
 go_wp2_with fail
 refine (laws_toHunkS.calls k A1 c1 l1 x1 _ (Kd.C_below hr1.out HB.out) hc1.out et1.out).mono ?_
 rintro e w12 ⟨vv, rfl, ho, hb⟩
 obtain ⟨AQ1, cQ1, rfl⟩ := Kd.S_slice ho
 have VW_ := Aside0.mk (Kd.S_below VW.out hb)
 clear VW
 have VW := VW_
 clear VW_
 have X0_ := Aside0.mk (Kd.R_below X0.out hb)
 clear X0
 have X0 := X0_
 clear X0_
 have X1_ := Aside0.mk (Kd.S_below X1.out hb)
 clear X1
 have X1 := X1_
 clear X1_
 have VG_ := Aside0.mk (Kd.S_below VG.out hb)
 clear VG
 have VG := VG_
 clear VG_
 have Q1 := Aside0.mk (Kd.S_mono (ok' := fun k_ => w11.heap.size ≤ k_ ∧ k_ < w12.heap.size) (Kd.S_lower (Kd.S_bound ho) HB.out.size) (fun k_ h_ => ⟨h_.2.1, h_.2.2.1⟩))
 clear ho
 have HB_ := Aside0.mk (below_step HB.out hb)
 have Zw12 := Aside0.mk hb.size
 clear HB hb
 have HB := HB_
 clear HB_
 go_wp2_with fail
 refine (laws_eqHunkS.calls k AX1 cX1 x1 AQ1 cQ1 x1 true _ (Kd.S_reads' X1.out).2.2 (Kd.S_reads' X1.out).2.1 (Kd.S_reads' Q1.out).2.2 (Kd.S_reads' Q1.out).2.1 ee1.out).mono ?_
 rintro e w13 ⟨rfl, hb0⟩
 have hb : Below w12.heap.size w12 w13 := by first | exact hb0 | (obtain ⟨nd_, e_⟩ := hb0; rw [e_]; exact pw_below_drewN (Below.refl _ _) nd_)
 clear hb0
 have VW_ := Aside0.mk (Kd.S_below VW.out hb)
 clear VW
 have VW := VW_
 clear VW_
 have X0_ := Aside0.mk (Kd.R_below X0.out hb)
 clear X0
 have X0 := X0_
 clear X0_
 have X1_ := Aside0.mk (Kd.S_below X1.out hb)
 clear X1
 have X1 := X1_
 clear X1_
 have VG_ := Aside0.mk (Kd.S_below VG.out hb)
 clear VG
 have VG := VG_
 clear VG_
 have Q1_ := Aside0.mk (Kd.S_below Q1.out hb)
 clear Q1
 have Q1 := Q1_
 clear Q1_
 have HB_ := Aside0.mk (below_step HB.out hb)
 have Zw13 := Aside0.mk hb.size
 clear HB hb
 have HB := HB_
 clear HB_
 clear Q1
 go_wp2_with fail
 refine (laws_markStringS.calls k (fun k_ => w5.heap.size ≤ k_ ∧ k_ < w6.heap.size) _ x0 _ _ _ w _ HB.out X0.out em0.out).mono ?_
 rintro e w14 ⟨rfl, hR, hb, hk⟩
 have VW_ := Aside0.mk (Kd.S_kept VW.out hk (fun k_ h1_ h2_ => Nat.lt_irrefl k_ (Nat.lt_of_lt_of_le h1_.2 (Nat.le_trans (Nat.le_refl _) h2_.1))))
 clear VW
 have VW := VW_
 clear VW_
 have X1_ := Aside0.mk (Kd.S_kept X1.out hk (fun k_ h1_ h2_ => Nat.lt_irrefl k_ (Nat.lt_of_lt_of_le h2_.2 (Nat.le_trans (Nat.le_refl _) h1_.1))))
 clear X1
 have X1 := X1_
 clear X1_
 have VG_ := Aside0.mk (Kd.S_kept VG.out hk (fun k_ h1_ h2_ => Nat.lt_irrefl k_ (Nat.lt_of_lt_of_le h2_.2 (Nat.le_trans (Nat.le_trans (Nat.le_refl _) Zw7.out) h1_.1))))
 clear VG
 have VG := VG_
 clear VG_
 clear X0 hR
 have Zw14 := Aside0.mk hk.1
 clear hk HB
 have HB := Aside0.mk hb
 clear hb
 go_wp2_with fail
 refine (laws_markHunkS_made (fun k_ => w6.heap.size ≤ k_ ∧ k_ < w7.heap.size) _ x1 (1 + x0.length) w _ hm1.out hL1.out HB.out X1.out).mono ?_
 rintro e w15 ⟨rfl, hR, hb, hk⟩
 have VW_ := Aside0.mk (Kd.S_kept VW.out hk (fun k_ h1_ h2_ => Nat.lt_irrefl k_ (Nat.lt_of_lt_of_le h1_.2 (Nat.le_trans (Nat.le_trans (Nat.le_refl _) Zw6.out) h2_.1))))
 clear VW
 have VW := VW_
 clear VW_
 have VG_ := Aside0.mk (Kd.S_kept VG.out hk (fun k_ h1_ h2_ => Nat.lt_irrefl k_ (Nat.lt_of_lt_of_le h2_.2 (Nat.le_trans (Nat.le_refl _) h1_.1))))
 clear VG
 have VG := VG_
 clear VG_
 clear X1 hR
 have Zw15 := Aside0.mk hk.1
 clear hk HB
 have HB := Aside0.mk hb
 clear hb
 go_wp2_with fail
 refine (laws_eqStepS.calls k AVG cVG v AVW cVW v true _ (Kd.S_reads' VG.out).2.2 (Kd.S_reads' VG.out).2.1 (Kd.S_reads' VW.out).2.2 (Kd.S_reads' VW.out).2.1 eev.out).mono ?_
 rintro e w16 ⟨rfl, hb0⟩
 have hb : Below w15.heap.size w15 w16 := by first | exact hb0 | (obtain ⟨nd_, e_⟩ := hb0; rw [e_]; exact pw_below_drewN (Below.refl _ _) nd_)
 clear hb0
 have VW_ := Aside0.mk (Kd.S_below VW.out hb)
 clear VW
 have VW := VW_
 clear VW_
 have VG_ := Aside0.mk (Kd.S_below VG.out hb)
 clear VG
 have VG := VG_
 clear VG_
 have HB_ := Aside0.mk (below_step HB.out hb)
 have Zw16 := Aside0.mk hb.size
 clear HB hb
 have HB := HB_
 clear HB_
 go_wp2_with fail
 refine (laws_markStepS_made (fun k_ => w7.heap.size ≤ k_ ∧ k_ < w8.heap.size) _ v 1 w _ hmv.out hLv.out HB.out VG.out).mono ?_
 rintro e w17 ⟨rfl, hR, hb, hk⟩
 have VW_ := Aside0.mk (Kd.S_kept VW.out hk (fun k_ h1_ h2_ => Nat.lt_irrefl k_ (Nat.lt_of_lt_of_le h1_.2 (Nat.le_trans (Nat.le_trans (Nat.le_trans (Nat.le_refl _) Zw6.out) Zw7.out) h2_.1))))
 clear VW
 have VW := VW_
 clear VW_
 have VG_ := Aside0.mk hR
 clear VG hR
 have VG := VG_
 clear VG_
 have Zw17 := Aside0.mk hk.1
 clear hk HB
 have HB := Aside0.mk hb
 clear hb
 go_wp2_with fail
 have eLen := (Kd.S_reads' VG.out).1
 refine calls_of_args (args' := #[.slice AVG ((mkTs v 1) : List IT).length cVG, .int .i64 1]) (by rw [← eLen]) ?_
 refine (laws_heldStepS.calls k AVG cVG (mkTs v 1) 1 _ _ (Kd.S_reads' VG.out).2.2 (by rw [← eLen]; exact (Kd.S_reads' VG.out).2.1) ehv.out).mono ?_
 rintro e w18 ⟨rfl, hb0⟩
 clear eLen
 have hb : Below w17.heap.size w17 w18 := by first | exact hb0 | (obtain ⟨nd_, e_⟩ := hb0; rw [e_]; exact pw_below_drewN (Below.refl _ _) nd_)
 clear hb0
 have VW_ := Aside0.mk (Kd.S_below VW.out hb)
 clear VW
 have VW := VW_
 clear VW_
 have VG_ := Aside0.mk (Kd.S_below VG.out hb)
 clear VG
 have VG := VG_
 clear VG_
 have HB_ := Aside0.mk (below_step HB.out hb)
 have Zw18 := Aside0.mk hb.size
 clear HB hb
 have HB := HB_
 clear HB_
 go_wp2_with fail
 refine (laws_toStringS.calls k A0 c0 l0 x0 _ (Kd.C_below hr0.out HB.out) hc0.out et0.out).mono ?_
 rintro e w19 ⟨vv, rfl, ho, hb⟩
 obtain ⟨AY0, cY0, rfl⟩ := Kd.R_slice ho
 have VW_ := Aside0.mk (Kd.S_below VW.out hb)
 clear VW
 have VW := VW_
 clear VW_
 have VG_ := Aside0.mk (Kd.S_below VG.out hb)
 clear VG
 have VG := VG_
 clear VG_
 have Y0 := Aside0.mk (Kd.R_mono (ok' := fun k_ => w18.heap.size ≤ k_ ∧ k_ < w19.heap.size) (Kd.R_lower (Kd.R_bound ho) HB.out.size) (fun k_ h_ => ⟨h_.2.1, h_.2.2.1⟩))
 clear ho
 have HB_ := Aside0.mk (below_step HB.out hb)
 have Zw19 := Aside0.mk hb.size
 clear HB hb
 have HB := HB_
 clear HB_
 go_wp2_with fail
 refine (laws_toHunkS.calls k A1 c1 l1 x1 _ (Kd.C_below hr1.out HB.out) hc1.out et1.out).mono ?_
 rintro e w20 ⟨vv, rfl, ho, hb⟩
 obtain ⟨AY1, cY1, rfl⟩ := Kd.S_slice ho
 have VW_ := Aside0.mk (Kd.S_below VW.out hb)
 clear VW
 have VW := VW_
 clear VW_
 have VG_ := Aside0.mk (Kd.S_below VG.out hb)
 clear VG
 have VG := VG_
 clear VG_
 have Y0_ := Aside0.mk (Kd.R_below Y0.out hb)
 clear Y0
 have Y0 := Y0_
 clear Y0_
 have Y1 := Aside0.mk (Kd.S_mono (ok' := fun k_ => w19.heap.size ≤ k_ ∧ k_ < w20.heap.size) (Kd.S_lower (Kd.S_bound ho) HB.out.size) (fun k_ h_ => ⟨h_.2.1, h_.2.2.1⟩))
 clear ho
 have HB_ := Aside0.mk (below_step HB.out hb)
 have Zw20 := Aside0.mk hb.size
 clear HB hb
 have HB := HB_
 clear HB_
 go_wp2_with fail
 refine (impl_NormalSteps.calls k AY0 cY0 x0 AY1 cY1 x1 v r0 _ (Kd.R_reads' Y0.out).2.2 (Kd.R_reads' Y0.out).2.1 (Kd.S_reads' Y1.out).2.2 (Kd.S_reads' Y1.out).2.1 eim.out).mono ?_
 rintro e w21 ⟨vv, rfl, ho, hb⟩
 obtain ⟨AVH, cVH, rfl⟩ := Kd.S_slice ho
 have VW_ := Aside0.mk (Kd.S_below VW.out hb)
 clear VW
 have VW := VW_
 clear VW_
 have VG_ := Aside0.mk (Kd.S_below VG.out hb)
 clear VG
 have VG := VG_
 clear VG_
 have Y0_ := Aside0.mk (Kd.R_below Y0.out hb)
 clear Y0
 have Y0 := Y0_
 clear Y0_
 have Y1_ := Aside0.mk (Kd.S_below Y1.out hb)
 clear Y1
 have Y1 := Y1_
 clear Y1_
 have VH := Aside0.mk (Kd.S_mono (ok' := fun k_ => w20.heap.size ≤ k_ ∧ k_ < w21.heap.size) (Kd.S_lower (Kd.S_bound ho) HB.out.size) (fun k_ h_ => ⟨h_.2.1, h_.2.2.1⟩))
 clear ho
 have HB_ := Aside0.mk (below_step HB.out hb)
 have Zw21 := Aside0.mk hb.size
 clear HB hb
 have HB := HB_
 clear HB_
 clear Y0
 clear Y1
 go_wp2_with fail
 refine (laws_eqStepS.calls k AVH cVH v AVW cVW v true _ (Kd.S_reads' VH.out).2.2 (Kd.S_reads' VH.out).2.1 (Kd.S_reads' VW.out).2.2 (Kd.S_reads' VW.out).2.1 eev.out).mono ?_
 rintro e w22 ⟨rfl, hb0⟩
 have hb : Below w21.heap.size w21 w22 := by first | exact hb0 | (obtain ⟨nd_, e_⟩ := hb0; rw [e_]; exact pw_below_drewN (Below.refl _ _) nd_)
 clear hb0
 have VW_ := Aside0.mk (Kd.S_below VW.out hb)
 clear VW
 have VW := VW_
 clear VW_
 have VG_ := Aside0.mk (Kd.S_below VG.out hb)
 clear VG
 have VG := VG_
 clear VG_
 have VH_ := Aside0.mk (Kd.S_below VH.out hb)
 clear VH
 have VH := VH_
 clear VH_
 have HB_ := Aside0.mk (below_step HB.out hb)
 have Zw22 := Aside0.mk hb.size
 clear HB hb
 have HB := HB_
 clear HB_
 clear VH VW
 go_wp2_with fail
 have eLen := (Kd.S_reads' VG.out).1
 refine calls_of_args (args' := #[.slice AVG ((mkTs v 1) : List IT).length cVG, .int .i64 1]) (by rw [← eLen]) ?_
 refine (laws_heldStepS.calls k AVG cVG (mkTs v 1) 1 _ _ (Kd.S_reads' VG.out).2.2 (by rw [← eLen]; exact (Kd.S_reads' VG.out).2.1) ehv.out).mono ?_
 rintro e w23 ⟨rfl, hb0⟩
 clear eLen
 have hb : Below w22.heap.size w22 w23 := by first | exact hb0 | (obtain ⟨nd_, e_⟩ := hb0; rw [e_]; exact pw_below_drewN (Below.refl _ _) nd_)
 clear hb0
 have VG_ := Aside0.mk (Kd.S_below VG.out hb)
 clear VG
 have VG := VG_
 clear VG_
 have HB_ := Aside0.mk (below_step HB.out hb)
 have Zw23 := Aside0.mk hb.size
 clear HB hb
 have HB := HB_
 clear HB_
 go_wp2
 go_ret
 exact ⟨rfl, HB.out⟩
end Go.Proofs.Ytbbkecdlapemfaa.My

/- Plain Lean: whether a number lies between two. No condition. -/
namespace Go.Proofs.Ytbbkecdlapemfaa.Pl
open Go.RowKit Go.Proofs.YtbbkecdlapemfaaW.PrintWords Go.Proofs.YtbbkecdlapemfaaW.PrintLast Go.Proofs.Ytbbkecdlapemfaa.My
set_option linter.unusedVariables false
set_option linter.unusedSimpArgs false

def inB (n lo hi : Int) : Bool := decide (lo ≤ n) && decide (n ≤ hi)
theorem inB_iff (a b c : Int) : inB a b c = true ↔ b ≤ a ∧ a ≤ c := by
  unfold inB
  rw [Bool.and_eq_true, decide_eq_true_eq, decide_eq_true_eq]
theorem impl_in_eq (a b c : Int) : impl_in.f a b c = some (inB a b c) := by
  unfold impl_in.f inB
  by_cases h : b ≤ a
  · rw [if_pos h]; simp [h]
  · rw [if_neg (by omega)]; simp [h]
theorem spec_l1In_eq (a b c : Int) : spec_l1In.f a b c = some (inB a b c) := by
  unfold spec_l1In.f inB
  by_cases h : b ≤ a
  · rw [if_pos h]; simp [h]
  · rw [if_neg (by omega)]; simp [h]
end Go.Proofs.Ytbbkecdlapemfaa.Pl

/- Plain Lean: chapter 1: what a line and good lines are, for the program and the reference. Conditions: lengths and sizes below 2^63. -/
namespace Go.Proofs.Ytbbkecdlapemfaa.Pl
open Go.RowKit Go.Proofs.YtbbkecdlapemfaaW.PrintWords Go.Proofs.YtbbkecdlapemfaaW.PrintLast Go.Proofs.Ytbbkecdlapemfaa.My
set_option linter.unusedVariables false
set_option linter.unusedSimpArgs false

/-- A line. -/
def isLn (s : ByteArray) : Bool := !(s.data.toList.dropLast.contains 10) && inB s.size 1 30
/-- Its last byte is 10. -/
def ends (s : ByteArray) : Bool := s.data.toList.getLast? == some 10
def good (l : List ByteArray) : Bool := decide (l.length ≤ 40) && (l.all isLn && l.dropLast.all ends)

theorem toList_one (c : UInt8) : (⟨#[c]⟩ : ByteArray).toList = [c] := by rw [Lib.toList_data]
theorem size_one (c : UInt8) : (⟨#[c]⟩ : ByteArray).size = 1 := rfl
theorem bt_one (c : UInt8) : bt ⟨#[c]⟩ 0 = (c.toNat : Int) := rfl

theorem index_ev (s : ByteArray) (c : UInt8) : Ev (fun k => strings_Index.f k s ⟨#[c]⟩) (Lib.indexByte s.data.toList c) := by
  have hj : ∀ b : Bool, (b = true → Lib.indexByte s.data.toList c = 0) → Ev (fun k => stringslite_Index.j0 k s ⟨#[c]⟩ 1 b) (Lib.indexByte s.data.toList c) := by
    intro b hb
    refine Ev.step (fun k => stringslite_Index.j0.eq_2 ..) ?_
    refine ev_ite (fun h => ev_some (hb h).symm) (fun _ => ?_)
    refine ev_pos rfl (ev_pos (by rw [size_one]; decide) ?_)
    refine ev_const ?_
    rw [bt_one]
    simp [stringslite_IndexByte.f]
  have h2 : Ev (fun k => stringslite_Index.f k s ⟨#[c]⟩) (Lib.indexByte s.data.toList c) := by
    simp only [stringslite_Index.f]
    refine ev_neg (by rw [size_one]; decide) ?_
    refine hj _ (fun h => ?_)
    have e : s.data.toList = [c] := by
      have := beq_iff_eq.1 h
      rw [toList_one, Lib.toList_data] at this
      exact this.symm
    rw [e]
    simp [Lib.indexByte]
  simp only [strings_Index.f]
  exact ev_bind h2 (ev_some rfl)

theorem indexByte_nonneg (l : List UInt8) (c : UInt8) : decide (Lib.indexByte l c ≥ 0) = l.contains c := by
  induction l with
  | nil => simp [Lib.indexByte]
  | cons b l ih =>
    have hge := Lib.indexByte_ge l c
    unfold Lib.indexByte
    by_cases h : (b == c) = true
    · have : b = c := beq_iff_eq.1 h
      simp [this]
    · have hb : (b == c) = false := by simpa using h
      have hne : ¬ c = b := fun e => h (by simp [e])
      rw [List.contains_cons, ← ih]
      simp only [hb]
      by_cases h2 : Lib.indexByte l c = -1
      · simp [h2, hne]
      · have h3 : (Lib.indexByte l c == -1) = false := by simpa using h2
        simp only [h3]
        have : Lib.indexByte l c ≥ 0 := by omega
        simp [hne, this]
        omega

theorem contains_ev (s : ByteArray) (c : UInt8) : Ev (fun k => strings_Contains.f k s ⟨#[c]⟩) (s.data.toList.contains c) := by
  simp only [strings_Contains.f]
  exact ev_bind (index_ev s c) (ev_some (indexByte_nonneg _ _))

theorem extract_data (s : ByteArray) (a b : Nat) : (s.extract a b).data.toList = (s.data.toList.take b).drop a := by
  rw [ByteArray.data_extract, Array.toList_extract, List.extract_eq_take_drop, ← List.drop_take]

theorem isLine_ev (s : ByteArray) (hs : s.size ≤ 9223372036854775807) : Ev (fun k => impl_isLine.f k s) (isLn s) := by
  simp only [impl_isLine.f, impl_in_eq, Option.bind_some]
  refine ev_ite (fun h => ?_) (fun h => ev_some (by unfold isLn; simp at h; simp [h]))
  have h1 : 1 ≤ s.size ∧ s.size ≤ 30 := by
    simp [inB] at h
    omega
  rw [wrap_pred s.size (by omega) hs]
  refine ev_pos (by omega) (ev_pos (by omega) ?_)
  refine ev_bind (contains_ev _ 10) (ev_some ?_)
  rw [Int.toNat_natCast, extract_data, List.drop_zero, ← data_length, ← List.dropLast_eq_take]
  unfold isLn
  rw [h]
  simp

theorem l1Line_l0 (s : ByteArray) (hs : s.size ≤ 9223372036854775807) : ∀ d i, i + d = s.size - 1 → Ev (fun k => spec_l1Line.l0 k s (i : Int)) (!((s.data.toList.dropLast.drop i).contains 10) && inB s.size 1 30) := by
  intro d
  have hl : s.data.toList.length = s.size := data_length s
  induction d with
  | zero =>
    intro i hi
    refine Ev.step (fun k => spec_l1Line.l0.eq_2 ..) ?_
    refine ev_neg (by rw [wrap64_id (by omega) (by omega)]; omega) ?_
    refine ev_const ?_
    rw [spec_l1In_eq, List.drop_of_length_le (by rw [List.length_dropLast]; omega)]
    rfl
  | succ d ih =>
    intro i hi
    refine Ev.step (fun k => spec_l1Line.l0.eq_2 ..) ?_
    refine ev_pos (by rw [wrap64_id (by omega) (by omega)]; omega) (ev_pos (by omega) (ev_pos (by omega) ?_))
    have hd : s.data.toList.dropLast.drop i = s.data.toList[i] :: s.data.toList.dropLast.drop (i + 1) := by
      rw [List.drop_eq_getElem_cons (by rw [List.length_dropLast]; omega), List.getElem_dropLast]
    rw [hd, List.contains_cons, bt_nat s i (by omega)]
    refine ev_ite (fun h => ev_some ?_) (fun h => ?_)
    · have : s.data.toList[i] = 10 := u8_eq h
      rw [this]
      simp
    · rw [wrap_succ i (by omega)]
      refine ev_to (ih (i + 1) (by omega)) ?_
      have : ((10 : UInt8) == s.data.toList[i]) = false := by
        rw [beq_eq_false_iff_ne]
        exact u8_ne h
      rw [this, Bool.false_or]

theorem l1Line_ev (s : ByteArray) (hs : s.size ≤ 9223372036854775807) : Ev (fun k => spec_l1Line.f k s) (isLn s) := by
  simp only [spec_l1Line.f]
  exact l1Line_l0 s hs (s.size - 1) 0 (by omega)

theorem isLn_size {s : ByteArray} (h : isLn s = true) : 1 ≤ s.size ∧ s.size ≤ 30 := by
  simp [isLn, inB] at h
  omega

theorem ends_last {s : ByteArray} (h : 1 ≤ s.size) : ends s = (bt s ((s.size - 1 : Nat) : Int) == 10) := by
  have hl : s.data.toList.length = s.size := data_length s
  have hq : s.data.toList.getLast? = some (s.data.toList[s.size - 1]'(by omega)) := by
    rw [List.getLast?_eq_getElem?, List.getElem?_eq_getElem (by omega)]
    simp only [hl]
  unfold ends
  rw [bt_nat s _ (by omega), hq]
  rw [Bool.eq_iff_iff]
  simp only [beq_iff_eq, Option.some.injEq]
  constructor
  · intro e; rw [e]; rfl
  · intro e; exact u8_eq e

theorem l1Ends_eq (s : ByteArray) (h : 1 ≤ s.size) (hs : s.size ≤ 9223372036854775807) : spec_l1Ends.f s = some (ends s) := by
  unfold spec_l1Ends.f
  rw [wrap_pred s.size (by omega) hs, if_pos (by omega), if_pos (by omega), ends_last h]

theorem hasSuffix_eq (s : ByteArray) (c : UInt8) (hs : s.size ≤ 9223372036854775807) : strings_HasSuffix.f s ⟨#[c]⟩ = some (s.data.toList.getLast? == some c) := by
  have hl : s.data.toList.length = s.size := data_length s
  unfold strings_HasSuffix.f stringslite_HasSuffix.f
  rw [size_one]
  by_cases h : 1 ≤ s.size
  · rw [if_pos (by omega), show ((1 : Nat) : Int) = 1 from rfl, wrap_pred s.size (by omega) hs, if_pos (by omega), if_pos (by omega), Option.bind_some, toList_one, Lib.toList_data, Int.toNat_natCast, extract_data, ← hl, List.take_length]
    have e : s.data.toList.drop (s.data.toList.length - 1) = [s.data.toList[s.data.toList.length - 1]'(by omega)] := by
      rw [List.drop_eq_getElem_cons (by omega), List.drop_of_length_le (by omega)]
    rw [e, List.getLast?_eq_getElem?, List.getElem?_eq_getElem (by omega)]
    congr 1
    rw [Bool.eq_iff_iff]
    simp
  · rw [if_neg (by omega), Option.bind_some]
    have : s.data.toList = [] := List.eq_nil_of_length_eq_zero (by omega)
    simp [this]

theorem isEnded_eq (s : ByteArray) (hs : s.size ≤ 9223372036854775807) : impl_isEnded.f s = some (ends s) := by
  unfold impl_isEnded.f
  rw [hasSuffix_eq s 10 hs]
  rfl

theorem areLines_l0 (l : List ByteArray) (hf : FitS l) : ∀ d i, i + d = l.length → ∃ j : Int, Ev (fun k => slices_IndexFunc_string_string__impl_areLines_1.l0 k l (l.length : Int) (i : Int)) j ∧ decide (j ≥ 0) = !((l.drop i).all isLn) := by
  intro d
  induction d with
  | zero =>
    intro i hi
    refine ⟨-1, Ev.step (fun k => slices_IndexFunc_string_string__impl_areLines_1.l0.eq_2 ..) (ev_neg (by omega) (ev_some rfl)), ?_⟩
    rw [List.drop_of_length_le (by omega)]
    rfl
  | succ d ih =>
    intro i hi
    have hlt : i < l.length := by omega
    have hev : Ev (fun k => impl_areLines_1.f k (rdOf ByteArray.empty l (i : Int))) (!isLn l[i]) := by
      rw [rdOf_lt _ _ _ hlt]
      simp only [impl_areLines_1.f]
      exact ev_bind (isLine_ev _ (hf.2 _ (List.getElem_mem _))) (ev_some rfl)
    obtain ⟨j, hj, hjj⟩ := ih (i + 1) (by omega)
    rw [drop_cons l i hlt, List.all_cons]
    by_cases h : isLn l[i] = true
    · refine ⟨j, Ev.step (fun k => slices_IndexFunc_string_string__impl_areLines_1.l0.eq_2 ..) (ev_pos (by omega) (ev_pos (by omega) (ev_pos (by omega) (ev_bind hev (ev_neg (by simp [h]) ?_))))), by rw [hjj, h]; simp⟩
      rw [wrap_succ i (by have := hf.1; omega)]
      exact hj
    · refine ⟨(i : Int), Ev.step (fun k => slices_IndexFunc_string_string__impl_areLines_1.l0.eq_2 ..) (ev_pos (by omega) (ev_pos (by omega) (ev_pos (by omega) (ev_bind hev (ev_pos (by simp [h]) (ev_some rfl)))))), ?_⟩
      simp [h]

theorem areLines_ev (l : List ByteArray) (hf : FitS l) : Ev (fun k => impl_areLines.f k l) (decide (l.length ≤ 40) && l.all isLn) := by
  simp only [impl_areLines.f]
  refine ev_ite (fun h => ?_) (fun h => ev_some ?_)
  · obtain ⟨j, hj, hjj⟩ := areLines_l0 l hf l.length 0 (by omega)
    simp only [slices_ContainsFunc_string_string__impl_areLines_1.f, slices_IndexFunc_string_string__impl_areLines_1.f]
    refine ev_bind (ev_bind hj (ev_some rfl)) (ev_some ?_)
    have : l.length ≤ 40 := by omega
    rw [hjj]
    simp [this]
  · have : ¬ l.length ≤ 40 := by omega
    simp [this]

theorem goodLines_l0 (l : List ByteArray) (hf : FitS l) : ∀ d i, i + d = l.length → Ev (fun k => impl_goodLines.l0 k l l (l.length : Int) (i : Int)) ((l.dropLast.drop i).all ends) := by
  intro d
  have hL := hf.1
  induction d with
  | zero =>
    intro i hi
    refine Ev.step (fun k => impl_goodLines.l0.eq_2 ..) (ev_neg (by omega) (ev_some ?_))
    rw [List.drop_of_length_le (by rw [List.length_dropLast]; omega)]
    rfl
  | succ d ih =>
    intro i hi
    have hlt : i < l.length := by omega
    refine Ev.step (fun k => impl_goodLines.l0.eq_2 ..) (ev_pos (by omega) (ev_pos (by omega) (ev_pos (by omega) ?_)))
    rw [wrap_pred l.length (by omega) hL, rdOf_lt _ _ _ hlt, isEnded_eq _ (hf.2 _ (List.getElem_mem _)), wrap_succ i (by omega)]
    simp only [Option.bind_some]
    refine ev_ite (fun h => ?_) (fun h => ?_)
    · have hd : l.dropLast.drop i = l[i] :: l.dropLast.drop (i + 1) := by
        rw [List.drop_eq_getElem_cons (by rw [List.length_dropLast]; omega), List.getElem_dropLast]
      rw [hd, List.all_cons]
      refine ev_ite (fun h => ?_) (fun h => ev_some (by simp [h]))
      rw [h, Bool.true_and]
      exact ih (i + 1) (by omega)
    · have e1 : l.dropLast.drop i = [] := List.drop_of_length_le (by rw [List.length_dropLast]; omega)
      have e2 : l.dropLast.drop (i + 1) = [] := List.drop_of_length_le (by rw [List.length_dropLast]; omega)
      have := ih (i + 1) (by omega)
      rw [e2] at this
      rw [e1]
      exact this

theorem goodLines_ev (l : List ByteArray) (hf : FitS l) : Ev (fun k => impl_goodLines.f k l) (good l) := by
  simp only [impl_goodLines.f]
  refine ev_bind (areLines_ev l hf) (ev_ite (fun h => ?_) (fun h => ev_some ?_))
  · refine ev_to (goodLines_l0 l hf l.length 0 (by omega)) ?_
    rw [List.drop_zero]
    unfold good
    rw [← Bool.and_assoc, h, Bool.true_and]
  · unfold good
    rw [← Bool.and_assoc]
    simp at h
    simp
    intro h1 h2
    exact absurd (h h1) (by simpa using h2)

theorem l1Good_l0 (l : List ByteArray) (hf : FitS l) : ∀ d i, i + d = l.length → Ev (fun k => spec_l1Good.l0 k l l (l.length : Int) (i : Int)) ((l.drop i).all isLn && (l.dropLast.drop i).all ends && decide (l.length ≤ 40)) := by
  intro d
  have hL := hf.1
  induction d with
  | zero =>
    intro i hi
    refine Ev.step (fun k => spec_l1Good.l0.eq_2 ..) (ev_neg (by omega) (ev_some ?_))
    rw [List.drop_of_length_le (by omega), List.drop_of_length_le (by rw [List.length_dropLast]; omega)]
    simp
    omega
  | succ d ih =>
    intro i hi
    have hlt : i < l.length := by omega
    refine Ev.step (fun k => spec_l1Good.l0.eq_2 ..) (ev_pos (by omega) (ev_pos (by omega) (ev_pos (by omega) ?_)))
    simp only [rdOf_lt _ _ _ hlt]
    rw [wrap_pred l.length (by omega) hL, wrap_succ i (by omega), drop_cons l i hlt, List.all_cons]
    refine ev_bind (l1Line_ev _ (hf.2 _ (List.getElem_mem _))) (ev_ite (fun h => ?_) (fun h => ev_some (by simp [h])))
    rw [h, Bool.true_and, l1Ends_eq _ (isLn_size h).1 (hf.2 _ (List.getElem_mem _))]
    simp only [Option.bind_some]
    refine ev_ite (fun h => ?_) (fun h => ?_)
    · have hd : l.dropLast.drop i = l[i] :: l.dropLast.drop (i + 1) := by
        rw [List.drop_eq_getElem_cons (by rw [List.length_dropLast]; omega), List.getElem_dropLast]
      rw [hd, List.all_cons]
      refine ev_ite (fun h => ?_) (fun h => ev_some (by simp [h]))
      rw [h, Bool.true_and]
      exact ih (i + 1) (by omega)
    · have e1 : l.dropLast.drop i = [] := List.drop_of_length_le (by rw [List.length_dropLast]; omega)
      have e2 : l.dropLast.drop (i + 1) = [] := List.drop_of_length_le (by rw [List.length_dropLast]; omega)
      have := ih (i + 1) (by omega)
      rw [e2] at this
      rw [e1]
      exact this

theorem l1Good_ev (l : List ByteArray) (hf : FitS l) : Ev (fun k => spec_l1Good.f k l) (good l) := by
  simp only [spec_l1Good.f]
  refine ev_to (l1Good_l0 l hf l.length 0 (by omega)) ?_
  rw [List.drop_zero, List.drop_zero]
  unfold good
  rw [Bool.and_comm]
end Go.Proofs.Ytbbkecdlapemfaa.Pl

/- Plain Lean: chapter 2: when hunks are good, for the program and the reference. Conditions: lengths and sizes below 2^63. -/
namespace Go.Proofs.Ytbbkecdlapemfaa.Pl
open Go.RowKit Go.Proofs.YtbbkecdlapemfaaW.PrintWords Go.Proofs.YtbbkecdlapemfaaW.PrintLast Go.Proofs.Ytbbkecdlapemfaa.My
set_option linter.unusedVariables false
set_option linter.unusedSimpArgs false

/-- What one hunk must be, the last one having ended at p. -/
def hNum (n p : Int) (x : IH) : Prop := 0 ≤ x.f0 ∧ 0 ≤ x.f1 ∧ x.f0 + x.f1 ≤ n ∧ ¬ (x.f1 = 0 ∧ x.f2.length = 0) ∧ x.f2.length ≤ 40 ∧ p < x.f0
instance (n p : Int) (x : IH) : Decidable (hNum n p x) := by unfold hNum; infer_instance
def hOK (n p : Int) (x : IH) : Bool := decide (hNum n p x) && x.f2.all isLn
/-- Each starts past the last one's end. -/
def chain (n : Int) : Int → List IH → Bool
  | _, [] => true
  | p, x :: t => hOK n p x && chain n (x.f0 + x.f1) t
def goodH (n : Int) (h : List IH) : Bool := inB n 0 40 && (decide (h.length ≤ 20) && chain n (-1) h)

/-- Where the last one before place i ended. -/
def before (n : Int) (h : List IH) (i : Nat) (p : Int) : Prop := (i = 0 ∧ p = -1) ∨ ∃ (j : Nat) (hj : j < h.length), i = j + 1 ∧ p = h[j].f0 + h[j].f1 ∧ 0 ≤ h[j].f0 ∧ 0 ≤ h[j].f1 ∧ p ≤ n

theorem chain_cons (n p : Int) (h : List IH) (i : Nat) (hi : i < h.length) : chain n p (h.drop i) = (hOK n p h[i] && chain n (h[i].f0 + h[i].f1) (h.drop (i + 1))) := by
  rw [List.drop_eq_getElem_cons hi]
  rfl

theorem goodHunks_l0 (n : Int) (h : List IH) (hf : FitI h) (h0 : 0 ≤ n) (h1 : n ≤ 40) : ∀ d i p, i + d = h.length → before n h i p → Ev (fun k => impl_goodHunks.l0 k n h h (h.length : Int) (i : Int)) (chain n p (h.drop i)) := by
  intro d
  have hL := hf.1
  induction d with
  | zero =>
    intro i p hi hp
    refine Ev.step (fun k => impl_goodHunks.l0.eq_2 ..) (ev_neg (by omega) (ev_some ?_))
    rw [List.drop_of_length_le (by omega)]
    rfl
  | succ d ih =>
    intro i p hi hp
    have hlt : i < h.length := by omega
    obtain ⟨b0, b1, b2⟩ := hf.2 _ (List.getElem_mem hlt)
    refine Ev.step (fun k => impl_goodHunks.l0.eq_2 ..) ?_
    simp only [rdIH h i hlt, impl_in_eq, Option.bind_some, chain_cons n p h i hlt]
    generalize hx : h[i] = x at *
    have bad : ¬ (hNum n (-1) x ∧ x.f2.all isLn = true) → Ev (fun k => impl_goodHunks.j2 k n h (i : Int) h (h.length : Int) (i : Int) true x.f0 x.f1 x.f2) (hOK n p x && chain n (x.f0 + x.f1) (h.drop (i + 1))) := by
      intro hb
      refine Ev.step (fun k => impl_goodHunks.j2.eq_2 ..) (ev_pos rfl (ev_some ?_))
      have : hOK n p x = false := by
        rw [Bool.eq_false_iff]
        intro ht
        unfold hOK at ht
        rw [Bool.and_eq_true, decide_eq_true_eq] at ht
        obtain ⟨⟨q0, q1, q2, q3, q4, q5⟩, q6⟩ := ht
        exact hb ⟨⟨q0, q1, q2, q3, q4, by omega⟩, q6⟩
      rw [this]
      rfl
    have ok : hNum n (-1) x → x.f2.all isLn = true → Ev (fun k => impl_goodHunks.j2 k n h (i : Int) h (h.length : Int) (i : Int) false x.f0 x.f1 x.f2) (hOK n p x && chain n (x.f0 + x.f1) (h.drop (i + 1))) := by
      intro hb hl
      obtain ⟨q0, q1, q2, q3, q4, q5⟩ := hb
      have nx : before n h (i + 1) (x.f0 + x.f1) := .inr ⟨i, hlt, rfl, by rw [hx], by rw [hx]; exact q0, by rw [hx]; exact q1, q2⟩
      have go : p < x.f0 → Ev (fun k => impl_goodHunks.l0 k n h h (h.length : Int) (wrap64 ((i : Int) + 1))) (hOK n p x && chain n (x.f0 + x.f1) (h.drop (i + 1))) := by
        intro hp
        rw [wrap_succ i (by omega)]
        refine ev_to (ih (i + 1) _ (by omega) nx) ?_
        have : hOK n p x = true := by
          unfold hOK
          rw [Bool.and_eq_true, decide_eq_true_eq]
          exact ⟨⟨q0, q1, q2, q3, q4, hp⟩, hl⟩
        rw [this, Bool.true_and]
      refine Ev.step (fun k => impl_goodHunks.j2.eq_2 ..) (ev_neg (by simp) (ev_ite (fun hi0 => ?_) (fun hi0 => go ?_)))
      · rcases hp with ⟨e, _⟩ | ⟨j, hj, rfl, rfl, r0, r1, r2⟩
        · omega
        · have ew : wrap64 (((j + 1 : Nat) : Int) - 1) = (j : Int) := by rw [wrap64_id (by omega) (by omega)]; omega
          simp only [ew, rdIH h j hj]
          rw [wrap64_id (by omega) (by omega)]
          refine ev_pos (by omega) (ev_pos (by omega) (ev_ite (fun hc => ev_some ?_) (fun hc => go (by omega))))
          have : hOK n (h[j].f0 + h[j].f1) x = false := by
            rw [Bool.eq_false_iff]
            intro ht
            unfold hOK at ht
            rw [Bool.and_eq_true, decide_eq_true_eq] at ht
            have := ht.1.2.2.2.2.2
            omega
          rw [this]
          rfl
      · rcases hp with ⟨_, e⟩ | ⟨j, hj, e, _⟩ <;> omega
    refine ev_pos (by omega) (ev_pos (by omega) (ev_pos (by omega) (ev_ite (fun c0 => ?_) (fun c0 => bad (fun hb => c0 ?_)))))
    · rw [inB_iff] at c0
      rw [wrap64_id (by omega) (by omega)]
      refine ev_ite (fun c1 => ?_) (fun c1 => bad (fun hb => c1 ?_))
      · rw [inB_iff] at c1
        refine ev_bind (areLines_ev x.f2 b2) (ev_ite (fun c2 => ?_) (fun c2 => bad (fun hb => c2 ?_)))
        · rw [Bool.and_eq_true, decide_eq_true_eq] at c2
          refine ev_ite (fun c3 => ?_) (fun c3 => ok ⟨c0.1, c1.1, by omega, fun e => c3 e.1, c2.1, by omega⟩ c2.2)
          by_cases c4 : x.f2.length = 0
          · rw [show (((x.f2.length : Int) == 0) = true) from by rw [c4]; rfl]
            exact bad (fun hb => hb.1.2.2.2.1 ⟨c3, c4⟩)
          · rw [show (((x.f2.length : Int) == 0) = false) from by rw [beq_eq_false_iff_ne]; omega]
            exact ok ⟨c0.1, c1.1, by omega, fun e => c4 e.2, c2.1, by omega⟩ c2.2
        · rw [Bool.and_eq_true, decide_eq_true_eq]
          exact ⟨hb.1.2.2.2.2.1, hb.2⟩
      · rw [inB_iff]
        obtain ⟨⟨q0, q1, q2, q3, q4, q5⟩, q6⟩ := hb
        omega
    · rw [inB_iff]
      obtain ⟨⟨q0, q1, q2, q3, q4, q5⟩, q6⟩ := hb
      omega

theorem goodHunks_ev (n : Int) (h : List IH) (hf : FitI h) : Ev (fun k => impl_goodHunks.f k n h) (goodH n h) := by
  simp only [impl_goodHunks.f, impl_in_eq, Option.bind_some]
  unfold goodH
  refine ev_ite (fun c => ?_) (fun c => ?_)
  · rw [c, Bool.true_and]
    rw [inB_iff] at c
    refine Ev.step (fun k => impl_goodHunks.j0.eq_2 ..) (ev_ite (fun e => ev_some ?_) (fun e => ?_))
    · rw [decide_eq_true_eq] at e
      rw [decide_eq_false (by omega), Bool.false_and]
    · rw [decide_eq_true_eq] at e
      rw [decide_eq_true (by omega), Bool.true_and]
      exact goodHunks_l0 n h hf c.1 c.2 h.length 0 (-1) (by omega) (.inl ⟨rfl, rfl⟩)
  · refine Ev.step (fun k => impl_goodHunks.j0.eq_2 ..) (ev_pos rfl (ev_some ?_))
    rw [Bool.not_eq_true] at c
    rw [c, Bool.false_and]
end Go.Proofs.Ytbbkecdlapemfaa.Pl

/- Plain Lean: chapter 2: when hunks are good for the reference: as for the program. Conditions: lengths and sizes below 2^63. -/
namespace Go.Proofs.Ytbbkecdlapemfaa.Pl
open Go.RowKit Go.Proofs.YtbbkecdlapemfaaW.PrintWords Go.Proofs.YtbbkecdlapemfaaW.PrintLast Go.Proofs.Ytbbkecdlapemfaa.My
set_option linter.unusedVariables false
set_option linter.unusedSimpArgs false

theorem wrap_zero (a : Int) (m : Nat) (h0 : 0 ≤ a) (h1 : a ≤ 9223372036854775807) (h2 : m ≤ 9223372036854775807) : wrap64 (a + (m : Int)) = 0 ↔ a = 0 ∧ m = 0 := by
  unfold wrap64
  omega

theorem l2Hunks_l0 (n : Int) (h : List IH) (hf : FitI h) (hn0 : -9223372036854775808 ≤ n) (hn : n ≤ 9223372036854775807) : ∀ d i p, i + d = h.length → before n h i p → Ev (fun k => spec_l2Hunks.l0 k n h h (h.length : Int) (i : Int)) (chain n p (h.drop i) && (decide (h.length ≤ 20) && inB n 0 40)) := by
  intro d
  have hL := hf.1
  induction d with
  | zero =>
    intro i p hi hp
    refine Ev.step (fun k => spec_l2Hunks.l0.eq_2 ..) (ev_neg (by omega) ?_)
    rw [List.drop_of_length_le (by omega)]
    simp only [spec_l1In_eq, Option.bind_some]
    refine ev_ite (fun c => ev_some ?_) (fun c => ev_some ?_)
    · rw [decide_eq_true (by omega)]
      rfl
    · rw [decide_eq_false (by omega)]
      rfl
  | succ d ih =>
    intro i p hi hp
    have hlt : i < h.length := by omega
    obtain ⟨b0, b1, b2⟩ := hf.2 _ (List.getElem_mem hlt)
    refine Ev.step (fun k => spec_l2Hunks.l0.eq_2 ..) ?_
    simp only [rdIH h i hlt, chain_cons n p h i hlt]
    generalize hx : h[i] = x at *
    have no : ¬ (hNum n p x ∧ x.f2.all isLn = true) → hOK n p x = false := by
      intro hb
      rw [Bool.eq_false_iff]
      intro ht
      unfold hOK at ht
      rw [Bool.and_eq_true, decide_eq_true_eq] at ht
      exact hb ht
    have bad : ¬ hNum n p x → Ev (fun k => spec_l2Hunks.j1 k n h h (h.length : Int) (i : Int) true x.f0 x.f1 x.f2) (hOK n p x && chain n (x.f0 + x.f1) (h.drop (i + 1)) && (decide (h.length ≤ 20) && inB n 0 40)) := by
      intro hb
      refine Ev.step (fun k => spec_l2Hunks.j1.eq_2 ..) (ev_pos rfl (ev_some ?_))
      rw [no (fun c => hb c.1)]
      rfl
    have ok : hNum n p x → Ev (fun k => spec_l2Hunks.j1 k n h h (h.length : Int) (i : Int) false x.f0 x.f1 x.f2) (hOK n p x && chain n (x.f0 + x.f1) (h.drop (i + 1)) && (decide (h.length ≤ 20) && inB n 0 40)) := by
      intro hb
      have nx : before n h (i + 1) (x.f0 + x.f1) := .inr ⟨i, hlt, rfl, by rw [hx], by rw [hx]; exact hb.1, by rw [hx]; exact hb.2.1, hb.2.2.1⟩
      have lp : ∀ e r, r + e = x.f2.length → Ev (fun k => spec_l2Hunks.l1 k n h h (h.length : Int) (i : Int) x.f2 (x.f2.length : Int) (r : Int)) (((x.f2.drop r).all isLn && chain n (x.f0 + x.f1) (h.drop (i + 1))) && (decide (h.length ≤ 20) && inB n 0 40)) := by
        intro e
        have hT := b2.1
        induction e with
        | zero =>
          intro r hr
          refine Ev.step (fun k => spec_l2Hunks.l1.eq_2 ..) (ev_neg (by omega) ?_)
          rw [List.drop_of_length_le (l := x.f2) (by omega), wrap_succ i (by omega), List.all_nil, Bool.true_and]
          exact ih (i + 1) _ (by omega) nx
        | succ e ihe =>
          intro r hr
          have hrt : r < x.f2.length := by omega
          refine Ev.step (fun k => spec_l2Hunks.l1.eq_2 ..) (ev_pos (by omega) (ev_pos (by omega) (ev_pos (by omega) ?_)))
          rw [rdOf_lt _ _ _ hrt, drop_cons x.f2 r hrt, List.all_cons]
          refine ev_bind (l1Line_ev _ (b2.2 _ (List.getElem_mem hrt))) (ev_ite (fun c => ?_) (fun c => ev_some ?_))
          · rw [wrap_succ r (by omega), c, Bool.true_and]
            exact ihe (r + 1) (by omega)
          · rw [Bool.not_eq_true] at c
            rw [c]
            rfl
      refine Ev.step (fun k => spec_l2Hunks.j1.eq_2 ..) (ev_neg (by simp) (ev_to (lp x.f2.length 0 (by omega)) ?_))
      unfold hOK
      rw [decide_eq_true hb, Bool.true_and, List.drop_zero]
    refine ev_pos (by omega) (ev_pos (by omega) (ev_pos (by omega) (ev_ite (fun c => bad (fun hb => ?_)) (fun c0 => ev_ite (fun c => bad (fun hb => ?_)) (fun c1 => ev_ite (fun c => bad (fun hb => ?_)) (fun c2 => ?_))))))
    · have := hb.1
      omega
    · have := hb.2.1
      omega
    · obtain ⟨q0, q1, q2, q3, q4, q5⟩ := hb
      omega
    rw [wrap64_id (x := n - x.f1) (by omega) (by omega)]
    refine ev_ite (fun c => bad (fun hb => ?_)) (fun c3 => ev_ite (fun c => bad (fun hb => ?_)) (fun c4 => ev_ite (fun c => bad (fun hb => ?_)) (fun c5 => ?_)))
    · have := hb.2.2.1
      omega
    · rw [wrap_zero _ _ (by omega) (by omega) b2.1] at c
      exact hb.2.2.2.1 c
    · have := hb.2.2.2.2.1
      omega
    rw [wrap_zero _ _ (by omega) (by omega) b2.1] at c4
    rcases hp with ⟨rfl, rfl⟩ | ⟨j, hj, rfl, rfl, r0, r1, r2⟩
    · refine ev_neg (by omega) (ok ⟨by omega, by omega, by omega, c4, by omega, by omega⟩)
    · have ew : wrap64 (((j + 1 : Nat) : Int) - 1) = (j : Int) := by rw [wrap64_id (by omega) (by omega)]; omega
      simp only [ew, rdIH h j hj]
      rw [wrap64_id (x := h[j].f0 + h[j].f1) (by omega) (by omega)]
      refine ev_pos (by omega) (ev_pos (by omega) (ev_pos (by omega) ?_))
      by_cases c : x.f0 ≤ h[j].f0 + h[j].f1
      · rw [decide_eq_true c]
        refine bad (fun hb => ?_)
        have := hb.2.2.2.2.2
        omega
      · rw [decide_eq_false c]
        exact ok ⟨by omega, by omega, by omega, c4, by omega, by omega⟩

theorem l2Hunks_ev (n : Int) (h : List IH) (hf : FitI h) (hn0 : -9223372036854775808 ≤ n) (hn : n ≤ 9223372036854775807) : Ev (fun k => spec_l2Hunks.f k n h) (goodH n h) := by
  simp only [spec_l2Hunks.f]
  refine ev_to (l2Hunks_l0 n h hf hn0 hn h.length 0 (-1) (by omega) (.inl ⟨rfl, rfl⟩)) ?_
  unfold goodH
  rw [List.drop_zero]
  cases inB n 0 40 <;> cases chain n (-1) h <;> cases decide (h.length ≤ 20) <;> rfl
end Go.Proofs.Ytbbkecdlapemfaa.Pl

/- Plain Lean: chapter 2: good hunks' numbers are small. No condition. -/
namespace Go.Proofs.Ytbbkecdlapemfaa.Pl
open Go.RowKit Go.Proofs.YtbbkecdlapemfaaW.PrintWords Go.Proofs.YtbbkecdlapemfaaW.PrintLast Go.Proofs.Ytbbkecdlapemfaa.My
set_option linter.unusedVariables false
set_option linter.unusedSimpArgs false

/-- All numbers small. -/
def near (h : List IH) : Prop := ∀ x ∈ h, 0 ≤ x.f0 ∧ x.f0 ≤ 40 ∧ 0 ≤ x.f1 ∧ x.f1 ≤ 40 ∧ x.f2.length ≤ 40

theorem near_of_chain {n : Int} (hn : n ≤ 40) : ∀ (h : List IH) (p : Int), chain n p h = true → near h := by
  intro h
  induction h with
  | nil => intro p _ x hx; simp at hx
  | cons y t ih =>
    intro p hc x hx
    simp only [chain, Bool.and_eq_true, hOK, decide_eq_true_eq] at hc
    rcases List.mem_cons.1 hx with rfl | hx
    · obtain ⟨⟨⟨q0, q1, q2, q3, q4, q5⟩, _⟩, _⟩ := hc
      omega
    · exact ih _ hc.2 x hx
theorem near_of_good {n : Int} {h : List IH} (g : goodH n h = true) : near h ∧ h.length ≤ 20 ∧ 0 ≤ n ∧ n ≤ 40 := by
  unfold goodH at g
  rw [Bool.and_eq_true, Bool.and_eq_true, inB_iff, decide_eq_true_eq] at g
  exact ⟨near_of_chain g.1.2 h _ g.2.2, g.2.1, g.1.1, g.1.2⟩

end Go.Proofs.Ytbbkecdlapemfaa.Pl

/- Plain Lean: answers where both are good lines. No condition. -/
namespace Go.Proofs.Ytbbkecdlapemfaa.Pl
open Go.RowKit Go.Proofs.YtbbkecdlapemfaaW.PrintWords Go.Proofs.YtbbkecdlapemfaaW.PrintLast Go.Proofs.Ytbbkecdlapemfaa.My
set_option linter.unusedVariables false
set_option linter.unusedSimpArgs false

/-- Where both are good lines. -/
def both {α : Type} (a b : List ByteArray) (z v : α) : α × Bool := if good a = true then (if good b = true then (v, true) else (z, false)) else (z, false)

theorem good_len {l : List ByteArray} (h : good l = true) : l.length ≤ 40 := by
  unfold good at h
  rw [Bool.and_eq_true] at h
  exact of_decide_eq_true h.1

theorem both_ev {α : Type} {G : Nat → List ByteArray → Option Bool} {F : Nat → Option α} {a b : List ByteArray} {z v : α} (hg : ∀ l, FitS l → Ev (fun k => G k l) (good l)) (fa : FitS a) (fb : FitS b) (hF : good a = true → good b = true → Ev F v) :
    Ev (fun k => (G k a).bind fun t => (if t = true then ((G k b).bind fun t' => (if t' = true then ((F k).bind fun x => (some (x, true))) else (some (z, false)))) else (some (z, false)))) (both a b z v) := by
  unfold both
  refine ev_bind (hg a fa) (ev_ite (fun h => ?_) (fun h => ev_some (by rw [if_neg h])))
  rw [if_pos h]
  refine ev_bind (hg b fb) (ev_ite (fun h' => ?_) (fun h' => ev_some (by rw [if_neg h'])))
  rw [if_pos h']
  exact ev_bind (hF h h') (ev_some rfl)
end Go.Proofs.Ytbbkecdlapemfaa.Pl

/- Plain Lean: chapter 2: hunks carried out, for the program and the reference. Conditions: lengths and sizes below 2^62. -/
namespace Go.Proofs.Ytbbkecdlapemfaa.Pl
open Go.RowKit Go.Proofs.YtbbkecdlapemfaaW.PrintWords Go.Proofs.YtbbkecdlapemfaaW.PrintLast Go.Proofs.Ytbbkecdlapemfaa.My
set_option linter.unusedVariables false
set_option linter.unusedSimpArgs false

/-- What is left of the lines from p on, the hunks carried out. -/
def patchFrom (a : List ByteArray) : Nat → List IH → List ByteArray
  | p, [] => a.drop p
  | p, x :: t => (a.take x.f0.toNat).drop p ++ (x.f2 ++ patchFrom a (x.f0 + x.f1).toNat t)
theorem patchFrom_mem (a : List ByteArray) (s : ByteArray) : ∀ (h : List IH) (p : Nat), s ∈ patchFrom a p h → s ∈ a ∨ ∃ x ∈ h, s ∈ x.f2 := by
  intro h
  induction h with
  | nil => intro p hs; exact .inl (List.mem_of_mem_drop hs)
  | cons y t ih =>
    intro p hs
    simp only [patchFrom, List.mem_append] at hs
    rcases hs with hs | hs | hs
    · exact .inl (List.mem_of_mem_take (List.mem_of_mem_drop hs))
    · exact .inr ⟨y, List.mem_cons_self .., hs⟩
    · rcases ih _ hs with hs | ⟨x, hx, hs⟩
      · exact .inl hs
      · exact .inr ⟨x, List.mem_cons_of_mem _ hx, hs⟩
theorem patchFrom_len (a : List ByteArray) (ha : a.length ≤ 40) : ∀ (h : List IH) (p : Nat), near h → (patchFrom a p h).length ≤ 40 + 80 * h.length := by
  intro h
  induction h with
  | nil => intro p _; simp only [patchFrom, List.length_drop, List.length_nil]; omega
  | cons y t ih =>
    intro p hn
    have h1 := ih (y.f0 + y.f1).toNat (fun x hx => hn x (List.mem_cons_of_mem _ hx))
    have h2 := hn y (List.mem_cons_self ..)
    simp only [patchFrom, List.length_append, List.length_drop, List.length_take, List.length_cons]
    omega
theorem patchFrom_fit {a : List ByteArray} {h : List IH} (fa : FitS a) (fh : FitI h) (ha : a.length ≤ 40) (hn : near h) (hl : h.length ≤ 20) (p : Nat) : FitS (patchFrom a p h) := by
  have := patchFrom_len a ha h p hn
  refine ⟨by omega, fun s hs => ?_⟩
  rcases patchFrom_mem a s h p hs with hs | ⟨x, hx, hs⟩
  · exact fa.2 s hs
  · exact (fh.2 x hx).2.2.2 s hs

theorem patched_l0 (a : List ByteArray) (h : List IH) (hn : a.length ≤ 40) (hl : h.length ≤ 20) : ∀ d i (q : Int) (p : Nat) (acc : List ByteArray), i + d = h.length → chain a.length q (h.drop i) = true → (p : Int) ≤ q + 1 → p ≤ a.length → acc.length ≤ 40 * i + p →
    Ev (fun k => impl_patched.l0 k a acc (p : Int) h (h.length : Int) (i : Int)) (acc ++ patchFrom a p (h.drop i)) := by
  intro d
  induction d with
  | zero =>
    intro i q p acc hi hc hpq hp hacc
    refine Ev.step (fun k => impl_patched.l0.eq_2 ..) (ev_neg (by omega) (ev_pos (by omega) (ev_pos (by omega) (ev_pos ?_ (ev_some ?_)))))
    · rw [List.length_drop]
      omega
    · rw [List.drop_of_length_le (l := h) (by omega), Int.toNat_natCast]
      rfl
  | succ d ih =>
    intro i q p acc hi hc hpq hp hacc
    have hlt : i < h.length := by omega
    rw [List.drop_eq_getElem_cons hlt] at hc
    rw [List.drop_eq_getElem_cons hlt]
    simp only [chain, Bool.and_eq_true, hOK, decide_eq_true_eq] at hc
    obtain ⟨⟨⟨q0, q1, q2, q3, q4, q5⟩, _⟩, hc'⟩ := hc
    refine Ev.step (fun k => impl_patched.l0.eq_2 ..) ?_
    simp only [rdIH h i hlt, Option.bind_some]
    have e1 : wrap64 (h[i].f0 + h[i].f1) = (((h[i].f0 + h[i].f1).toNat : Nat) : Int) := by rw [wrap64_id (by omega) (by omega)]; omega
    rw [e1, wrap_succ i (by omega), Int.toNat_natCast]
    have e2 : ((a.take h[i].f0.toNat).drop p).length = h[i].f0.toNat - p := by rw [List.length_drop, List.length_take]; omega
    refine ev_pos (by omega) (ev_pos (by omega) (ev_pos (by omega) (ev_pos (by omega) (ev_pos (by omega) (ev_pos (by omega) (ev_pos (by rw [e2]; omega) (ev_pos (by rw [List.length_append, e2]; omega) ?_)))))))
    refine ev_to (ih (i + 1) _ _ _ (by omega) hc' (by omega) (by omega) (by rw [List.length_append, List.length_append, e2]; omega)) ?_
    simp only [patchFrom, List.append_assoc]

theorem l2Patch_l0 (a : List ByteArray) (h : List IH) (hn : a.length ≤ 40) (hl : h.length ≤ 20) : ∀ d i (q : Int) (p : Nat) (acc : List ByteArray), i + d = h.length → chain a.length q (h.drop i) = true → (p : Int) ≤ q + 1 → p ≤ a.length → acc.length ≤ 40 * i + p →
    Ev (fun k => spec_l2Patch.l0 k a acc (p : Int) h (h.length : Int) (i : Int)) (acc ++ patchFrom a p (h.drop i)) := by
  intro d
  induction d with
  | zero =>
    intro i q p acc hi hc hpq hp hacc
    refine Ev.step (fun k => spec_l2Patch.l0.eq_2 ..) (ev_neg (by omega) (ev_pos (by omega) (ev_pos (by omega) (ev_pos ?_ (ev_some ?_)))))
    · rw [List.length_drop]
      omega
    · rw [List.drop_of_length_le (l := h) (by omega), Int.toNat_natCast]
      rfl
  | succ d ih =>
    intro i q p acc hi hc hpq hp hacc
    have hlt : i < h.length := by omega
    rw [List.drop_eq_getElem_cons hlt] at hc
    rw [List.drop_eq_getElem_cons hlt]
    simp only [chain, Bool.and_eq_true, hOK, decide_eq_true_eq] at hc
    obtain ⟨⟨⟨q0, q1, q2, q3, q4, q5⟩, _⟩, hc'⟩ := hc
    refine Ev.step (fun k => spec_l2Patch.l0.eq_2 ..) ?_
    simp only [rdIH h i hlt, Option.bind_some]
    have e1 : wrap64 (h[i].f0 + h[i].f1) = (((h[i].f0 + h[i].f1).toNat : Nat) : Int) := by rw [wrap64_id (by omega) (by omega)]; omega
    rw [e1, wrap_succ i (by omega), Int.toNat_natCast]
    have e2 : ((a.take h[i].f0.toNat).drop p).length = h[i].f0.toNat - p := by rw [List.length_drop, List.length_take]; omega
    refine ev_pos (by omega) (ev_pos (by omega) (ev_pos (by omega) (ev_pos (by omega) (ev_pos (by omega) (ev_pos (by omega) (ev_pos (by rw [e2]; omega) (ev_pos (by rw [List.length_append, e2]; omega) ?_)))))))
    refine ev_to (ih (i + 1) _ _ _ (by omega) hc' (by omega) (by omega) (by rw [List.length_append, List.length_append, e2]; omega)) ?_
    simp only [patchFrom, List.append_assoc]

def asked (a : List ByteArray) (h : List IH) : Bool := good a && goodH a.length h
def patchH (a : List ByteArray) (h : List IH) : List ByteArray := patchFrom a 0 h
def patchR (a : List ByteArray) (h : List IH) : List ByteArray × Bool := if asked a h = true ∧ good (patchH a h) = true then (patchH a h, true) else ([], false)
theorem asked_of {a : List ByteArray} {h : List IH} (c : asked a h = true) : a.length ≤ 40 ∧ h.length ≤ 20 ∧ near h ∧ chain a.length (-1) h = true := by
  unfold asked at c
  rw [Bool.and_eq_true] at c
  obtain ⟨g1, g2, g3, g4⟩ := near_of_good c.2
  have := c.2
  unfold goodH at this
  rw [Bool.and_eq_true, Bool.and_eq_true] at this
  exact ⟨good_len c.1, g2, g1, this.2.2⟩
theorem patched_ev {a : List ByteArray} {h : List IH} (c : asked a h = true) : Ev (fun k => impl_patched.f k a h) (patchH a h) := by
  obtain ⟨c1, c2, c3, c4⟩ := asked_of c
  simp only [impl_patched.f]
  exact patched_l0 a h c1 c2 h.length 0 (-1) 0 [] (by omega) c4 (by omega) (by omega) (Nat.zero_le _)
theorem l2Patch_ev {a : List ByteArray} {h : List IH} (c : asked a h = true) : Ev (fun k => spec_l2Patch.f k a h) (patchH a h) := by
  obtain ⟨c1, c2, c3, c4⟩ := asked_of c
  simp only [spec_l2Patch.f]
  exact l2Patch_l0 a h c1 c2 h.length 0 (-1) 0 [] (by omega) c4 (by omega) (by omega) (Nat.zero_le _)
theorem l2Asked_ev (a : List ByteArray) (h : List IH) (fa : FitS a) (fh : FitI h) : Ev (fun k => spec_l2Asked.f k a h) (asked a h) := by
  simp only [spec_l2Asked.f]
  unfold asked
  have hL := fa.1
  refine ev_bind (l1Good_ev a fa) (ev_ite (fun c => ?_) (fun c => ev_some ?_))
  · rw [c, Bool.true_and]
    exact ev_bind (l2Hunks_ev _ h fh (by omega) (by omega)) (ev_some rfl)
  · rw [Bool.not_eq_true] at c
    rw [c, Bool.false_and]
theorem patchR_small (a : List ByteArray) (h : List IH) : (patchR a h).1.length ≤ 40 := by
  unfold patchR
  split
  · rename_i c
    exact good_len c.2
  · exact Nat.zero_le _
theorem impl_Patch_ev (a : List ByteArray) (h : List IH) (fa : FitS a) (fh : FitI h) : Ev (fun k => impl_Patch.f k a h) (patchR a h) := by
  simp only [impl_Patch.f]
  unfold patchR
  have fin : asked a h = false → Ev (fun k => impl_Patch.j0 k a h true) (if asked a h = true ∧ good (patchH a h) = true then (patchH a h, true) else (([] : List ByteArray), false)) := by
    intro c
    rw [if_neg (fun e => by rw [c] at e; cases e.1)]
    exact Ev.step (fun k => impl_Patch.j0.eq_2 ..) (ev_pos rfl (ev_some rfl))
  refine ev_bind (goodLines_ev a fa) (ev_ite (fun c => ?_) (fun c => ?_))
  · refine ev_bind (goodHunks_ev _ h fh) ?_
    cases g : goodH a.length h with
    | false =>
      refine fin ?_
      unfold asked
      rw [g, Bool.and_false]
    | true =>
      have ca : asked a h = true := by unfold asked; rw [c, g]; rfl
      obtain ⟨c1, c2, c3, c4⟩ := asked_of ca
      refine Ev.step (fun k => impl_Patch.j0.eq_2 ..) (ev_neg (by simp) (ev_bind (patched_ev ca) (ev_bind (goodLines_ev _ (patchFrom_fit fa fh c1 c3 c2 0)) (ev_ite (fun c5 => ev_some ?_) (fun c5 => ev_some ?_)))))
      · rw [if_pos ⟨ca, c5⟩]
      · rw [if_neg (fun e => c5 e.2)]
  · refine fin ?_
    unfold asked
    rw [Bool.not_eq_true] at c
    rw [c, Bool.false_and]
theorem spec_Patch_ev (a : List ByteArray) (h : List IH) (fa : FitS a) (fh : FitI h) : Ev (fun k => spec_Patch.f k a h) (patchR a h) := by
  simp only [spec_Patch.f]
  unfold patchR
  refine ev_bind (l2Asked_ev a h fa fh) (ev_ite (fun ca => ?_) (fun ca => ev_some ?_))
  · obtain ⟨c1, c2, c3, c4⟩ := asked_of ca
    refine ev_bind (l2Patch_ev ca) (ev_bind (l1Good_ev _ (patchFrom_fit fa fh c1 c3 c2 0)) (ev_ite (fun c5 => ev_some ?_) (fun c5 => ev_some ?_)))
    · rw [if_pos (show asked a h = true ∧ good (patchH a h) = true from ⟨ca, c5⟩)]
    · rw [if_neg (show ¬ (asked a h = true ∧ good (patchH a h) = true) from fun e => c5 e.2)]
  · rw [if_neg (show ¬ (asked a h = true ∧ good (patchH a h) = true) from fun e => ca e.1)]
theorem patchR_asked {a : List ByteArray} {h : List IH} (c : (patchR a h).2 = true) : asked a h = true := by
  unfold patchR at c
  split at c
  · rename_i e
    exact e.1
  · cases c
end Go.Proofs.Ytbbkecdlapemfaa.Pl

/- Plain Lean: copies of lists of strings. Condition: lengths below 2^43. -/
namespace Go.Proofs.Ytbbkecdlapemfaa.Pl
open Go.RowKit Go.Proofs.YtbbkecdlapemfaaW.PrintWords Go.Proofs.YtbbkecdlapemfaaW.PrintLast Go.Proofs.Ytbbkecdlapemfaa.My
set_option linter.unusedVariables false
set_option linter.unusedSimpArgs false

theorem cloneT_eq (l : List ByteArray) (h : l.length < 8796093022208) : slices_Clone_string_string.f l = some l := by
  unfold slices_Clone_string_string.f
  simp [h]
theorem ownT_eq (l : List ByteArray) (h : l.length < 8796093022208) : spec_l1OwnT.f l = some l := by
  unfold spec_l1OwnT.f
  simp [h]
end Go.Proofs.Ytbbkecdlapemfaa.Pl

/- Plain Lean: how far marks of hunks go, and that they are told again. Conditions: at most 2^40 marks. -/
namespace Go.Proofs.Ytbbkecdlapemfaa.Pl
open Go.RowKit Go.Proofs.YtbbkecdlapemfaaW.PrintWords Go.Proofs.YtbbkecdlapemfaaW.PrintLast Go.Proofs.Ytbbkecdlapemfaa.My
set_option linter.unusedVariables false
set_option linter.unusedSimpArgs false

theorem bnd2 {e m s c : Nat} (h : e ≤ m + 2 * s) (hm : m ≤ c) (hs : s ≤ 1048576) : e ≤ c + 2097152 := by omega
theorem bnd4 {e m s c : Nat} (h : e ≤ m + 4 * s) (hm : m ≤ c) (hs : s ≤ 1048576) : e ≤ c + 4194304 := by omega
theorem endH_szH : ∀ (h : List LH) (m : Nat), endH (h.map toH) m ≤ m + 2 * szH h
  | [], m => by simp [endH]
  | x :: t, m => by
    have := endH_szH t (m + 2 + x.f2.length)
    simp only [szH, szS, List.map_cons, List.sum_cons, List.length_cons, endH, toH] at this ⊢
    omega
theorem endH_le : ∀ (v : List IH) (B m : Nat), (∀ x ∈ v, x.f2.length ≤ B) → endH v m ≤ m + (2 + B) * v.length
  | [], B, m, _ => by simp [endH]
  | x :: t, B, m, h => by
    have h1 := endH_le t B (m + 2 + x.f2.length) (fun y hy => h y (List.mem_cons_of_mem _ hy))
    have h2 := h x (List.mem_cons_self ..)
    simp only [List.length_cons, endH, Nat.mul_add] at h1 ⊢
    omega
end Go.Proofs.Ytbbkecdlapemfaa.Pl

/- Plain Lean: how far marks of steps go. Conditions: at most 2^40 marks. -/
namespace Go.Proofs.Ytbbkecdlapemfaa.Pl
open Go.RowKit Go.Proofs.YtbbkecdlapemfaaW.PrintWords Go.Proofs.YtbbkecdlapemfaaW.PrintLast Go.Proofs.Ytbbkecdlapemfaa.My
set_option linter.unusedVariables false
set_option linter.unusedSimpArgs false

theorem endT_szT : ∀ (h : List LT) (m : Nat), endT (h.map toT) m ≤ m + 4 * szT h
  | [], m => by simp [endT]
  | x :: t, m => by
    have := endT_szT t (m + 2 + x.f2.length + 2 + x.f5.length)
    simp only [szT, szOne, szS, List.map_cons, List.sum_cons, List.length_cons, endT, toT] at this ⊢
    omega
theorem endT_le : ∀ (v : List IT) (B m : Nat), (∀ x ∈ v, x.f2.length ≤ B ∧ x.f5.length ≤ B) → endT v m ≤ m + (4 + 2 * B) * v.length
  | [], B, m, _ => by simp [endT]
  | x :: t, B, m, h => by
    have h1 := endT_le t B (m + 2 + x.f2.length + 2 + x.f5.length) (fun y hy => h y (List.mem_cons_of_mem _ hy))
    have h2 := h x (List.mem_cons_self ..)
    simp only [List.length_cons, endT, Nat.mul_add] at h1 ⊢
    omega
end Go.Proofs.Ytbbkecdlapemfaa.Pl

/- Plain Lean: chapter 5: a step for each hunk, for the program and the reference. Conditions: lengths and sizes below 2^62. -/
namespace Go.Proofs.Ytbbkecdlapemfaa.Pl
open Go.RowKit Go.Proofs.YtbbkecdlapemfaaW.PrintWords Go.Proofs.YtbbkecdlapemfaaW.PrintLast Go.Proofs.Ytbbkecdlapemfaa.My
set_option linter.unusedVariables false
set_option linter.unusedSimpArgs false

/-- The number by which a place is written. -/
def numI (f m : Int) : Int := if m > 0 then f + 1 else f
theorem numberOf_eq (f m : Int) (h : -1000000 ≤ f ∧ f ≤ 1000000) : impl_numberOf.f f m = some (numI f m) := by
  unfold impl_numberOf.f numI
  rw [wrap64_id (by omega) (by omega)]
  split <;> rfl
theorem l4Number_eq (f m : Int) (h : -1000000 ≤ f ∧ f ≤ 1000000) : spec_l4Number.f f m = some (numI f m) := by
  unfold spec_l4Number.f numI
  rw [wrap64_id (by omega) (by omega)]
  split <;> rfl
theorem endOf_eq (f m : Int) (h : -1000000 ≤ f + m ∧ f + m ≤ 1000000) : impl_endOf.f f m = some (f + m) := by
  unfold impl_endOf.f
  rw [wrap64_id (by omega) (by omega)]
/-- A hunk's step, the text ahead having moved by s. -/
def stepOne (a : List ByteArray) (s : Int) (x : IH) : IT := ⟨numI x.f0 x.f1, x.f0 + x.f1, (a.take (x.f0 + x.f1).toNat).drop x.f0.toNat, numI (x.f0 + s) (x.f2.length : Int), x.f0 + s + (x.f2.length : Int), x.f2⟩
def stepsFrom (a : List ByteArray) : Int → List IH → List IT
  | _, [] => []
  | s, x :: t => stepOne a s x :: stepsFrom a (s + ((x.f2.length : Int) - x.f1)) t
theorem stepsFrom_len (a : List ByteArray) : ∀ (h : List IH) (s : Int), (stepsFrom a s h).length = h.length
  | [], _ => rfl
  | x :: t, s => by simp only [stepsFrom, List.length_cons, stepsFrom_len a t]
theorem stepsFrom_mem (a : List ByteArray) : ∀ (h : List IH) (s : Int) (y : IT), y ∈ stepsFrom a s h → y.f2.length ≤ a.length ∧ (∀ z ∈ y.f2, z ∈ a) ∧ ∃ x ∈ h, y.f5 = x.f2
  | [], _, y, hy => by simp [stepsFrom] at hy
  | x :: t, s, y, hy => by
    simp only [stepsFrom, List.mem_cons] at hy
    rcases hy with rfl | hy
    · exact ⟨by unfold stepOne; rw [List.length_drop, List.length_take]; omega, fun z hz => List.mem_of_mem_take (List.mem_of_mem_drop hz), x, List.mem_cons_self .., rfl⟩
    · obtain ⟨h1, h2, z, hz, e⟩ := stepsFrom_mem a t _ y hy
      exact ⟨h1, h2, z, List.mem_cons_of_mem _ hz, e⟩

theorem steps_l0 (a : List ByteArray) (h : List IH) (hn : a.length ≤ 40) (hl : h.length ≤ 20) : ∀ d i (q s : Int) (acc : List IT), i + d = h.length → chain a.length q (h.drop i) = true → -40 * (i : Int) ≤ s → s ≤ 40 * (i : Int) → acc.length ≤ i →
    Ev (fun k => impl_stepsOf.l0 k a acc s h (h.length : Int) (i : Int)) (acc ++ stepsFrom a s (h.drop i)) := by
  intro d
  induction d with
  | zero =>
    intro i q s acc hi hc h1 h2 hacc
    refine Ev.step (fun k => impl_stepsOf.l0.eq_2 ..) (ev_neg (by omega) (ev_some ?_))
    rw [List.drop_of_length_le (l := h) (by omega)]
    simp only [stepsFrom, List.append_nil]
  | succ d ih =>
    intro i q s acc hi hc h1 h2 hacc
    have hlt : i < h.length := by omega
    rw [List.drop_eq_getElem_cons hlt] at hc
    rw [List.drop_eq_getElem_cons hlt]
    simp only [chain, Bool.and_eq_true, hOK, decide_eq_true_eq] at hc
    obtain ⟨⟨⟨q0, q1, q2, q3, q4, q5⟩, _⟩, hc'⟩ := hc
    refine Ev.step (fun k => impl_stepsOf.l0.eq_2 ..) ?_
    simp only [rdIH h i hlt]
    rw [endOf_eq h[i].f0 h[i].f1 (by omega), wrap64_id (x := h[i].f0 + h[i].f1) (by omega) (by omega), wrap64_id (x := h[i].f0 + s) (by omega) (by omega), wrap64_id (x := (h[i].f2.length : Int) - h[i].f1) (by omega) (by omega), wrap64_id (x := s + ((h[i].f2.length : Int) - h[i].f1)) (by omega) (by omega), wrap_succ i (by omega)]
    have e2 : ((a.take (h[i].f0 + h[i].f1).toNat).drop h[i].f0.toNat).length < 8796093022208 := by rw [List.length_drop, List.length_take]; omega
    rw [cloneT_eq _ e2, cloneT_eq h[i].f2 (by omega), numberOf_eq h[i].f0 h[i].f1 (by omega), numberOf_eq (h[i].f0 + s) (h[i].f2.length : Int) (by omega), endOf_eq (h[i].f0 + s) (h[i].f2.length : Int) (by omega)]
    simp only [Option.bind_some]
    refine ev_pos (by omega) (ev_pos (by omega) (ev_pos (by omega) (ev_pos (by omega) (ev_pos (by omega) (ev_pos (by omega) (ev_pos (by omega) ?_))))))
    refine ev_to (ih (i + 1) _ _ _ (by omega) hc' (by omega) (by omega) (by rw [List.length_append, List.length_singleton]; omega)) ?_
    simp only [stepsFrom, stepOne, List.append_assoc, List.singleton_append]

theorem l5Steps_l0 (a : List ByteArray) (h : List IH) (hn : a.length ≤ 40) (hl : h.length ≤ 20) : ∀ d i (q s : Int) (acc : List IT), i + d = h.length → chain a.length q (h.drop i) = true → -40 * (i : Int) ≤ s → s ≤ 40 * (i : Int) → acc.length ≤ i →
    Ev (fun k => spec_l5Steps.l0 k a acc s h (h.length : Int) (i : Int)) (acc ++ stepsFrom a s (h.drop i)) := by
  intro d
  induction d with
  | zero =>
    intro i q s acc hi hc h1 h2 hacc
    refine Ev.step (fun k => spec_l5Steps.l0.eq_2 ..) (ev_neg (by omega) (ev_some ?_))
    rw [List.drop_of_length_le (l := h) (by omega)]
    simp only [stepsFrom, List.append_nil]
  | succ d ih =>
    intro i q s acc hi hc h1 h2 hacc
    have hlt : i < h.length := by omega
    rw [List.drop_eq_getElem_cons hlt] at hc
    rw [List.drop_eq_getElem_cons hlt]
    simp only [chain, Bool.and_eq_true, hOK, decide_eq_true_eq] at hc
    obtain ⟨⟨⟨q0, q1, q2, q3, q4, q5⟩, _⟩, hc'⟩ := hc
    refine Ev.step (fun k => spec_l5Steps.l0.eq_2 ..) ?_
    simp only [rdIH h i hlt]
    rw [wrap64_id (x := h[i].f0 + h[i].f1) (by omega) (by omega), wrap64_id (x := h[i].f0 + s) (by omega) (by omega), wrap64_id (x := (h[i].f2.length : Int) - h[i].f1) (by omega) (by omega), wrap64_id (x := s + ((h[i].f2.length : Int) - h[i].f1)) (by omega) (by omega), wrap_succ i (by omega)]
    have e2 : ((a.take (h[i].f0 + h[i].f1).toNat).drop h[i].f0.toNat).length < 8796093022208 := by rw [List.length_drop, List.length_take]; omega
    rw [ownT_eq _ e2, ownT_eq h[i].f2 (by omega), l4Number_eq h[i].f0 h[i].f1 (by omega), l4Number_eq (h[i].f0 + s) (h[i].f2.length : Int) (by omega), wrap64_id (x := h[i].f0 + s + (h[i].f2.length : Int)) (by omega) (by omega)]
    simp only [Option.bind_some]
    refine ev_pos (by omega) (ev_pos (by omega) (ev_pos (by omega) (ev_pos (by omega) (ev_pos (by omega) (ev_pos (by omega) (ev_pos (by omega) ?_))))))
    refine ev_to (ih (i + 1) _ _ _ (by omega) hc' (by omega) (by omega) (by rw [List.length_append, List.length_singleton]; omega)) ?_
    simp only [stepsFrom, stepOne, List.append_assoc, List.singleton_append]

def stepsR (a : List ByteArray) (h : List IH) : List IT × Bool := if (patchR a h).2 = true then (stepsFrom a 0 h, true) else ([], false)
theorem impl_NormalSteps_ev (a : List ByteArray) (h : List IH) (fa : FitS a) (fh : FitI h) : Ev (fun k => impl_NormalSteps.f k a h) (stepsR a h) := by
  simp only [impl_NormalSteps.f]
  unfold stepsR
  refine ev_bind (impl_Patch_ev a h fa fh) (ev_ite (fun c => ?_) (fun c => ev_some ?_))
  · rw [if_pos c]
    obtain ⟨c1, c2, c3, c4⟩ := asked_of (patchR_asked c)
    simp only [impl_stepsOf.f]
    exact ev_bind (steps_l0 a h c1 c2 h.length 0 (-1) 0 [] (by omega) c4 (by omega) (by omega) (Nat.zero_le _)) (ev_some rfl)
  · rw [if_neg c]
theorem spec_NormalSteps_ev (a : List ByteArray) (h : List IH) (fa : FitS a) (fh : FitI h) : Ev (fun k => spec_NormalSteps.f k a h) (stepsR a h) := by
  simp only [spec_NormalSteps.f]
  unfold stepsR
  refine ev_bind (spec_Patch_ev a h fa fh) (ev_ite (fun c => ?_) (fun c => ev_some ?_))
  · rw [if_pos c]
    obtain ⟨c1, c2, c3, c4⟩ := asked_of (patchR_asked c)
    simp only [spec_l5Steps.f]
    exact ev_bind (l5Steps_l0 a h c1 c2 h.length 0 (-1) 0 [] (by omega) c4 (by omega) (by omega) (Nat.zero_le _)) (ev_some rfl)
  · rw [if_neg c]
theorem stepsR_small (a : List ByteArray) (h : List IH) : (stepsR a h).1.length ≤ 20 ∧ ∀ y ∈ (stepsR a h).1, y.f2.length ≤ 40 ∧ y.f5.length ≤ 40 := by
  unfold stepsR
  split
  · rename_i c
    obtain ⟨c1, c2, c3, c4⟩ := asked_of (patchR_asked c)
    refine ⟨by rw [stepsFrom_len]; exact c2, fun y hy => ?_⟩
    obtain ⟨h1, _, x, hx, e⟩ := stepsFrom_mem a h 0 y hy
    have := c3 x hx
    rw [e]
    exact ⟨by omega, by omega⟩
  · exact ⟨Nat.zero_le _, fun y hy => by cases hy⟩
theorem stepsR_fit (a : List ByteArray) (h : List IH) (fa : FitS a) (fh : FitI h) : FitIT (stepsR a h).1 := by
  have hs := stepsR_small a h
  refine ⟨by omega, fun y hy => ?_⟩
  have h2 := hs.2 y hy
  unfold stepsR at hy
  split at hy
  · obtain ⟨_, h1, x, hx, e⟩ := stepsFrom_mem a h 0 y hy
    refine ⟨⟨by omega, fun s hs => fa.2 s (h1 s hs)⟩, ?_⟩
    rw [e]
    exact (fh.2 x hx).2.2
  · cases hy
theorem stepsR_end (a : List ByteArray) (h : List IH) (fa : FitS a) (fh : FitI h) : endT (stepsR a h).1 1 ≤ 1099511627776 ∧ (stepsR a h).1.length ≤ 1099511627776 := by
  have hs := stepsR_small a h
  exact ⟨Nat.le_trans (endT_le _ 40 1 (fun x hx => hs.2 x hx)) (Nat.le_trans (Nat.add_le_add_left (Nat.mul_le_mul_left _ hs.1) 1) (by decide)), Nat.le_trans hs.1 (by decide)⟩
end Go.Proofs.Ytbbkecdlapemfaa.Pl

/- Plain Lean: marks of steps are told again. Conditions: at most 2^40 marks. -/
namespace Go.Proofs.Ytbbkecdlapemfaa.Pl
open Go.RowKit Go.Proofs.YtbbkecdlapemfaaW.PrintWords Go.Proofs.YtbbkecdlapemfaaW.PrintLast Go.Proofs.Ytbbkecdlapemfaa.My
set_option linter.unusedVariables false
set_option linter.unusedSimpArgs false

theorem heldStepS_l0 (L : List IT) (E : Nat) (hE : E ≤ 1099511627776) (hL : L.length ≤ 1099511627776) : ∀ (vs : List IT) (i mm : Nat), L.drop i = mkTs vs mm → i + vs.length = L.length → endT vs mm = E → Ev (fun k => laws_heldStepS.l0 k L (mm : Int) (i : Int)) (E : Int) := by
  intro vs
  induction vs with
  | nil =>
    intro i mm _ hi he
    refine Ev.step (fun k => laws_heldStepS.l0.eq_2 ..) (ev_neg (by simp only [List.length_nil] at hi; omega) (ev_some ?_))
    rw [← he]
    rfl
  | cons x t ih =>
    intro i mm hd hi he
    simp only [List.length_cons] at hi
    have hlt : i < L.length := by omega
    rw [List.drop_eq_getElem_cons hlt] at hd
    simp only [mkTs, List.cons.injEq] at hd
    simp only [endT] at he
    have hge := endT_ge t (mm + 2 + x.f2.length + 2 + x.f5.length)
    rw [he] at hge
    have hrd : rd_T104 L (i : Int) = mkT x mm := (rdIT L i hlt).trans hd.1
    obtain ⟨b1, b2, b3, b4, b5, b6⟩ := leT_a _ _ _ _ hge hE
    refine Ev.step (fun k => laws_heldStepS.l0.eq_2 ..) ?_
    simp only [hrd, mkT]
    rw [wrT mm x.f2.length E b5 hE, wrap_succ i (by omega)]
    refine ev_pos (by omega) (ev_pos (by omega) (ev_pos trivial (ev_pos trivial (ev_bind (heldStringS_ev (mm + 2) x.f2.length b1 b2) (ev_neg (by omega) (ev_pos rfl (ev_pos rfl ?_)))))))
    rw [wrT (mm + 2 + x.f2.length) x.f5.length E b6 hE]
    exact ev_bind (heldStringS_ev (mm + 2 + x.f2.length + 2) x.f5.length b3 b4) (ev_neg (by omega) (ih (i + 1) _ hd.2 (by omega) he))
theorem mkTs_length : ∀ (v : List IT) (m : Nat), (mkTs v m).length = v.length
  | [], _ => rfl
  | x :: t, m => by simp only [mkTs, List.length_cons, mkTs_length t]
theorem heldStepS_ev (v : List IT) (m : Nat) (hE : endT v m ≤ 1099511627776) (hL : v.length ≤ 1099511627776) : Ev (fun k => laws_heldStepS.f k (mkTs v m) (m : Int)) ((endT v m : Nat) : Int) := by
  simp only [laws_heldStepS.f]
  exact heldStepS_l0 (mkTs v m) _ hE (by rw [mkTs_length]; exact hL) v 0 m rfl (by rw [mkTs_length]; omega) rfl
end Go.Proofs.Ytbbkecdlapemfaa.Pl

/- NormalSteps's law: the walk and what its helpers come to, joined. No condition but the inputs' own. -/
namespace Go.Proofs.Ytbbkecdlapemfaa.Pure
open Go.RowKit Go.Proofs.Ytbbkecdlapemfaa.My Go.Proofs.Ytbbkecdlapemfaa.Pl Go.Proofs.YtbbkecdlapemfaaW.PrintWords Go.Proofs.YtbbkecdlapemfaaW.PrintLast
set_option linter.unusedVariables false
theorem FnExactNormalSteps (l0 : List ByteArray) (l1 : List LH) (q0 : (WL Wstr) l0) (q1 : (WL W82) l1) (A0 : Option Addr) (c0 : Nat) (A1 : Option Addr) (c1 : Nat) (W : World) (hr0 : Kd.C Kd.string W A0 l0.length l0) (hc0 : l0.length ≤ c0) (hr1 : Kd.C k82 W A1 l1.length l1) (hc1 : l1.length ≤ c1) :
    Calls Try.prog 14 #[.slice A0 l0.length c0, .slice A1 l1.length c1] W fun e w' => e = .returned (.bool true) ∧ Below W.heap.size W w' := by
  have f0 := fitS_of_wl q0
  have f1 := fitH_of_wl q1
  obtain ⟨s0, hs0, hl0⟩ := szStringS_ev l0 f0 1048576 (by omega) (by omega)
  obtain ⟨ks0, es0⟩ := hs0
  by_cases h0 : s0 < 0
  · exact laws_FnExactNormalSteps_early0 (ks0) A0 c0 l0 A1 c1 l1 W hr0 hc0 hr1 hc1 s0 (es0 _ (by omega)) h0
  have z0 : szS l0 ≤ 1048576 ∧ 0 ≤ s0 ∧ s0 ≤ 1048576 := by rcases hl0 with hl0 | hl0 <;> omega
  obtain ⟨s1, hs1, hl1⟩ := szHunkS_ev l1 f1 s0 (by omega) (by omega)
  obtain ⟨ks1, es1⟩ := hs1
  by_cases h1 : s1 < 0
  · exact laws_FnExactNormalSteps_early1 (ks0 + ks1) A0 c0 l0 A1 c1 l1 W hr0 hc0 hr1 hc1 s0 (es0 _ (by omega)) h0 s1 (es1 _ (by omega)) h1
  have z1 : szH l1 ≤ 1048576 ∧ 0 ≤ s1 ∧ s1 ≤ 1048576 := by rcases hl1 with hl1 | hl1 <;> omega
  obtain ⟨kt0, et0⟩ := toStringS_ev l0 (by have := z0.1; unfold szS at this; omega)
  have g0 := f0
  have len0 : l0.length ≤ 1048576 := by have := z0.1; unfold szS at this; omega
  obtain ⟨ke0, ee0⟩ := eqStringS_ev l0 l0 g0.1
  obtain ⟨kt1, et1⟩ := toHunkS_ev l1 (smallH z1.1)
  have g1 := fitI_of f1
  have len1 : (l1.map toH).length ≤ 1048576 := by have := z1.1; rw [List.length_map]; unfold szH at this; omega
  obtain ⟨ke1, ee1⟩ := eqHunkS_ev (l1.map toH) (l1.map toH) g1
  obtain ⟨kp, ep⟩ := spec_NormalSteps_ev l0 (l1.map toH) g0 g1
  obtain ⟨ki, ei⟩ := impl_NormalSteps_ev l0 (l1.map toH) g0 g1
  have hve := stepsR_end l0 (l1.map toH) g0 g1
  have hvf := stepsR_fit l0 (l1.map toH) g0 g1
  generalize hq0 : (stepsR l0 (l1.map toH)).1 = v at *
  generalize hq1 : (stepsR l0 (l1.map toH)).2 = r0 at *
  have hp : stepsR l0 (l1.map toH) = (v, r0) := (Prod.ext hq0 hq1)
  rw [hp] at ep ei
  have hb_ : (1 : Nat) ≤ 1 := Nat.le_refl _
  have hb0 : (1 + l0.length) ≤ 1048577 := Nat.add_le_add hb_ len0
  obtain ⟨km0, em0⟩ := markStringS_ev l0 1 (Nat.le_trans len0 (by decide)) (Nat.le_trans hb_ (by decide))
  have hb1 : (endH (l1.map toH) (1 + l0.length)) ≤ 3145729 := bnd2 (endH_szH l1 (1 + l0.length)) hb0 z1.1
  obtain ⟨kh, eh⟩ := heldStepS_ev v 1 hve.1 hve.2
  obtain ⟨kv, ev⟩ := eqStepS_ev v v hvf
  obtain ⟨k, hk⟩ : ∃ k, ks0 + ks1 + kt0 + ke0 + kt1 + ke1 + kp + ki + km0 + kh + kv ≤ k := ⟨_, Nat.le_refl _⟩
  exact laws_FnExactNormalSteps_true k A0 c0 l0 A1 c1 l1 W hr0 hc0 hr1 hc1 s0 (es0 k (by omega)) h0 s1 (es1 k (by omega)) h1 l0 (et0 k (by omega)) ((ee0 k (by omega)).trans (by simp)) (l1.map toH) (et1 k (by omega)) ((ee1 k (by omega)).trans (by simp)) v r0 (ep k (by omega)) (ei k (by omega)) ((ev k (by omega)).trans (by simp)) (em0 k (by omega)) (Nat.le_trans hb1 (by decide)) (Nat.le_trans len1 (by decide)) hve.1 hve.2 (eh k (by omega))
end Go.Proofs.Ytbbkecdlapemfaa.Pure

/- The Go function loop.example/g00825/laws.FnExactNormalSteps returns true for every input, and each argument reads afterwards as it read before. No condition. -/
namespace Go.Proofs.Ytbbkecdlapemfaa.fnExactNormalSteps
open Go.ChangeShapes Go.WideShapes Go.ChangeAt Go.RowKit Go.Joins Go.Proofs.Ytbbkecdlapemfaa.Opens Go.Proofs.Ytbbkecdlapemfaa.My
open Go.ChangeMaps (open_string shut_string)
set_option linter.unusedVariables false
set_option linter.unusedSimpArgs false
theorem own : ownKnob Try.prog.godebug = none := by kernel_rfl
theorem laidOut : laidOutB Try.prog = true := by kernel_rfl
set_option maxRecDepth 100000 in
theorem lifted (os : Os) (started : os.Started) (H : Type) (enc : TypeId × Value → H) :
    ReturnsInHanded {} Try.checked os 14 .any (Rows.fnExactNormalStepsSpec.pre6 enc Try.prog Try.f14 Rows.fnExactNormalStepsRow.domain false) (Rows.fnExactNormalStepsSpec.post enc Try.prog Try.f14 false true false false) := by
  refine returnsInHanded_of_change_sized (C := Try.checked) own started (by kernel_rfl) Try.func14
    (ChangeSpec.witness6 (enc := enc) (C := Try.checked) false ⟨#[], #[.slice none 0 0, .slice none 0 0], []⟩ 8 (by kernel_rfl) (by kernel_rfl) (by kernel_rfl) (by kernel_rfl)) ?_
  intro W base args ds gs before hval0 hW hcnd hsz0 _
  have hval : ∀ (j : Nat) t v, Try.f14.params[j]? = some t → args[j]? = some v → Value.okWide Try.prog W .any base t v := hval0
  have hW' := hW
  obtain ⟨p, q, hA0, hV, rfl, hfz, hnd⟩ := hW
  have hA : DataW.TrodAll enc Try.prog W 0 (fun _ => true) true Try.f14.params.toList args.toList ds p := hA0
  rw [Try.params14] at hA hval
  obtain ⟨v0, vs0, d0, ds0, p0, q0, hargs, rfl, rfl, h0, r0⟩ := trodAll_cons hA
  obtain ⟨v1, vs1, d1, ds1, p1, q1, rfl, rfl, rfl, h1, r1⟩ := trodAll_cons r0
  obtain ⟨rfl, rfl, rfl⟩ := trodAll_nil r1
  obtain rfl : args = #[v0, v1] := by cases args; simp_all
  obtain ⟨rfl, rfl⟩ := trodVars_none hV
  obtain ⟨A0, n0, c0, rfl⟩ := okWide_slice Try.underlying29 (hval 0 29 v0 rfl rfl)
  have k0 := h0
  have lt0 : ∀ x ∈ p0, x.block < W.heap.size := by obtain ⟨m, hm⟩ := k0; exact DataW.trod_lt m _ _ _ hm
  obtain ⟨l0, rfl, hc0, hr0, q0_⟩ := Opens.row (opens_slice Try.underlying29 (by kernel_rfl) (opens_string Try.underlying9)) h0
  obtain ⟨A1, n1, c1, rfl⟩ := okWide_slice Try.underlying22 (hval 1 22 v1 rfl rfl)
  have k1 := h1
  have lt1 : ∀ x ∈ p1, x.block < W.heap.size := by obtain ⟨m, hm⟩ := k1; exact DataW.trod_lt m _ _ _ hm
  obtain ⟨l1, rfl, hc1, hr1, q1_⟩ := Opens.row (opens_slice Try.underlying22 (by kernel_rfl) opens82) h1
  clear hA0 hval0 hsz0
  refine (Pure.FnExactNormalSteps l0 l1 q0_ q1_ _ _ _ _ W hr0 hc0 hr1 hc1).mono fun e W' hh => ?_
  obtain ⟨rfl, hd⟩ := hh
  have bel : Below W.heap.size W W' := hd
  exact ⟨_, rfl, _, _, _, [], _, [], hW', trodAll_mk1 (shut_bool Try.underlying4 _), (trodAll_cons_mk (Below.trod laidOut (by kernel_rfl) (of_decide_eq_true (by kernel_rfl)) k0 bel lt0) (trodAll_cons_mk (Below.trod laidOut (by kernel_rfl) (of_decide_eq_true (by kernel_rfl)) k1 bel lt1) trodAll_mk0)), rfl, bel.frame _, fun h => by cases h⟩
theorem over : Rows.fnExactNormalStepsRow.holds Try.pinned (OpenSpec.ofChange Rows.fnExactNormalStepsSpec) :=
  OpenClaim.holds_of_wide 14 Try.f14 rfl rfl rfl rfl rfl rfl rfl ⟨rfl, rfl, rfl, rfl, rfl⟩ rfl rfl rfl rfl rfl (by kernel_rfl) Try.func14 (by kernel_rfl)
    (of_decide_eq_true (by kernel_rfl)) (by unfold Func.isWrapper; first | (rw [if_pos (by decide +kernel)]; kernel_rfl) | (rw [if_neg (by decide +kernel)]; exact ⟨rfl, rfl⟩))
    (fun os started H enc _ => lifted os started H enc)
theorem proved : Rows.FnExactNormalStepsSaid := over
#print axioms proved
end Go.Proofs.Ytbbkecdlapemfaa.fnExactNormalSteps
namespace Go.Proofs.Ytbbkecdlapemfaa
/-- The row, under a short name, for the claim. -/
theorem fnExactNormalSteps_holds : Rows.FnExactNormalStepsSaid := fnExactNormalSteps.proved
end Go.Proofs.Ytbbkecdlapemfaa
