/- Part 7 of 7 of a proof of this sentence: The Go function loop.example/g00825/laws.FnTrimmed returns true for every input, and each argument reads afterwards as it read before. No condition. -/
import Derived.Test.YtmcldkobejhaeaaRows
import Derived.WalkKit
import Derived.ProofKit
import Derived.OpenShut
import Derived.ShutString
import Derived.ChangeOld
import Derived.Below
import Derived.SizedLaws
import Derived.Lib.SmallJoins
import Derived.Test.YtmcldkobejhaeaaCFnTrimmed6
/- Plain Lean: chapter 2: hunks trimmed, for the program and the reference. Conditions: lengths and sizes below 2^62. -/
namespace Go.Proofs.Ytmcldkobejhaeaa.Pl
open Go.RowKit Go.Proofs.YtmcldkobejhaeaaW.PrintWords Go.Proofs.YtmcldkobejhaeaaW.PrintLast Go.Proofs.Ytmcldkobejhaeaa.My
set_option linter.unusedVariables false
set_option linter.unusedSimpArgs false
theorem behind_le (a b : List ByteArray) : ahead a b + behind a b ≤ a.length ∧ ahead a b + behind a b ≤ b.length := by
  have := ahead_le a b
  unfold behind
  omega
def trimOne (a : List ByteArray) (x : IH) : IH := ⟨x.f0 + (ahead ((a.take (x.f0 + x.f1).toNat).drop x.f0.toNat) x.f2 : Nat), x.f1 - (ahead ((a.take (x.f0 + x.f1).toNat).drop x.f0.toNat) x.f2 : Nat) - (behind ((a.take (x.f0 + x.f1).toNat).drop x.f0.toNat) x.f2 : Nat), (x.f2.take (x.f2.length - behind ((a.take (x.f0 + x.f1).toNat).drop x.f0.toNat) x.f2)).drop (ahead ((a.take (x.f0 + x.f1).toNat).drop x.f0.toNat) x.f2)⟩
def trimFrom (a : List ByteArray) : List IH → List IH
  | [] => []
  | x :: t => if 0 < (trimOne a x).f1 ∨ 0 < (trimOne a x).f2.length then trimOne a x :: trimFrom a t else trimFrom a t
theorem trimFrom_mem (a : List ByteArray) : ∀ (h : List IH) (y : IH), y ∈ trimFrom a h → ∃ x ∈ h, y = trimOne a x
  | [], y, hy => by simp [trimFrom] at hy
  | x :: t, y, hy => by
    simp only [trimFrom] at hy
    split at hy
    · rcases List.mem_cons.1 hy with rfl | hy
      · exact ⟨x, List.mem_cons_self .., rfl⟩
      · obtain ⟨z, hz, e⟩ := trimFrom_mem a t y hy
        exact ⟨z, List.mem_cons_of_mem _ hz, e⟩
    · obtain ⟨z, hz, e⟩ := trimFrom_mem a t y hy
      exact ⟨z, List.mem_cons_of_mem _ hz, e⟩
theorem trimFrom_len (a : List ByteArray) : ∀ (h : List IH), (trimFrom a h).length ≤ h.length
  | [] => Nat.le_refl _
  | x :: t => by
    have := trimFrom_len a t
    simp only [trimFrom]
    split <;> simp only [List.length_cons] <;> omega
theorem trimOne_f2 (a : List ByteArray) (x : IH) : (trimOne a x).f2.length ≤ x.f2.length ∧ ∀ z ∈ (trimOne a x).f2, z ∈ x.f2 := by
  unfold trimOne
  exact ⟨by simp only [List.length_drop, List.length_take]; omega, fun z hz => List.mem_of_mem_take (List.mem_of_mem_drop hz)⟩
theorem trim_l0 (a : List ByteArray) (h : List IH) (hn : a.length ≤ 40) (hl : h.length ≤ 20) : ∀ d i (q : Int) (acc : List IH), i + d = h.length → chain a.length q (h.drop i) = true → acc.length ≤ i →
    Ev (fun k => impl_TrimHunks.l0 k a acc h (h.length : Int) (i : Int)) ((acc ++ trimFrom a (h.drop i), true)) := by
  intro d
  induction d with
  | zero =>
    intro i q acc hi hc hacc
    refine Ev.step (fun k => impl_TrimHunks.l0.eq_2 ..) (ev_neg (by omega) (ev_some ?_))
    rw [List.drop_of_length_le (l := h) (by omega)]
    simp only [trimFrom, List.append_nil]
  | succ d ih =>
    intro i q acc hi hc hacc
    have hlt : i < h.length := by omega
    rw [List.drop_eq_getElem_cons hlt] at hc
    rw [List.drop_eq_getElem_cons hlt]
    simp only [chain, Bool.and_eq_true, hOK, decide_eq_true_eq] at hc
    obtain ⟨⟨⟨q0, q1, q2, q3, q4, q5⟩, _⟩, hc'⟩ := hc
    have goAdd : (0 < (trimOne a h[i]).f1 ∨ 0 < (trimOne a h[i]).f2.length) → Ev (fun k => impl_TrimHunks.l0 k a (acc ++ [trimOne a h[i]]) h (h.length : Int) ((i + 1 : Nat) : Int)) ((acc ++ trimFrom a (h[i] :: h.drop (i + 1)), true)) := by
      intro hk
      refine ev_to (ih (i + 1) _ _ (by omega) hc' (by rw [List.length_append, List.length_singleton]; omega)) ?_
      simp only [trimFrom, if_pos hk, List.append_assoc, List.singleton_append]
    have goSkip : ¬ (0 < (trimOne a h[i]).f1 ∨ 0 < (trimOne a h[i]).f2.length) → Ev (fun k => impl_TrimHunks.l0 k a acc h (h.length : Int) ((i + 1 : Nat) : Int)) ((acc ++ trimFrom a (h[i] :: h.drop (i + 1)), true)) := by
      intro hk
      refine ev_to (ih (i + 1) _ _ (by omega) hc' (by omega)) ?_
      simp only [trimFrom, if_neg hk]
    refine Ev.step (fun k => impl_TrimHunks.l0.eq_2 ..) ?_
    simp only [rdIH h i hlt]
    generalize hx : h[i] = x at *
    rw [wrap64_id (x := x.f0 + x.f1) (by omega) (by omega), wrap_succ i (by omega)]
    have ec : ((a.take (x.f0 + x.f1).toNat).drop x.f0.toNat).length = x.f1.toNat := by rw [List.length_drop, List.length_take]; omega
    have hu := behind_le ((a.take (x.f0 + x.f1).toNat).drop x.f0.toNat) x.f2
    unfold trimOne at goAdd goSkip
    generalize (a.take (x.f0 + x.f1).toNat).drop x.f0.toNat = c at *
    refine ev_pos (by omega) (ev_pos (by omega) (ev_pos (by omega) (ev_pos (by omega) (ev_pos (by omega) (ev_pos (by omega) (ev_bind (sameAhead_ev c x.f2 (by omega) (by omega)) (ev_bind (sameBehind_ev c x.f2 (by omega) (by omega)) ?_)))))))
    simp only at goAdd goSkip
    generalize ahead c x.f2 = u at *
    generalize behind c x.f2 = v at *
    rw [wrap_sub x.f2.length v (by omega) (by omega), Int.toNat_natCast, Int.toNat_natCast]
    have e3 : ((x.f2.take (x.f2.length - v)).drop u).length = x.f2.length - v - u := by rw [List.length_drop, List.length_take]; omega
    rw [cloneT_eq _ (by rw [e3]; omega)]
    simp only [Option.bind_some]
    rw [wrap64_id (x := x.f1 - (u : Int)) (by omega) (by omega), wrap64_id (x := x.f1 - (u : Int) - (v : Int)) (by omega) (by omega), wrap64_id (x := x.f0 + (u : Int)) (by omega) (by omega)]
    generalize (x.f2.take (x.f2.length - v)).drop u = n at *
    refine ev_pos (by omega) (ev_pos (by omega) (ev_pos (by omega) ?_))
    refine ev_ite (fun c1 => ev_pos (by omega) (goAdd (.inl c1))) (fun c1 => ev_ite (fun c2 => ev_pos (by omega) (goAdd (.inr (by omega)))) (fun c2 => goSkip (fun e => ?_)))
    rcases e with e | e <;> omega
theorem l2Trim_l0 (a : List ByteArray) (h : List IH) (hn : a.length ≤ 40) (hl : h.length ≤ 20) : ∀ d i (q : Int) (acc : List IH), i + d = h.length → chain a.length q (h.drop i) = true → acc.length ≤ i →
    Ev (fun k => spec_l2Trim.l0 k a acc h (h.length : Int) (i : Int)) (acc ++ trimFrom a (h.drop i)) := by
  intro d
  induction d with
  | zero =>
    intro i q acc hi hc hacc
    refine Ev.step (fun k => spec_l2Trim.l0.eq_2 ..) (ev_neg (by omega) (ev_some ?_))
    rw [List.drop_of_length_le (l := h) (by omega)]
    simp only [trimFrom, List.append_nil]
  | succ d ih =>
    intro i q acc hi hc hacc
    have hlt : i < h.length := by omega
    rw [List.drop_eq_getElem_cons hlt] at hc
    rw [List.drop_eq_getElem_cons hlt]
    simp only [chain, Bool.and_eq_true, hOK, decide_eq_true_eq] at hc
    obtain ⟨⟨⟨q0, q1, q2, q3, q4, q5⟩, _⟩, hc'⟩ := hc
    have goAdd : (0 < (trimOne a h[i]).f1 ∨ 0 < (trimOne a h[i]).f2.length) → Ev (fun k => spec_l2Trim.l0 k a (acc ++ [trimOne a h[i]]) h (h.length : Int) ((i + 1 : Nat) : Int)) (acc ++ trimFrom a (h[i] :: h.drop (i + 1))) := by
      intro hk
      refine ev_to (ih (i + 1) _ _ (by omega) hc' (by rw [List.length_append, List.length_singleton]; omega)) ?_
      simp only [trimFrom, if_pos hk, List.append_assoc, List.singleton_append]
    have goSkip : ¬ (0 < (trimOne a h[i]).f1 ∨ 0 < (trimOne a h[i]).f2.length) → Ev (fun k => spec_l2Trim.l0 k a acc h (h.length : Int) ((i + 1 : Nat) : Int)) (acc ++ trimFrom a (h[i] :: h.drop (i + 1))) := by
      intro hk
      refine ev_to (ih (i + 1) _ _ (by omega) hc' (by omega)) ?_
      simp only [trimFrom, if_neg hk]
    refine Ev.step (fun k => spec_l2Trim.l0.eq_2 ..) ?_
    simp only [rdIH h i hlt]
    generalize hx : h[i] = x at *
    rw [wrap64_id (x := x.f0 + x.f1) (by omega) (by omega), wrap_succ i (by omega)]
    have ec : ((a.take (x.f0 + x.f1).toNat).drop x.f0.toNat).length = x.f1.toNat := by rw [List.length_drop, List.length_take]; omega
    have hu := behind_le ((a.take (x.f0 + x.f1).toNat).drop x.f0.toNat) x.f2
    unfold trimOne at goAdd goSkip
    generalize (a.take (x.f0 + x.f1).toNat).drop x.f0.toNat = c at *
    refine ev_pos (by omega) (ev_pos (by omega) (ev_pos (by omega) (ev_pos (by omega) (ev_pos (by omega) (ev_pos (by omega) (ev_bind (l1Ahead_ev c x.f2 (by omega)) (ev_bind (l1Behind_ev c x.f2 (by omega) (by omega)) ?_)))))))
    simp only at goAdd goSkip
    generalize ahead c x.f2 = u at *
    generalize behind c x.f2 = v at *
    rw [wrap_sub x.f2.length v (by omega) (by omega), Int.toNat_natCast, Int.toNat_natCast]
    have e3 : ((x.f2.take (x.f2.length - v)).drop u).length = x.f2.length - v - u := by rw [List.length_drop, List.length_take]; omega
    rw [ownT_eq _ (by rw [e3]; omega)]
    simp only [Option.bind_some]
    rw [wrap64_id (x := x.f1 - (u : Int)) (by omega) (by omega), wrap64_id (x := x.f1 - (u : Int) - (v : Int)) (by omega) (by omega), wrap64_id (x := x.f0 + (u : Int)) (by omega) (by omega)]
    generalize (x.f2.take (x.f2.length - v)).drop u = n at *
    refine ev_pos (by omega) (ev_pos (by omega) (ev_pos (by omega) ?_))
    rw [wrap64_id (x := x.f1 - (u : Int) - (v : Int) + (n.length : Int)) (by omega) (by omega)]
    refine ev_ite (fun c1 => ev_pos (by omega) (goAdd (by omega))) (fun c1 => goSkip (fun e => ?_))
    rcases e with e | e <;> omega
def trimR (a : List ByteArray) (h : List IH) : List IH × Bool := if (patchR a h).2 = true then (trimFrom a h, true) else ([], false)
theorem patchR_asked' {a : List ByteArray} {h : List IH} (c : (patchR a h).2 = true) : asked a h = true := by
  unfold patchR at c
  split at c
  · rename_i e
    exact e.1
  · cases c
theorem impl_TrimHunks_ev (a : List ByteArray) (h : List IH) (fa : FitS a) (fh : FitI h) : Ev (fun k => impl_TrimHunks.f k a h) (trimR a h) := by
  simp only [impl_TrimHunks.f]
  unfold trimR
  refine ev_bind (impl_Patch_ev a h fa fh) (ev_ite (fun c => ?_) (fun c => ev_some ?_))
  · rw [if_pos c]
    obtain ⟨c1, c2, c3, c4⟩ := asked_of (patchR_asked' c)
    exact trim_l0 a h c1 c2 h.length 0 (-1) [] (by omega) c4 (Nat.zero_le _)
  · rw [if_neg c]
theorem spec_TrimHunks_ev (a : List ByteArray) (h : List IH) (fa : FitS a) (fh : FitI h) : Ev (fun k => spec_TrimHunks.f k a h) (trimR a h) := by
  simp only [spec_TrimHunks.f]
  unfold trimR
  refine ev_bind (spec_Patch_ev a h fa fh) (ev_ite (fun c => ?_) (fun c => ev_some ?_))
  · obtain ⟨c1, c2, c3, c4⟩ := asked_of (patchR_asked' c)
    have e : Ev (fun k => spec_l2Trim.f k a h) (trimFrom a h) := by
      simp only [spec_l2Trim.f]
      exact l2Trim_l0 a h c1 c2 h.length 0 (-1) [] (by omega) c4 (Nat.zero_le _)
    refine ev_bind e (ev_some ?_)
    rw [if_pos c]
  · rw [if_neg c]
theorem trimR_small (a : List ByteArray) (h : List IH) : (trimR a h).1.length ≤ 20 ∧ ∀ x ∈ (trimR a h).1, 0 ≤ x.f2.length ∧ x.f2.length ≤ 100 := by
  unfold trimR
  split
  · rename_i c
    obtain ⟨c1, c2, c3, c4⟩ := asked_of (patchR_asked' c)
    refine ⟨Nat.le_trans (trimFrom_len a h) c2, fun x hx => ⟨Nat.zero_le _, ?_⟩⟩
    obtain ⟨y, hy, rfl⟩ := trimFrom_mem a h x hx
    have h1 := (trimOne_f2 a y).1
    have h2 := c3 y hy
    omega
  · exact ⟨Nat.zero_le _, fun x hx => by simp at hx⟩
theorem trimR_fit (a : List ByteArray) (h : List IH) (fa : FitS a) (fh : FitI h) : ∀ x ∈ (trimR a h).1, FitS x.f2 := by
  unfold trimR
  split
  · intro x hx
    obtain ⟨y, hy, rfl⟩ := trimFrom_mem a h x hx
    have h1 := trimOne_f2 a y
    have h2 := (fh.2 y hy).2.2
    exact ⟨Nat.le_trans h1.1 h2.1, fun z hz => h2.2 z (h1.2 z hz)⟩
  · intro x hx
    simp at hx
end Go.Proofs.Ytmcldkobejhaeaa.Pl
/- Plain Lean: hunks in order, and how many lines more they make. No condition. -/
namespace Go.Proofs.Ytmcldkobejhaeaa.Pl
open Go.RowKit Go.Proofs.YtmcldkobejhaeaaW.PrintWords Go.Proofs.YtmcldkobejhaeaaW.PrintLast Go.Proofs.Ytmcldkobejhaeaa.My
set_option linter.unusedVariables false
set_option linter.unusedSimpArgs false
def chain' (n : Int) : Int → List IH → Prop
  | _, [] => True
  | p, x :: t => (0 ≤ x.f0 ∧ 0 ≤ x.f1 ∧ x.f0 + x.f1 ≤ n ∧ p < x.f0) ∧ chain' n (x.f0 + x.f1) t
theorem chain_mem {n : Int} : ∀ (h : List IH) (p : Int), chain' n p h → ∀ y ∈ h, p < y.f0
  | x :: t, p, hc, y, hy => by
    simp only [chain'] at hc
    rcases List.mem_cons.1 hy with rfl | hy
    · exact hc.1.2.2.2
    · have := chain_mem t _ hc.2 y hy
      omega
end Go.Proofs.Ytmcldkobejhaeaa.Pl
/- Plain Lean: when a text can be patched, and what comes. No condition. -/
namespace Go.Proofs.Ytmcldkobejhaeaa.Pl
open Go.RowKit Go.Proofs.YtmcldkobejhaeaaW.PrintWords Go.Proofs.YtmcldkobejhaeaaW.PrintLast Go.Proofs.Ytmcldkobejhaeaa.My
set_option linter.unusedVariables false
set_option linter.unusedSimpArgs false
theorem chain'_ofB {n : Int} : ∀ (h : List IH) (p : Int), chain n p h = true → chain' n p h
  | [], _, _ => trivial
  | x :: t, p, hc => by
    simp only [chain, hOK, Bool.and_eq_true, decide_eq_true_eq] at hc
    obtain ⟨⟨⟨c0, c1, c2, c4, c5, c3⟩, c6⟩, hc'⟩ := hc
    exact ⟨⟨c0, c1, c2, c3⟩, chain'_ofB t _ hc'⟩
theorem patchR_val' {a : List ByteArray} {h : List IH} (c : (patchR a h).2 = true) : (patchR a h).1 = patchFrom a 0 h := by
  unfold patchR at c ⊢
  split
  · rfl
  · rename_i e; rw [if_neg e] at c; cases c
theorem patchR_good {a : List ByteArray} {h : List IH} (c : (patchR a h).2 = true) : good (patchR a h).1 = true := by
  unfold patchR at c ⊢
  split
  · rename_i e; exact e.2
  · rename_i e; rw [if_neg e] at c; cases c
theorem patchR_of {a y : List ByteArray} {h : List IH} (c1 : asked a h = true) (c2 : patchFrom a 0 h = y) (c3 : good y = true) : patchR a h = (y, true) := by
  unfold patchR patchH
  rw [c2, if_pos ⟨c1, c3⟩]
theorem dropMid (y : List ByteArray) (j k : Nat) (h : j ≤ k) : (y.take k).drop j ++ y.drop k = y.drop j := by
  rcases Nat.lt_or_ge y.length k with c | c
  · rw [List.take_of_length_le (by omega), List.drop_of_length_le (by omega : y.length ≤ k), List.append_nil]
  · conv => rhs; rw [← List.take_append_drop k y]
    rw [List.drop_append_of_le_length (by rw [List.length_take]; omega)]
end Go.Proofs.Ytmcldkobejhaeaa.Pl
/- Plain Lean: how many lines go and come: the numbers. No condition. -/
namespace Go.Proofs.Ytmcldkobejhaeaa.Pl
open Go.RowKit Go.Proofs.YtmcldkobejhaeaaW.PrintWords Go.Proofs.YtmcldkobejhaeaaW.PrintLast Go.Proofs.Ytmcldkobejhaeaa.My
set_option linter.unusedVariables false
set_option linter.unusedSimpArgs false
def goneV : List IH → Int
  | [] => 0
  | x :: t => x.f1 + goneV t
def comeV : List IH → Int
  | [] => 0
  | x :: t => (x.f2.length : Int) + comeV t
theorem goneV_le : ∀ (h : List IH), near h → 0 ≤ goneV h ∧ goneV h ≤ 40 * h.length
  | [], _ => by simp [goneV]
  | x :: t, hn => by
    have h1 := hn x (List.mem_cons_self ..)
    have h2 := goneV_le t (fun y hy => hn y (List.mem_cons_of_mem _ hy))
    simp only [goneV, List.length_cons]
    omega
theorem comeV_le : ∀ (h : List IH), near h → 0 ≤ comeV h ∧ comeV h ≤ 40 * h.length
  | [], _ => by simp [comeV]
  | x :: t, hn => by
    have h1 := hn x (List.mem_cons_self ..)
    have h2 := comeV_le t (fun y hy => hn y (List.mem_cons_of_mem _ hy))
    simp only [comeV, List.length_cons]
    omega
end Go.Proofs.Ytmcldkobejhaeaa.Pl
/- Plain Lean: trimmed hunks do the same, and trimmed twice they are trimmed once. Asked: hunks in order. -/
namespace Go.Proofs.Ytmcldkobejhaeaa.Pl
open Go.RowKit Go.Proofs.YtmcldkobejhaeaaW.PrintWords Go.Proofs.YtmcldkobejhaeaaW.PrintLast Go.Proofs.Ytmcldkobejhaeaa.My
set_option linter.unusedVariables false
set_option linter.unusedSimpArgs false
theorem ahead_take : ∀ (a b : List ByteArray), a.take (ahead a b) = b.take (ahead a b)
  | [], b => by simp [ahead]
  | x :: a, [] => by simp [ahead]
  | x :: a, y :: b => by
    simp only [ahead]
    split
    · rename_i e
      rw [e, List.take_succ_cons, List.take_succ_cons, ahead_take a b]
    · simp
theorem ahead_stop : ∀ (a b : List ByteArray) (h1 : ahead a b < a.length) (h2 : ahead a b < b.length), a[ahead a b] ≠ b[ahead a b]
  | [], b, h1, _ => by simp at h1
  | x :: a, [], _, h2 => by simp at h2
  | x :: a, y :: b, h1, h2 => by
    by_cases e : x = y
    · have ee : ahead (x :: a) (y :: b) = ahead a b + 1 := by simp only [ahead]; rw [if_pos e]
      simp only [ee, List.length_cons] at h1 h2
      have := ahead_stop a b (by omega) (by omega)
      simp only [ee, List.getElem_cons_succ]
      exact this
    · have ee : ahead (x :: a) (y :: b) = 0 := by simp only [ahead]; rw [if_neg e]
      simp only [ee, List.getElem_cons_zero]
      exact e
theorem ahead_zero {a b : List ByteArray} (h : ∀ (h1 : 0 < a.length) (h2 : 0 < b.length), a[0] ≠ b[0]) : ahead a b = 0 := by
  cases a with
  | nil => simp [ahead]
  | cons x a =>
    cases b with
    | nil => simp [ahead]
    | cons y b =>
      have := h (by simp) (by simp)
      simp only [List.getElem_cons_zero] at this
      simp only [ahead]
      rw [if_neg this]
theorem behind_drop (a b : List ByteArray) : a.drop (a.length - behind a b) = b.drop (b.length - behind a b) := by
  have h := ahead_take a.reverse b.reverse
  have hm : behind a b ≤ ahead a.reverse b.reverse := by unfold behind; omega
  have h2 : a.reverse.take (behind a b) = b.reverse.take (behind a b) := by
    have := congrArg (List.take (behind a b)) h
    rwa [List.take_take, List.take_take, Nat.min_eq_left hm] at this
  rw [List.take_reverse, List.take_reverse] at h2
  exact List.reverse_inj.1 h2
theorem slide0 (l : List ByteArray) (p p2 f : Nat) (h1 : p ≤ p2) (h2 : p2 ≤ f) : (l.take f).drop p = (l.take p2).drop p ++ (l.take f).drop p2 := by
  have := dropMid (l.take f) p p2 h1
  rw [List.take_take, Nat.min_eq_left h2] at this
  exact this.symm
theorem patch_slide (a : List ByteArray) : ∀ (h : List IH) (p p2 : Nat), (∀ x ∈ h, (p2 : Int) ≤ x.f0) → p ≤ p2 → patchFrom a p h = (a.take p2).drop p ++ patchFrom a p2 h
  | [], p, p2, _, hp => by simp only [patchFrom]; exact (dropMid a p p2 hp).symm
  | x :: t, p, p2, hf, hp => by
    have hx := hf x (List.mem_cons_self ..)
    simp only [patchFrom]
    rw [slide0 a p p2 x.f0.toNat hp (by omega), List.append_assoc]
theorem trim_patch (a : List ByteArray) : ∀ (h : List IH) (p : Nat) (q : Int), chain' (a.length : Int) q h → (∀ x ∈ h, (p : Int) ≤ x.f0) → patchFrom a p (trimFrom a h) = patchFrom a p h
  | [], p, q, _, _ => rfl
  | x :: t, p, q, hc, hf => by
    simp only [chain'] at hc
    obtain ⟨⟨c0, c1, c2, c3⟩, hc'⟩ := hc
    have hp : (p : Int) ≤ x.f0 := hf x (List.mem_cons_self ..)
    have hnext : ∀ y ∈ t, ((x.f0 + x.f1).toNat : Int) ≤ y.f0 := fun y hy => by have := chain_mem t _ hc' y hy; omega
    obtain ⟨old, hold⟩ : ∃ old, old = (a.take (x.f0 + x.f1).toNat).drop x.f0.toNat := ⟨_, rfl⟩
    have hlen : old.length = x.f1.toNat := by rw [hold, List.length_drop, List.length_take]; omega
    have hb := behind_le old x.f2
    have t1 := ahead_take old x.f2
    have t2 := behind_drop old x.f2
    have e0 : trimOne a x = ⟨x.f0 + (ahead old x.f2 : Nat), x.f1 - (ahead old x.f2 : Nat) - (behind old x.f2 : Nat), (x.f2.take (x.f2.length - behind old x.f2)).drop (ahead old x.f2)⟩ := by rw [hold]; rfl
    generalize ahead old x.f2 = n at *
    generalize behind old x.f2 = m at *
    have mid_ : x.f2 = x.f2.take n ++ ((x.f2.take (x.f2.length - m)).drop n ++ x.f2.drop (x.f2.length - m)) := by
      rw [dropMid x.f2 n (x.f2.length - m) (by omega), List.take_append_drop]
    simp only [trimFrom, e0]
    by_cases c : 0 < x.f1 - (n : Int) - (m : Int) ∨ 0 < ((x.f2.take (x.f2.length - m)).drop n).length
    · rw [if_pos c]
      simp only [patchFrom]
      rw [show (x.f0 + (n : Int) + (x.f1 - (n : Int) - (m : Int))).toNat = x.f0.toNat + (old.length - m) from by omega, show (x.f0 + (n : Int)).toNat = x.f0.toNat + n from by omega,
        trim_patch a t (x.f0.toNat + (old.length - m)) (x.f0 + x.f1) hc' (fun y hy => by have := hnext y hy; omega), patch_slide a t (x.f0.toNat + (old.length - m)) (x.f0 + x.f1).toNat hnext (by omega)]
      have k1 : (a.take (x.f0.toNat + n)).drop p = (a.take x.f0.toNat).drop p ++ x.f2.take n := by
        rw [slide0 a p x.f0.toNat (x.f0.toNat + n) (by omega) (by omega), ← t1, hold, List.take_drop, List.take_take, Nat.min_eq_left (by omega)]
      have k2 : (a.take (x.f0 + x.f1).toNat).drop (x.f0.toNat + (old.length - m)) = x.f2.drop (x.f2.length - m) := by
        rw [← t2]
        conv => rhs; rw [hold, List.drop_drop]
        rw [← hold]
      rw [k1, k2]
      conv => rhs; rw [mid_]
      simp only [List.append_assoc]
    · rw [if_neg c, trim_patch a t p (x.f0 + x.f1) hc' (fun y hy => by have := hnext y hy; omega), patch_slide a t p (x.f0 + x.f1).toNat hnext (by omega), slide0 a p x.f0.toNat (x.f0 + x.f1).toNat (by omega) (by omega), ← hold]
      simp only [patchFrom]
      have kl : ((x.f2.take (x.f2.length - m)).drop n).length = x.f2.length - m - n := by rw [List.length_drop, List.length_take]; omega
      have k3 : old = x.f2 := by
        rw [← List.take_append_drop n old, ← List.take_append_drop n x.f2, t1]
        have u1 : n = old.length - m := by omega
        have u2 : n = x.f2.length - m := by omega
        congr 1
        conv => lhs; rw [u1]
        conv => rhs; rw [u2]
        exact t2
      rw [k3, List.append_assoc]
theorem chain_less {n : Int} : ∀ (h : List IH) (p p' : Int), chain n p h = true → p' ≤ p → chain n p' h = true
  | [], _, _, _, _ => rfl
  | x :: t, p, p', hc, hp => by
    simp only [chain, hOK, Bool.and_eq_true, decide_eq_true_eq] at hc ⊢
    obtain ⟨⟨⟨c0, c1, c2, c4, c5, c3⟩, c6⟩, hc'⟩ := hc
    exact ⟨⟨⟨c0, c1, c2, c4, c5, by omega⟩, c6⟩, hc'⟩
theorem trimOne_eq (a : List ByteArray) (x : IH) : trimOne a x = ⟨x.f0 + (ahead ((a.take (x.f0 + x.f1).toNat).drop x.f0.toNat) x.f2 : Nat), x.f1 - (ahead ((a.take (x.f0 + x.f1).toNat).drop x.f0.toNat) x.f2 : Nat) - (behind ((a.take (x.f0 + x.f1).toNat).drop x.f0.toNat) x.f2 : Nat), (x.f2.take (x.f2.length - behind ((a.take (x.f0 + x.f1).toNat).drop x.f0.toNat) x.f2)).drop (ahead ((a.take (x.f0 + x.f1).toNat).drop x.f0.toNat) x.f2)⟩ := rfl
theorem trimOne_num (a : List ByteArray) (x : IH) (c0 : 0 ≤ x.f0) (c1 : 0 ≤ x.f1) (c2 : x.f0 + x.f1 ≤ a.length) :
    x.f0 ≤ (trimOne a x).f0 ∧ 0 ≤ (trimOne a x).f1 ∧ (trimOne a x).f0 + (trimOne a x).f1 ≤ x.f0 + x.f1 ∧ x.f1 - (trimOne a x).f1 = (x.f2.length : Int) - ((trimOne a x).f2.length : Nat) ∧ (trimOne a x).f2.length ≤ x.f2.length ∧ (trimOne a x).f1 ≤ x.f1 := by
  have hlen : ((a.take (x.f0 + x.f1).toNat).drop x.f0.toNat).length = x.f1.toNat := by rw [List.length_drop, List.length_take]; omega
  have hb := behind_le ((a.take (x.f0 + x.f1).toNat).drop x.f0.toNat) x.f2
  unfold trimOne
  generalize (a.take (x.f0 + x.f1).toNat).drop x.f0.toNat = old at *
  simp only [List.length_drop, List.length_take]
  omega
theorem trim_chain (a : List ByteArray) : ∀ (h : List IH) (p : Int), chain a.length p h = true → chain a.length p (trimFrom a h) = true
  | [], _, _ => rfl
  | x :: t, p, hc => by
    simp only [chain, hOK, Bool.and_eq_true, decide_eq_true_eq] at hc
    obtain ⟨⟨⟨c0, c1, c2, c4, c5, c3⟩, c6⟩, hc'⟩ := hc
    obtain ⟨n1, n2, n3, n4, n5, n6⟩ := trimOne_num a x c0 c1 c2
    have hf := (trimOne_f2 a x).2
    simp only [trimFrom]
    have ih := trim_chain a t _ hc'
    split
    · rename_i c
      simp only [chain, hOK, Bool.and_eq_true, decide_eq_true_eq]
      refine ⟨⟨⟨by omega, n2, by omega, by omega, by omega, by omega⟩, ?_⟩, chain_less _ _ _ ih (by omega)⟩
      rw [List.all_eq_true] at c6 ⊢
      exact fun z hz => c6 z (hf z hz)
    · exact chain_less _ _ _ ih (by omega)
theorem trim_counts (a : List ByteArray) : ∀ (h : List IH) (p : Int), chain a.length p h = true → goneV (trimFrom a h) ≤ goneV h ∧ comeV (trimFrom a h) ≤ comeV h ∧ goneV h - goneV (trimFrom a h) = comeV h - comeV (trimFrom a h)
  | [], _, _ => by simp [trimFrom]
  | x :: t, p, hc => by
    simp only [chain, hOK, Bool.and_eq_true, decide_eq_true_eq] at hc
    obtain ⟨⟨⟨c0, c1, c2, c4, c5, c3⟩, c6⟩, hc'⟩ := hc
    obtain ⟨n1, n2, n3, n4, n5, n6⟩ := trimOne_num a x c0 c1 c2
    have ih := trim_counts a t _ hc'
    simp only [trimFrom]
    split
    · simp only [goneV, comeV]; omega
    · simp only [goneV, comeV]; omega
theorem behind_zero {a b : List ByteArray} (h : ∀ (h1 : 0 < a.length) (h2 : 0 < b.length), a[a.length - 1] ≠ b[b.length - 1]) : behind a b = 0 := by
  have : ahead a.reverse b.reverse = 0 := ahead_zero (fun h1 h2 => by
    rw [List.length_reverse] at h1 h2
    rw [List.getElem_reverse, List.getElem_reverse]
    exact h h1 h2)
  unfold behind
  omega
theorem mid_zero (u v : List ByteArray) : ahead ((u.take (u.length - behind u v)).drop (ahead u v)) ((v.take (v.length - behind u v)).drop (ahead u v)) = 0 ∧ behind ((u.take (u.length - behind u v)).drop (ahead u v)) ((v.take (v.length - behind u v)).drop (ahead u v)) = 0 := by
  have hb := behind_le u v
  constructor
  · refine ahead_zero (fun h1 h2 => ?_)
    simp only [List.length_drop, List.length_take] at h1 h2
    have := ahead_stop u v (by omega) (by omega)
    simpa only [List.getElem_drop, List.getElem_take, Nat.add_zero] using this
  · refine behind_zero (fun h1 h2 => ?_)
    simp only [List.length_drop, List.length_take] at h1 h2
    have hm : behind u v = ahead u.reverse v.reverse := by unfold behind at h1 h2 ⊢; omega
    have := ahead_stop u.reverse v.reverse (by rw [List.length_reverse]; omega) (by rw [List.length_reverse]; omega)
    rw [List.getElem_reverse, List.getElem_reverse] at this
    simp only [List.length_drop, List.length_take, List.getElem_drop, List.getElem_take]
    simp only [← hm] at this
    have e1 : ahead u v + (min (u.length - behind u v) u.length - ahead u v - 1) = u.length - 1 - behind u v := by omega
    have e2 : ahead u v + (min (v.length - behind u v) v.length - ahead u v - 1) = v.length - 1 - behind u v := by omega
    simp only [e1, e2]
    exact this
theorem trimOne_twice (a : List ByteArray) (x : IH) (c0 : 0 ≤ x.f0) (c1 : 0 ≤ x.f1) (c2 : x.f0 + x.f1 ≤ a.length) : trimOne a (trimOne a x) = trimOne a x := by
  have hlen : ((a.take (x.f0 + x.f1).toNat).drop x.f0.toNat).length = x.f1.toNat := by rw [List.length_drop, List.length_take]; omega
  have hb := behind_le ((a.take (x.f0 + x.f1).toNat).drop x.f0.toNat) x.f2
  have hz := mid_zero ((a.take (x.f0 + x.f1).toNat).drop x.f0.toNat) x.f2
  have e : (a.take ((trimOne a x).f0 + (trimOne a x).f1).toNat).drop (trimOne a x).f0.toNat = ((((a.take (x.f0 + x.f1).toNat).drop x.f0.toNat)).take (((a.take (x.f0 + x.f1).toNat).drop x.f0.toNat).length - behind ((a.take (x.f0 + x.f1).toNat).drop x.f0.toNat) x.f2)).drop (ahead ((a.take (x.f0 + x.f1).toNat).drop x.f0.toNat) x.f2) := by
    rw [hlen]
    unfold trimOne
    simp only
    generalize ahead ((a.take (x.f0 + x.f1).toNat).drop x.f0.toNat) x.f2 = n at *
    generalize behind ((a.take (x.f0 + x.f1).toNat).drop x.f0.toNat) x.f2 = m at *
    rw [List.take_drop, List.take_take, List.drop_drop]
    congr 1
    · omega
    · congr 1
      omega
  rw [trimOne_eq a (trimOne a x), e]
  have e2 : (trimOne a x).f2 = (x.f2.take (x.f2.length - behind ((a.take (x.f0 + x.f1).toNat).drop x.f0.toNat) x.f2)).drop (ahead ((a.take (x.f0 + x.f1).toNat).drop x.f0.toNat) x.f2) := rfl
  rw [← e2] at hz
  rw [hz.1, hz.2]
  cases trimOne a x
  simp
theorem trim_trim (a : List ByteArray) : ∀ (h : List IH) (p : Int), chain a.length p h = true → trimFrom a (trimFrom a h) = trimFrom a h
  | [], _, _ => rfl
  | x :: t, p, hc => by
    simp only [chain, hOK, Bool.and_eq_true, decide_eq_true_eq] at hc
    obtain ⟨⟨⟨c0, c1, c2, c4, c5, c3⟩, c6⟩, hc'⟩ := hc
    have ih := trim_trim a t _ hc'
    simp only [trimFrom]
    split
    · rename_i c
      simp only [trimFrom]
      rw [trimOne_twice a x c0 c1 c2, if_pos c, ih]
    · exact ih
theorem trim_law {l : List ByteArray} {h : List IH} (c : (patchR l h).2 = true) :
    patchR l (trimR l h).1 = patchR l h ∧ trimR l (trimR l h).1 = trimR l h ∧ goodH (l.length : Int) (trimR l h).1 = true ∧ goneV (trimR l h).1 ≤ goneV h ∧ comeV (trimR l h).1 ≤ comeV h ∧ goneV h - goneV (trimR l h).1 = comeV h - comeV (trimR l h).1 := by
  have q := patchR_asked c
  obtain ⟨a1, a2, a3, a4⟩ := asked_of q
  have gl : good l = true := by unfold asked at q; exact (Bool.and_eq_true _ _ ▸ q).1
  have hf : ∀ x ∈ h, ((0 : Nat) : Int) ≤ x.f0 := fun x hx => by have := (a3 x hx).1; omega
  have ht : trimR l h = (trimFrom l h, true) := by unfold trimR; rw [if_pos c]
  have gH : goodH (l.length : Int) (trimFrom l h) = true := by
    unfold goodH
    rw [(inB_iff _ _ _).2 ⟨by omega, by omega⟩, Bool.true_and, decide_eq_true (Nat.le_trans (trimFrom_len l h) a2), Bool.true_and]
    exact trim_chain l h (-1) a4
  have tc := trim_counts l h (-1) a4
  have P : patchR l (trimFrom l h) = patchR l h := by
    rw [patchR_of (a := l) (h := trimFrom l h) (y := patchFrom l 0 h) (by unfold asked; rw [gl, gH]; rfl) (trim_patch l h 0 (-1) (chain'_ofB h _ a4) hf) (by rw [← patchR_val' c]; exact patchR_good c)]
    exact Prod.ext (patchR_val' c).symm c.symm
  rw [ht]
  refine ⟨P, ?_, gH, tc⟩
  show trimR l (trimFrom l h) = _
  unfold trimR
  rw [P, if_pos c, trim_trim l h (-1) a4]
end Go.Proofs.Ytmcldkobejhaeaa.Pl
/- Plain Lean: how many lines go and come: told by the program. Asked: at most 20 hunks, none of more than 200 lines. -/
namespace Go.Proofs.Ytmcldkobejhaeaa.Pl
open Go.RowKit Go.Proofs.YtmcldkobejhaeaaW.PrintWords Go.Proofs.YtmcldkobejhaeaaW.PrintLast Go.Proofs.Ytmcldkobejhaeaa.My
set_option linter.unusedVariables false
set_option linter.unusedSimpArgs false
def mid (h : List IH) : Prop := ∀ x ∈ h, 0 ≤ x.f1 ∧ x.f1 ≤ 200 ∧ x.f2.length ≤ 200
theorem mid_of_near {h : List IH} (n : near h) : mid h := fun x hx => by have := n x hx; omega
theorem countsM_l0 (h : List IH) (hn : mid h) (hl : h.length ≤ 20) : ∀ d i (g c : Int), i + d = h.length → 0 ≤ g → g ≤ 200 * i → 0 ≤ c → c ≤ 200 * i →
    Ev (fun k => impl_counts.l0 k g c h (h.length : Int) (i : Int)) (g + goneV (h.drop i), c + comeV (h.drop i)) := by
  intro d
  induction d with
  | zero =>
    intro i g c hi g0 g1 c0 c1
    refine Ev.step (fun k => impl_counts.l0.eq_2 ..) (ev_neg (by omega) (ev_some ?_))
    rw [List.drop_of_length_le (by omega)]
    simp [goneV, comeV]
  | succ d ih =>
    intro i g c hi g0 g1 c0 c1
    have hlt : i < h.length := by omega
    have hx := hn _ (List.getElem_mem hlt)
    refine Ev.step (fun k => impl_counts.l0.eq_2 ..) (ev_pos (by omega) (ev_pos (by omega) (ev_pos (by omega) ?_)))
    rw [rdIH h i hlt, wrap_succ i (by omega), wrap64_id (x := g + h[i].f1) (by omega) (by omega), wrap64_id (x := c + (h[i].f2.length : Int)) (by omega) (by omega)]
    refine ev_to (ih (i + 1) _ _ (by omega) (by omega) (by omega) (by omega) (by omega)) ?_
    rw [List.drop_eq_getElem_cons hlt]
    simp only [goneV, comeV]
    exact Prod.ext (by simp only; omega) (by simp only; omega)
theorem noneNeg_l0 (h : List IH) (hn : mid h) (hl : h.length ≤ 20) : ∀ d i, i + d = h.length → Ev (fun k => slices_IndexFunc_impl_Hunk_impl_Hunk__impl_CountHunks_1.l0 k h (h.length : Int) (i : Int)) (-1) := by
  intro d
  induction d with
  | zero => intro i hi; exact Ev.step (fun k => slices_IndexFunc_impl_Hunk_impl_Hunk__impl_CountHunks_1.l0.eq_2 ..) (ev_neg (by omega) (ev_some rfl))
  | succ d ih =>
    intro i hi
    have hlt : i < h.length := by omega
    have hx := hn _ (List.getElem_mem hlt)
    refine Ev.step (fun k => slices_IndexFunc_impl_Hunk_impl_Hunk__impl_CountHunks_1.l0.eq_2 ..) (ev_pos (by omega) (ev_pos (by omega) (ev_pos (by omega) ?_)))
    rw [rdIH h i hlt, wrap_succ i (by omega)]
    simp only [impl_CountHunks_1.f]
    exact ev_bind (ev_some rfl) (ev_neg (by rw [decide_eq_false (by omega)]; simp) (ih (i + 1) (by omega)))
theorem implCountHunks_ev (h : List IH) (hn : mid h) (hl : h.length ≤ 20) : Ev (fun k => impl_CountHunks.f k h) (goneV h, comeV h, true) := by
  simp only [impl_CountHunks.f, slices_ContainsFunc_impl_Hunk_impl_Hunk__impl_CountHunks_1.f, slices_IndexFunc_impl_Hunk_impl_Hunk__impl_CountHunks_1.f, impl_counts.f]
  refine ev_neg (by omega) (ev_bind (ev_bind (noneNeg_l0 h hn hl h.length 0 (by omega)) (ev_some rfl)) (ev_neg (by simp) (ev_bind (countsM_l0 h hn hl h.length 0 0 0 (by omega) (by omega) (by omega) (by omega) (by omega)) (ev_some ?_))))
  simp
end Go.Proofs.Ytmcldkobejhaeaa.Pl
/- Plain Lean: a list of texts is the same as itself, and so is a list of hunks. Asked: lengths below 2^62. -/
namespace Go.Proofs.Ytmcldkobejhaeaa.Pl
open Go.RowKit Go.Proofs.YtmcldkobejhaeaaW.PrintWords Go.Proofs.YtmcldkobejhaeaaW.PrintLast Go.Proofs.Ytmcldkobejhaeaa.My
set_option linter.unusedVariables false
theorem sameTexts_l0 (l : List ByteArray) (hl : l.length ≤ 4611686018427387904) : ∀ d i, i + d = l.length → Ev (fun k => laws_sameTexts.l0 k l l (l.length : Int) (i : Int)) true := by
  intro d
  induction d with
  | zero => intro i hi; exact Ev.step (fun k => laws_sameTexts.l0.eq_2 ..) (ev_neg (by omega) (ev_some rfl))
  | succ d ih =>
    intro i hi
    refine Ev.step (fun k => laws_sameTexts.l0.eq_2 ..) (ev_pos (by omega) (ev_pos (by omega) (ev_pos (by omega) (ev_pos (by omega) (ev_pos rfl ?_)))))
    rw [wrap_succ i (by omega)]
    exact ih (i + 1) (by omega)
theorem sameTexts_self (l : List ByteArray) (hl : l.length ≤ 4611686018427387904) : Ev (fun k => laws_sameTexts.f k l l) true := by
  unfold laws_sameTexts.f
  exact ev_pos rfl (sameTexts_l0 l hl l.length 0 (by omega))
end Go.Proofs.Ytmcldkobejhaeaa.Pl
/- Plain Lean: a list of hunks is the same as itself. Asked: lengths below 2^62. -/
namespace Go.Proofs.Ytmcldkobejhaeaa.Pl
open Go.RowKit Go.Proofs.YtmcldkobejhaeaaW.PrintWords Go.Proofs.YtmcldkobejhaeaaW.PrintLast Go.Proofs.Ytmcldkobejhaeaa.My
set_option linter.unusedVariables false
theorem sameHunks_l0 (h : List IH) (hl : h.length ≤ 4611686018427387904) (hs : ∀ x ∈ h, x.f2.length ≤ 4611686018427387904) : ∀ d i, i + d = h.length → Ev (fun k => laws_sameHunks.l0 k h h (h.length : Int) (i : Int)) true := by
  intro d
  induction d with
  | zero => intro i hi; exact Ev.step (fun k => laws_sameHunks.l0.eq_2 ..) (ev_neg (by omega) (ev_some rfl))
  | succ d ih =>
    intro i hi
    have hlt : i < h.length := by omega
    have hr : rd_T106 h (i : Int) = h[i] := getD_lt h _ i hlt
    refine Ev.step (fun k => laws_sameHunks.l0.eq_2 ..) (ev_pos (by omega) (ev_pos (by omega) (ev_pos (by omega) (ev_pos (by omega) (ev_pos rfl (ev_pos rfl ?_))))))
    rw [wrap_succ i (by omega), hr]
    exact ev_bind (sameTexts_self _ (hs _ (List.getElem_mem _))) (ev_pos rfl (ih (i + 1) (by omega)))
theorem sameHunks_self (h : List IH) (hl : h.length ≤ 4611686018427387904) (hs : ∀ x ∈ h, x.f2.length ≤ 4611686018427387904) : Ev (fun k => laws_sameHunks.f k h h) true := by
  unfold laws_sameHunks.f
  exact ev_pos rfl (sameHunks_l0 h hl hs h.length 0 (by omega))
end Go.Proofs.Ytmcldkobejhaeaa.Pl
/- Plain Lean: chapter 2: how far a line is moved. No condition. -/
namespace Go.Proofs.Ytmcldkobejhaeaa.Pl
open Go.RowKit Go.Proofs.YtmcldkobejhaeaaW.PrintWords Go.Proofs.YtmcldkobejhaeaaW.PrintLast Go.Proofs.Ytmcldkobejhaeaa.My
set_option linter.unusedVariables false
set_option linter.unusedSimpArgs false
def moved (i : Int) : List IH → Option Int
  | [] => some 0
  | x :: t => if x.f0 + x.f1 ≤ i then (moved i t).map (fun m => ((x.f2.length : Int) - x.f1) + m) else if x.f0 ≤ i then none else moved i t
end Go.Proofs.Ytmcldkobejhaeaa.Pl
/- Plain Lean: chapter 2: where a line comes to lie, for the program and the reference. Conditions: lengths and sizes below 2^63. -/
namespace Go.Proofs.Ytmcldkobejhaeaa.Pl
open Go.RowKit Go.Proofs.YtmcldkobejhaeaaW.PrintWords Go.Proofs.YtmcldkobejhaeaaW.PrintLast Go.Proofs.Ytmcldkobejhaeaa.My
set_option linter.unusedVariables false
set_option linter.unusedSimpArgs false
theorem place_l0 (n : Int) (h : List IH) (i : Int) (hn : near h) (hl : h.length ≤ 20) (h0 : 0 ≤ i) (h1 : i ≤ 40) : ∀ d r (a : Int), r + d = h.length → -40 * (r : Int) ≤ a - i → a - i ≤ 40 * (r : Int) →
    Ev (fun k => impl_PlaceOf.l0 k i a h (h.length : Int) (r : Int)) (match moved i (h.drop r) with | some m => (a + m, true) | none => (0, false)) := by
  intro d
  induction d with
  | zero =>
    intro r a hr ha hb
    refine Ev.step (fun k => impl_PlaceOf.l0.eq_2 ..) (ev_neg (by omega) (ev_some ?_))
    rw [List.drop_of_length_le (by omega)]
    simp [moved]
  | succ d ih =>
    intro r a hr ha hb
    have hlt : r < h.length := by omega
    obtain ⟨q0, q1, q2, q3, q4⟩ := hn _ (List.getElem_mem hlt)
    refine Ev.step (fun k => impl_PlaceOf.l0.eq_2 ..) ?_
    simp only [rdIH h r hlt]
    rw [List.drop_eq_getElem_cons hlt]
    simp only [moved]
    rw [wrap64_id (x := h[r].f0 + h[r].f1) (by omega) (by omega), wrap64_id (x := (h[r].f2.length : Int) - h[r].f1) (by omega) (by omega), wrap64_id (x := a + ((h[r].f2.length : Int) - h[r].f1)) (by omega) (by omega), wrap_succ r (by omega)]
    refine ev_pos (by omega) (ev_pos (by omega) (ev_pos (by omega) (ev_ite (fun c => ?_) (fun c => ev_ite (fun c' => ev_some ?_) (fun c' => ?_)))))
    · rw [if_pos c]
      refine ev_to (ih (r + 1) _ (by omega) (by omega) (by omega)) ?_
      cases moved i (h.drop (r + 1)) with
      | none => rfl
      | some m => simp only [Option.map_some, Prod.mk.injEq, and_true]; omega
    · rw [if_neg c, if_pos c']
    · rw [if_neg c, if_neg c']
      exact ih (r + 1) a (by omega) (by omega) (by omega)
theorem l2Place_l0 (h : List IH) (i : Int) (hn : near h) (hl : h.length ≤ 20) (h0 : 0 ≤ i) (h1 : i ≤ 40) : ∀ d r (a : Int), r + d = h.length → -40 * (r : Int) ≤ a → a ≤ 40 * (r : Int) →
    Ev (fun k => spec_l2Place.l0 k i a h (h.length : Int) (r : Int)) (match moved i (h.drop r) with | some m => i + (a + m) | none => -1) := by
  intro d
  induction d with
  | zero =>
    intro r a hr ha hb
    refine Ev.step (fun k => spec_l2Place.l0.eq_2 ..) (ev_neg (by omega) (ev_some ?_))
    rw [List.drop_of_length_le (by omega), wrap64_id (by omega) (by omega)]
    simp [moved]
  | succ d ih =>
    intro r a hr ha hb
    have hlt : r < h.length := by omega
    obtain ⟨q0, q1, q2, q3, q4⟩ := hn _ (List.getElem_mem hlt)
    refine Ev.step (fun k => spec_l2Place.l0.eq_2 ..) ?_
    simp only [rdIH h r hlt]
    rw [List.drop_eq_getElem_cons hlt]
    simp only [moved]
    rw [wrap64_id (x := h[r].f0 + h[r].f1) (by omega) (by omega), wrap64_id (x := (h[r].f2.length : Int) - h[r].f1) (by omega) (by omega), wrap64_id (x := a + ((h[r].f2.length : Int) - h[r].f1)) (by omega) (by omega), wrap_succ r (by omega)]
    refine ev_pos (by omega) (ev_pos (by omega) (ev_pos (by omega) (ev_ite (fun c => ?_) (fun c => ev_ite (fun c' => ev_some ?_) (fun c' => ?_)))))
    · rw [if_pos c]
      refine ev_to (ih (r + 1) _ (by omega) (by omega) (by omega)) ?_
      cases moved i (h.drop (r + 1)) with
      | none => rfl
      | some m => simp only [Option.map_some]; omega
    · rw [if_neg c, if_pos c']
    · rw [if_neg c, if_neg c']
      exact ih (r + 1) a (by omega) (by omega) (by omega)
theorem moved_zero (n i : Int) : ∀ (t : List IH) (p : Int), i < p → chain n p t = true → ∀ m, moved i t = some m → m = 0 := by
  intro t
  induction t with
  | nil => intro p _ _ m hm; simp only [moved, Option.some.injEq] at hm; omega
  | cons z t iht =>
    intro p hp hc m hm
    simp only [chain, Bool.and_eq_true, hOK, decide_eq_true_eq] at hc
    obtain ⟨⟨⟨r0, r1, r2, r3, r4, r5⟩, _⟩, hc'⟩ := hc
    simp only [moved] at hm
    rw [if_neg (by omega), if_neg (by omega)] at hm
    exact iht _ (by omega) hc' m hm
theorem moved_ge (n i : Int) : ∀ (h : List IH) (p : Int), chain n p h = true → p ≤ i → ∀ m, moved i h = some m → p ≤ i + m := by
  intro h
  induction h with
  | nil => intro p _ hp m hm; simp only [moved, Option.some.injEq] at hm; omega
  | cons y t ih =>
    intro p hc hp m hm
    simp only [chain, Bool.and_eq_true, hOK, decide_eq_true_eq] at hc
    obtain ⟨⟨⟨q0, q1, q2, q3, q4, q5⟩, _⟩, hc'⟩ := hc
    simp only [moved] at hm
    split at hm
    · obtain ⟨m', e1, e2⟩ := Option.map_eq_some_iff.1 hm
      have := ih _ hc' (by omega) m' e1
      omega
    · split at hm
      · simp at hm
      · rename_i c1 c2
        have := moved_zero n i t _ (by omega) hc' m hm
        omega
theorem moved_nonneg (n i : Int) (h : List IH) (hc : chain n (-1) h = true) (h0 : 0 ≤ i) (m : Int) (hm : moved i h = some m) : 0 ≤ i + m := by
  cases h with
  | nil => simp only [moved, Option.some.injEq] at hm; omega
  | cons y t =>
    simp only [chain, Bool.and_eq_true, hOK, decide_eq_true_eq] at hc
    obtain ⟨⟨⟨q0, q1, q2, q3, q4, q5⟩, _⟩, hc'⟩ := hc
    simp only [moved] at hm
    split at hm
    · obtain ⟨m', e1, e2⟩ := Option.map_eq_some_iff.1 hm
      have := moved_ge n i t _ hc' (by omega) m' e1
      omega
    · split at hm
      · simp at hm
      · have := moved_zero n i t _ (by omega) hc' m hm
        omega
def placed (h : List IH) (n i : Int) : Int × Bool := if goodH n h = true ∧ inB i 0 n = true then (match moved i h with | some m => (i + m, true) | none => (0, false)) else (0, false)
theorem impl_PlaceOf_ev (h : List IH) (n i : Int) (hf : FitI h) : Ev (fun k => impl_PlaceOf.f k h n i) (placed h n i) := by
  simp only [impl_PlaceOf.f, impl_in_eq, Option.bind_some]
  unfold placed
  refine ev_bind (goodHunks_ev n h hf) (ev_ite (fun g => Ev.step (fun k => impl_PlaceOf.j0.eq_2 ..) ?_) (fun g => Ev.step (fun k => impl_PlaceOf.j0.eq_2 ..) (ev_pos rfl (ev_some ?_))))
  · by_cases c : inB i 0 n = true
    · obtain ⟨g1, g2, g3, g4⟩ := near_of_good g
      have c' := (inB_iff _ _ _).1 c
      rw [if_pos ⟨g, c⟩, c]
      refine ev_neg (by simp) ?_
      exact place_l0 n h i g1 g2 c'.1 (by omega) h.length 0 i (by omega) (by omega) (by omega)
    · rw [if_neg (fun e => c e.2)]
      rw [Bool.not_eq_true] at c
      rw [c]
      exact ev_pos rfl (ev_some rfl)
  · rw [if_neg (fun e => g e.1)]
theorem spec_PlaceOf_ev (h : List IH) (n i : Int) (hf : FitI h) (hn0 : -9223372036854775808 ≤ n) (hn : n ≤ 9223372036854775807) : Ev (fun k => spec_PlaceOf.f k h n i) (placed h n i) := by
  simp only [spec_PlaceOf.f, spec_l1In_eq, Option.bind_some]
  unfold placed
  refine ev_bind (l2Hunks_ev n h hf hn0 hn) (ev_ite (fun g => ev_ite (fun c => ?_) (fun c => ev_some ?_)) (fun g => ev_some ?_))
  · obtain ⟨g1, g2, g3, g4⟩ := near_of_good g
    have c' := (inB_iff _ _ _).1 c
    rw [if_pos (show goodH n h = true ∧ inB i 0 n = true from ⟨g, c⟩)]
    have e : Ev (fun k => spec_l2Place.f k h i) (match moved i h with | some m => i + m | none => -1) := by
      simp only [spec_l2Place.f]
      refine ev_to (l2Place_l0 h i g1 g2 c'.1 (by omega) h.length 0 0 (by omega) (by omega) (by omega)) ?_
      rw [List.drop_zero]
      cases moved i h with
      | none => rfl
      | some m => simp
    have gc : chain n (-1) h = true := by
      unfold goodH at g
      rw [Bool.and_eq_true, Bool.and_eq_true] at g
      exact g.2.2
    cases hm : moved i h with
    | none =>
      rw [hm] at e
      exact ev_bind e (ev_pos (by simp) (ev_some rfl))
    | some m =>
      rw [hm] at e
      have : 0 ≤ i + m := moved_nonneg n i h gc c'.1 m hm
      exact ev_bind e (ev_neg (by simp only; omega) (ev_bind e (ev_some rfl)))
  · rw [if_neg (fun e => c e.2)]
  · rw [if_neg (fun e => g e.1)]
end Go.Proofs.Ytmcldkobejhaeaa.Pl
/- Plain Lean: the drawn laws' bytes, and the test of their number. No condition. -/
namespace Go.Proofs.Ytmcldkobejhaeaa.Pl
open Go.RowKit Go.Proofs.YtmcldkobejhaeaaW.PrintWords Go.Proofs.YtmcldkobejhaeaaW.PrintLast Go.Proofs.Ytmcldkobejhaeaa.My
set_option linter.unusedVariables false
set_option linter.unusedSimpArgs false
theorem wu8_bounds {z : Int} (h : Wu8 z) : 0 ≤ z ∧ z ≤ 255 := by
  have h' : (Lit.int .u8 z).wf = true := h
  simp [Lit.wf, show IntKind.u8.min = 0 from rfl, show IntKind.u8.max = 255 from rfl] at h'
  omega
theorem bytes8_of {l : List Int} (h : (WL Wu8) l) : Bytes8 l := by
  refine ⟨?_, fun x hx => wu8_bounds (h.2 x hx)⟩
  have h1 := h.1
  have h2 : maxLen ≤ 9223372036854775807 := by decide
  omega
def bigB (a b : List Int) : Bool := if (a.length : Int) > 1048576 then true else decide ((b.length : Int) > 1048576 - (a.length : Int))
theorem big_eq (a b : List Int) (ha : Bytes8 a) (hb : Bytes8 b) : laws_big.f a b = some (bigB a b) := by
  unfold laws_big.f bigB
  have h1 := ha.1
  by_cases h : (a.length : Int) > 1048576
  · rw [if_pos h, if_pos h]
  · rw [if_neg h, if_neg h, wrap64_id (by omega) (by omega)]
end Go.Proofs.Ytmcldkobejhaeaa.Pl
/- FnTrimmed, in plain Lean: trimmed hunks do the same with no more lines, and trimmed twice are trimmed once. No condition. -/
namespace Go.Proofs.Ytmcldkobejhaeaa.Pure
open Go.RowKit Go.Proofs.Ytmcldkobejhaeaa.My Go.Proofs.Ytmcldkobejhaeaa.Pl Go.Proofs.YtmcldkobejhaeaaW.PrintWords Go.Proofs.YtmcldkobejhaeaaW.PrintLast
set_option linter.unusedVariables false
set_option linter.unusedSimpArgs false
theorem drawPlace_some (c : List Int) (hc : Bytes8 c) : ∃ (h : List IH) (n k : Int), Ev (fun k => spec_DrawPlaceOf.f k c) (h, n, k) ∧ SmA h ∧ 0 ≤ n ∧ n ≤ 100 := by
  simp only [spec_DrawPlaceOf.f, spec_DrawPlaceOf.g]
  obtain ⟨l, h, a2, s2, e, hl, hh, h2⟩ := hunked_some c hc 0 0 (by omega) (by omega)
  obtain ⟨v, a3, s3, e3, h3⟩ := pick_some c hc a2 s2 (wrap64 ((l.length : Int) + 2)) (at_of (by omega) (by omega))
  obtain ⟨u, a4, s4, e4, h4⟩ := pick_some c hc a3 s3 20 (at_of (by omega) (by omega))
  have := hl.1
  exact ⟨h, _, _, ev_bind (ev_bind e (ev_bind (ev_const e3) (ev_bind (ev_const e4) (ev_some rfl)))) (ev_some rfl), hh, by dsimp only; omega, by dsimp only; omega⟩
theorem place_ev (c : List Int) (hc : Bytes8 c) : Ev (fun k => (spec_DrawPlaceOf.f k c).bind fun bt815 => ((impl_PlaceOf.f k bt815.1 bt815.2.1 bt815.2.2).bind fun bt820 => ((spec_PlaceOf.f k bt815.1 bt815.2.1 bt815.2.2).bind fun bt822 => (if (bt820.2 == bt822.2) = true then (some (bt820.1 == bt822.1)) else (some false))))) true := by
  obtain ⟨h, n, i, e, hh, n0, n1⟩ := drawPlace_some c hc
  have fh := fitI_smA hh
  exact ev_bind e (ev_bind (impl_PlaceOf_ev h n i fh) (ev_bind (spec_PlaceOf_ev h n i fh (by omega) (by omega)) (ev_pos (by simp) (ev_some (by simp)))))
theorem j1_ev (c : List Int) (hc : Bytes8 c) : Ev (fun k => laws_FnTrimmed.j1 k c false) true :=
  Ev.step (fun k => laws_FnTrimmed.j1.eq_2 ..) (ev_neg (by simp) (place_ev c hc))
theorem FnTrimmed : laws_FnTrimmed.Pure := by
  intro l0 l1 w0 w1
  have b0 := bytes8_of w0
  have b1 := bytes8_of w1
  have key : Ev (fun k => laws_FnTrimmed.f k l0 l1) true := by
    simp only [laws_FnTrimmed.f]
    refine ev_bind (ev_const (big_eq l0 l1 b0 b1)) (ev_ite (fun _ => ev_some rfl) (fun _ => ?_))
    obtain ⟨l, h, e, hl, hh⟩ := drawTrim_some l0 b0
    have fl := fitS_smT hl
    have fh := fitI_smB hh
    have ts := trimR_small l h
    refine ev_bind e (ev_bind (impl_TrimHunks_ev l h fl fh) (ev_bind (spec_TrimHunks_ev l h fl fh) ?_))
    refine ev_neg (by simp) (ev_bind (sameHunks_self _ (by omega) (fun x hx => by have := ts.2 x hx; omega)) ?_)
    refine Ev.step (fun k => laws_FnTrimmed.j0.eq_2 ..) (ev_neg (by simp) (ev_ite (fun c => ?_) (fun c => place_ev l1 b1)))
    have c1 : (patchR l h).2 = true := by
      unfold trimR at c
      split at c
      · assumption
      · cases c
    obtain ⟨p1, p2, p3, p4, p5, p6⟩ := trim_law c1
    obtain ⟨a1, a2, a3, a4⟩ := asked_of (patchR_asked c1)
    obtain ⟨n1, n2, n3, n4⟩ := near_of_good p3
    have tf := trimR_fit l h fl fh
    have ft : FitI (trimR l h).1 := ⟨by omega, fun x hx => ⟨by have := n1 x hx; omega, by have := n1 x hx; omega, tf x hx⟩⟩
    have e1 := impl_Patch_ev l h fl fh
    have e2 := impl_Patch_ev l (trimR l h).1 fl ft
    have e3 := impl_TrimHunks_ev l (trimR l h).1 fl ft
    have e4 := implCountHunks_ev (trimR l h).1 (mid_of_near n1) n2
    have e5 := implCountHunks_ev h (mid_of_near a3) a2
    rw [p1] at e2
    rw [p2] at e3
    have g1 := goneV_le h a3
    have g2 := comeV_le h a3
    have g3 := goneV_le _ n1
    have g4 := comeV_le _ n1
    have ps := patchR_small l h
    refine ev_bind e1 (ev_bind e2 (ev_bind e3 (ev_bind e4 (ev_bind e5 ?_))))
    refine ev_pos c1 (ev_pos c1 (ev_bind (sameTexts_self _ (by omega)) (ev_pos rfl (ev_pos c (ev_bind (sameHunks_self _ (by omega) (fun x hx => by have := ts.2 x hx; omega)) (ev_pos rfl (ev_pos rfl (ev_pos rfl (ev_neg (by dsimp only; omega) (ev_neg (by dsimp only; omega) ?_))))))))))
    dsimp only
    rw [wrap64_id (x := goneV h - goneV (trimR l h).1) (by omega) (by omega), wrap64_id (x := comeV h - comeV (trimR l h).1) (by omega) (by omega), p6]
    rw [show (comeV h - comeV (trimR l h).1 != comeV h - comeV (trimR l h).1) = false from by simp]
    exact j1_ev l1 b1
  obtain ⟨n, hn⟩ := key
  exact ⟨n, hn n (Nat.le_refl _)⟩
end Go.Proofs.Ytmcldkobejhaeaa.Pure
/- The Go function loop.example/g00825/laws.FnTrimmed returns true for every input, and each argument reads afterwards as it read before. No condition. -/
namespace Go.Proofs.Ytmcldkobejhaeaa.fnTrimmed
open Go.ChangeShapes Go.WideShapes Go.ChangeAt Go.RowKit Go.Joins Go.Proofs.Ytmcldkobejhaeaa.Opens Go.Proofs.Ytmcldkobejhaeaa.My
open Go.ChangeMaps (open_string shut_string)
set_option linter.unusedVariables false
set_option linter.unusedSimpArgs false
theorem own : ownKnob Try.prog.godebug = none := by kernel_rfl
theorem laidOut : laidOutB Try.prog = true := by kernel_rfl
set_option maxRecDepth 100000 in
theorem lifted (os : Os) (started : os.Started) (H : Type) (enc : TypeId × Value → H) :
    ReturnsInHanded {} Try.checked os 5 .any (Rows.fnTrimmedSpec.pre6 enc Try.prog Try.f5 Rows.fnTrimmedRow.domain false) (Rows.fnTrimmedSpec.post enc Try.prog Try.f5 false true false false) := by
  refine returnsInHanded_of_change_sized (C := Try.checked) own started (by kernel_rfl) Try.func5
    (ChangeSpec.witness6 (enc := enc) (C := Try.checked) false ⟨#[], #[.slice none 0 0, .slice none 0 0], []⟩ 8 (by kernel_rfl) (by kernel_rfl) (by kernel_rfl) (by kernel_rfl)) ?_
  intro W base args ds gs before hval0 hW hcnd hsz0 _
  have hval : ∀ (j : Nat) t v, Try.f5.params[j]? = some t → args[j]? = some v → Value.okWide Try.prog W .any base t v := hval0
  have hW' := hW
  obtain ⟨p, q, hA0, hV, rfl, hfz, hnd⟩ := hW
  have hA : DataW.TrodAll enc Try.prog W 0 (fun _ => true) true Try.f5.params.toList args.toList ds p := hA0
  rw [Try.params5] at hA hval
  obtain ⟨v0, vs0, d0, ds0, p0, q0, hargs, rfl, rfl, h0, r0⟩ := trodAll_cons hA
  obtain ⟨v1, vs1, d1, ds1, p1, q1, rfl, rfl, rfl, h1, r1⟩ := trodAll_cons r0
  obtain ⟨rfl, rfl, rfl⟩ := trodAll_nil r1
  obtain rfl : args = #[v0, v1] := by cases args; simp_all
  obtain ⟨rfl, rfl⟩ := trodVars_none hV
  obtain ⟨A0, n0, c0, rfl⟩ := okWide_slice Try.underlying22 (hval 0 22 v0 rfl rfl)
  have k0 := h0
  have lt0 : ∀ x ∈ p0, x.block < W.heap.size := by obtain ⟨m, hm⟩ := k0; exact DataW.trod_lt m _ _ _ hm
  obtain ⟨l0, rfl, hc0, hr0, q0_⟩ := Opens.row (opens_slice Try.underlying22 (by kernel_rfl) (opens_int .u8 Try.underlying5)) h0
  obtain ⟨A1, n1, c1, rfl⟩ := okWide_slice Try.underlying22 (hval 1 22 v1 rfl rfl)
  have k1 := h1
  have lt1 : ∀ x ∈ p1, x.block < W.heap.size := by obtain ⟨m, hm⟩ := k1; exact DataW.trod_lt m _ _ _ hm
  obtain ⟨l1, rfl, hc1, hr1, q1_⟩ := Opens.row (opens_slice Try.underlying22 (by kernel_rfl) (opens_int .u8 Try.underlying5)) h1
  clear hA0 hval0 hsz0
  obtain ⟨kr, hk⟩ := Pure.FnTrimmed l0 l1 q0_ q1_
  refine (laws_FnTrimmed.calls kr _ _ l0 _ _ l1 true W hr0 hc0 hr1 hc1 hk rfl).mono fun e W' hh => ?_
  obtain ⟨rfl, hd⟩ := hh
  have bel : Below W.heap.size W W' := hd
  exact ⟨_, rfl, _, _, _, [], _, [], hW', trodAll_mk1 (shut_bool Try.underlying4 _), (trodAll_cons_mk (Below.trod laidOut (by kernel_rfl) (of_decide_eq_true (by kernel_rfl)) k0 bel lt0) (trodAll_cons_mk (Below.trod laidOut (by kernel_rfl) (of_decide_eq_true (by kernel_rfl)) k1 bel lt1) trodAll_mk0)), rfl, bel.frame _, fun h => by cases h⟩
theorem over : Rows.fnTrimmedRow.holds Try.pinned (OpenSpec.ofChange Rows.fnTrimmedSpec) :=
  OpenClaim.holds_of_wide 5 Try.f5 rfl rfl rfl rfl rfl rfl rfl ⟨rfl, rfl, rfl, rfl, rfl⟩ rfl rfl rfl rfl rfl (by kernel_rfl) Try.func5 (by kernel_rfl)
    (of_decide_eq_true (by kernel_rfl)) (by unfold Func.isWrapper; first | (rw [if_pos (by decide +kernel)]; kernel_rfl) | (rw [if_neg (by decide +kernel)]; exact ⟨rfl, rfl⟩))
    (fun os started H enc _ => lifted os started H enc)
theorem proved : Rows.FnTrimmedSaid := over
#print axioms proved
end Go.Proofs.Ytmcldkobejhaeaa.fnTrimmed
namespace Go.Proofs.Ytmcldkobejhaeaa
/-- The row, under a short name, for the claim. -/
theorem fnTrimmed_holds : Rows.FnTrimmedSaid := fnTrimmed.proved
end Go.Proofs.Ytmcldkobejhaeaa
