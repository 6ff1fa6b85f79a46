/- Part 7 of 7 of a proof of this sentence: The Go function loop.example/g00825/laws.FnPatches returns true for every input, and each argument reads afterwards as it read before. No condition. -/
import Derived.Test.YtcefenlblnediaaRows
import Derived.WalkKit
import Derived.ProofKit
import Derived.OpenShut
import Derived.ShutString
import Derived.ChangeOld
import Derived.Below
import Derived.SizedLaws
import Derived.Lib.SmallJoins
import Derived.Test.YtcefenlblnediaaCFnPatches6
/- Plain Lean: lengths, bounds and orders of the lines that stay behind hunks, and of two tellings joined. Asked: hunks in order. -/
namespace Go.Proofs.Ytcefenlblnediaa.Pl
open Go.RowKit Go.Proofs.YtcefenlblnediaaW.PrintWords Go.Proofs.YtcefenlblnediaaW.PrintLast Go.Proofs.Ytcefenlblnediaa.My
set_option linter.unusedVariables false
set_option linter.unusedSimpArgs false

/-- How many lines more. -/
def total : List IH → Int
  | [] => 0
  | x :: t => ((x.f2.length : Int) - x.f1) + total t
theorem chain_mem {n : Int} : ∀ (h : List IH) (p : Int), chain' n p h → ∀ y ∈ h, p < y.f0
  | x :: t, p, hc, y, hy => by
    simp only [chain'] at hc
    rcases List.mem_cons.1 hy with rfl | hy
    · exact hc.1.2.2.2
    · have := chain_mem t _ hc.2 y hy
      omega
theorem kept_len (n : Nat) : ∀ (h : List IH) (p : Nat) (a : Int), chain' (n : Int) a h → (∀ x ∈ h, (p : Int) ≤ x.f0) → p ≤ n → ((keptFrom n p h).length : Int) + p = n + total h
  | [], p, a, _, _, hp => by
    simp only [keptFrom, total, List.length_map, List.length_range']
    omega
  | x :: t, p, a, hc, hf, hp => by
    simp only [chain'] at hc
    have hx := hf x (List.mem_cons_self ..)
    have ih := kept_len n t (x.f0 + x.f1).toNat _ hc.2 (fun y hy => by have := chain_mem t _ hc.2 y hy; omega) (by omega)
    simp only [keptFrom, total, List.length_append, List.length_map, List.length_range', List.length_replicate]
    omega
theorem patch_len (a : List ByteArray) : ∀ (h : List IH) (p : Nat) (q : Int), chain' (a.length : Int) q h → (∀ x ∈ h, (p : Int) ≤ x.f0) → p ≤ a.length → ((patchFrom a p h).length : Int) + p = a.length + total h
  | [], p, q, _, _, hp => by
    simp only [patchFrom, total, List.length_drop]
    omega
  | x :: t, p, q, hc, hf, hp => by
    simp only [chain'] at hc
    have hx := hf x (List.mem_cons_self ..)
    have ih := patch_len a t (x.f0 + x.f1).toNat _ hc.2 (fun y hy => by have := chain_mem t _ hc.2 y hy; omega) (by omega)
    simp only [patchFrom, total, List.length_append, List.length_drop, List.length_take]
    omega
theorem kept_low (n : Nat) : ∀ (h : List IH) (p : Nat) (a : Int), chain' (n : Int) a h → ∀ k ∈ keptFrom n p h, -1 ≤ k ∧ k < n
  | [], p, a, _, k, hk => by
    simp only [keptFrom, List.mem_map, List.mem_range'_1] at hk
    obtain ⟨j, hj, rfl⟩ := hk
    omega
  | x :: t, p, a, hc, k, hk => by
    simp only [chain'] at hc
    simp only [keptFrom, List.mem_append, List.mem_map, List.mem_range'_1, List.mem_replicate] at hk
    rcases hk with ⟨j, hj, rfl⟩ | ⟨_, rfl⟩ | hk
    · omega
    · omega
    · exact kept_low n t _ _ hc.2 k hk
theorem total_low (n : Int) : ∀ (h : List IH) (p : Int), chain' n p h → p ≤ n → p ≤ n + total h
  | [], p, _, hp => by simp only [total]; omega
  | x :: t, p, hc, hp => by
    simp only [chain'] at hc
    have := total_low n t _ hc.2 hc.1.2.2.1
    simp only [total]
    omega
theorem moved_high (n : Int) (i : Int) (hi : i < n) : ∀ (h : List IH) (p : Int), chain' n p h → ∀ m, moved i h = some m → i + m < n + total h
  | [], p, _, m, hm => by simp only [moved, Option.some.injEq] at hm; simp only [total]; omega
  | x :: t, p, hc, m, hm => by
    simp only [chain'] at hc
    simp only [moved] at hm
    simp only [total]
    split at hm
    · obtain ⟨m', h1, h2⟩ := Option.map_eq_some_iff.1 hm
      have := moved_high n i hi t _ hc.2 m' h1
      omega
    · split at hm
      · cases hm
      · rename_i c1 c2
        rw [moved_ahead i t _ hc.2 (by omega)] at hm
        injection hm with hm
        have := total_low n t _ hc.2 hc.1.2.2.1
        omega

theorem staysK_snd : ∀ (l : List Int) (q : Nat), (staysK q l).Pairwise (fun u v => u.2 < v.2) ∧ ∀ z ∈ staysK q l, q ≤ z.2 ∧ z.2 < q + l.length
  | [], q => ⟨List.Pairwise.nil, fun z hz => by cases hz⟩
  | k :: t, q => by
    obtain ⟨h1, h2⟩ := staysK_snd t (q + 1)
    have h3 : ∀ z ∈ staysK (q + 1) t, q ≤ z.2 ∧ z.2 < q + (t.length + 1) := fun z hz => by have := h2 z hz; omega
    simp only [staysK, List.length_cons]
    split
    · refine ⟨List.pairwise_cons.2 ⟨fun z hz => by have := (h2 z hz).1; simp only; omega, h1⟩, fun z hz => ?_⟩
      rcases List.mem_cons.1 hz with rfl | hz
      · simp only; omega
      · exact h3 z hz
    · exact ⟨h1, h3⟩
theorem staysP_fst (h : List IH) : ∀ (d s : Nat), (staysP h (List.range' s d)).Pairwise (fun u v => u.1 < v.1) ∧ ∀ z ∈ staysP h (List.range' s d), s ≤ z.1 ∧ z.1 < s + d
  | 0, s => ⟨List.Pairwise.nil, fun z hz => by cases hz⟩
  | d + 1, s => by
    obtain ⟨h1, h2⟩ := staysP_fst h d (s + 1)
    have h3 : ∀ z ∈ staysP h (List.range' (s + 1) d), s ≤ z.1 ∧ z.1 < s + (d + 1) := fun z hz => by have := h2 z hz; omega
    rw [List.range'_succ, staysP]
    cases hm : moved (s : Int) h with
    | none => exact ⟨h1, h3⟩
    | some m =>
      simp only
      split
      · refine ⟨List.pairwise_cons.2 ⟨fun z hz => by have := (h2 z hz).1; simp only; omega, h1⟩, fun z hz => ?_⟩
        rcases List.mem_cons.1 hz with rfl | hz
        · simp only; omega
        · exact h3 z hz
      · exact ⟨h1, h3⟩
theorem find_stays (h : List IH) (p : Nat) : ∀ (d s : Nat), s ≤ p → p < s + d → (staysP h (List.range' s d)).find? (fun y => y.1 == p) = match moved (p : Int) h with
    | some m => if 0 ≤ (p : Int) + m then some (p, ((p : Int) + m).toNat) else none
    | none => none
  | 0, s, h1, h2 => by omega
  | d + 1, s, h1, h2 => by
    rw [List.range'_succ, staysP]
    by_cases e : s = p
    · subst e
      have hn : (staysP h (List.range' (s + 1) d)).find? (fun y => y.1 == s) = none := List.find?_eq_none.2 (fun z hz => by
        have := ((staysP_fst h d (s + 1)).2 z hz).1
        simp; omega)
      cases hm : moved (s : Int) h with
      | none => simp only; exact hn
      | some m =>
        simp only
        split
        · simp only [List.find?_cons, beq_self_eq_true]
        · exact hn
    · have ih := find_stays h p d (s + 1) (by omega) (by omega)
      cases hm : moved (s : Int) h with
      | none => simp only; exact ih
      | some m =>
        simp only
        split
        · rw [List.find?_cons, show ((s, ((s : Int) + m).toNat).1 == p) = false from by simp [e]]
          exact ih
        · exact ih
theorem find_staysK (k : Nat) : ∀ (l : List Int) (q : Nat) (h1 : q ≤ k) (h2 : k < q + l.length), (staysK q l).find? (fun z => z.2 == k) = if 0 ≤ l[k - q]'(by omega) then some ((l[k - q]'(by omega)).toNat, k) else none
  | [], q, h1, h2 => by simp at h2; omega
  | x :: t, q, h1, h2 => by
    simp only [List.length_cons] at h2
    by_cases e : q = k
    · subst e
      have hn : (staysK (q + 1) t).find? (fun z => z.2 == q) = none := List.find?_eq_none.2 (fun z hz => by
        have := ((staysK_snd t (q + 1)).2 z hz).1
        simp; omega)
      simp only [staysK, Nat.sub_self, List.getElem_cons_zero]
      split
      · simp only [List.find?_cons, beq_self_eq_true]
      · exact hn
    · have ih := find_staysK k t (q + 1) (by omega) (by omega)
      have e2 : (x :: t)[k - q]'(by simp only [List.length_cons]; omega) = t[k - (q + 1)]'(by omega) := by
        rw [List.getElem_cons]
        rw [dif_neg (by omega)]
        congr 1
      rw [e2]
      simp only [staysK]
      split
      · rw [List.find?_cons, show ((x.toNat, q).2 == k) = false from by simp [e]]
        exact ih
      · exact ih
/-- In order on both sides. -/
def Mono (A : List (Nat × Nat)) : Prop := A.Pairwise (fun u v => u.1 < v.1 ∧ u.2 < v.2)
theorem mono_of {A : List (Nat × Nat)} (h1 : A.Pairwise (fun u v => u.1 < v.1)) (h2 : A.Pairwise (fun u v => u.2 < v.2)) : Mono A := h1.and h2
theorem mono_at : ∀ {B : List (Nat × Nat)}, Mono B → ∀ y ∈ B, ∀ y' ∈ B, y.1 < y'.1 → y.2 < y'.2
  | b :: B, hm, y, hy, y', hy', hl => by
    have h := List.pairwise_cons.1 hm
    rcases List.mem_cons.1 hy with rfl | hy2
    · rcases List.mem_cons.1 hy' with rfl | hy3
      · omega
      · exact (h.1 y' hy3).2
    · rcases List.mem_cons.1 hy' with rfl | hy3
      · have := (h.1 y hy2).1
        omega
      · exact mono_at h.2 y hy2 y' hy3 hl
theorem joinA_mem (B : List (Nat × Nat)) : ∀ (A : List (Nat × Nat)), ∀ z ∈ joinA B A, ∃ a ∈ A, ∃ y ∈ B, z = (a.1, y.2) ∧ y.1 = a.2
  | a :: A, z, hz => by
    simp only [joinA] at hz
    have rest : z ∈ joinA B A → ∃ a' ∈ a :: A, ∃ y ∈ B, z = (a'.1, y.2) ∧ y.1 = a'.2 := fun hz => by
      obtain ⟨a', h1, y, h2, h3⟩ := joinA_mem B A z hz
      exact ⟨a', List.mem_cons_of_mem _ h1, y, h2, h3⟩
    cases hf : B.find? (fun y => y.1 == a.2) with
    | none => rw [hf] at hz; exact rest hz
    | some y =>
      rw [hf] at hz
      rcases List.mem_cons.1 hz with rfl | hz
      · exact ⟨a, List.mem_cons_self .., y, List.mem_of_find?_eq_some hf, rfl, by simpa using List.find?_some hf⟩
      · exact rest hz
theorem joinA_mono {B : List (Nat × Nat)} (hB : Mono B) : ∀ {A : List (Nat × Nat)}, Mono A → Mono (joinA B A)
  | [], _ => List.Pairwise.nil
  | a :: A, hA => by
    have h := List.pairwise_cons.1 hA
    simp only [joinA]
    cases hf : B.find? (fun y => y.1 == a.2) with
    | none => exact joinA_mono hB h.2
    | some y =>
      have e1 : y.1 = a.2 := by simpa using List.find?_some hf
      refine List.pairwise_cons.2 ⟨fun z hz => ?_, joinA_mono hB h.2⟩
      obtain ⟨a', h1, y', h2, rfl, e2⟩ := joinA_mem B A z hz
      have h3 := h.1 a' h1
      exact ⟨h3.1, mono_at hB y (List.mem_of_find?_eq_some hf) y' h2 (by omega)⟩

/-- The hunks by which all goes and comes that stands between pairs. -/
def betweenV (n : List ByteArray) : Nat → Nat → List (Nat × Nat) → List IH
  | _, _, [] => []
  | i, j, z :: t => (if i < z.1 ∨ j < z.2 then [(⟨(i : Int), (z.1 : Int) - i, (n.take z.2).drop j⟩ : IH)] else []) ++ betweenV n (z.1 + 1) (z.2 + 1) t
/-- Pairs in order behind i and j. -/
def okP (L N : Nat) : Nat → Nat → List (Nat × Nat) → Prop
  | _, _, [] => True
  | i, j, z :: t => (i ≤ z.1 ∧ j ≤ z.2 ∧ z.1 ≤ L ∧ z.2 ≤ N) ∧ okP L N (z.1 + 1) (z.2 + 1) t
theorem okP_of (L N : Nat) : ∀ (ps : List (Nat × Nat)) (i j : Nat), Mono ps → (∀ z ∈ ps, i ≤ z.1 ∧ j ≤ z.2 ∧ z.1 < L ∧ z.2 < N) → i ≤ L → j ≤ N → okP L N i j (ps ++ [(L, N)])
  | [], i, j, _, _, hi, hj => ⟨⟨hi, hj, Nat.le_refl _, Nat.le_refl _⟩, trivial⟩
  | z :: t, i, j, hm, hb, hi, hj => by
    have h := List.pairwise_cons.1 hm
    have hz := hb z (List.mem_cons_self ..)
    simp only [List.cons_append, okP]
    refine ⟨by omega, okP_of L N t _ _ h.2 (fun y hy => ?_) (by omega) (by omega)⟩
    have h1 := h.1 y hy
    have h2 := hb y (List.mem_cons_of_mem _ hy)
    omega
end Go.Proofs.Ytcefenlblnediaa.Pl

/- Plain Lean: when a text can be patched, and what comes. No condition. -/
namespace Go.Proofs.Ytcefenlblnediaa.Pl
open Go.RowKit Go.Proofs.YtcefenlblnediaaW.PrintWords Go.Proofs.YtcefenlblnediaaW.PrintLast Go.Proofs.Ytcefenlblnediaa.My
set_option linter.unusedVariables false
set_option linter.unusedSimpArgs false
theorem chain'_ofB {n : Int} : ∀ (h : List IH) (p : Int), chain n p h = true → chain' n p h
  | [], _, _ => trivial
  | x :: t, p, hc => by
    simp only [chain, hOK, Bool.and_eq_true, decide_eq_true_eq] at hc
    obtain ⟨⟨⟨c0, c1, c2, c4, c5, c3⟩, c6⟩, hc'⟩ := hc
    exact ⟨⟨c0, c1, c2, c3⟩, chain'_ofB t _ hc'⟩
theorem patchR_val' {a : List ByteArray} {h : List IH} (c : (patchR a h).2 = true) : (patchR a h).1 = patchFrom a 0 h := by
  unfold patchR at c ⊢
  split
  · rfl
  · rename_i e; rw [if_neg e] at c; cases c
theorem patchR_good {a : List ByteArray} {h : List IH} (c : (patchR a h).2 = true) : good (patchR a h).1 = true := by
  unfold patchR at c ⊢
  split
  · rename_i e; exact e.2
  · rename_i e; rw [if_neg e] at c; cases c
theorem good_mem {l : List ByteArray} (h : good l = true) : ∀ s ∈ l, isLn s = true := by
  unfold good at h
  simp only [Bool.and_eq_true, List.all_eq_true] at h
  exact h.2.1
theorem patchR_of {a y : List ByteArray} {h : List IH} (c1 : asked a h = true) (c2 : patchFrom a 0 h = y) (c3 : good y = true) : patchR a h = (y, true) := by
  unfold patchR patchH
  rw [c2, if_pos ⟨c1, c3⟩]
theorem dropMid (y : List ByteArray) (j k : Nat) (h : j ≤ k) : (y.take k).drop j ++ y.drop k = y.drop j := by
  rcases Nat.lt_or_ge y.length k with c | c
  · rw [List.take_of_length_le (by omega), List.drop_of_length_le (by omega : y.length ≤ k), List.append_nil]
  · conv => rhs; rw [← List.take_append_drop k y]
    rw [List.drop_append_of_le_length (by rw [List.length_take]; omega)]
theorem _root_.List.take_drop_comm' {α : Type} (l : List α) (m n : Nat) : (l.drop m).take n = (l.take (m + n)).drop m := by
  rw [List.take_drop]
end Go.Proofs.Ytcefenlblnediaa.Pl

/- Plain Lean: a drawn text with hunks over it. No condition. -/
namespace Go.Proofs.Ytcefenlblnediaa.Pl
open Go.RowKit Go.Proofs.YtcefenlblnediaaW.PrintWords Go.Proofs.YtcefenlblnediaaW.PrintLast Go.Proofs.Ytcefenlblnediaa.My
set_option linter.unusedVariables false
theorem drawPatch_some (c : List Int) (hc : Bytes8 c) : ∃ l h, Ev (fun k => spec_DrawPatch.f k c) (l, h) ∧ SmT l ∧ SmA h := by
  simp only [spec_DrawPatch.f, spec_DrawPatch.g]
  obtain ⟨l, h, a2, s2, e, h2⟩ := hunked_some c hc 0 0 (by omega) (by omega)
  exact ⟨l, h, ev_bind (ev_bind e (ev_some rfl)) (ev_some rfl), h2.1, h2.2.1⟩
theorem patchR_fitP (a : List ByteArray) (h : List IH) (fa : FitS a) (fh : FitI h) : FitS (patchR a h).1 := by
  unfold patchR
  split
  · rename_i e
    obtain ⟨a1, a2, a3, a4⟩ := asked_of e.1
    exact patchFrom_fit fa fh a1 a3 a2 0
  · exact ⟨Nat.zero_le _, fun s hs => by cases hs⟩
end Go.Proofs.Ytcefenlblnediaa.Pl

/- Plain Lean: copies of lists of strings. Condition: lengths below 2^43. -/
namespace Go.Proofs.Ytcefenlblnediaa.Pl
open Go.RowKit Go.Proofs.YtcefenlblnediaaW.PrintWords Go.Proofs.YtcefenlblnediaaW.PrintLast Go.Proofs.Ytcefenlblnediaa.My
set_option linter.unusedVariables false
set_option linter.unusedSimpArgs false

theorem cloneT_eq (l : List ByteArray) (h : l.length < 8796093022208) : slices_Clone_string_string.f l = some l := by
  unfold slices_Clone_string_string.f
  simp [h]
theorem ownT_eq (l : List ByteArray) (h : l.length < 8796093022208) : spec_l1OwnT.f l = some l := by
  unfold spec_l1OwnT.f
  simp [h]
end Go.Proofs.Ytcefenlblnediaa.Pl

/- Plain Lean: chapter 2: the hunks that lead back, for the program and the reference. Conditions: lengths and sizes below 2^62. -/
namespace Go.Proofs.Ytcefenlblnediaa.Pl
open Go.RowKit Go.Proofs.YtcefenlblnediaaW.PrintWords Go.Proofs.YtcefenlblnediaaW.PrintLast Go.Proofs.Ytcefenlblnediaa.My
set_option linter.unusedVariables false
set_option linter.unusedSimpArgs false

/-- The hunks that lead back, the text ahead having moved by s. -/
def backFrom (a : List ByteArray) : Int → List IH → List IH
  | _, [] => []
  | s, x :: t => ⟨x.f0 + s, (x.f2.length : Int), (a.take (x.f0 + x.f1).toNat).drop x.f0.toNat⟩ :: backFrom a (s + ((x.f2.length : Int) - x.f1)) t
theorem backFrom_len (a : List ByteArray) : ∀ (h : List IH) (s : Int), (backFrom a s h).length = h.length
  | [], _ => rfl
  | x :: t, s => by simp only [backFrom, List.length_cons, backFrom_len a t]
theorem backFrom_mem (a : List ByteArray) : ∀ (h : List IH) (s : Int) (y : IH), y ∈ backFrom a s h → y.f2.length ≤ a.length ∧ (∀ z ∈ y.f2, z ∈ a)
  | [], _, y, hy => by simp [backFrom] at hy
  | x :: t, s, y, hy => by
    simp only [backFrom, List.mem_cons] at hy
    rcases hy with rfl | hy
    · exact ⟨by rw [List.length_drop, List.length_take]; omega, fun z hz => List.mem_of_mem_take (List.mem_of_mem_drop hz)⟩
    · exact backFrom_mem a t _ y hy

theorem back_l0 (a : List ByteArray) (h : List IH) (hn : a.length ≤ 40) (hl : h.length ≤ 20) : ∀ d i (q s : Int) (acc : List IH), i + d = h.length → chain a.length q (h.drop i) = true → -40 * (i : Int) ≤ s → s ≤ 40 * (i : Int) → acc.length ≤ i →
    Ev (fun k => impl_BackHunks.l0 k a acc s h (h.length : Int) (i : Int)) ((acc ++ backFrom a s (h.drop i), true)) := by
  intro d
  induction d with
  | zero =>
    intro i q s acc hi hc h1 h2 hacc
    refine Ev.step (fun k => impl_BackHunks.l0.eq_2 ..) (ev_neg (by omega) (ev_some ?_))
    rw [List.drop_of_length_le (l := h) (by omega)]
    simp only [backFrom, List.append_nil]
  | succ d ih =>
    intro i q s acc hi hc h1 h2 hacc
    have hlt : i < h.length := by omega
    rw [List.drop_eq_getElem_cons hlt] at hc
    rw [List.drop_eq_getElem_cons hlt]
    simp only [chain, Bool.and_eq_true, hOK, decide_eq_true_eq] at hc
    obtain ⟨⟨⟨q0, q1, q2, q3, q4, q5⟩, _⟩, hc'⟩ := hc
    refine Ev.step (fun k => impl_BackHunks.l0.eq_2 ..) ?_
    simp only [rdIH h i hlt]
    rw [wrap64_id (x := h[i].f0 + h[i].f1) (by omega) (by omega), wrap64_id (x := h[i].f0 + s) (by omega) (by omega), wrap64_id (x := (h[i].f2.length : Int) - h[i].f1) (by omega) (by omega), wrap64_id (x := s + ((h[i].f2.length : Int) - h[i].f1)) (by omega) (by omega), wrap_succ i (by omega)]
    have e2 : ((a.take (h[i].f0 + h[i].f1).toNat).drop h[i].f0.toNat).length < 8796093022208 := by rw [List.length_drop, List.length_take]; omega
    rw [cloneT_eq _ e2]
    simp only [Option.bind_some]
    refine ev_pos (by omega) (ev_pos (by omega) (ev_pos (by omega) (ev_pos (by omega) (ev_pos (by omega) (ev_pos (by omega) (ev_pos (by omega) ?_))))))
    refine ev_to (ih (i + 1) _ _ _ (by omega) hc' (by omega) (by omega) (by rw [List.length_append, List.length_singleton]; omega)) ?_
    simp only [backFrom, List.append_assoc, List.singleton_append]

theorem l2Back_l0 (a : List ByteArray) (h : List IH) (hn : a.length ≤ 40) (hl : h.length ≤ 20) : ∀ d i (q s : Int) (acc : List IH), i + d = h.length → chain a.length q (h.drop i) = true → -40 * (i : Int) ≤ s → s ≤ 40 * (i : Int) → acc.length ≤ i →
    Ev (fun k => spec_l2Back.l0 k a acc s h (h.length : Int) (i : Int)) (acc ++ backFrom a s (h.drop i)) := by
  intro d
  induction d with
  | zero =>
    intro i q s acc hi hc h1 h2 hacc
    refine Ev.step (fun k => spec_l2Back.l0.eq_2 ..) (ev_neg (by omega) (ev_some ?_))
    rw [List.drop_of_length_le (l := h) (by omega)]
    simp only [backFrom, List.append_nil]
  | succ d ih =>
    intro i q s acc hi hc h1 h2 hacc
    have hlt : i < h.length := by omega
    rw [List.drop_eq_getElem_cons hlt] at hc
    rw [List.drop_eq_getElem_cons hlt]
    simp only [chain, Bool.and_eq_true, hOK, decide_eq_true_eq] at hc
    obtain ⟨⟨⟨q0, q1, q2, q3, q4, q5⟩, _⟩, hc'⟩ := hc
    refine Ev.step (fun k => spec_l2Back.l0.eq_2 ..) ?_
    simp only [rdIH h i hlt]
    rw [wrap64_id (x := h[i].f0 + h[i].f1) (by omega) (by omega), wrap64_id (x := h[i].f0 + s) (by omega) (by omega), wrap64_id (x := (h[i].f2.length : Int) - h[i].f1) (by omega) (by omega), wrap64_id (x := s + ((h[i].f2.length : Int) - h[i].f1)) (by omega) (by omega), wrap_succ i (by omega)]
    have e2 : ((a.take (h[i].f0 + h[i].f1).toNat).drop h[i].f0.toNat).length < 8796093022208 := by rw [List.length_drop, List.length_take]; omega
    rw [ownT_eq _ e2]
    simp only [Option.bind_some]
    refine ev_pos (by omega) (ev_pos (by omega) (ev_pos (by omega) (ev_pos (by omega) (ev_pos (by omega) (ev_pos (by omega) (ev_pos (by omega) ?_))))))
    refine ev_to (ih (i + 1) _ _ _ (by omega) hc' (by omega) (by omega) (by rw [List.length_append, List.length_singleton]; omega)) ?_
    simp only [backFrom, List.append_assoc, List.singleton_append]

def backR (a : List ByteArray) (h : List IH) : List IH × Bool := if (patchR a h).2 = true then (backFrom a 0 h, true) else ([], false)
theorem impl_BackHunks_ev (a : List ByteArray) (h : List IH) (fa : FitS a) (fh : FitI h) : Ev (fun k => impl_BackHunks.f k a h) (backR a h) := by
  simp only [impl_BackHunks.f]
  unfold backR
  refine ev_bind (impl_Patch_ev a h fa fh) (ev_ite (fun c => ?_) (fun c => ev_some ?_))
  · rw [if_pos c]
    obtain ⟨c1, c2, c3, c4⟩ := asked_of (patchR_asked c)
    exact back_l0 a h c1 c2 h.length 0 (-1) 0 [] (by omega) c4 (by omega) (by omega) (Nat.zero_le _)
  · rw [if_neg c]
theorem spec_BackHunks_ev (a : List ByteArray) (h : List IH) (fa : FitS a) (fh : FitI h) : Ev (fun k => spec_BackHunks.f k a h) (backR a h) := by
  simp only [spec_BackHunks.f]
  unfold backR
  refine ev_bind (spec_Patch_ev a h fa fh) (ev_ite (fun c => ?_) (fun c => ev_some ?_))
  · obtain ⟨c1, c2, c3, c4⟩ := asked_of (patchR_asked c)
    have e : Ev (fun k => spec_l2Back.f k a h) (backFrom a 0 h) := by
      simp only [spec_l2Back.f]
      exact l2Back_l0 a h c1 c2 h.length 0 (-1) 0 [] (by omega) c4 (by omega) (by omega) (Nat.zero_le _)
    refine ev_bind e (ev_some ?_)
    rw [if_pos c]
  · rw [if_neg c]
theorem backR_small (a : List ByteArray) (h : List IH) : (backR a h).1.length ≤ 20 ∧ ∀ x ∈ (backR a h).1, 0 ≤ x.f2.length ∧ x.f2.length ≤ 100 := by
  unfold backR
  split
  · rename_i c
    obtain ⟨c1, c2, c3, c4⟩ := asked_of (patchR_asked c)
    refine ⟨by rw [backFrom_len]; exact c2, fun x hx => ⟨Nat.zero_le _, ?_⟩⟩
    have := (backFrom_mem a h 0 x hx).1
    omega
  · exact ⟨Nat.zero_le _, fun x hx => by simp at hx⟩
theorem backR_fit (a : List ByteArray) (h : List IH) (fa : FitS a) (fh : FitI h) : ∀ x ∈ (backR a h).1, FitS x.f2 := by
  unfold backR
  split
  · intro x hx
    have h1 := backFrom_mem a h 0 x hx
    exact ⟨Nat.le_trans h1.1 fa.1, fun z hz => fa.2 z (h1.2 z hz)⟩
  · intro x hx
    simp at hx
end Go.Proofs.Ytcefenlblnediaa.Pl

/- Plain Lean: turned hunks bring the text back, and turned twice are what they were. Asked: hunks in order. -/
namespace Go.Proofs.Ytcefenlblnediaa.Pl
open Go.RowKit Go.Proofs.YtcefenlblnediaaW.PrintWords Go.Proofs.YtcefenlblnediaaW.PrintLast Go.Proofs.Ytcefenlblnediaa.My
set_option linter.unusedVariables false
set_option linter.unusedSimpArgs false
/-- What one hunk does, told of the text behind it. -/
theorem patch_split {a y : List ByteArray} {x : IH} {t : List IH} {p P : Nat} {s : Int} (c0 : 0 ≤ x.f0) (c1 : 0 ≤ x.f1) (c2 : x.f0 + x.f1 ≤ a.length) (hp : (p : Int) ≤ x.f0) (hP : (P : Int) = p + s) (hy : y.drop P = patchFrom a p (x :: t)) :
    0 ≤ x.f0 + s ∧ (y.take (x.f0 + s).toNat).drop P = (a.take x.f0.toNat).drop p ∧ (y.take (x.f0 + s + x.f2.length).toNat).drop (x.f0 + s).toNat = x.f2 ∧ y.drop (x.f0 + s + x.f2.length).toNat = patchFrom a (x.f0 + x.f1).toNat t := by
  have hA : ((a.take x.f0.toNat).drop p).length = x.f0.toNat - p := by rw [List.length_drop, List.length_take]; omega
  simp only [patchFrom] at hy
  have e1 : (x.f0 + s).toNat = P + (x.f0.toNat - p) := by omega
  have e2 : (x.f0 + s + x.f2.length).toNat = P + ((x.f0.toNat - p) + x.f2.length) := by omega
  refine ⟨by omega, ?_, ?_, ?_⟩
  · rw [e1, ← List.take_drop_comm', hy, List.take_append_of_le_length (by omega), List.take_of_length_le (by omega)]
  · rw [e1, e2, ← List.drop_drop, ← List.take_drop_comm', hy, List.take_append, List.drop_append, List.take_of_length_le (by omega), List.drop_of_length_le (by omega), hA, Nat.sub_self, List.drop_zero, List.nil_append, Nat.add_sub_cancel_left, List.take_left']
    rfl
  · have hd : ∀ (A B C : List ByteArray) (n m : Nat), A.length = n → B.length = m → (A ++ (B ++ C)).drop (n + m) = C := by
      intro A B C n m h1 h2
      subst h1
      subst h2
      rw [← List.drop_drop, List.drop_left, List.drop_left]
    rw [e2, ← List.drop_drop, hy]
    exact hd _ _ _ _ _ hA rfl
theorem back_patch (a y : List ByteArray) : ∀ (h : List IH) (p P : Nat) (q s : Int), chain' (a.length : Int) q h → (∀ x ∈ h, (p : Int) ≤ x.f0) → (P : Int) = p + s → y.drop P = patchFrom a p h → patchFrom y P (backFrom a s h) = a.drop p
  | [], p, P, q, s, _, _, _, hy => hy
  | x :: t, p, P, q, s, hc, hf, hP, hy => by
    simp only [chain'] at hc
    obtain ⟨⟨c0, c1, c2, c3⟩, hc'⟩ := hc
    have hp : (p : Int) ≤ x.f0 := hf x (List.mem_cons_self ..)
    obtain ⟨d0, d1, d2, d3⟩ := patch_split c0 c1 c2 hp hP hy
    simp only [backFrom, patchFrom]
    rw [back_patch a y t (x.f0 + x.f1).toNat (x.f0 + s + x.f2.length).toNat (x.f0 + x.f1) (s + ((x.f2.length : Int) - x.f1)) hc' (fun z hz => by have := chain_mem t _ hc' z hz; omega) (by omega) d3, d1,
      dropMid a x.f0.toNat (x.f0 + x.f1).toNat (by omega), dropMid a p x.f0.toNat (by omega)]
theorem back_back (a y : List ByteArray) : ∀ (h : List IH) (p P : Nat) (q s : Int), chain' (a.length : Int) q h → (∀ x ∈ h, (p : Int) ≤ x.f0) → (P : Int) = p + s → y.drop P = patchFrom a p h → backFrom y (-s) (backFrom a s h) = h
  | [], p, P, q, s, _, _, _, hy => rfl
  | x :: t, p, P, q, s, hc, hf, hP, hy => by
    simp only [chain'] at hc
    obtain ⟨⟨c0, c1, c2, c3⟩, hc'⟩ := hc
    have hp : (p : Int) ≤ x.f0 := hf x (List.mem_cons_self ..)
    obtain ⟨d0, d1, d2, d3⟩ := patch_split c0 c1 c2 hp hP hy
    have hl : (((a.take (x.f0 + x.f1).toNat).drop x.f0.toNat).length : Int) = x.f1 := by rw [List.length_drop, List.length_take]; omega
    simp only [backFrom]
    rw [d2, hl, show -s + (x.f1 - (x.f2.length : Int)) = -(s + ((x.f2.length : Int) - x.f1)) from by omega,
      back_back a y t (x.f0 + x.f1).toNat (x.f0 + s + x.f2.length).toNat (x.f0 + x.f1) (s + ((x.f2.length : Int) - x.f1)) hc' (fun z hz => by have := chain_mem t _ hc' z hz; omega) (by omega) d3,
      show x.f0 + s + -s = x.f0 from by omega]
theorem back_chain (a y : List ByteArray) (hg : ∀ z ∈ a, isLn z = true) : ∀ (h : List IH) (p P : Nat) (q s : Int), chain (a.length : Int) q h = true → near h → (∀ x ∈ h, (p : Int) ≤ x.f0) → (P : Int) = p + s → P ≤ y.length → y.drop P = patchFrom a p h → chain (y.length : Int) (q + s) (backFrom a s h) = true
  | [], p, P, q, s, _, _, _, _, _, _ => rfl
  | x :: t, p, P, q, s, hc, hn, hf, hP, hPy, hy => by
    simp only [chain, hOK, Bool.and_eq_true, decide_eq_true_eq] at hc
    obtain ⟨⟨⟨c0, c1, c2, c4, c5, c3⟩, c6⟩, hc'⟩ := hc
    have hp : (p : Int) ≤ x.f0 := hf x (List.mem_cons_self ..)
    have hnx := hn x (List.mem_cons_self ..)
    obtain ⟨d0, d1, d2, d3⟩ := patch_split c0 c1 c2 hp hP hy
    have hlen : y.length = P + (patchFrom a p (x :: t)).length := by rw [← hy, List.length_drop]; omega
    have hlen2 : (x.f0.toNat - p) + x.f2.length ≤ (patchFrom a p (x :: t)).length := by
      simp only [patchFrom, List.length_append, List.length_drop, List.length_take]
      omega
    have hl : (((a.take (x.f0 + x.f1).toNat).drop x.f0.toNat).length : Int) = x.f1 := by rw [List.length_drop, List.length_take]; omega
    simp only [backFrom, chain, hOK, Bool.and_eq_true, decide_eq_true_eq]
    refine ⟨⟨⟨d0, Int.natCast_nonneg _, by dsimp only; omega, fun e => ?_, by dsimp only; omega, by dsimp only; omega⟩, ?_⟩, ?_⟩
    · dsimp only at e
      exact c4 ⟨by omega, by omega⟩
    · rw [List.all_eq_true]
      exact fun z hz => hg z (List.mem_of_mem_take (List.mem_of_mem_drop hz))
    · have := back_chain a y hg t (x.f0 + x.f1).toNat (x.f0 + s + x.f2.length).toNat (x.f0 + x.f1) (s + ((x.f2.length : Int) - x.f1)) hc' (fun z hz => hn z (List.mem_cons_of_mem _ hz)) (fun z hz => by have := chain_mem t _ (chain'_ofB t _ hc') z hz; omega) (by omega) (by omega) d3
      rwa [show x.f0 + x.f1 + (s + ((x.f2.length : Int) - x.f1)) = x.f0 + s + (x.f2.length : Int) from by omega] at this
/-- Patched, and patched back. -/
theorem back_law {l : List ByteArray} {h : List IH} (c : (patchR l h).2 = true) :
    patchR (patchR l h).1 (backR l h).1 = (l, true) ∧ backR (patchR l h).1 (backR l h).1 = (h, true) ∧ goodH ((patchR l h).1.length : Int) (backR l h).1 = true ∧ (((patchR l h).1.length : Nat) : Int) = l.length + total h := by
  have q := patchR_asked c
  obtain ⟨a1, a2, a3, a4⟩ := asked_of q
  have gl : good l = true := by unfold asked at q; exact (Bool.and_eq_true _ _ ▸ q).1
  have gy := patchR_good c
  have hy := patchR_val' c
  have c' := chain'_ofB h _ a4
  have hf : ∀ x ∈ h, ((0 : Nat) : Int) ≤ x.f0 := fun x hx => by have := (a3 x hx).1; omega
  have hb : (backR l h).1 = backFrom l 0 h := by unfold backR; rw [if_pos c]
  have e0 : (patchR l h).1.drop 0 = patchFrom l 0 h := by rw [List.drop_zero]; exact hy
  have hch := back_chain l (patchR l h).1 (good_mem gl) h 0 0 (-1) 0 a4 a3 hf (by simp) (Nat.zero_le _) e0
  have gH : goodH ((patchR l h).1.length : Int) (backFrom l 0 h) = true := by
    unfold goodH
    have hl := patchR_small l h
    rw [(inB_iff _ _ _).2 ⟨by omega, by omega⟩, Bool.true_and, decide_eq_true (by rw [backFrom_len]; exact a2), Bool.true_and]
    simpa using hch
  have P := patchR_of (a := (patchR l h).1) (h := backFrom l 0 h) (y := l) (by unfold asked; rw [gy, gH]; rfl) (by
    have := back_patch l (patchR l h).1 h 0 0 (-1) 0 c' hf (by simp) e0
    rwa [List.drop_zero] at this) gl
  rw [hb]
  refine ⟨P, ?_, gH, ?_⟩
  · have := back_back l (patchR l h).1 h 0 0 (-1) 0 c' hf (by simp) e0
    unfold backR
    rw [P, if_pos rfl]
    exact Prod.ext (by simpa using this) rfl
  · rw [hy]
    have := patch_len l h 0 (-1) c' hf (Nat.zero_le _)
    omega
end Go.Proofs.Ytcefenlblnediaa.Pl

/- Plain Lean: how many lines go and come, and whether hunks are least. Asked: hunks that are good for the lines. -/
namespace Go.Proofs.Ytcefenlblnediaa.Pl
open Go.RowKit Go.Proofs.YtcefenlblnediaaW.PrintWords Go.Proofs.YtcefenlblnediaaW.PrintLast Go.Proofs.Ytcefenlblnediaa.My
set_option linter.unusedVariables false
set_option linter.unusedSimpArgs false
def goneV : List IH → Int
  | [] => 0
  | x :: t => x.f1 + goneV t
def comeV : List IH → Int
  | [] => 0
  | x :: t => (x.f2.length : Int) + comeV t
theorem goneV_le : ∀ (h : List IH), near h → 0 ≤ goneV h ∧ goneV h ≤ 40 * h.length
  | [], _ => by simp [goneV]
  | x :: t, hn => by
    have h1 := hn x (List.mem_cons_self ..)
    have h2 := goneV_le t (fun y hy => hn y (List.mem_cons_of_mem _ hy))
    simp only [goneV, List.length_cons]
    omega
theorem comeV_le : ∀ (h : List IH), near h → 0 ≤ comeV h ∧ comeV h ≤ 40 * h.length
  | [], _ => by simp [comeV]
  | x :: t, hn => by
    have h1 := hn x (List.mem_cons_self ..)
    have h2 := comeV_le t (fun y hy => hn y (List.mem_cons_of_mem _ hy))
    simp only [comeV, List.length_cons]
    omega
theorem near_drop {h : List IH} (hn : near h) (i : Nat) : near (h.drop i) := fun y hy => hn y (List.mem_of_mem_drop hy)
theorem counts_l0 (h : List IH) (hn : near h) (hl : h.length ≤ 20) : ∀ d i (g c : Int), i + d = h.length → 0 ≤ g → g ≤ 40 * i → 0 ≤ c → c ≤ 40 * i →
    Ev (fun k => impl_counts.l0 k g c h (h.length : Int) (i : Int)) (g + goneV (h.drop i), c + comeV (h.drop i)) := by
  intro d
  induction d with
  | zero =>
    intro i g c hi g0 g1 c0 c1
    refine Ev.step (fun k => impl_counts.l0.eq_2 ..) (ev_neg (by omega) (ev_some ?_))
    rw [List.drop_of_length_le (by omega)]
    simp [goneV, comeV]
  | succ d ih =>
    intro i g c hi g0 g1 c0 c1
    have hlt : i < h.length := by omega
    have hx := hn _ (List.getElem_mem hlt)
    refine Ev.step (fun k => impl_counts.l0.eq_2 ..) (ev_pos (by omega) (ev_pos (by omega) (ev_pos (by omega) ?_)))
    rw [rdIH h i hlt, wrap_succ i (by omega), wrap64_id (x := g + h[i].f1) (by omega) (by omega), wrap64_id (x := c + (h[i].f2.length : Int)) (by omega) (by omega)]
    refine ev_to (ih (i + 1) _ _ (by omega) (by omega) (by omega) (by omega) (by omega)) ?_
    rw [List.drop_eq_getElem_cons hlt]
    simp only [goneV, comeV]
    exact Prod.ext (by simp only; omega) (by simp only; omega)
theorem counts_ev (h : List IH) (hn : near h) (hl : h.length ≤ 20) : Ev (fun k => impl_counts.f k h) (goneV h, comeV h) := by
  simp only [impl_counts.f]
  exact ev_to (counts_l0 h hn hl h.length 0 0 0 (by omega) (by omega) (by omega) (by omega) (by omega)) (by simp)
theorem specCounts_l0 (h : List IH) (hn : near h) (hl : h.length ≤ 20) : ∀ d i (g c : Int), i + d = h.length → 0 ≤ g → g ≤ 40 * i → 0 ≤ c → c ≤ 40 * i →
    Ev (fun k => spec_CountHunks.l0 k h g c h (h.length : Int) (i : Int)) (g + goneV (h.drop i), c + comeV (h.drop i), true) := by
  intro d
  induction d with
  | zero =>
    intro i g c hi g0 g1 c0 c1
    refine Ev.step (fun k => spec_CountHunks.l0.eq_2 ..) (ev_neg (by omega) (ev_neg (by omega) (ev_some ?_)))
    rw [List.drop_of_length_le (by omega)]
    simp [goneV, comeV]
  | succ d ih =>
    intro i g c hi g0 g1 c0 c1
    have hlt : i < h.length := by omega
    have hx := hn _ (List.getElem_mem hlt)
    refine Ev.step (fun k => spec_CountHunks.l0.eq_2 ..) (ev_pos (by omega) (ev_pos (by omega) (ev_pos (by omega) ?_)))
    rw [rdIH h i hlt, wrap_succ i (by omega), wrap64_id (x := g + h[i].f1) (by omega) (by omega), wrap64_id (x := c + (h[i].f2.length : Int)) (by omega) (by omega)]
    refine ev_bind (ev_const (spec_l1In_eq _ _ _)) (ev_pos ((inB_iff _ _ _).2 (by omega)) (ev_to (ih (i + 1) _ _ (by omega) (by omega) (by omega) (by omega) (by omega)) ?_))
    rw [List.drop_eq_getElem_cons hlt]
    simp only [goneV, comeV]
    exact Prod.ext (by simp only; omega) (Prod.ext (by simp only; omega) rfl)
theorem specCounts_ev (h : List IH) (hn : near h) (hl : h.length ≤ 20) : Ev (fun k => spec_CountHunks.f k h) (goneV h, comeV h, true) := by
  simp only [spec_CountHunks.f]
  exact ev_to (specCounts_l0 h hn hl h.length 0 0 0 (by omega) (by omega) (by omega) (by omega) (by omega)) (by simp)
end Go.Proofs.Ytcefenlblnediaa.Pl

/- Plain Lean: how many lines go and come, told by both. Asked: at most 20 hunks, none of more than 200 lines. -/
namespace Go.Proofs.Ytcefenlblnediaa.Pl
open Go.RowKit Go.Proofs.YtcefenlblnediaaW.PrintWords Go.Proofs.YtcefenlblnediaaW.PrintLast Go.Proofs.Ytcefenlblnediaa.My
set_option linter.unusedVariables false
set_option linter.unusedSimpArgs false
def mid (h : List IH) : Prop := ∀ x ∈ h, 0 ≤ x.f1 ∧ x.f1 ≤ 200 ∧ x.f2.length ≤ 200
theorem mid_of_near {h : List IH} (n : near h) : mid h := fun x hx => by have := n x hx; omega
theorem countsM_l0 (h : List IH) (hn : mid h) (hl : h.length ≤ 20) : ∀ d i (g c : Int), i + d = h.length → 0 ≤ g → g ≤ 200 * i → 0 ≤ c → c ≤ 200 * i →
    Ev (fun k => impl_counts.l0 k g c h (h.length : Int) (i : Int)) (g + goneV (h.drop i), c + comeV (h.drop i)) := by
  intro d
  induction d with
  | zero =>
    intro i g c hi g0 g1 c0 c1
    refine Ev.step (fun k => impl_counts.l0.eq_2 ..) (ev_neg (by omega) (ev_some ?_))
    rw [List.drop_of_length_le (by omega)]
    simp [goneV, comeV]
  | succ d ih =>
    intro i g c hi g0 g1 c0 c1
    have hlt : i < h.length := by omega
    have hx := hn _ (List.getElem_mem hlt)
    refine Ev.step (fun k => impl_counts.l0.eq_2 ..) (ev_pos (by omega) (ev_pos (by omega) (ev_pos (by omega) ?_)))
    rw [rdIH h i hlt, wrap_succ i (by omega), wrap64_id (x := g + h[i].f1) (by omega) (by omega), wrap64_id (x := c + (h[i].f2.length : Int)) (by omega) (by omega)]
    refine ev_to (ih (i + 1) _ _ (by omega) (by omega) (by omega) (by omega) (by omega)) ?_
    rw [List.drop_eq_getElem_cons hlt]
    simp only [goneV, comeV]
    exact Prod.ext (by simp only; omega) (by simp only; omega)
theorem specCountsM_l0 (h : List IH) (hn : mid h) (hl : h.length ≤ 20) : ∀ d i (g c : Int), i + d = h.length → 0 ≤ g → g ≤ 200 * i → 0 ≤ c → c ≤ 200 * i →
    Ev (fun k => spec_CountHunks.l0 k h g c h (h.length : Int) (i : Int)) (g + goneV (h.drop i), c + comeV (h.drop i), true) := by
  intro d
  induction d with
  | zero =>
    intro i g c hi g0 g1 c0 c1
    refine Ev.step (fun k => spec_CountHunks.l0.eq_2 ..) (ev_neg (by omega) (ev_neg (by omega) (ev_some ?_)))
    rw [List.drop_of_length_le (by omega)]
    simp [goneV, comeV]
  | succ d ih =>
    intro i g c hi g0 g1 c0 c1
    have hlt : i < h.length := by omega
    have hx := hn _ (List.getElem_mem hlt)
    have hin : spec_l1In.f h[i].f1 0 1000000 = some true := by
      rw [spec_l1In_eq]
      rw [(inB_iff _ _ _).2 ⟨by omega, by omega⟩]
    refine Ev.step (fun k => spec_CountHunks.l0.eq_2 ..) (ev_pos (by omega) (ev_pos (by omega) (ev_pos (by omega) ?_)))
    rw [rdIH h i hlt, wrap_succ i (by omega), wrap64_id (x := g + h[i].f1) (by omega) (by omega), wrap64_id (x := c + (h[i].f2.length : Int)) (by omega) (by omega)]
    refine ev_bind (ev_const hin) (ev_pos rfl (ev_to (ih (i + 1) _ _ (by omega) (by omega) (by omega) (by omega) (by omega)) ?_))
    rw [List.drop_eq_getElem_cons hlt]
    simp only [goneV, comeV]
    exact Prod.ext (by simp only; omega) (Prod.ext (by simp only; omega) rfl)
theorem specCountHunks_ev (h : List IH) (hn : mid h) (hl : h.length ≤ 20) : Ev (fun k => spec_CountHunks.f k h) (goneV h, comeV h, true) := by
  simp only [spec_CountHunks.f]
  exact ev_to (specCountsM_l0 h hn hl h.length 0 0 0 (by omega) (by omega) (by omega) (by omega) (by omega)) (by simp)
theorem noneNeg_l0 (h : List IH) (hn : mid h) (hl : h.length ≤ 20) : ∀ d i, i + d = h.length → Ev (fun k => slices_IndexFunc_impl_Hunk_impl_Hunk__impl_CountHunks_1.l0 k h (h.length : Int) (i : Int)) (-1) := by
  intro d
  induction d with
  | zero => intro i hi; exact Ev.step (fun k => slices_IndexFunc_impl_Hunk_impl_Hunk__impl_CountHunks_1.l0.eq_2 ..) (ev_neg (by omega) (ev_some rfl))
  | succ d ih =>
    intro i hi
    have hlt : i < h.length := by omega
    have hx := hn _ (List.getElem_mem hlt)
    refine Ev.step (fun k => slices_IndexFunc_impl_Hunk_impl_Hunk__impl_CountHunks_1.l0.eq_2 ..) (ev_pos (by omega) (ev_pos (by omega) (ev_pos (by omega) ?_)))
    rw [rdIH h i hlt, wrap_succ i (by omega)]
    simp only [impl_CountHunks_1.f]
    exact ev_bind (ev_some rfl) (ev_neg (by rw [decide_eq_false (by omega)]; simp) (ih (i + 1) (by omega)))
theorem implCountHunks_ev (h : List IH) (hn : mid h) (hl : h.length ≤ 20) : Ev (fun k => impl_CountHunks.f k h) (goneV h, comeV h, true) := by
  simp only [impl_CountHunks.f, slices_ContainsFunc_impl_Hunk_impl_Hunk__impl_CountHunks_1.f, slices_IndexFunc_impl_Hunk_impl_Hunk__impl_CountHunks_1.f, impl_counts.f]
  refine ev_neg (by omega) (ev_bind (ev_bind (noneNeg_l0 h hn hl h.length 0 (by omega)) (ev_some rfl)) (ev_neg (by simp) (ev_bind (countsM_l0 h hn hl h.length 0 0 0 (by omega) (by omega) (by omega) (by omega) (by omega)) (ev_some ?_))))
  simp
theorem total_eq : ∀ h : List IH, total h = comeV h - goneV h
  | [] => by simp [total, comeV, goneV]
  | x :: t => by simp only [total, comeV, goneV, total_eq t]; omega
end Go.Proofs.Ytcefenlblnediaa.Pl

/- Plain Lean: whether texts, or hunks, are the same, by the laws' own tests. Conditions: lengths and sizes below 2^63. -/
namespace Go.Proofs.Ytcefenlblnediaa.Pl
open Go.RowKit Go.Proofs.YtcefenlblnediaaW.PrintWords Go.Proofs.YtcefenlblnediaaW.PrintLast Go.Proofs.Ytcefenlblnediaa.My
set_option linter.unusedVariables false
set_option linter.unusedSimpArgs false
theorem sameTexts_g0 (a b : List ByteArray) (hab : a.length = b.length) (hL : a.length ≤ 9223372036854775807) : ∀ d i, i + d = a.length → Ev (fun k => laws_sameTexts.l0 k a b (a.length : Int) (i : Int)) (decide (a.drop i = b.drop i)) := by
  intro d
  induction d with
  | zero =>
    intro i hi
    refine Ev.step (fun k => laws_sameTexts.l0.eq_2 ..) (ev_neg (by omega) (ev_some ?_))
    rw [List.drop_of_length_le (by omega), List.drop_of_length_le (by omega)]
    simp
  | succ d ih =>
    intro i hi
    have h1 : i < a.length := by omega
    have h2 : i < b.length := by omega
    refine Ev.step (fun k => laws_sameTexts.l0.eq_2 ..) (ev_pos (by omega) (ev_pos (by omega) (ev_pos (by omega) (ev_pos (by omega) ?_))))
    rw [rdOf_lt _ _ _ h1, rdOf_lt _ _ _ h2, drop_cons a i h1, drop_cons b i h2]
    refine ev_ite (fun h => ?_) (fun h => ev_some ?_)
    · rw [wrap_succ i (by omega)]
      refine ev_to (ih (i + 1) (by omega)) ?_
      rw [ba_ext h]
      simp only [List.cons.injEq, true_and]
    · have : ¬ a[i] = b[i] := fun e => h (by rw [e])
      simp only [List.cons.injEq, this, false_and, decide_false]

theorem sameTexts_ev (a b : List ByteArray) (hL : a.length ≤ 9223372036854775807) : Ev (fun k => laws_sameTexts.f k a b) (decide (a = b)) := by
  simp only [laws_sameTexts.f]
  refine ev_ite (fun h => ?_) (fun h => ev_some ?_)
  · exact sameTexts_g0 a b (by omega) hL a.length 0 (by omega)
  · have : ¬ a = b := fun e => h (by rw [e])
    simp [this]

theorem lawSameH_l0 (a b : List IH) (hab : a.length = b.length) (hf : FitI a) : ∀ d i, i + d = a.length → Ev (fun k => laws_sameHunks.l0 k b a (a.length : Int) (i : Int)) (decide (a.drop i = b.drop i)) := by
  intro d
  have hL := hf.1
  induction d with
  | zero =>
    intro i hi
    refine Ev.step (fun k => laws_sameHunks.l0.eq_2 ..) (ev_neg (by omega) (ev_some ?_))
    rw [List.drop_of_length_le (by omega), List.drop_of_length_le (by omega)]
    simp
  | succ d ih =>
    intro i hi
    have h1 : i < a.length := by omega
    have h2 : i < b.length := by omega
    refine Ev.step (fun k => laws_sameHunks.l0.eq_2 ..) (ev_pos (by omega) (ev_pos (by omega) (ev_pos (by omega) (ev_pos (by omega) ?_))))
    simp only [rdIH _ _ h1, rdIH _ _ h2, drop_cons a i h1, drop_cons b i h2]
    refine ev_ite (fun h0 => ev_ite (fun h1' => ev_bind (sameTexts_ev _ _ (hf.2 _ (List.getElem_mem h1)).2.2.1) (ev_ite (fun h3 => ?_) (fun h3 => ev_some ?_))) (fun h1' => ev_some ?_)) (fun h0 => ev_some ?_)
    · rw [wrap_succ i (by omega)]
      refine ev_to (ih (i + 1) (by omega)) ?_
      rw [ih_ext h0 h1' (of_decide_eq_true h3)]
      simp only [List.cons.injEq, true_and]
    · have : ¬ a[i] = b[i] := fun e => h3 (by rw [e]; simp)
      simp only [List.cons.injEq, this, false_and, decide_false]
    · have : ¬ a[i] = b[i] := fun e => h1' (by rw [e])
      simp only [List.cons.injEq, this, false_and, decide_false]
    · have : ¬ a[i] = b[i] := fun e => h0 (by rw [e])
      simp only [List.cons.injEq, this, false_and, decide_false]

theorem lawSameH_ev (a b : List IH) (hf : FitI a) : Ev (fun k => laws_sameHunks.f k a b) (decide (a = b)) := by
  simp only [laws_sameHunks.f]
  refine ev_ite (fun h => ?_) (fun h => ev_some ?_)
  · exact lawSameH_l0 a b (by omega) hf a.length 0 (by omega)
  · have : ¬ a = b := fun e => h (by rw [e])
    simp [this]
end Go.Proofs.Ytcefenlblnediaa.Pl

/- Plain Lean: whether hunks are the same, the program's and the reference's. Conditions: lengths and sizes below 2^63. -/
namespace Go.Proofs.Ytcefenlblnediaa.Pl
open Go.RowKit Go.Proofs.YtcefenlblnediaaW.PrintWords Go.Proofs.YtcefenlblnediaaW.PrintLast Go.Proofs.Ytcefenlblnediaa.My
set_option linter.unusedVariables false
set_option linter.unusedSimpArgs false

theorem equalT_l0 (a b : List ByteArray) (hab : a.length = b.length) (hL : a.length ≤ 9223372036854775807) : ∀ d i, i + d = a.length → Ev (fun k => slices_Equal_string_string.l0 k a b (a.length : Int) (i : Int)) (decide (a.drop i = b.drop i)) := by
  intro d
  induction d with
  | zero =>
    intro i hi
    refine Ev.step (fun k => slices_Equal_string_string.l0.eq_2 ..) (ev_neg (by omega) (ev_some ?_))
    rw [List.drop_of_length_le (by omega), List.drop_of_length_le (by omega)]
    simp
  | succ d ih =>
    intro i hi
    have h1 : i < a.length := by omega
    have h2 : i < b.length := by omega
    refine Ev.step (fun k => slices_Equal_string_string.l0.eq_2 ..) (ev_pos (by omega) (ev_pos (by omega) (ev_pos (by omega) (ev_pos (by omega) ?_))))
    rw [rdOf_lt _ _ _ h1, rdOf_lt _ _ _ h2, drop_cons a i h1, drop_cons b i h2]
    refine ev_ite (fun h => ?_) (fun h => ev_some ?_)
    · rw [wrap_succ i (by omega)]
      refine ev_to (ih (i + 1) (by omega)) ?_
      rw [ba_ext h]
      simp only [List.cons.injEq, true_and]
    · have : ¬ a[i] = b[i] := fun e => h (by rw [e])
      simp only [List.cons.injEq, this, false_and, decide_false]

theorem equalT_ev (a b : List ByteArray) (hL : a.length ≤ 9223372036854775807) : Ev (fun k => slices_Equal_string_string.f k a b) (decide (a = b)) := by
  simp only [slices_Equal_string_string.f]
  refine ev_ite (fun h => ?_) (fun h => ev_some ?_)
  · exact equalT_l0 a b (by omega) hL a.length 0 (by omega)
  · have : ¬ a = b := fun e => h (by rw [e])
    simp [this]

theorem l1SameT_l0 (a b : List ByteArray) (hab : a.length = b.length) (hL : a.length ≤ 9223372036854775807) : ∀ d i, i + d = a.length → Ev (fun k => spec_l1SameT.l0 k a b (a.length : Int) (i : Int)) (decide (a.drop i = b.drop i)) := by
  intro d
  induction d with
  | zero =>
    intro i hi
    refine Ev.step (fun k => spec_l1SameT.l0.eq_2 ..) (ev_neg (by omega) (ev_some ?_))
    rw [List.drop_of_length_le (by omega), List.drop_of_length_le (by omega)]
    simp
  | succ d ih =>
    intro i hi
    have h1 : i < a.length := by omega
    have h2 : i < b.length := by omega
    refine Ev.step (fun k => spec_l1SameT.l0.eq_2 ..) (ev_pos (by omega) (ev_pos (by omega) (ev_pos (by omega) (ev_pos (by omega) ?_))))
    rw [rdOf_lt _ _ _ h1, rdOf_lt _ _ _ h2, drop_cons a i h1, drop_cons b i h2]
    refine ev_ite (fun h => ?_) (fun h => ev_some ?_)
    · rw [wrap_succ i (by omega)]
      refine ev_to (ih (i + 1) (by omega)) ?_
      rw [ba_ext h]
      simp only [List.cons.injEq, true_and]
    · have : ¬ a[i] = b[i] := fun e => h (by rw [e])
      simp only [List.cons.injEq, this, false_and, decide_false]

theorem l1SameT_ev (a b : List ByteArray) (hL : a.length ≤ 9223372036854775807) : Ev (fun k => spec_l1SameT.f k a b) (decide (a = b)) := by
  simp only [spec_l1SameT.f]
  refine ev_ite (fun h => ?_) (fun h => ev_some ?_)
  · exact l1SameT_l0 a b (by omega) hL a.length 0 (by omega)
  · have : ¬ a = b := fun e => h (by rw [e])
    simp [this]

theorem sameHunks_1_ev (x y : IH) (h : FitS x.f2) : Ev (fun k => impl_sameHunks_1.f k x.f0 x.f1 x.f2 y.f0 y.f1 y.f2) (decide (x = y)) := by
  simp only [impl_sameHunks_1.f]
  refine ev_ite (fun h0 => ev_ite (fun h1 => ev_bind (equalT_ev _ _ h.1) (ev_some ?_)) (fun h1 => ev_some ?_)) (fun h0 => ev_some ?_)
  · by_cases h2 : x.f2 = y.f2
    · rw [ih_ext h0 h1 h2]
      simp
    · have : ¬ x = y := fun e => h2 (by rw [e])
      simp [this, h2]
  · have : ¬ x = y := fun e => h1 (by rw [e])
    simp [this]
  · have : ¬ x = y := fun e => h0 (by rw [e])
    simp [this]

theorem equalH_l0 (a b : List IH) (hab : a.length = b.length) (hf : FitI a) : ∀ d i, i + d = a.length → Ev (fun k => slices_EqualFunc_impl_Hunk_impl_Hunk_impl_Hunk_impl_Hunk__impl_sameHunks_1.l0 k b a (a.length : Int) (i : Int)) (decide (a.drop i = b.drop i)) := by
  intro d
  have hL := hf.1
  induction d with
  | zero =>
    intro i hi
    refine Ev.step (fun k => slices_EqualFunc_impl_Hunk_impl_Hunk_impl_Hunk_impl_Hunk__impl_sameHunks_1.l0.eq_2 ..) (ev_neg (by omega) (ev_some ?_))
    rw [List.drop_of_length_le (by omega), List.drop_of_length_le (by omega)]
    simp
  | succ d ih =>
    intro i hi
    have h1 : i < a.length := by omega
    have h2 : i < b.length := by omega
    refine Ev.step (fun k => slices_EqualFunc_impl_Hunk_impl_Hunk_impl_Hunk_impl_Hunk__impl_sameHunks_1.l0.eq_2 ..) (ev_pos (by omega) (ev_pos (by omega) (ev_pos (by omega) (ev_pos (by omega) ?_))))
    simp only [rdIH _ _ h1, rdIH _ _ h2, drop_cons a i h1, drop_cons b i h2]
    refine ev_bind (sameHunks_1_ev _ _ (hf.2 _ (List.getElem_mem h1)).2.2) (ev_ite (fun h => ?_) (fun h => ev_some ?_))
    · rw [wrap_succ i (by omega)]
      refine ev_to (ih (i + 1) (by omega)) ?_
      rw [of_decide_eq_true h]
      simp only [List.cons.injEq, true_and]
    · have : ¬ a[i] = b[i] := fun e => h (decide_eq_true e)
      simp only [List.cons.injEq, this, false_and, decide_false]

theorem impl_SameHunks_ev (a b : List IH) (hf : FitI a) : Ev (fun k => impl_SameHunks.f k a b) (decide (a = b)) := by
  simp only [impl_SameHunks.f, impl_sameHunks.f, slices_EqualFunc_impl_Hunk_impl_Hunk_impl_Hunk_impl_Hunk__impl_sameHunks_1.f]
  refine ev_bind (ev_bind (a := decide (a = b)) (ev_ite (fun h => ?_) (fun h => ev_some ?_)) (ev_some rfl)) (ev_some rfl)
  · exact equalH_l0 a b (by omega) hf a.length 0 (by omega)
  · have : ¬ a = b := fun e => h (by rw [e])
    simp [this]

theorem specSame_l0 (a b : List IH) (hab : a.length = b.length) (hf : FitI a) : ∀ d i, i + d = a.length → Ev (fun k => spec_SameHunks.l0 k b a (a.length : Int) (i : Int)) (decide (a.drop i = b.drop i)) := by
  intro d
  have hL := hf.1
  induction d with
  | zero =>
    intro i hi
    refine Ev.step (fun k => spec_SameHunks.l0.eq_2 ..) (ev_neg (by omega) (ev_some ?_))
    rw [List.drop_of_length_le (by omega), List.drop_of_length_le (by omega)]
    simp
  | succ d ih =>
    intro i hi
    have h1 : i < a.length := by omega
    have h2 : i < b.length := by omega
    refine Ev.step (fun k => spec_SameHunks.l0.eq_2 ..) (ev_pos (by omega) (ev_pos (by omega) (ev_pos (by omega) (ev_pos (by omega) ?_))))
    simp only [rdIH _ _ h1, rdIH _ _ h2, drop_cons a i h1, drop_cons b i h2]
    refine ev_ite (fun h0 => ev_ite (fun h1' => ev_bind (l1SameT_ev _ _ (hf.2 _ (List.getElem_mem h1)).2.2.1) (ev_ite (fun h3 => ?_) (fun h3 => ev_some ?_))) (fun h1' => ev_some ?_)) (fun h0 => ev_some ?_)
    · rw [wrap_succ i (by omega)]
      refine ev_to (ih (i + 1) (by omega)) ?_
      rw [ih_ext h0 h1' (of_decide_eq_true h3)]
      simp only [List.cons.injEq, true_and]
    · have : ¬ a[i] = b[i] := fun e => h3 (by rw [e]; simp)
      simp only [List.cons.injEq, this, false_and, decide_false]
    · have : ¬ a[i] = b[i] := fun e => h1' (by rw [e])
      simp only [List.cons.injEq, this, false_and, decide_false]
    · have : ¬ a[i] = b[i] := fun e => h0 (by rw [e])
      simp only [List.cons.injEq, this, false_and, decide_false]

theorem spec_SameHunks_ev (a b : List IH) (hf : FitI a) : Ev (fun k => spec_SameHunks.f k a b) (decide (a = b)) := by
  simp only [spec_SameHunks.f]
  refine ev_ite (fun h => ?_) (fun h => ev_some ?_)
  · exact specSame_l0 a b (by omega) hf a.length 0 (by omega)
  · have : ¬ a = b := fun e => h (by rw [e])
    simp [this]
end Go.Proofs.Ytcefenlblnediaa.Pl

/- Plain Lean: what GoodHunks comes to, the program's and the reference's. Conditions: lengths and sizes below 2^63. -/
namespace Go.Proofs.Ytcefenlblnediaa.Pl
open Go.RowKit Go.Proofs.YtcefenlblnediaaW.PrintWords Go.Proofs.YtcefenlblnediaaW.PrintLast Go.Proofs.Ytcefenlblnediaa.My
theorem impl_GoodHunks_ev (n : Int) (h : List IH) (hf : FitI h) : Ev (fun k => impl_GoodHunks.f k n h) (goodH n h) := by
  simp only [impl_GoodHunks.f]
  exact ev_bind (goodHunks_ev n h hf) (ev_some rfl)
theorem spec_GoodHunks_ev (n : Int) (h : List IH) (hf : FitI h) (hn0 : -9223372036854775808 ≤ n) (hn : n ≤ 9223372036854775807) : Ev (fun k => spec_GoodHunks.f k n h) (goodH n h) := by
  simp only [spec_GoodHunks.f]
  exact ev_bind (l2Hunks_ev n h hf hn0 hn) (ev_some rfl)
end Go.Proofs.Ytcefenlblnediaa.Pl

/- Plain Lean: the drawn laws' bytes, and the test of their number. No condition. -/
namespace Go.Proofs.Ytcefenlblnediaa.Pl
open Go.RowKit Go.Proofs.YtcefenlblnediaaW.PrintWords Go.Proofs.YtcefenlblnediaaW.PrintLast Go.Proofs.Ytcefenlblnediaa.My
set_option linter.unusedVariables false
set_option linter.unusedSimpArgs false
theorem wu8_bounds {z : Int} (h : Wu8 z) : 0 ≤ z ∧ z ≤ 255 := by
  have h' : (Lit.int .u8 z).wf = true := h
  simp [Lit.wf, show IntKind.u8.min = 0 from rfl, show IntKind.u8.max = 255 from rfl] at h'
  omega
theorem bytes8_of {l : List Int} (h : (WL Wu8) l) : Bytes8 l := by
  refine ⟨?_, fun x hx => wu8_bounds (h.2 x hx)⟩
  have h1 := h.1
  have h2 : maxLen ≤ 9223372036854775807 := by decide
  omega
def bigB (a b : List Int) : Bool := if (a.length : Int) > 1048576 then true else decide ((b.length : Int) > 1048576 - (a.length : Int))
theorem big_eq (a b : List Int) (ha : Bytes8 a) (hb : Bytes8 b) : laws_big.f a b = some (bigB a b) := by
  unfold laws_big.f bigB
  have h1 := ha.1
  by_cases h : (a.length : Int) > 1048576
  · rw [if_pos h, if_pos h]
  · rw [if_neg h, if_neg h, wrap64_id (by omega) (by omega)]
end Go.Proofs.Ytcefenlblnediaa.Pl

/- FnPatches, in plain Lean: what is patched is patched back. No condition. -/
namespace Go.Proofs.Ytcefenlblnediaa.Pure
open Go.RowKit Go.Proofs.Ytcefenlblnediaa.My Go.Proofs.Ytcefenlblnediaa.Pl Go.Proofs.YtcefenlblnediaaW.PrintWords Go.Proofs.YtcefenlblnediaaW.PrintLast
set_option linter.unusedVariables false
set_option linter.unusedSimpArgs false
theorem drawGood_some (c : List Int) (hc : Bytes8 c) : ∃ (n : Int) (h : List IH), Ev (fun k => spec_DrawGoodHunks.f k c) (n, h) ∧ (-9223372036854775808 ≤ n ∧ n ≤ 9223372036854775807) ∧ SmA h := by
  simp only [spec_DrawGoodHunks.f, spec_DrawGoodHunks.g]
  obtain ⟨l, h, a2, s2, e, h2⟩ := hunked_some c hc 0 0 (by omega) (by omega)
  obtain ⟨v, a3, s3, e3, h3⟩ := pick_some c hc a2 s2 20 (at_of (by omega) (by omega))
  exact ⟨_, h, ev_bind (ev_bind e (ev_bind (ev_const e3) (ev_some rfl))) (ev_some rfl), by dsimp only; unfold wrap64; omega, h2.2.1⟩
theorem drawSame_some (c : List Int) (hc : Bytes8 c) : ∃ a b, Ev (fun k => spec_DrawSameHunks.f k c) (a, b) ∧ SmA a ∧ SmA b := by
  simp only [spec_DrawSameHunks.f, spec_DrawSameHunks.g]
  obtain ⟨l, a, a2, s2, e, hl, ha, h2⟩ := hunked_some c hc 0 0 (by omega) (by omega)
  obtain ⟨v, a3, s3, e3, h3⟩ := one_some c hc a2 s2 2 (at_of (by omega) (by omega))
  cases v with
  | true => exact ⟨a, a, ev_bind (ev_bind e (ev_bind (ev_const e3) (ev_pos rfl (ev_pos (by have := ha.1; dsimp only; omega) (ev_some rfl))))) (ev_some rfl), ha, ha⟩
  | false =>
    obtain ⟨b, a4, s4, e4, h4⟩ := anyHunks_some c hc l (by have := hl.1; omega) (fitS_smT hl).2 hl.2.2 a3 s3 (by omega) (by omega)
    exact ⟨a, b, ev_bind (ev_bind e (ev_bind (ev_const e3) (ev_neg (by simp) (ev_bind e4 (ev_some rfl))))) (ev_some rfl), ha, h4.1⟩
theorem mid_smA {h : List IH} (q : SmA h) : mid h := fun x hx => by have := q.2 x hx; omega
theorem j1_ev (c : List Int) (hc : Bytes8 c) : Ev (fun k => laws_FnPatches.j1 k c) true := by
  obtain ⟨n, g, e, hn, hg⟩ := drawGood_some c hc
  obtain ⟨l, h, e2, hl, hh⟩ := drawPatch_some c hc
  have e2' : Ev (fun k => spec_DrawCountHunks.f k c) h := by
    simp only [spec_DrawCountHunks.f]
    exact ev_bind e2 (ev_some rfl)
  obtain ⟨a, b, e3, ha, hb⟩ := drawSame_some c hc
  have fg := fitI_smA hg
  have fa := fitI_smA ha
  have ic := implCountHunks_ev h (mid_smA hh) (by have := hh.1; omega)
  have sc := specCountHunks_ev h (mid_smA hh) (by have := hh.1; omega)
  refine Ev.step (fun k => laws_FnPatches.j1.eq_2 ..) (ev_bind e (ev_bind e2' (ev_bind ic (ev_bind sc (ev_bind e3 (ev_bind (impl_GoodHunks_ev n g fg) (ev_bind (spec_GoodHunks_ev n g fg hn.1 hn.2) ?_)))))))
  refine ev_pos (by simp) (ev_pos (by simp) (ev_pos rfl (ev_pos rfl (ev_bind (impl_SameHunks_ev a b fa) (ev_bind (spec_SameHunks_ev a b fa) (ev_pos (by simp) (ev_bind (impl_SameHunks_ev a b fa) (ev_bind (lawSameH_ev a b fa) (ev_some (by simp))))))))))
theorem FnPatches : laws_FnPatches.Pure := by
  intro l0 l1 w0 w1
  have b0 := bytes8_of w0
  have b1 := bytes8_of w1
  have key : Ev (fun k => laws_FnPatches.f k l0 l1) true := by
    simp only [laws_FnPatches.f]
    refine ev_bind (ev_const (big_eq l0 l1 b0 b1)) (ev_ite (fun _ => ev_some rfl) (fun _ => ?_))
    obtain ⟨l, h, e, hl, hh⟩ := drawPatch_some l0 b0
    have e' : Ev (fun k => spec_DrawBackHunks.f k l0) (l, h) := by
      simp only [spec_DrawBackHunks.f]
      exact ev_bind e (ev_some rfl)
    have fl := fitS_smT hl
    have fh := fitI_smA hh
    have ps := patchR_small l h
    have bs := backR_small l h
    have bf := backR_fit l h fl fh
    have same : (patchR l h).2 = (backR l h).2 := by
      unfold backR
      by_cases c : (patchR l h).2 = true
      · rw [if_pos c, c]
      · rw [if_neg c, Bool.eq_false_iff.2 c]
    refine ev_bind e' (ev_bind (impl_Patch_ev l h fl fh) (ev_bind (spec_Patch_ev l h fl fh) (ev_bind (impl_BackHunks_ev l h fl fh) (ev_bind (spec_BackHunks_ev l h fl fh) ?_))))
    refine ev_neg (by simp) (ev_bind (sameTexts_self _ (by omega)) (ev_pos rfl (ev_neg (by simp) (ev_bind (sameHunks_self _ (by omega) (fun x hx => by have := bs.2 x hx; omega)) (ev_pos rfl (ev_neg (by rw [same]; simp) ?_))))))
    refine ev_bind (impl_GoodHunks_ev _ h fh) (ev_bind (spec_GoodHunks_ev _ h fh (by dsimp only; omega) (by have := hl.1; dsimp only; omega)) ?_)
    have ej : (goodH (l.length : Int) h != goodH (l.length : Int) h) = false := by simp
    rw [ej]
    refine Ev.step (fun k => laws_FnPatches.j0.eq_2 ..) (ev_neg (by simp) (ev_ite (fun c => ?_) (fun c => j1_ev l1 b1)))
    obtain ⟨p1, p2, p3, p4⟩ := back_law c
    obtain ⟨a1, a2, a3, a4⟩ := asked_of (patchR_asked c)
    have fp := patchR_fitP l h fl fh
    have fb : FitI (backR l h).1 := by
      obtain ⟨n1, n2, n3, n4⟩ := near_of_good p3
      exact ⟨by omega, fun x hx => ⟨by have := n1 x hx; omega, by have := n1 x hx; omega, bf x hx⟩⟩
    have hgc := goneV_le h a3
    have hcc := comeV_le h a3
    have ic := implCountHunks_ev h (mid_of_near a3) a2
    refine ev_bind (impl_Patch_ev (patchR l h).1 (backR l h).1 fp fb) (ev_bind ic (ev_bind (impl_BackHunks_ev (patchR l h).1 (backR l h).1 fp fb) ?_))
    rw [p1, p2]
    refine ev_pos rfl (ev_bind (sameTexts_self l (by omega)) (ev_pos rfl (ev_pos rfl (ev_pos ?_ (ev_pos rfl (ev_bind (sameHunks_self h (by omega) (fun x hx => by have := a3 x hx; omega)) (ev_pos rfl (ev_bind (impl_GoodHunks_ev _ (backR l h).1 fb) (ev_pos p3 (j1_ev l1 b1))))))))))
    dsimp only
    rw [total_eq] at p4
    rw [wrap64_id (x := (l.length : Int) - goneV h) (by omega) (by omega), wrap64_id (by omega) (by omega)]
    omega
  obtain ⟨n, hn⟩ := key
  exact ⟨n, hn n (Nat.le_refl _)⟩
end Go.Proofs.Ytcefenlblnediaa.Pure

/- The Go function loop.example/g00825/laws.FnPatches returns true for every input, and each argument reads afterwards as it read before. No condition. -/
namespace Go.Proofs.Ytcefenlblnediaa.fnPatches
open Go.ChangeShapes Go.WideShapes Go.ChangeAt Go.RowKit Go.Joins Go.Proofs.Ytcefenlblnediaa.Opens Go.Proofs.Ytcefenlblnediaa.My
open Go.ChangeMaps (open_string shut_string)
set_option linter.unusedVariables false
set_option linter.unusedSimpArgs false
theorem own : ownKnob Try.prog.godebug = none := by kernel_rfl
theorem laidOut : laidOutB Try.prog = true := by kernel_rfl
set_option maxRecDepth 100000 in
theorem lifted (os : Os) (started : os.Started) (H : Type) (enc : TypeId × Value → H) :
    ReturnsInHanded {} Try.checked os 8 .any (Rows.fnPatchesSpec.pre6 enc Try.prog Try.f8 Rows.fnPatchesRow.domain false) (Rows.fnPatchesSpec.post enc Try.prog Try.f8 false true false false) := by
  refine returnsInHanded_of_change_sized (C := Try.checked) own started (by kernel_rfl) Try.func8
    (ChangeSpec.witness6 (enc := enc) (C := Try.checked) false ⟨#[], #[.slice none 0 0, .slice none 0 0], []⟩ 8 (by kernel_rfl) (by kernel_rfl) (by kernel_rfl) (by kernel_rfl)) ?_
  intro W base args ds gs before hval0 hW hcnd hsz0 _
  have hval : ∀ (j : Nat) t v, Try.f8.params[j]? = some t → args[j]? = some v → Value.okWide Try.prog W .any base t v := hval0
  have hW' := hW
  obtain ⟨p, q, hA0, hV, rfl, hfz, hnd⟩ := hW
  have hA : DataW.TrodAll enc Try.prog W 0 (fun _ => true) true Try.f8.params.toList args.toList ds p := hA0
  rw [Try.params8] at hA hval
  obtain ⟨v0, vs0, d0, ds0, p0, q0, hargs, rfl, rfl, h0, r0⟩ := trodAll_cons hA
  obtain ⟨v1, vs1, d1, ds1, p1, q1, rfl, rfl, rfl, h1, r1⟩ := trodAll_cons r0
  obtain ⟨rfl, rfl, rfl⟩ := trodAll_nil r1
  obtain rfl : args = #[v0, v1] := by cases args; simp_all
  obtain ⟨rfl, rfl⟩ := trodVars_none hV
  obtain ⟨A0, n0, c0, rfl⟩ := okWide_slice Try.underlying46 (hval 0 46 v0 rfl rfl)
  have k0 := h0
  have lt0 : ∀ x ∈ p0, x.block < W.heap.size := by obtain ⟨m, hm⟩ := k0; exact DataW.trod_lt m _ _ _ hm
  obtain ⟨l0, rfl, hc0, hr0, q0_⟩ := Opens.row (opens_slice Try.underlying46 (by kernel_rfl) (opens_int .u8 Try.underlying5)) h0
  obtain ⟨A1, n1, c1, rfl⟩ := okWide_slice Try.underlying46 (hval 1 46 v1 rfl rfl)
  have k1 := h1
  have lt1 : ∀ x ∈ p1, x.block < W.heap.size := by obtain ⟨m, hm⟩ := k1; exact DataW.trod_lt m _ _ _ hm
  obtain ⟨l1, rfl, hc1, hr1, q1_⟩ := Opens.row (opens_slice Try.underlying46 (by kernel_rfl) (opens_int .u8 Try.underlying5)) h1
  clear hA0 hval0 hsz0
  obtain ⟨kr, hk⟩ := Pure.FnPatches l0 l1 q0_ q1_
  refine (laws_FnPatches.calls kr _ _ l0 _ _ l1 true W hr0 hc0 hr1 hc1 hk rfl).mono fun e W' hh => ?_
  obtain ⟨rfl, hd⟩ := hh
  have bel : Below W.heap.size W W' := hd
  exact ⟨_, rfl, _, _, _, [], _, [], hW', trodAll_mk1 (shut_bool Try.underlying4 _), (trodAll_cons_mk (Below.trod laidOut (by kernel_rfl) (of_decide_eq_true (by kernel_rfl)) k0 bel lt0) (trodAll_cons_mk (Below.trod laidOut (by kernel_rfl) (of_decide_eq_true (by kernel_rfl)) k1 bel lt1) trodAll_mk0)), rfl, bel.frame _, fun h => by cases h⟩
theorem over : Rows.fnPatchesRow.holds Try.pinned (OpenSpec.ofChange Rows.fnPatchesSpec) :=
  OpenClaim.holds_of_wide 8 Try.f8 rfl rfl rfl rfl rfl rfl rfl ⟨rfl, rfl, rfl, rfl, rfl⟩ rfl rfl rfl rfl rfl (by kernel_rfl) Try.func8 (by kernel_rfl)
    (of_decide_eq_true (by kernel_rfl)) (by unfold Func.isWrapper; first | (rw [if_pos (by decide +kernel)]; kernel_rfl) | (rw [if_neg (by decide +kernel)]; exact ⟨rfl, rfl⟩))
    (fun os started H enc _ => lifted os started H enc)
theorem proved : Rows.FnPatchesSaid := over
#print axioms proved
end Go.Proofs.Ytcefenlblnediaa.fnPatches
namespace Go.Proofs.Ytcefenlblnediaa
/-- The row, under a short name, for the claim. -/
theorem fnPatches_holds : Rows.FnPatchesSaid := fnPatches.proved
end Go.Proofs.Ytcefenlblnediaa
