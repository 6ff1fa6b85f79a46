/- Part 6 of 6 of a proof of this sentence: The Go function loop.example/g00825/laws.FnCommon returns true for every input, and each argument reads afterwards as it read before. No condition. -/
import Derived.Test.YtmcldkobejhaeaaRows
import Derived.WalkKit
import Derived.ProofKit
import Derived.OpenShut
import Derived.ShutString
import Derived.ChangeOld
import Derived.Below
import Derived.SizedLaws
import Derived.Lib.SmallJoins
import Derived.Test.YtmcldkobejhaeaaCFnCommon5
/- Plain Lean: the least pairs of places of a longest list that two texts share. Asked: texts of at most 2^20 lines. -/
namespace Go.Proofs.Ytmcldkobejhaeaa.Pl
open Go.RowKit Go.Proofs.YtmcldkobejhaeaaW.PrintWords Go.Proofs.YtmcldkobejhaeaaW.PrintLast Go.Proofs.Ytmcldkobejhaeaa.My
set_option linter.unusedVariables false
set_option linter.unusedSimpArgs false
abbrev IQ := S99
def toIQ (z : Nat × Nat) : IQ := ⟨(z.1 : Int), (z.2 : Int)⟩
def toLi (z : Nat × Nat) : List Int := [(z.1 : Int), (z.2 : Int)]
section
variable (a b : List ByteArray)
def Lc (i j : Nat) : Nat := lcs (a.drop i) (b.drop j)
def hit (p n k : Nat) : Bool := decide (a[p]? = b[k]?) && decide (Lc a b (p + 1) (k + 1) = n)
def firstQ (p n : Nat) : Nat → Nat → Option Nat
  | _, 0 => none
  | k, e + 1 => if hit a b p n k = true then some k else firstQ p n (k + 1) e
def pairs : Nat → Nat → Nat → Nat → List (Nat × Nat)
  | 0, _, _, _ => []
  | d + 1, p, j, n => if n = 0 then [] else match firstQ a b p (n - 1) j (b.length - j) with
    | some k => (p, k) :: pairs d (p + 1) (k + 1) (n - 1)
    | none => pairs d (p + 1) j n
def best (n j : Nat) : Nat → Nat → Nat × Nat
  | _, 0 => (a.length, b.length)
  | p, d + 1 => match firstQ a b p n j (b.length - j) with
    | some k => (p, k)
    | none => best n j (p + 1) d
theorem firstQ_some : ∀ (e p n k r : Nat), firstQ a b p n k e = some r → k ≤ r ∧ r < k + e ∧ hit a b p n r = true
  | 0, _, _, _, _, h => by cases h
  | e + 1, p, n, k, r, h => by
    simp only [firstQ] at h
    split at h
    · rename_i c
      injection h with h
      subst h
      exact ⟨Nat.le_refl _, by omega, c⟩
    · have := firstQ_some e p n (k + 1) r h
      exact ⟨by omega, by omega, this.2.2⟩
theorem firstQ_hit : ∀ (e p n k q : Nat), k ≤ q → q < k + e → hit a b p n q = true → ∃ r, firstQ a b p n k e = some r
  | 0, _, _, _, _, h1, h2, _ => by omega
  | e + 1, p, n, k, q, h1, h2, hq => by
    simp only [firstQ]
    by_cases c : hit a b p n k = true
    · exact ⟨k, if_pos c⟩
    · rw [if_neg c]
      have : k ≠ q := fun e => c (e ▸ hq)
      exact firstQ_hit e p n (k + 1) q (by omega) (by omega) hq
theorem pairs_best : ∀ (d p j n : Nat), (∃ q, q < d ∧ ∃ k, j ≤ k ∧ k < b.length ∧ hit a b (p + q) n k = true) → p + d = a.length →
    let z := best a b n j p d
    p ≤ z.1 ∧ z.1 < a.length ∧ j ≤ z.2 ∧ z.2 < b.length ∧ hit a b z.1 n z.2 = true ∧ pairs a b d p j (n + 1) = z :: pairs a b (a.length - (z.1 + 1)) (z.1 + 1) (z.2 + 1) n
  | 0, _, _, _, h, _ => by obtain ⟨q, h1, _⟩ := h; omega
  | d + 1, p, j, n, h, hp => by
    simp only [best, pairs]
    rw [if_neg (by omega), Nat.add_sub_cancel]
    cases hf : firstQ a b p n j (b.length - j) with
    | some k =>
      have h3 := firstQ_some a b _ _ _ _ _ hf
      dsimp only
      refine ⟨Nat.le_refl _, by omega, h3.1, by omega, h3.2.2, ?_⟩
      rw [show a.length - (p + 1) = d from by omega]
    | none =>
      obtain ⟨q, hq, k, hk1, hk2, hk3⟩ := h
      have hq0 : q ≠ 0 := by
        rintro rfl
        obtain ⟨r, hr⟩ := firstQ_hit a b (b.length - j) p n j k hk1 (by omega) (by simpa using hk3)
        rw [hf] at hr
        cases hr
      have ih := pairs_best d (p + 1) j n ⟨q - 1, by omega, k, hk1, hk2, by rw [show p + 1 + (q - 1) = p + q from by omega]; exact hk3⟩ (by omega)
      dsimp only at ih ⊢
      refine ⟨by have := ih.1; omega, ih.2⟩
theorem hit_exists : ∀ (s t : List ByteArray) (n : Nat), lcs s t = n + 1 → ∃ (p k : Nat) (x : ByteArray), s[p]? = some x ∧ t[k]? = some x ∧ lcs (s.drop (p + 1)) (t.drop (k + 1)) = n
  | [], t, n, h => by rw [lcs_nil_l] at h; cases h
  | x :: s, [], n, h => by rw [lcs_nil_r] at h; cases h
  | x :: s, y :: t, n, h => by
    rw [lcs_cons] at h
    split at h
    · rename_i e
      subst e
      exact ⟨0, 0, x, rfl, rfl, by simpa using h⟩
    · rcases Nat.le_total (lcs s (y :: t)) (lcs (x :: s) t) with hm | hm
      · rw [Nat.max_eq_right hm] at h
        obtain ⟨p, k, z, h1, h2, h3⟩ := hit_exists (x :: s) t n h
        exact ⟨p, k + 1, z, h1, by simpa using h2, by simpa using h3⟩
      · rw [Nat.max_eq_left hm] at h
        obtain ⟨p, k, z, h1, h2, h3⟩ := hit_exists s (y :: t) n h
        exact ⟨p + 1, k, z, by simpa using h1, h2, by simpa using h3⟩
theorem hit_from (i j n : Nat) (hi : i ≤ a.length) (h : Lc a b i j = n + 1) : ∃ q, q < a.length - i ∧ ∃ k, j ≤ k ∧ k < b.length ∧ hit a b (i + q) n k = true := by
  obtain ⟨p, k, x, h1, h2, h3⟩ := hit_exists (a.drop i) (b.drop j) n h
  rw [List.getElem?_drop] at h1 h2
  rw [List.drop_drop, List.drop_drop] at h3
  have p1 := (List.getElem?_eq_some_iff.1 h1).1
  have p2 := (List.getElem?_eq_some_iff.1 h2).1
  refine ⟨p, by omega, j + k, by omega, by omega, ?_⟩
  unfold hit Lc
  rw [h1, h2, decide_eq_true rfl, Bool.true_and, decide_eq_true_eq]
  rw [← h3]
  congr 2 <;> omega
theorem pairs_zero : ∀ (d p j : Nat), pairs a b d p j 0 = []
  | 0, _, _ => rfl
  | d + 1, _, _ => by simp [pairs]
theorem pairs_in : ∀ (d p j n : Nat), p + d = a.length → ∀ z ∈ pairs a b d p j n, p ≤ z.1 ∧ z.1 < a.length ∧ j ≤ z.2 ∧ z.2 < b.length ∧ a[z.1]? = b[z.2]?
  | 0, _, _, _, _, z, hz => by cases hz
  | d + 1, p, j, n, hp, z, hz => by
    simp only [pairs] at hz
    split at hz
    · cases hz
    · cases hf : firstQ a b p (n - 1) j (b.length - j) with
      | some k =>
        rw [hf] at hz
        have h3 := firstQ_some a b _ _ _ _ _ hf
        rcases List.mem_cons.1 hz with rfl | hz
        · have h4 := h3.2.2
          unfold hit at h4
          rw [Bool.and_eq_true, decide_eq_true_eq] at h4
          exact ⟨Nat.le_refl _, by simp only; omega, h3.1, by simp only; omega, h4.1⟩
        · have := pairs_in d (p + 1) (k + 1) (n - 1) (by omega) z hz
          exact ⟨by omega, this.2.1, by omega, this.2.2.2⟩
      | none =>
        rw [hf] at hz
        have := pairs_in d (p + 1) j n (by omega) z hz
        exact ⟨by omega, this.2⟩
theorem pairs_len : ∀ (d p j n : Nat), (pairs a b d p j n).length ≤ d
  | 0, _, _, _ => Nat.le_refl _
  | d + 1, p, j, n => by
    simp only [pairs]
    split
    · exact Nat.zero_le _
    · cases hf : firstQ a b p (n - 1) j (b.length - j) with
      | some k =>
        simp only [List.length_cons]
        exact Nat.succ_le_succ (pairs_len d (p + 1) (k + 1) (n - 1))
      | none => exact Nat.le_succ_of_le (pairs_len d (p + 1) j n)
end
theorem tbl_at (a b : List ByteArray) (i j : Nat) (hi : i ≤ a.length) (hj : j ≤ b.length) : rd (rd_L5 (tbl a b) (i : Int)) (j : Int) = ((Lc a b i j : Nat) : Int) := by
  rw [rdLL _ i (by rw [tbl_length]; omega), tbl_get a b i hi, rd_lt _ j (by rw [tblRow_length]; omega), tblRow_get a b i j hj]
  rfl
theorem tbl_len (a b : List ByteArray) : ((tbl a b).length : Int) = (a.length : Int) + 1 := by rw [tbl_length]; omega
theorem tbl_row_len (a b : List ByteArray) (i : Nat) (hi : i ≤ a.length) : ((rd_L5 (tbl a b) (i : Int)).length : Int) = (b.length : Int) + 1 := by
  rw [rdLL _ i (by rw [tbl_length]; omega), tbl_get a b i hi, tblRow_length]
  omega
theorem line_eq (a b : List ByteArray) (p k : Nat) (hp : p < a.length) (hk : k < b.length) : ((rdOf ByteArray.empty a (p : Int)).toList = (rdOf ByteArray.empty b (k : Int)).toList) ↔ a[p]? = b[k]? := by
  rw [rdOf_lt _ a p hp, rdOf_lt _ b k hk, ba_iff, List.getElem?_eq_getElem hp, List.getElem?_eq_getElem hk, Option.some.injEq]
section
variable (a b : List ByteArray) (ha : a.length ≤ 1048576) (hb : b.length ≤ 1048576)
include ha hb
theorem commonLines_l1 (p n : Nat) (hp : p < a.length) (hn : n ≤ 1048576) (acc : List (List Int)) (hacc : acc.length ≤ p) (R : List (List Int)) (j : Nat)
    (hsome : ∀ k, j ≤ k → k < b.length → Ev (fun f => impl_commonLines.l0 f a b (tbl a b) (acc ++ [[(p : Int), (k : Int)]]) ((k + 1 : Nat) : Int) (n : Int) (a.length : Int) ((p + 1 : Nat) : Int)) R → True) : ∀ e k, k + e = b.length → j ≤ k →
    Ev (fun f => match firstQ a b p n k e with
      | some r => impl_commonLines.l0 f a b (tbl a b) (acc ++ [[(p : Int), (r : Int)]]) ((r + 1 : Nat) : Int) (n : Int) (a.length : Int) ((p + 1 : Nat) : Int)
      | none => impl_commonLines.l0 f a b (tbl a b) acc (j : Int) ((n + 1 : Nat) : Int) (a.length : Int) ((p + 1 : Nat) : Int)) R →
    Ev (fun f => impl_commonLines.l1 f a b (tbl a b) acc (j : Int) ((n + 1 : Nat) : Int) (p : Int) (k : Int) (a.length : Int) (p : Int)) R := by
  intro e
  induction e with
  | zero =>
    intro k hk hj hR
    refine Ev.step (fun f => impl_commonLines.l1.eq_2 ..) (ev_neg (by omega) (Ev.step (fun f => impl_commonLines.j2.eq_2 ..) (ev_neg (by simp) ?_)))
    rw [wrap_succ p (by omega)]
    exact hR
  | succ e ih =>
    intro k hk hj hR
    have hkb : k < b.length := by omega
    have hd : decide (((n + 1 : Nat) : Int) > 0) = true := decide_eq_true (by omega)
    refine Ev.step (fun f => impl_commonLines.l1.eq_2 ..) (ev_pos (by omega) ?_)
    rw [hd]
    refine Ev.step (fun f => impl_commonLines.j2.eq_2 ..) (ev_pos rfl (ev_pos (by omega) (ev_pos (by omega) (ev_pos (by omega) (ev_pos (by omega) ?_)))))
    rw [wrap_succ p (by omega), wrap_succ k (by omega), tbl_len, tbl_row_len a b (p + 1) (by omega), tbl_at a b (p + 1) (k + 1) (by omega) (by omega)]
    have e1 : wrap64 (((n + 1 : Nat) : Int) - 1) = (n : Int) := by rw [wrap64_id (by omega) (by omega)]; omega
    rw [e1]
    have miss : hit a b p n k = false → Ev (fun f => impl_commonLines.l1 f a b (tbl a b) acc (j : Int) ((n + 1 : Nat) : Int) (p : Int) ((k + 1 : Nat) : Int) (a.length : Int) (p : Int)) R := by
      intro hm
      refine ih (k + 1) (by omega) (by omega) ?_
      refine Ev.congr (fun f => ?_) hR
      simp only [firstQ]
      rw [if_neg (by rw [hm]; simp)]
    by_cases c : a[p]? = b[k]?
    · refine ev_pos ((line_eq a b p k hp hkb).2 c) (ev_pos (by omega) (ev_pos (by omega) (ev_pos (by omega) (ev_pos (by omega) ?_))))
      by_cases c2 : Lc a b (p + 1) (k + 1) = n
      · refine ev_pos (by rw [c2]) (ev_pos (by omega) ?_)
        refine Ev.congr (fun f => ?_) hR
        simp only [firstQ]
        rw [if_pos (by unfold hit; rw [decide_eq_true c, decide_eq_true c2]; rfl)]
      · exact ev_neg (by omega) (miss (by unfold hit; rw [decide_eq_false c2, Bool.and_false]))
    · exact ev_neg (fun e => c ((line_eq a b p k hp hkb).1 e)) (miss (by unfold hit; rw [decide_eq_false c, Bool.false_and]))
theorem commonLines_l0 : ∀ (d p j n : Nat) (acc : List (List Int)), p + d = a.length → j ≤ b.length → n ≤ 1048576 → acc.length ≤ p →
    Ev (fun f => impl_commonLines.l0 f a b (tbl a b) acc (j : Int) (n : Int) (a.length : Int) (p : Int)) (acc ++ (pairs a b d p j n).map toLi) := by
  intro d
  induction d with
  | zero =>
    intro p j n acc hp hj hn hacc
    refine Ev.step (fun f => impl_commonLines.l0.eq_2 ..) (ev_neg (by omega) (ev_some ?_))
    simp [pairs]
  | succ d ih =>
    intro p j n acc hp hj hn hacc
    refine Ev.step (fun f => impl_commonLines.l0.eq_2 ..) (ev_pos (by omega) ?_)
    cases n with
    | zero =>
      have nx := ih (p + 1) j 0 acc (by omega) hj (by omega) (by omega)
      rw [pairs_zero] at nx ⊢
      rw [← wrap_succ p (by omega)] at nx
      by_cases c : (j : Int) < (b.length : Int)
      · refine Ev.step (fun f => impl_commonLines.l1.eq_2 ..) (ev_pos c ?_)
        rw [decide_eq_false (by omega)]
        exact Ev.step (fun f => impl_commonLines.j2.eq_2 ..) (ev_neg (by simp) nx)
      · exact Ev.step (fun f => impl_commonLines.l1.eq_2 ..) (ev_neg c (Ev.step (fun f => impl_commonLines.j2.eq_2 ..) (ev_neg (by simp) nx)))
    | succ n =>
      refine commonLines_l1 a b ha hb p n (by omega) (by omega) acc hacc _ j (fun _ _ _ _ => trivial) (b.length - j) j (by omega) (Nat.le_refl _) ?_
      simp only [pairs]
      rw [if_neg (by omega), Nat.add_sub_cancel]
      cases hf : firstQ a b p n j (b.length - j) with
      | some k =>
        have h3 := firstQ_some a b _ _ _ _ _ hf
        simp only
        refine ev_to (ih (p + 1) (k + 1) n _ (by omega) (by omega) (by omega) (by rw [List.length_append, List.length_singleton]; omega)) ?_
        rw [List.append_assoc]
        rfl
      | none =>
        simp only
        exact ih (p + 1) j (n + 1) acc (by omega) hj hn (by omega)
theorem commonLines_ev : Ev (fun f => impl_commonLines.f f a b) ((pairs a b a.length 0 0 (Lc a b 0 0)).map toLi) := by
  simp only [impl_commonLines.f]
  have h1 := (lcs_le (a.drop 0) (b.drop 0)).1
  rw [List.length_drop] at h1
  refine ev_bind (common_ev a b ha hb) (ev_pos (tbl_len0 a b) (ev_pos (tbl_row0_len a b) ?_))
  have e := tbl_at a b 0 0 (Nat.zero_le _) (Nat.zero_le _)
  rw [show ((0 : Nat) : Int) = 0 from rfl] at e
  rw [e]
  exact ev_to (commonLines_l0 a b ha hb a.length 0 0 (Lc a b 0 0) [] (by omega) (Nat.zero_le _) (by unfold Lc; omega) (Nat.zero_le _)) (by simp)
theorem l3_l2p (i j n : Nat) (hi : i ≤ a.length) (hj : j ≤ b.length) (hL : Lc a b i j = n + 1) (hn : n ≤ 1048576) (p : Nat) (hp : p < a.length) (acc : List IQ) (x y : Nat) (R : List IQ) : ∀ e, j + e ≤ b.length → ∀ (x' y' : Nat),
    (x', y') = (match firstQ a b p n (j + e) (b.length - (j + e)) with | some k => (p, k) | none => (x, y)) →
    Ev (fun f => match firstQ a b p n j (b.length - j) with
      | some k => spec_l3Pairs.l1 f a b (tbl a b) acc (i : Int) (j : Int) (p : Int) (k : Int) ((p : Int) - 1)
      | none => spec_l3Pairs.l1 f a b (tbl a b) acc (i : Int) (j : Int) (x : Int) (y : Int) ((p : Int) - 1)) R →
    Ev (fun f => spec_l3Pairs.l2 f a b (tbl a b) acc (i : Int) (j : Int) (x' : Int) (y' : Int) (p : Int) (((j + e : Nat) : Int) - 1)) R := by
  intro e
  induction e with
  | zero =>
    intro he x' y' hxy hR
    refine Ev.step (fun f => spec_l3Pairs.l2.eq_2 ..) (ev_neg (by omega) ?_)
    rw [wrap64_id (x := (p : Int) - 1) (by omega) (by omega)]
    refine Ev.congr (fun f => ?_) hR
    rw [Nat.add_zero] at hxy
    cases hf : firstQ a b p n j (b.length - j) with
    | some k =>
      rw [hf] at hxy
      simp only [Prod.mk.injEq] at hxy
      obtain ⟨rfl, rfl⟩ := hxy
      rfl
    | none =>
      rw [hf] at hxy
      simp only [Prod.mk.injEq] at hxy
      obtain ⟨rfl, rfl⟩ := hxy
      rfl
  | succ e ih =>
    intro he x' y' hxy hR
    have hq : j + e < b.length := by omega
    have ex : ((j + (e + 1) : Nat) : Int) - 1 = ((j + e : Nat) : Int) := by omega
    rw [ex]
    refine Ev.step (fun f => spec_l3Pairs.l2.eq_2 ..) (ev_pos (by omega) (ev_pos (by omega) (ev_pos (by omega) (ev_pos (by omega) (ev_pos (by omega) ?_)))))
    rw [wrap_succ p (by omega), wrap_succ (j + e) (by omega), wrap64_id (x := ((j + e : Nat) : Int) - 1) (by omega) (by omega), tbl_len, tbl_row_len a b (p + 1) (by omega), tbl_row_len a b i hi, tbl_at a b (p + 1) (j + e + 1) (by omega) (by omega), tbl_at a b i j hi hj, hL]
    have hle := (lcs_le (a.drop (p + 1)) (b.drop (j + e + 1))).1
    rw [List.length_drop] at hle
    have hLe : Lc a b (p + 1) (j + e + 1) ≤ 1048576 := by unfold Lc; omega
    rw [wrap_succ (Lc a b (p + 1) (j + e + 1)) (by omega)]
    have step : ∀ (x2 y2 : Nat), (x2, y2) = (if hit a b p n (j + e) = true then (p, j + e) else (x', y')) → Ev (fun f => spec_l3Pairs.l2 f a b (tbl a b) acc (i : Int) (j : Int) (x2 : Int) (y2 : Int) (p : Int) (((j + e : Nat) : Int) - 1)) R := by
      intro x2 y2 h2
      refine ih (by omega) x2 y2 ?_ hR
      have hs : b.length - (j + e) = (b.length - (j + (e + 1))) + 1 := by omega
      rw [hs]
      simp only [firstQ]
      by_cases c : hit a b p n (j + e) = true
      · rw [if_pos c] at h2 ⊢
        exact h2
      · rw [if_neg c] at h2 ⊢
        rw [show j + e + 1 = j + (e + 1) from by omega, ← hxy]
        exact h2
    by_cases c : a[p]? = b[j + e]?
    · refine ev_pos ((line_eq a b p (j + e) hp hq).2 c) (ev_pos (by omega) (ev_pos (by omega) (ev_pos (by omega) (ev_pos (by omega) (ev_pos (by omega) (ev_pos (by omega) (ev_pos (by omega) (ev_pos (by omega) ?_))))))))
      by_cases c2 : Lc a b (p + 1) (j + e + 1) = n
      · exact ev_pos (by rw [c2]) (step p (j + e) (by rw [if_pos (by unfold hit; rw [decide_eq_true c, decide_eq_true c2]; rfl)]))
      · exact ev_neg (by omega) (step x' y' (by rw [if_neg (by unfold hit; rw [decide_eq_false c2, Bool.and_false]; simp)]))
    · exact ev_neg (fun q_ => c ((line_eq a b p (j + e) hp hq).1 q_)) (step x' y' (by rw [if_neg (by unfold hit; rw [decide_eq_false c, Bool.false_and]; simp)]))
theorem l3_l1p (i j n : Nat) (hi : i ≤ a.length) (hj : j ≤ b.length) (hL : Lc a b i j = n + 1) (hn : n ≤ 1048576) (acc : List IQ) (hacc : acc.length ≤ 1048576) (R : List IQ)
    (hR : Ev (fun f => spec_l3Pairs.l0 f a b (tbl a b) (acc ++ [toIQ (best a b n j i (a.length - i))]) (((best a b n j i (a.length - i)).1 + 1 : Nat) : Int) (((best a b n j i (a.length - i)).2 + 1 : Nat) : Int)) R) (hz : (best a b n j i (a.length - i)).1 < a.length ∧ (best a b n j i (a.length - i)).2 < b.length) : ∀ d, i + d ≤ a.length →
    Ev (fun f => spec_l3Pairs.l1 f a b (tbl a b) acc (i : Int) (j : Int) ((best a b n j (i + d) (a.length - (i + d))).1 : Int) ((best a b n j (i + d) (a.length - (i + d))).2 : Int) (((i + d : Nat) : Int) - 1)) R := by
  intro d
  induction d with
  | zero =>
    intro hd
    refine Ev.step (fun f => spec_l3Pairs.l1.eq_2 ..) (ev_neg (by omega) (ev_pos (by omega) ?_))
    rw [Nat.add_zero, wrap_succ _ (by omega), wrap_succ _ (by omega)]
    exact hR
  | succ d ih =>
    intro hd
    have ex : ((i + (d + 1) : Nat) : Int) - 1 = ((i + d : Nat) : Int) := by omega
    rw [ex]
    refine Ev.step (fun f => spec_l3Pairs.l1.eq_2 ..) (ev_pos (by omega) ?_)
    rw [wrap64_id (x := (b.length : Int) - 1) (by omega) (by omega)]
    have hl2 := l3_l2p a b ha hb i j n hi hj hL hn (i + d) (by omega) acc (best a b n j (i + (d + 1)) (a.length - (i + (d + 1)))).1 (best a b n j (i + (d + 1)) (a.length - (i + (d + 1)))).2 R (b.length - j) (by omega) (best a b n j (i + (d + 1)) (a.length - (i + (d + 1)))).1 (best a b n j (i + (d + 1)) (a.length - (i + (d + 1)))).2 (by
      rw [show b.length - (j + (b.length - j)) = 0 from by omega]
      rfl)
    rw [show j + (b.length - j) = b.length from by omega] at hl2
    refine hl2 ?_
    have nx := ih (by omega)
    have hs : a.length - (i + d) = (a.length - (i + (d + 1))) + 1 := by omega
    rw [hs] at nx
    simp only [best] at nx
    refine Ev.congr (fun f => ?_) nx
    cases hf : firstQ a b (i + d) n j (b.length - j) with
    | some k => rfl
    | none => rfl
theorem l3Pairs_l0 : ∀ (n i j : Nat) (acc : List IQ), i ≤ a.length → j ≤ b.length → Lc a b i j = n → acc.length ≤ i →
    Ev (fun f => spec_l3Pairs.l0 f a b (tbl a b) acc (i : Int) (j : Int)) (acc ++ (pairs a b (a.length - i) i j n).map toIQ) := by
  intro n
  induction n with
  | zero =>
    intro i j acc hi hj hL hacc
    refine Ev.step (fun f => spec_l3Pairs.l0.eq_2 ..) (ev_pos (by omega) (ev_pos (by rw [tbl_len]; omega) (ev_pos (by omega) (ev_pos (by rw [tbl_row_len a b i hi]; omega) ?_))))
    rw [tbl_at a b i j hi hj, hL]
    refine ev_neg (by omega) (ev_some ?_)
    rw [pairs_zero]
    simp
  | succ n ih =>
    intro i j acc hi hj hL hacc
    have hle := (lcs_le (a.drop i) (b.drop j)).1
    rw [List.length_drop] at hle
    have hLn : n ≤ 1048576 := by unfold Lc at hL; omega
    obtain ⟨z1, z2, z3, z4, z5, z6⟩ := pairs_best a b (a.length - i) i j n (hit_from a b i j n hi hL) (by omega)
    refine Ev.step (fun f => spec_l3Pairs.l0.eq_2 ..) (ev_pos (by omega) (ev_pos (by rw [tbl_len]; omega) (ev_pos (by omega) (ev_pos (by rw [tbl_row_len a b i hi]; omega) ?_))))
    rw [tbl_at a b i j hi hj, hL, wrap64_id (x := (a.length : Int) - 1) (by omega) (by omega)]
    refine ev_pos (by omega) ?_
    have hl1 := l3_l1p a b ha hb i j n hi hj hL hLn acc (by omega) (acc ++ (pairs a b (a.length - i) i j (n + 1)).map toIQ) ?_ ⟨z2, z4⟩ (a.length - i) (by omega)
    · rw [show i + (a.length - i) = a.length from by omega, Nat.sub_self] at hl1
      exact hl1
    · rw [z6, List.map_cons]
      have hh : Lc a b ((best a b n j i (a.length - i)).1 + 1) ((best a b n j i (a.length - i)).2 + 1) = n := by
        have h5 := z5
        unfold hit at h5
        rw [Bool.and_eq_true, decide_eq_true_eq, decide_eq_true_eq] at h5
        exact h5.2
      refine ev_to (ih _ _ _ (by omega) (by omega) hh (by rw [List.length_append, List.length_singleton]; omega)) ?_
      rw [List.append_assoc]
      rfl
theorem l3Pairs_ev : Ev (fun f => spec_l3Pairs.f f a b) ((pairs a b a.length 0 0 (Lc a b 0 0)).map toIQ) := by
  simp only [spec_l3Pairs.f]
  exact ev_bind (l3Table_ev a b ha hb) (ev_to (l3Pairs_l0 a b ha hb (Lc a b 0 0) 0 0 [] (Nat.zero_le _) (Nat.zero_le _) rfl (Nat.zero_le _)) (by simp))
end
def pairsV (a b : List ByteArray) : List (Nat × Nat) := pairs a b a.length 0 0 (Lc a b 0 0)
def linesR (a b : List ByteArray) : List (List Int) × Bool := if good a = true ∧ good b = true then ((pairsV a b).map toLi, true) else ([], false)
theorem impl_CommonLines_ev (a b : List ByteArray) (fa : FitS a) (fb : FitS b) : Ev (fun f => impl_CommonLines.f f a b) (linesR a b) := by
  simp only [impl_CommonLines.f]
  unfold linesR
  refine ev_bind (goodLines_ev a fa) (ev_ite (fun c => ev_bind (goodLines_ev b fb) (ev_ite (fun c2 => ?_) (fun c2 => ev_some ?_))) (fun c => ev_some ?_))
  · rw [if_pos ⟨c, c2⟩]
    have h1 := good_len c
    have h2 := good_len c2
    exact ev_bind (commonLines_ev a b (by omega) (by omega)) (ev_some rfl)
  · rw [if_neg (fun e => c2 e.2)]
  · rw [if_neg (fun e => c e.1)]
theorem rdIQ (ps : List (Nat × Nat)) (i : Nat) (h : i < ps.length) : rd_T99 (ps.map toIQ) (i : Int) = toIQ ps[i] := by
  rw [show rd_T99 (ps.map toIQ) (i : Int) = (ps.map toIQ)[i]'(by rw [List.length_map]; exact h) from getD_lt _ _ i (by rw [List.length_map]; exact h), List.getElem_map]
theorem specLines_l0 (ps : List (Nat × Nat)) (hp : ps.length ≤ 1048576) : ∀ d i (acc : List (List Int)), i + d = ps.length → acc.length ≤ i →
    Ev (fun f => spec_CommonLines.l0 f acc (ps.map toIQ) (ps.length : Int) (i : Int)) (acc ++ (ps.drop i).map toLi, true) := by
  intro d
  induction d with
  | zero =>
    intro i acc hi ha
    refine Ev.step (fun f => spec_CommonLines.l0.eq_2 ..) (ev_neg (by omega) (ev_some ?_))
    rw [List.drop_of_length_le (by omega)]
    simp
  | succ d ih =>
    intro i acc hi ha
    have hlt : i < ps.length := by omega
    refine Ev.step (fun f => spec_CommonLines.l0.eq_2 ..) (ev_pos (by omega) (ev_pos (by omega) (ev_pos (by rw [List.length_map]; omega) (ev_pos (by omega) ?_))))
    rw [rdIQ ps i hlt, wrap_succ i (by omega)]
    refine ev_to (ih (i + 1) _ (by omega) (by rw [List.length_append, List.length_singleton]; omega)) ?_
    rw [List.drop_eq_getElem_cons hlt, List.map_cons, List.append_assoc]
    rfl
theorem spec_CommonLines_ev (a b : List ByteArray) (fa : FitS a) (fb : FitS b) : Ev (fun f => spec_CommonLines.f f a b) (linesR a b) := by
  simp only [spec_CommonLines.f]
  unfold linesR
  have bad : Ev (fun f => spec_CommonLines.j0 f a b true) (([] : List (List Int)), false) := Ev.step (fun f => spec_CommonLines.j0.eq_2 ..) (ev_pos rfl (ev_some rfl))
  refine ev_bind (l1Good_ev a fa) (ev_ite (fun c => ev_bind (l1Good_ev b fb) ?_) (fun c => ?_))
  · cases c2 : good b with
    | true =>
      rw [if_pos ⟨c, rfl⟩]
      have h1 := good_len c
      have h2 := good_len c2
      have hl := pairs_len a b a.length 0 0 (Lc a b 0 0)
      refine Ev.step (fun f => spec_CommonLines.j0.eq_2 ..) (ev_neg (by simp) (ev_bind (l3Pairs_ev a b (by omega) (by omega)) ?_))
      rw [List.length_map]
      exact ev_to (specLines_l0 (pairs a b a.length 0 0 (Lc a b 0 0)) (by omega) (pairs a b a.length 0 0 (Lc a b 0 0)).length 0 [] (by omega) (Nat.zero_le _)) (by simp [pairsV])
    | false =>
      rw [if_neg (fun e => by cases e.2)]
      exact bad
  · rw [if_neg (fun e => c e.1)]
    exact bad
theorem linesR_small (a b : List ByteArray) : (linesR a b).1.length ≤ 40 ∧ ∀ x ∈ (linesR a b).1, x.length = 2 := by
  unfold linesR
  split
  · rename_i c
    have h1 := good_len c.1
    have hl := pairs_len a b a.length 0 0 (Lc a b 0 0)
    refine ⟨by simp only [List.length_map, pairsV]; omega, fun x hx => ?_⟩
    obtain ⟨z, _, rfl⟩ := List.mem_map.1 hx
    rfl
  · exact ⟨Nat.zero_le _, fun x hx => by cases hx⟩
end Go.Proofs.Ytmcldkobejhaeaa.Pl
/- Plain Lean: from one list to a third it is no farther than by way of another; a list shares all of itself with itself alone. No condition. -/
namespace Go.Proofs.Ytmcldkobejhaeaa.Pl
open Go.RowKit Go.Proofs.YtmcldkobejhaeaaW.PrintWords Go.Proofs.YtmcldkobejhaeaaW.PrintLast
set_option linter.unusedVariables false
set_option linter.unusedSimpArgs false
theorem lcs_triangle (a b c : List ByteArray) : lcs a b + lcs b c ≤ b.length + lcs a c := by
  generalize hn : a.length + b.length + c.length = n
  induction n using Nat.strongRecOn generalizing a b c with
  | _ n ih =>
    cases a with
    | nil => rw [lcs_nil_l]; have := (lcs_le b c).1; omega
    | cons x a =>
      cases c with
      | nil => rw [lcs_nil_r b]; have := (lcs_le (x :: a) b).2; omega
      | cons z c =>
        cases b with
        | nil => rw [lcs_nil_l, lcs_nil_r]; omega
        | cons y b =>
          simp only [List.length_cons] at hn
          have m1 := lcs_steps x a (z :: c)
          have m2 := lcs_steps_r z (x :: a) c
          have i1 := ih (a.length + b.length + c.length) (by omega) a b c rfl
          have i2 := ih (a.length + (b.length + 1) + (c.length + 1)) (by omega) a (y :: b) (z :: c) (by simp only [List.length_cons])
          have i3 := ih (a.length + 1 + (b.length + 1) + c.length) (by omega) (x :: a) (y :: b) c (by simp only [List.length_cons])
          have i4 := ih (a.length + 1 + b.length + (c.length + 1)) (by omega) (x :: a) b (z :: c) (by simp only [List.length_cons])
          have i5 := ih (a.length + b.length + (c.length + 1)) (by omega) a b (z :: c) (by simp only [List.length_cons])
          have i6 := ih (a.length + 1 + b.length + c.length) (by omega) (x :: a) b c (by simp only [List.length_cons])
          simp only [List.length_cons] at i2 i3
          simp only [List.length_cons]
          rw [lcs_cons x y, lcs_cons y z]
          by_cases h1 : x = y
          · by_cases h2 : y = z
            · rw [if_pos h1, if_pos h2, lcs_cons x z, if_pos (h1.trans h2)]
              omega
            · rw [if_pos h1, if_neg h2]
              rw [lcs_cons x y, if_pos h1] at i3
              omega
          · by_cases h2 : y = z
            · rw [if_neg h1, if_pos h2]
              rw [lcs_cons y z, if_pos h2] at i2
              omega
            · rw [if_neg h1, if_neg h2]
              rw [lcs_cons y z, if_neg h2] at i2
              rw [lcs_cons x y, if_neg h1] at i3
              omega
theorem lcs_self (a : List ByteArray) : lcs a a = a.length := by
  induction a with
  | nil => rw [lcs_nil_l]; rfl
  | cons x a ih => rw [lcs_cons, if_pos rfl, ih]; rfl
theorem lcs_full (a b : List ByteArray) (h : lcs a b = a.length) (hl : a.length = b.length) : a = b := by
  induction a generalizing b with
  | nil => cases b with
    | nil => rfl
    | cons y b => simp at hl
  | cons x a ih =>
    cases b with
    | nil => simp at hl
    | cons y b =>
      simp only [List.length_cons] at h hl
      rw [lcs_cons] at h
      split at h
      · rename_i e
        rw [e, ih b (by omega) (by omega)]
      · have h1 := lcs_le a (y :: b)
        have h2 := lcs_le (x :: a) b
        simp only [List.length_cons] at h1 h2
        omega
end Go.Proofs.Ytmcldkobejhaeaa.Pl
/- Plain Lean: what FarApart comes to, the program's and the reference's. Conditions: lengths and sizes below 2^62. -/
namespace Go.Proofs.Ytmcldkobejhaeaa.Pl
open Go.RowKit Go.Proofs.YtmcldkobejhaeaaW.PrintWords Go.Proofs.YtmcldkobejhaeaaW.PrintLast Go.Proofs.Ytmcldkobejhaeaa.My
set_option linter.unusedVariables false
set_option linter.unusedSimpArgs false
def apart (a b : List ByteArray) : Int := wrap64 ((wrap64 ((a.length : Int) + (b.length : Int))) - (wrap64 (2 * ((lcs a b : Nat) : Int))))
theorem impl_FarApart_ev (a b : List ByteArray) (fa : FitS a) (fb : FitS b) (ha : a.length ≤ 4611686018427387904) (hb : b.length ≤ 4611686018427387904) : Ev (fun k => impl_FarApart.f k a b) (both a b 0 (apart a b)) := by
  simp only [impl_FarApart.f]
  refine both_ev goodLines_ev fa fb (fun h h' => ?_)
  have h1 := good_len h
  have h2 := good_len h'
  simp only [impl_farApart.f]
  refine ev_bind (common_ev a b (by omega) (by omega)) (ev_pos (tbl_len0 a b) (ev_pos (tbl_row0_len a b) (ev_some ?_)))
  rw [tbl_00]
  rfl
theorem spec_FarApart_ev (a b : List ByteArray) (fa : FitS a) (fb : FitS b) (ha : a.length ≤ 4611686018427387904) (hb : b.length ≤ 4611686018427387904) : Ev (fun k => spec_FarApart.f k a b) (both a b 0 (apart a b)) := by
  simp only [spec_FarApart.f]
  refine both_ev l1Good_ev fa fb (fun h h' => ?_)
  have h1 := good_len h
  have h2 := good_len h'
  simp only [spec_l3Apart.f]
  refine ev_bind (l3Table_ev a b (by omega) (by omega)) (ev_pos (tbl_len0 a b) (ev_pos (tbl_row0_len a b) (ev_some ?_)))
  rw [tbl_00]
  rfl
end Go.Proofs.Ytmcldkobejhaeaa.Pl
/- Plain Lean: what the program's Common comes to. Conditions: lengths and sizes below 2^62. -/
namespace Go.Proofs.Ytmcldkobejhaeaa.Pl
open Go.RowKit Go.Proofs.YtmcldkobejhaeaaW.PrintWords Go.Proofs.YtmcldkobejhaeaaW.PrintLast Go.Proofs.Ytmcldkobejhaeaa.My
set_option linter.unusedVariables false
set_option linter.unusedSimpArgs false
theorem impl_Common_ev (a b : List ByteArray) (fa : FitS a) (fb : FitS b) (ha : a.length ≤ 4611686018427387904) (hb : b.length ≤ 4611686018427387904) : Ev (fun k => impl_Common.f k a b) (both a b 0 ((lcs a b : Nat) : Int)) := by
  simp only [impl_Common.f]
  unfold both
  refine ev_bind (goodLines_ev a fa) (ev_ite (fun h => ?_) (fun h => ev_some (by rw [if_neg h])))
  rw [if_pos h]
  refine ev_bind (goodLines_ev b fb) (ev_ite (fun h' => ?_) (fun h' => ev_some (by rw [if_neg h'])))
  rw [if_pos h']
  have h1 := good_len h
  have h2 := good_len h'
  refine ev_bind (common_ev a b (by omega) (by omega)) (ev_pos (tbl_len0 a b) (ev_pos (tbl_row0_len a b) (ev_some ?_)))
  rw [tbl_00]
end Go.Proofs.Ytmcldkobejhaeaa.Pl
/- Plain Lean: what AlikeOf comes to, the program's and the reference's. Conditions: lengths and sizes below 2^62. -/
namespace Go.Proofs.Ytmcldkobejhaeaa.Pl
open Go.RowKit Go.Proofs.YtmcldkobejhaeaaW.PrintWords Go.Proofs.YtmcldkobejhaeaaW.PrintLast Go.Proofs.Ytmcldkobejhaeaa.My
set_option linter.unusedVariables false
set_option linter.unusedSimpArgs false
def alike (a b : List ByteArray) : Int × Bool := if good a = true ∧ good b = true then ((if wrap64 ((a.length : Int) + (b.length : Int)) = 0 then 100 else wrap64 (Int.tdiv (wrap64 (200 * ((lcs a b : Nat) : Int))) (wrap64 ((a.length : Int) + (b.length : Int))))), true) else (0, false)
theorem impl_AlikeOf_ev (a b : List ByteArray) (fa : FitS a) (fb : FitS b) (ha : a.length ≤ 4611686018427387904) (hb : b.length ≤ 4611686018427387904) : Ev (fun k => impl_AlikeOf.f k a b) (alike a b) := by
  simp only [impl_AlikeOf.f]
  refine ev_bind (impl_Common_ev a b fa fb ha hb) ?_
  unfold both alike
  by_cases h : good a = true
  · by_cases h' : good b = true
    · rw [if_pos h, if_pos h', if_pos (show good a = true ∧ good b = true from ⟨h, h'⟩)]
      exact ev_pos rfl (ev_ite (fun e => ev_some (by rw [if_pos e])) (fun e => ev_some (by rw [if_neg e])))
    · rw [if_pos h, if_neg h', if_neg (show ¬ (good a = true ∧ good b = true) from fun e => h' e.2)]
      exact ev_neg (by simp) (ev_some rfl)
  · rw [if_neg h, if_neg (show ¬ (good a = true ∧ good b = true) from fun e => h e.1)]
    exact ev_neg (by simp) (ev_some rfl)
theorem spec_AlikeOf_ev (a b : List ByteArray) (fa : FitS a) (fb : FitS b) (ha : a.length ≤ 4611686018427387904) (hb : b.length ≤ 4611686018427387904) : Ev (fun k => spec_AlikeOf.f k a b) (alike a b) := by
  simp only [spec_AlikeOf.f]
  unfold alike
  refine ev_bind (l1Good_ev a fa) (ev_ite (fun h => ?_) (fun h => ?_))
  · refine ev_bind (l1Good_ev b fb) (Ev.step (fun k => spec_AlikeOf.j0.eq_2 ..) ?_)
    by_cases h' : good b = true
    · have h1 := good_len h
      have h2 := good_len h'
      rw [if_pos (show good a = true ∧ good b = true from ⟨h, h'⟩)]
      refine ev_neg (by simp [h']) (ev_ite (fun e => ev_some (by rw [if_pos e])) (fun e => ?_))
      refine ev_bind (l3Table_ev a b (by omega) (by omega)) (ev_pos (tbl_len0 a b) (ev_pos (tbl_row0_len a b) (ev_some ?_)))
      rw [tbl_00, if_neg e]
    · rw [if_neg (show ¬ (good a = true ∧ good b = true) from fun e => h' e.2)]
      exact ev_pos (by simp [h']) (ev_some rfl)
  · rw [if_neg (show ¬ (good a = true ∧ good b = true) from fun e => h e.1)]
    exact Ev.step (fun k => spec_AlikeOf.j0.eq_2 ..) (ev_pos rfl (ev_some rfl))
end Go.Proofs.Ytmcldkobejhaeaa.Pl
/- Plain Lean: the pairs of what two texts share: as many as they share, in order; how far apart, how much alike. No condition. -/
namespace Go.Proofs.Ytmcldkobejhaeaa.Pl
open Go.RowKit Go.Proofs.YtmcldkobejhaeaaW.PrintWords Go.Proofs.YtmcldkobejhaeaaW.PrintLast Go.Proofs.Ytmcldkobejhaeaa.My
set_option linter.unusedVariables false
set_option linter.unusedSimpArgs false
theorem pairs_full (a b : List ByteArray) : ∀ (n i j : Nat), i ≤ a.length → Lc a b i j = n → (pairs a b (a.length - i) i j n).length = n
  | 0, i, j, _, _ => by rw [pairs_zero]; rfl
  | n + 1, i, j, hi, h => by
    obtain ⟨q, hq, k, hk1, hk2, hk3⟩ := hit_from a b i j n hi h
    obtain ⟨p1, p2, p3, p4, p5, p6⟩ := pairs_best a b (a.length - i) i j n ⟨q, hq, k, hk1, hk2, hk3⟩ (by omega)
    rw [p6, List.length_cons]
    unfold hit at p5
    rw [Bool.and_eq_true, decide_eq_true_eq, decide_eq_true_eq] at p5
    rw [pairs_full a b n _ _ (by omega) p5.2]
theorem pairs_mono (a b : List ByteArray) : ∀ (d p j n : Nat), p + d = a.length → (pairs a b d p j n).Pairwise (fun u v => u.1 < v.1 ∧ u.2 < v.2)
  | 0, _, _, _, _ => List.Pairwise.nil
  | d + 1, p, j, n, hp => by
    simp only [pairs]
    split
    · exact List.Pairwise.nil
    · cases hf : firstQ a b p (n - 1) j (b.length - j) with
      | some k =>
        refine List.pairwise_cons.2 ⟨fun z hz => ?_, pairs_mono a b d (p + 1) (k + 1) (n - 1) (by omega)⟩
        have := pairs_in a b d (p + 1) (k + 1) (n - 1) (by omega) z hz
        dsimp only
        omega
      | none => exact pairs_mono a b d (p + 1) j n (by omega)
theorem pairsV_len (a b : List ByteArray) : (pairsV a b).length = lcs a b := by
  have := pairs_full a b (Lc a b 0 0) 0 0 (Nat.zero_le _) rfl
  unfold pairsV
  rw [Nat.sub_zero] at this
  rw [this]
  simp [Lc]
theorem pairsV_mono (a b : List ByteArray) : (pairsV a b).Pairwise (fun u v => u.1 < v.1 ∧ u.2 < v.2) := pairs_mono a b a.length 0 0 _ (by omega)
theorem pairsV_in (a b : List ByteArray) (z : Nat × Nat) (h : z ∈ pairsV a b) : z.1 < a.length ∧ z.2 < b.length ∧ a[z.1]? = b[z.2]? := by
  have := pairs_in a b a.length 0 0 _ (by omega) z h
  exact ⟨this.2.1, this.2.2.2.1, this.2.2.2.2⟩
theorem apart_eq {a b : List ByteArray} (ha : a.length ≤ 40) (hb : b.length ≤ 40) : apart a b = (a.length : Int) + b.length - 2 * (lcs a b : Nat) := by
  have := lcs_le a b
  unfold apart
  rw [wrap64_id (x := (a.length : Int) + b.length) (by omega) (by omega), wrap64_id (x := 2 * ((lcs a b : Nat) : Int)) (by omega) (by omega), wrap64_id (by omega) (by omega)]
theorem alike_eq {a b : List ByteArray} (ga : good a = true) (gb : good b = true) (ha : a.length ≤ 40) (hb : b.length ≤ 40) : (alike a b).2 = true ∧ 0 ≤ (alike a b).1 ∧ (alike a b).1 ≤ 100 ∧ ((alike a b).1 = 100 ↔ a = b) := by
  have hl := lcs_le a b
  have hs := lcs_self a
  have hf : lcs a b = a.length → a.length = b.length → a = b := lcs_full a b
  unfold alike
  rw [if_pos ⟨ga, gb⟩, wrap64_id (x := (a.length : Int) + b.length) (by omega) (by omega), wrap64_id (x := 200 * ((lcs a b : Nat) : Int)) (by omega) (by omega)]
  refine ⟨rfl, ?_⟩
  dsimp only
  by_cases h0 : (a.length : Int) + (b.length : Int) = 0
  · rw [if_pos h0]
    have e1 : a = [] := List.eq_nil_of_length_eq_zero (by omega)
    have e2 : b = [] := List.eq_nil_of_length_eq_zero (by omega)
    exact ⟨by omega, by omega, fun _ => by rw [e1, e2], fun _ => rfl⟩
  · rw [if_neg h0, Int.tdiv_eq_ediv_of_nonneg (by omega)]
    generalize hn : (a.length : Int) + (b.length : Int) = n at *
    generalize hm : ((lcs a b : Nat) : Int) = m at *
    have hn1 : 0 < n := by omega
    have hmn : 2 * m ≤ n := by omega
    have q0 : 0 ≤ (200 * m) / n := Int.ediv_nonneg (by omega) (by omega)
    have q1 : (200 * m) / n ≤ 100 := by
      have := Int.ediv_le_ediv hn1 (show 200 * m ≤ 100 * n by omega)
      rwa [Int.mul_ediv_cancel _ (by omega)] at this
    rw [wrap64_id (by omega) (by omega)]
    refine ⟨q0, q1, fun e => ?_, fun e => ?_⟩
    · have h1 := Int.ediv_mul_le (200 * m) (show n ≠ 0 by omega)
      rw [e] at h1
      exact hf (by omega) (by omega)
    · have e2 : m = a.length := by rw [← hm, ← e, hs]
      have e3 : b.length = a.length := by rw [e]
      have : 200 * m = 100 * n := by omega
      rw [this, Int.mul_ediv_cancel _ (by omega)]
end Go.Proofs.Ytmcldkobejhaeaa.Pl
/- Plain Lean: what Common comes to, the program's and the reference's. Conditions: lengths and sizes below 2^62. -/
namespace Go.Proofs.Ytmcldkobejhaeaa.Pl
open Go.RowKit Go.Proofs.YtmcldkobejhaeaaW.PrintWords Go.Proofs.YtmcldkobejhaeaaW.PrintLast Go.Proofs.Ytmcldkobejhaeaa.My
set_option linter.unusedVariables false
set_option linter.unusedSimpArgs false
theorem spec_Common_ev (a b : List ByteArray) (fa : FitS a) (fb : FitS b) (ha : a.length ≤ 4611686018427387904) (hb : b.length ≤ 4611686018427387904) : Ev (fun k => spec_Common.f k a b) (both a b 0 ((lcs a b : Nat) : Int)) := by
  simp only [spec_Common.f]
  unfold both
  refine ev_bind (l1Good_ev a fa) (ev_ite (fun h => ?_) (fun h => ev_some (by rw [if_neg h])))
  rw [if_pos h]
  refine ev_bind (l1Good_ev b fb) (ev_ite (fun h' => ?_) (fun h' => ev_some (by rw [if_neg h'])))
  rw [if_pos h']
  have h1 := good_len h
  have h2 := good_len h'
  refine ev_bind (l3Table_ev a b (by omega) (by omega)) (ev_pos (tbl_len0 a b) (ev_pos (tbl_row0_len a b) (ev_some ?_)))
  rw [tbl_00]
end Go.Proofs.Ytmcldkobejhaeaa.Pl
/- Plain Lean: a list of texts is the same as itself, and so is a list of hunks. Asked: lengths below 2^62. -/
namespace Go.Proofs.Ytmcldkobejhaeaa.Pl
open Go.RowKit Go.Proofs.YtmcldkobejhaeaaW.PrintWords Go.Proofs.YtmcldkobejhaeaaW.PrintLast Go.Proofs.Ytmcldkobejhaeaa.My
set_option linter.unusedVariables false
end Go.Proofs.Ytmcldkobejhaeaa.Pl
/- Plain Lean: whether texts are the same, by the laws' own test. Condition: lengths below 2^63. -/
namespace Go.Proofs.Ytmcldkobejhaeaa.Pl
open Go.RowKit Go.Proofs.YtmcldkobejhaeaaW.PrintWords Go.Proofs.YtmcldkobejhaeaaW.PrintLast Go.Proofs.Ytmcldkobejhaeaa.My
set_option linter.unusedVariables false
set_option linter.unusedSimpArgs false
theorem sameTexts_g0 (a b : List ByteArray) (hab : a.length = b.length) (hL : a.length ≤ 9223372036854775807) : ∀ d i, i + d = a.length → Ev (fun k => laws_sameTexts.l0 k a b (a.length : Int) (i : Int)) (decide (a.drop i = b.drop i)) := by
  intro d
  induction d with
  | zero =>
    intro i hi
    refine Ev.step (fun k => laws_sameTexts.l0.eq_2 ..) (ev_neg (by omega) (ev_some ?_))
    rw [List.drop_of_length_le (by omega), List.drop_of_length_le (by omega)]
    simp
  | succ d ih =>
    intro i hi
    have h1 : i < a.length := by omega
    have h2 : i < b.length := by omega
    refine Ev.step (fun k => laws_sameTexts.l0.eq_2 ..) (ev_pos (by omega) (ev_pos (by omega) (ev_pos (by omega) (ev_pos (by omega) ?_))))
    rw [rdOf_lt _ _ _ h1, rdOf_lt _ _ _ h2, drop_cons a i h1, drop_cons b i h2]
    refine ev_ite (fun h => ?_) (fun h => ev_some ?_)
    · rw [wrap_succ i (by omega)]
      refine ev_to (ih (i + 1) (by omega)) ?_
      rw [ba_ext h]
      simp only [List.cons.injEq, true_and]
    · have : ¬ a[i] = b[i] := fun e => h (by rw [e])
      simp only [List.cons.injEq, this, false_and, decide_false]
theorem sameTexts_ev (a b : List ByteArray) (hL : a.length ≤ 9223372036854775807) : Ev (fun k => laws_sameTexts.f k a b) (decide (a = b)) := by
  simp only [laws_sameTexts.f]
  refine ev_ite (fun h => ?_) (fun h => ev_some ?_)
  · exact sameTexts_g0 a b (by omega) hL a.length 0 (by omega)
  · have : ¬ a = b := fun e => h (by rw [e])
    simp [this]
end Go.Proofs.Ytmcldkobejhaeaa.Pl
/- Plain Lean: the drawn laws' bytes, and the test of their number. No condition. -/
namespace Go.Proofs.Ytmcldkobejhaeaa.Pl
open Go.RowKit Go.Proofs.YtmcldkobejhaeaaW.PrintWords Go.Proofs.YtmcldkobejhaeaaW.PrintLast Go.Proofs.Ytmcldkobejhaeaa.My
set_option linter.unusedVariables false
set_option linter.unusedSimpArgs false
theorem wu8_bounds {z : Int} (h : Wu8 z) : 0 ≤ z ∧ z ≤ 255 := by
  have h' : (Lit.int .u8 z).wf = true := h
  simp [Lit.wf, show IntKind.u8.min = 0 from rfl, show IntKind.u8.max = 255 from rfl] at h'
  omega
theorem bytes8_of {l : List Int} (h : (WL Wu8) l) : Bytes8 l := by
  refine ⟨?_, fun x hx => wu8_bounds (h.2 x hx)⟩
  have h1 := h.1
  have h2 : maxLen ≤ 9223372036854775807 := by decide
  omega
def bigB (a b : List Int) : Bool := if (a.length : Int) > 1048576 then true else decide ((b.length : Int) > 1048576 - (a.length : Int))
theorem big_eq (a b : List Int) (ha : Bytes8 a) (hb : Bytes8 b) : laws_big.f a b = some (bigB a b) := by
  unfold laws_big.f bigB
  have h1 := ha.1
  by_cases h : (a.length : Int) > 1048576
  · rw [if_pos h, if_pos h]
  · rw [if_neg h, if_neg h, wrap64_id (by omega) (by omega)]
end Go.Proofs.Ytmcldkobejhaeaa.Pl
/- FnCommon, in plain Lean: what is shared stands in both in order, as much both ways, and the way to a third text is no longer than by way of the other. No condition. -/
namespace Go.Proofs.Ytmcldkobejhaeaa.Pure
open Go.RowKit Go.Proofs.Ytmcldkobejhaeaa.My Go.Proofs.Ytmcldkobejhaeaa.Pl Go.Proofs.YtmcldkobejhaeaaW.PrintWords Go.Proofs.YtmcldkobejhaeaaW.PrintLast
set_option linter.unusedVariables false
set_option linter.unusedSimpArgs false
theorem sameInts_l0 (l : List Int) (hl : l.length ≤ 4611686018427387904) : ∀ d i, i + d = l.length → Ev (fun k => laws_sameInts.l0 k l l (l.length : Int) (i : Int)) true := by
  intro d
  induction d with
  | zero => intro i hi; exact Ev.step (fun k => laws_sameInts.l0.eq_2 ..) (ev_neg (by omega) (ev_some rfl))
  | succ d ih =>
    intro i hi
    refine Ev.step (fun k => laws_sameInts.l0.eq_2 ..) (ev_pos (by omega) (ev_pos (by omega) (ev_pos (by omega) (ev_pos (by omega) (ev_pos rfl ?_)))))
    rw [wrap_succ i (by omega)]
    exact ih (i + 1) (by omega)
theorem sameInts_self (l : List Int) (hl : l.length ≤ 4611686018427387904) : Ev (fun k => laws_sameInts.f k l l) true := by
  simp only [laws_sameInts.f]
  exact ev_pos trivial (sameInts_l0 l hl l.length 0 (by omega))
theorem sameLists_l0 (l : List (List Int)) (hl : l.length ≤ 4611686018427387904) (hs : ∀ x ∈ l, x.length ≤ 4611686018427387904) : ∀ d i, i + d = l.length → Ev (fun k => laws_sameLists.l0 k l l (l.length : Int) (i : Int)) true := by
  intro d
  induction d with
  | zero => intro i hi; exact Ev.step (fun k => laws_sameLists.l0.eq_2 ..) (ev_neg (by omega) (ev_some rfl))
  | succ d ih =>
    intro i hi
    have hlt : i < l.length := by omega
    refine Ev.step (fun k => laws_sameLists.l0.eq_2 ..) (ev_pos (by omega) (ev_pos (by omega) (ev_pos (by omega) (ev_pos (by omega) ?_))))
    rw [rdLL l i hlt, wrap_succ i (by omega)]
    exact ev_bind (sameInts_self _ (hs _ (List.getElem_mem hlt))) (ev_pos rfl (ih (i + 1) (by omega)))
theorem sameLists_self (l : List (List Int)) (hl : l.length ≤ 4611686018427387904) (hs : ∀ x ∈ l, x.length ≤ 4611686018427387904) : Ev (fun k => laws_sameLists.f k l l) true := by
  simp only [laws_sameLists.f]
  exact ev_pos trivial (sameLists_l0 l hl hs l.length 0 (by omega))
theorem drawCommon_some (c : List Int) (hc : Bytes8 c) : ∃ a b, Ev (fun k => spec_DrawCommonLines.f k c) (a, b) ∧ Sm9 a ∧ Sm9 b := by
  obtain ⟨a, b, e, ha, hb⟩ := drawSame_some c hc
  exact ⟨a, b, by simp only [spec_DrawCommonLines.f]; exact ev_bind e (ev_some rfl), ha, hb⟩
theorem drawAlike_some (c : List Int) (hc : Bytes8 c) : ∃ a b, Ev (fun k => spec_DrawAlikeOf.f k c) (a, b) ∧ Sm9 a ∧ Sm9 b := by
  obtain ⟨a, b, e, ha, hb⟩ := drawSame_some c hc
  exact ⟨a, b, by simp only [spec_DrawAlikeOf.f]; exact ev_bind e (ev_some rfl), ha, hb⟩
theorem j3_ev (c : List Int) (hc : Bytes8 c) : Ev (fun k => laws_FnCommon.j3 k c) true := by
  obtain ⟨d, e, he, hd, hE⟩ := drawAlike_some c hc
  have fd := fitS_sm9 hd
  have fe := fitS_sm9 hE
  have l1 := hd.1
  have l2 := hE.1
  refine Ev.step (fun k => laws_FnCommon.j3.eq_2 ..) (ev_bind he (ev_bind (impl_AlikeOf_ev d e fd fe (by omega) (by omega)) (ev_bind (spec_AlikeOf_ev d e fd fe (by omega) (by omega)) (ev_bind (impl_FarApart_ev d e fd fe (by omega) (by omega)) (ev_bind (spec_FarApart_ev d e fd fe (by omega) (by omega)) (ev_pos (by simp) (ev_pos rfl (ev_pos (by simp) (ev_some (by simp))))))))))
theorem j2_ev (c : List Int) (hc : Bytes8 c) (a b : List ByteArray) (ha : Sm9 a) (hb : Sm9 b) (ga : good a = true) (gb : good b = true) : Ev (fun k => laws_FnCommon.j2 k c a b false) true := by
  have l1 := ha.1
  have l2 := hb.1
  obtain ⟨q1, q2, q3, q4⟩ := alike_eq ga gb (by omega) (by omega)
  refine Ev.step (fun k => laws_FnCommon.j2.eq_2 ..) (ev_neg (by simp) (ev_bind (impl_AlikeOf_ev a b (fitS_sm9 ha) (fitS_sm9 hb) (by omega) (by omega)) (ev_pos q1 (ev_neg (by omega) (ev_neg (by omega) (ev_bind (sameTexts_ev a b (by omega)) (ev_neg ?_ (j3_ev c hc))))))))
  have : ((alike a b).1 == 100) = decide (a = b) := by
    rw [Bool.eq_iff_iff, beq_iff_eq, decide_eq_true_eq]
    exact q4
  rw [this]
  simp
theorem tail_ev (c : List Int) (hc : Bytes8 c) (a b : List ByteArray) (ha : Sm9 a) (hb : Sm9 b) (ga : good a = true) (gb : good b = true) :
    Ev (fun k => (spec_DrawCommonLines.f k c).bind fun bt519 => ((impl_FarApart.f k a b).bind fun bt525 => ((impl_FarApart.f k b bt519.1).bind fun bt527 => ((impl_FarApart.f k a bt519.1).bind fun bt529 => (if bt527.2 = true then (if bt529.2 = true then (if bt525.2 = true then (laws_FnCommon.j2 k c a b (decide (bt529.1 > (wrap64 (bt525.1 + bt527.1))))) else (laws_FnCommon.j2 k c a b true)) else (laws_FnCommon.j2 k c a b false)) else (laws_FnCommon.j2 k c a b false)))))) true := by
  obtain ⟨t, u, e, ht, hu⟩ := drawCommon_some c hc
  have l1 := ha.1
  have l2 := hb.1
  have l3 := ht.1
  have J := j2_ev c hc a b ha hb ga gb
  refine ev_bind e (ev_bind (impl_FarApart_ev a b (fitS_sm9 ha) (fitS_sm9 hb) (by omega) (by omega)) (ev_bind (impl_FarApart_ev b t (fitS_sm9 hb) (fitS_sm9 ht) (by omega) (by omega)) (ev_bind (impl_FarApart_ev a t (fitS_sm9 ha) (fitS_sm9 ht) (by omega) (by omega)) ?_)))
  by_cases gt : good t = true
  · have e1 : both b t (0 : Int) (apart b t) = (apart b t, true) := by unfold both; rw [if_pos gb, if_pos gt]
    have e2 : both a t (0 : Int) (apart a t) = (apart a t, true) := by unfold both; rw [if_pos ga, if_pos gt]
    have e3 : both a b (0 : Int) (apart a b) = (apart a b, true) := by unfold both; rw [if_pos ga, if_pos gb]
    rw [e1, e2, e3]
    refine ev_pos rfl (ev_pos rfl (ev_pos rfl ?_))
    dsimp only
    have x1 := apart_eq (a := b) (b := t) (by omega) (by omega)
    have x2 := apart_eq (a := a) (b := t) (by omega) (by omega)
    have x3 := apart_eq (a := a) (b := b) (by omega) (by omega)
    have y1 := lcs_le b t
    have y2 := lcs_le a t
    have y3 := lcs_le a b
    have tr := lcs_triangle a b t
    rw [x1, x2, x3, wrap64_id (by omega) (by omega), decide_eq_false (by omega)]
    exact J
  · have e1 : both b t (0 : Int) (apart b t) = (0, false) := by unfold both; rw [if_pos gb, if_neg gt]
    rw [e1]
    exact ev_neg (by simp) J
theorem toLi_rd (z : Nat × Nat) : rd (toLi z) 0 = (z.1 : Int) ∧ rd (toLi z) 1 = (z.2 : Int) ∧ (toLi z).length = 2 := ⟨rfl, rfl, rfl⟩
theorem rdMap (ps : List (Nat × Nat)) (i : Nat) (h : i < ps.length) : rd_L5 (ps.map toLi) (i : Int) = toLi ps[i] := by
  rw [rdLL _ i (by rw [List.length_map]; exact h), List.getElem_map]
theorem common_l0 (c : List Int) (hc : Bytes8 c) (a b : List ByteArray) (ha : Sm9 a) (hb : Sm9 b) (ga : good a = true) (gb : good b = true) (ps : List (Nat × Nat)) (hp : ps.length ≤ 100) (hin : ∀ z ∈ ps, z.1 < a.length ∧ z.2 < b.length ∧ a[z.1]? = b[z.2]?) (hm : ps.Pairwise (fun u v => u.1 < v.1 ∧ u.2 < v.2)) : ∀ d i, i + d = ps.length →
    Ev (fun k => laws_FnCommon.l0 k c a b (ps.map toLi) true (ps.map toLi) (ps.length : Int) (i : Int)) true := by
  intro d
  induction d with
  | zero => intro i hi; exact Ev.step (fun k => laws_FnCommon.l0.eq_2 ..) (ev_neg (by omega) (ev_pos rfl (tail_ev c hc a b ha hb ga gb)))
  | succ d ih =>
    intro i hi
    have hlt : i < ps.length := by omega
    obtain ⟨z1, z2, z3⟩ := hin _ (List.getElem_mem hlt)
    obtain ⟨r1, r2, r3⟩ := toLi_rd ps[i]
    have ea : rdOf ByteArray.empty a ((ps[i].1 : Nat) : Int) = a[ps[i].1] := rdOf_lt _ _ _ z1
    have eb : rdOf ByteArray.empty b ((ps[i].2 : Nat) : Int) = b[ps[i].2] := rdOf_lt _ _ _ z2
    have eq : a[ps[i].1] = b[ps[i].2] := by
      rw [List.getElem?_eq_getElem z1, List.getElem?_eq_getElem z2] at z3
      injection z3
    have nx := ih (i + 1) (by omega)
    refine Ev.step (fun k => laws_FnCommon.l0.eq_2 ..) (ev_pos (by omega) (ev_pos (by omega) (ev_pos (by rw [List.length_map]; omega) ?_)))
    rw [rdMap ps i hlt, r1, r2, r3, ea, eb, eq, wrap_succ i (by omega)]
    refine ev_pos rfl (ev_pos (by omega) (ev_neg (by omega) (ev_neg (by omega) (ev_pos (by omega) (ev_neg (by omega) (ev_neg (by omega) (ev_pos (by omega) (ev_pos (by omega) (ev_pos (by omega) (ev_pos (by omega) (ev_pos rfl ?_)))))))))))
    by_cases h0 : (i : Int) > 0
    · have hw : wrap64 ((i : Int) - 1) = ((i - 1 : Nat) : Int) := by rw [wrap64_id (by omega) (by omega)]; omega
      have hl2 : i - 1 < ps.length := by omega
      obtain ⟨s1, s2, s3⟩ := toLi_rd ps[i - 1]
      have mono := List.pairwise_iff_getElem.1 hm (i - 1) i hl2 hlt (by omega)
      rw [hw, rdMap ps (i - 1) hl2, s1, s2, s3]
      exact ev_pos h0 (ev_pos (by omega) (ev_pos (by rw [List.length_map]; omega) (ev_pos (by omega) (ev_neg (by omega) (ev_pos (by omega) (ev_neg (by omega) nx))))))
    · exact ev_neg h0 nx
theorem FnCommon : laws_FnCommon.Pure := by
  intro l0 l1 w0 w1
  have b0 := bytes8_of w0
  have b1 := bytes8_of w1
  have key : Ev (fun k => laws_FnCommon.f k l0 l1) true := by
    simp only [laws_FnCommon.f]
    refine ev_bind (ev_const (big_eq l0 l1 b0 b1)) (ev_ite (fun _ => ev_some rfl) (fun _ => ?_))
    obtain ⟨a, b, e, ha, hb⟩ := drawCommon_some l0 b0
    have fa := fitS_sm9 ha
    have fb := fitS_sm9 hb
    have k1 := ha.1
    have k2 := hb.1
    have hsm := linesR_small a b
    refine ev_bind e (ev_bind (impl_CommonLines_ev a b fa fb) (ev_bind (spec_CommonLines_ev a b fa fb) (ev_bind (impl_Common_ev a b fa fb (by omega) (by omega)) (ev_bind (spec_Common_ev a b fa fb (by omega) (by omega)) (ev_bind (impl_Common_ev b a fb fa (by omega) (by omega)) ?_)))))
    refine ev_neg (by simp) (ev_bind (sameLists_self _ (by omega) (fun x hx => by have := hsm.2 x hx; omega)) (ev_pos rfl (ev_neg (by simp) (ev_pos rfl ?_))))
    by_cases g : good a = true ∧ good b = true
    · have e1 : both a b (0 : Int) ((lcs a b : Nat) : Int) = (((lcs a b : Nat) : Int), true) := by unfold both; rw [if_pos g.1, if_pos g.2]
      have e2 : both b a (0 : Int) ((lcs b a : Nat) : Int) = (((lcs a b : Nat) : Int), true) := by unfold both; rw [if_pos g.2, if_pos g.1, lcs_comm]
      have e3 : linesR a b = ((pairsV a b).map toLi, true) := by unfold linesR; rw [if_pos g]
      rw [e1, e2, e3]
      refine ev_neg (by simp) (ev_neg (by simp) (ev_pos rfl (ev_pos rfl ?_)))
      have hlen := pairsV_len a b
      have hll := lcs_le a b
      dsimp only
      rw [show ((((pairsV a b).map toLi).length : Int) != ((lcs a b : Nat) : Int)) = false from by rw [List.length_map, hlen]; simp]
      refine Ev.step (fun k => laws_FnCommon.j0.eq_2 ..) (ev_neg (by simp) ?_)
      rw [List.length_map]
      exact common_l0 l1 b1 a b ha hb g.1 g.2 (pairsV a b) (by omega) (pairsV_in a b) (pairsV_mono a b) (pairsV a b).length 0 (by omega)
    · have e1 : both a b (0 : Int) ((lcs a b : Nat) : Int) = (0, false) := by
        unfold both
        by_cases g1 : good a = true
        · rw [if_pos g1, if_neg (fun g2 => g ⟨g1, g2⟩)]
        · rw [if_neg g1]
      have e2 : both b a (0 : Int) ((lcs b a : Nat) : Int) = (0, false) := by
        unfold both
        by_cases g1 : good b = true
        · rw [if_pos g1, if_neg (fun g2 => g ⟨g2, g1⟩)]
        · rw [if_neg g1]
      have e3 : linesR a b = ([], false) := by unfold linesR; rw [if_neg g]
      rw [e1, e2, e3]
      refine ev_neg (by simp) (ev_neg (by simp) (ev_pos rfl (ev_neg (by simp) ?_)))
      refine Ev.step (fun k => laws_FnCommon.j0.eq_2 ..) (ev_neg (by simp) (Ev.step (fun k => laws_FnCommon.l0.eq_2 ..) (ev_neg (by simp) (ev_neg (by simp) (j3_ev l1 b1)))))
  obtain ⟨n, hn⟩ := key
  exact ⟨n, hn n (Nat.le_refl _)⟩
end Go.Proofs.Ytmcldkobejhaeaa.Pure
/- The Go function loop.example/g00825/laws.FnCommon returns true for every input, and each argument reads afterwards as it read before. No condition. -/
namespace Go.Proofs.Ytmcldkobejhaeaa.fnCommon
open Go.ChangeShapes Go.WideShapes Go.ChangeAt Go.RowKit Go.Joins Go.Proofs.Ytmcldkobejhaeaa.Opens Go.Proofs.Ytmcldkobejhaeaa.My
open Go.ChangeMaps (open_string shut_string)
set_option linter.unusedVariables false
set_option linter.unusedSimpArgs false
theorem own : ownKnob Try.prog.godebug = none := by kernel_rfl
theorem laidOut : laidOutB Try.prog = true := by kernel_rfl
set_option maxRecDepth 100000 in
theorem lifted (os : Os) (started : os.Started) (H : Type) (enc : TypeId × Value → H) :
    ReturnsInHanded {} Try.checked os 4 .any (Rows.fnCommonSpec.pre6 enc Try.prog Try.f4 Rows.fnCommonRow.domain false) (Rows.fnCommonSpec.post enc Try.prog Try.f4 false true false false) := by
  refine returnsInHanded_of_change_sized (C := Try.checked) own started (by kernel_rfl) Try.func4
    (ChangeSpec.witness6 (enc := enc) (C := Try.checked) false ⟨#[], #[.slice none 0 0, .slice none 0 0], []⟩ 8 (by kernel_rfl) (by kernel_rfl) (by kernel_rfl) (by kernel_rfl)) ?_
  intro W base args ds gs before hval0 hW hcnd hsz0 _
  have hval : ∀ (j : Nat) t v, Try.f4.params[j]? = some t → args[j]? = some v → Value.okWide Try.prog W .any base t v := hval0
  have hW' := hW
  obtain ⟨p, q, hA0, hV, rfl, hfz, hnd⟩ := hW
  have hA : DataW.TrodAll enc Try.prog W 0 (fun _ => true) true Try.f4.params.toList args.toList ds p := hA0
  rw [Try.params4] at hA hval
  obtain ⟨v0, vs0, d0, ds0, p0, q0, hargs, rfl, rfl, h0, r0⟩ := trodAll_cons hA
  obtain ⟨v1, vs1, d1, ds1, p1, q1, rfl, rfl, rfl, h1, r1⟩ := trodAll_cons r0
  obtain ⟨rfl, rfl, rfl⟩ := trodAll_nil r1
  obtain rfl : args = #[v0, v1] := by cases args; simp_all
  obtain ⟨rfl, rfl⟩ := trodVars_none hV
  obtain ⟨A0, n0, c0, rfl⟩ := okWide_slice Try.underlying22 (hval 0 22 v0 rfl rfl)
  have k0 := h0
  have lt0 : ∀ x ∈ p0, x.block < W.heap.size := by obtain ⟨m, hm⟩ := k0; exact DataW.trod_lt m _ _ _ hm
  obtain ⟨l0, rfl, hc0, hr0, q0_⟩ := Opens.row (opens_slice Try.underlying22 (by kernel_rfl) (opens_int .u8 Try.underlying5)) h0
  obtain ⟨A1, n1, c1, rfl⟩ := okWide_slice Try.underlying22 (hval 1 22 v1 rfl rfl)
  have k1 := h1
  have lt1 : ∀ x ∈ p1, x.block < W.heap.size := by obtain ⟨m, hm⟩ := k1; exact DataW.trod_lt m _ _ _ hm
  obtain ⟨l1, rfl, hc1, hr1, q1_⟩ := Opens.row (opens_slice Try.underlying22 (by kernel_rfl) (opens_int .u8 Try.underlying5)) h1
  clear hA0 hval0 hsz0
  obtain ⟨kr, hk⟩ := Pure.FnCommon l0 l1 q0_ q1_
  refine (laws_FnCommon.calls kr _ _ l0 _ _ l1 true W hr0 hc0 hr1 hc1 hk rfl).mono fun e W' hh => ?_
  obtain ⟨rfl, hd⟩ := hh
  have bel : Below W.heap.size W W' := hd
  exact ⟨_, rfl, _, _, _, [], _, [], hW', trodAll_mk1 (shut_bool Try.underlying4 _), (trodAll_cons_mk (Below.trod laidOut (by kernel_rfl) (of_decide_eq_true (by kernel_rfl)) k0 bel lt0) (trodAll_cons_mk (Below.trod laidOut (by kernel_rfl) (of_decide_eq_true (by kernel_rfl)) k1 bel lt1) trodAll_mk0)), rfl, bel.frame _, fun h => by cases h⟩
theorem over : Rows.fnCommonRow.holds Try.pinned (OpenSpec.ofChange Rows.fnCommonSpec) :=
  OpenClaim.holds_of_wide 4 Try.f4 rfl rfl rfl rfl rfl rfl rfl ⟨rfl, rfl, rfl, rfl, rfl⟩ rfl rfl rfl rfl rfl (by kernel_rfl) Try.func4 (by kernel_rfl)
    (of_decide_eq_true (by kernel_rfl)) (by unfold Func.isWrapper; first | (rw [if_pos (by decide +kernel)]; kernel_rfl) | (rw [if_neg (by decide +kernel)]; exact ⟨rfl, rfl⟩))
    (fun os started H enc _ => lifted os started H enc)
theorem proved : Rows.FnCommonSaid := over
#print axioms proved
end Go.Proofs.Ytmcldkobejhaeaa.fnCommon
namespace Go.Proofs.Ytmcldkobejhaeaa
/-- The row, under a short name, for the claim. -/
theorem fnCommon_holds : Rows.FnCommonSaid := fnCommon.proved
end Go.Proofs.Ytmcldkobejhaeaa
