/- Part 5 of 5 of a proof of this sentence: The Go function loop.example/g00825/laws.FnExactJoinHunks returns true for every input, and each argument reads afterwards as it read before. No condition. -/
import Derived.Test.YtcefenlblnediaaRows
import Derived.WalkKit
import Derived.ProofKit
import Derived.OpenShut
import Derived.ShutString
import Derived.ChangeOld
import Derived.Below
import Derived.SizedLaws
import Derived.Lib.SmallJoins
import Derived.Test.YtcefenlblnediaaCFnExactJoinHunks4
/- Plain Lean: lengths, bounds and orders of the lines that stay behind hunks, and of two tellings joined. Asked: hunks in order. -/
namespace Go.Proofs.Ytcefenlblnediaa.Pl
open Go.RowKit Go.Proofs.YtcefenlblnediaaW.PrintWords Go.Proofs.YtcefenlblnediaaW.PrintLast Go.Proofs.Ytcefenlblnediaa.My
set_option linter.unusedVariables false
set_option linter.unusedSimpArgs false

/-- How many lines more. -/
def total : List IH → Int
  | [] => 0
  | x :: t => ((x.f2.length : Int) - x.f1) + total t
theorem chain_mem {n : Int} : ∀ (h : List IH) (p : Int), chain' n p h → ∀ y ∈ h, p < y.f0
  | x :: t, p, hc, y, hy => by
    simp only [chain'] at hc
    rcases List.mem_cons.1 hy with rfl | hy
    · exact hc.1.2.2.2
    · have := chain_mem t _ hc.2 y hy
      omega
theorem kept_len (n : Nat) : ∀ (h : List IH) (p : Nat) (a : Int), chain' (n : Int) a h → (∀ x ∈ h, (p : Int) ≤ x.f0) → p ≤ n → ((keptFrom n p h).length : Int) + p = n + total h
  | [], p, a, _, _, hp => by
    simp only [keptFrom, total, List.length_map, List.length_range']
    omega
  | x :: t, p, a, hc, hf, hp => by
    simp only [chain'] at hc
    have hx := hf x (List.mem_cons_self ..)
    have ih := kept_len n t (x.f0 + x.f1).toNat _ hc.2 (fun y hy => by have := chain_mem t _ hc.2 y hy; omega) (by omega)
    simp only [keptFrom, total, List.length_append, List.length_map, List.length_range', List.length_replicate]
    omega
theorem patch_len (a : List ByteArray) : ∀ (h : List IH) (p : Nat) (q : Int), chain' (a.length : Int) q h → (∀ x ∈ h, (p : Int) ≤ x.f0) → p ≤ a.length → ((patchFrom a p h).length : Int) + p = a.length + total h
  | [], p, q, _, _, hp => by
    simp only [patchFrom, total, List.length_drop]
    omega
  | x :: t, p, q, hc, hf, hp => by
    simp only [chain'] at hc
    have hx := hf x (List.mem_cons_self ..)
    have ih := patch_len a t (x.f0 + x.f1).toNat _ hc.2 (fun y hy => by have := chain_mem t _ hc.2 y hy; omega) (by omega)
    simp only [patchFrom, total, List.length_append, List.length_drop, List.length_take]
    omega
theorem kept_low (n : Nat) : ∀ (h : List IH) (p : Nat) (a : Int), chain' (n : Int) a h → ∀ k ∈ keptFrom n p h, -1 ≤ k ∧ k < n
  | [], p, a, _, k, hk => by
    simp only [keptFrom, List.mem_map, List.mem_range'_1] at hk
    obtain ⟨j, hj, rfl⟩ := hk
    omega
  | x :: t, p, a, hc, k, hk => by
    simp only [chain'] at hc
    simp only [keptFrom, List.mem_append, List.mem_map, List.mem_range'_1, List.mem_replicate] at hk
    rcases hk with ⟨j, hj, rfl⟩ | ⟨_, rfl⟩ | hk
    · omega
    · omega
    · exact kept_low n t _ _ hc.2 k hk
theorem total_low (n : Int) : ∀ (h : List IH) (p : Int), chain' n p h → p ≤ n → p ≤ n + total h
  | [], p, _, hp => by simp only [total]; omega
  | x :: t, p, hc, hp => by
    simp only [chain'] at hc
    have := total_low n t _ hc.2 hc.1.2.2.1
    simp only [total]
    omega
theorem moved_high (n : Int) (i : Int) (hi : i < n) : ∀ (h : List IH) (p : Int), chain' n p h → ∀ m, moved i h = some m → i + m < n + total h
  | [], p, _, m, hm => by simp only [moved, Option.some.injEq] at hm; simp only [total]; omega
  | x :: t, p, hc, m, hm => by
    simp only [chain'] at hc
    simp only [moved] at hm
    simp only [total]
    split at hm
    · obtain ⟨m', h1, h2⟩ := Option.map_eq_some_iff.1 hm
      have := moved_high n i hi t _ hc.2 m' h1
      omega
    · split at hm
      · cases hm
      · rename_i c1 c2
        rw [moved_ahead i t _ hc.2 (by omega)] at hm
        injection hm with hm
        have := total_low n t _ hc.2 hc.1.2.2.1
        omega

theorem staysK_snd : ∀ (l : List Int) (q : Nat), (staysK q l).Pairwise (fun u v => u.2 < v.2) ∧ ∀ z ∈ staysK q l, q ≤ z.2 ∧ z.2 < q + l.length
  | [], q => ⟨List.Pairwise.nil, fun z hz => by cases hz⟩
  | k :: t, q => by
    obtain ⟨h1, h2⟩ := staysK_snd t (q + 1)
    have h3 : ∀ z ∈ staysK (q + 1) t, q ≤ z.2 ∧ z.2 < q + (t.length + 1) := fun z hz => by have := h2 z hz; omega
    simp only [staysK, List.length_cons]
    split
    · refine ⟨List.pairwise_cons.2 ⟨fun z hz => by have := (h2 z hz).1; simp only; omega, h1⟩, fun z hz => ?_⟩
      rcases List.mem_cons.1 hz with rfl | hz
      · simp only; omega
      · exact h3 z hz
    · exact ⟨h1, h3⟩
theorem staysP_fst (h : List IH) : ∀ (d s : Nat), (staysP h (List.range' s d)).Pairwise (fun u v => u.1 < v.1) ∧ ∀ z ∈ staysP h (List.range' s d), s ≤ z.1 ∧ z.1 < s + d
  | 0, s => ⟨List.Pairwise.nil, fun z hz => by cases hz⟩
  | d + 1, s => by
    obtain ⟨h1, h2⟩ := staysP_fst h d (s + 1)
    have h3 : ∀ z ∈ staysP h (List.range' (s + 1) d), s ≤ z.1 ∧ z.1 < s + (d + 1) := fun z hz => by have := h2 z hz; omega
    rw [List.range'_succ, staysP]
    cases hm : moved (s : Int) h with
    | none => exact ⟨h1, h3⟩
    | some m =>
      simp only
      split
      · refine ⟨List.pairwise_cons.2 ⟨fun z hz => by have := (h2 z hz).1; simp only; omega, h1⟩, fun z hz => ?_⟩
        rcases List.mem_cons.1 hz with rfl | hz
        · simp only; omega
        · exact h3 z hz
      · exact ⟨h1, h3⟩
theorem find_stays (h : List IH) (p : Nat) : ∀ (d s : Nat), s ≤ p → p < s + d → (staysP h (List.range' s d)).find? (fun y => y.1 == p) = match moved (p : Int) h with
    | some m => if 0 ≤ (p : Int) + m then some (p, ((p : Int) + m).toNat) else none
    | none => none
  | 0, s, h1, h2 => by omega
  | d + 1, s, h1, h2 => by
    rw [List.range'_succ, staysP]
    by_cases e : s = p
    · subst e
      have hn : (staysP h (List.range' (s + 1) d)).find? (fun y => y.1 == s) = none := List.find?_eq_none.2 (fun z hz => by
        have := ((staysP_fst h d (s + 1)).2 z hz).1
        simp; omega)
      cases hm : moved (s : Int) h with
      | none => simp only; exact hn
      | some m =>
        simp only
        split
        · simp only [List.find?_cons, beq_self_eq_true]
        · exact hn
    · have ih := find_stays h p d (s + 1) (by omega) (by omega)
      cases hm : moved (s : Int) h with
      | none => simp only; exact ih
      | some m =>
        simp only
        split
        · rw [List.find?_cons, show ((s, ((s : Int) + m).toNat).1 == p) = false from by simp [e]]
          exact ih
        · exact ih
theorem find_staysK (k : Nat) : ∀ (l : List Int) (q : Nat) (h1 : q ≤ k) (h2 : k < q + l.length), (staysK q l).find? (fun z => z.2 == k) = if 0 ≤ l[k - q]'(by omega) then some ((l[k - q]'(by omega)).toNat, k) else none
  | [], q, h1, h2 => by simp at h2; omega
  | x :: t, q, h1, h2 => by
    simp only [List.length_cons] at h2
    by_cases e : q = k
    · subst e
      have hn : (staysK (q + 1) t).find? (fun z => z.2 == q) = none := List.find?_eq_none.2 (fun z hz => by
        have := ((staysK_snd t (q + 1)).2 z hz).1
        simp; omega)
      simp only [staysK, Nat.sub_self, List.getElem_cons_zero]
      split
      · simp only [List.find?_cons, beq_self_eq_true]
      · exact hn
    · have ih := find_staysK k t (q + 1) (by omega) (by omega)
      have e2 : (x :: t)[k - q]'(by simp only [List.length_cons]; omega) = t[k - (q + 1)]'(by omega) := by
        rw [List.getElem_cons]
        rw [dif_neg (by omega)]
        congr 1
      rw [e2]
      simp only [staysK]
      split
      · rw [List.find?_cons, show ((x.toNat, q).2 == k) = false from by simp [e]]
        exact ih
      · exact ih
/-- In order on both sides. -/
def Mono (A : List (Nat × Nat)) : Prop := A.Pairwise (fun u v => u.1 < v.1 ∧ u.2 < v.2)
theorem mono_of {A : List (Nat × Nat)} (h1 : A.Pairwise (fun u v => u.1 < v.1)) (h2 : A.Pairwise (fun u v => u.2 < v.2)) : Mono A := h1.and h2
theorem mono_at : ∀ {B : List (Nat × Nat)}, Mono B → ∀ y ∈ B, ∀ y' ∈ B, y.1 < y'.1 → y.2 < y'.2
  | b :: B, hm, y, hy, y', hy', hl => by
    have h := List.pairwise_cons.1 hm
    rcases List.mem_cons.1 hy with rfl | hy2
    · rcases List.mem_cons.1 hy' with rfl | hy3
      · omega
      · exact (h.1 y' hy3).2
    · rcases List.mem_cons.1 hy' with rfl | hy3
      · have := (h.1 y hy2).1
        omega
      · exact mono_at h.2 y hy2 y' hy3 hl
theorem joinA_mem (B : List (Nat × Nat)) : ∀ (A : List (Nat × Nat)), ∀ z ∈ joinA B A, ∃ a ∈ A, ∃ y ∈ B, z = (a.1, y.2) ∧ y.1 = a.2
  | a :: A, z, hz => by
    simp only [joinA] at hz
    have rest : z ∈ joinA B A → ∃ a' ∈ a :: A, ∃ y ∈ B, z = (a'.1, y.2) ∧ y.1 = a'.2 := fun hz => by
      obtain ⟨a', h1, y, h2, h3⟩ := joinA_mem B A z hz
      exact ⟨a', List.mem_cons_of_mem _ h1, y, h2, h3⟩
    cases hf : B.find? (fun y => y.1 == a.2) with
    | none => rw [hf] at hz; exact rest hz
    | some y =>
      rw [hf] at hz
      rcases List.mem_cons.1 hz with rfl | hz
      · exact ⟨a, List.mem_cons_self .., y, List.mem_of_find?_eq_some hf, rfl, by simpa using List.find?_some hf⟩
      · exact rest hz
theorem joinA_mono {B : List (Nat × Nat)} (hB : Mono B) : ∀ {A : List (Nat × Nat)}, Mono A → Mono (joinA B A)
  | [], _ => List.Pairwise.nil
  | a :: A, hA => by
    have h := List.pairwise_cons.1 hA
    simp only [joinA]
    cases hf : B.find? (fun y => y.1 == a.2) with
    | none => exact joinA_mono hB h.2
    | some y =>
      have e1 : y.1 = a.2 := by simpa using List.find?_some hf
      refine List.pairwise_cons.2 ⟨fun z hz => ?_, joinA_mono hB h.2⟩
      obtain ⟨a', h1, y', h2, rfl, e2⟩ := joinA_mem B A z hz
      have h3 := h.1 a' h1
      exact ⟨h3.1, mono_at hB y (List.mem_of_find?_eq_some hf) y' h2 (by omega)⟩

/-- The hunks by which all goes and comes that stands between pairs. -/
def betweenV (n : List ByteArray) : Nat → Nat → List (Nat × Nat) → List IH
  | _, _, [] => []
  | i, j, z :: t => (if i < z.1 ∨ j < z.2 then [(⟨(i : Int), (z.1 : Int) - i, (n.take z.2).drop j⟩ : IH)] else []) ++ betweenV n (z.1 + 1) (z.2 + 1) t
/-- Pairs in order behind i and j. -/
def okP (L N : Nat) : Nat → Nat → List (Nat × Nat) → Prop
  | _, _, [] => True
  | i, j, z :: t => (i ≤ z.1 ∧ j ≤ z.2 ∧ z.1 ≤ L ∧ z.2 ≤ N) ∧ okP L N (z.1 + 1) (z.2 + 1) t
theorem okP_of (L N : Nat) : ∀ (ps : List (Nat × Nat)) (i j : Nat), Mono ps → (∀ z ∈ ps, i ≤ z.1 ∧ j ≤ z.2 ∧ z.1 < L ∧ z.2 < N) → i ≤ L → j ≤ N → okP L N i j (ps ++ [(L, N)])
  | [], i, j, _, _, hi, hj => ⟨⟨hi, hj, Nat.le_refl _, Nat.le_refl _⟩, trivial⟩
  | z :: t, i, j, hm, hb, hi, hj => by
    have h := List.pairwise_cons.1 hm
    have hz := hb z (List.mem_cons_self ..)
    simp only [List.cons_append, okP]
    refine ⟨by omega, okP_of L N t _ _ h.2 (fun y hy => ?_) (by omega) (by omega)⟩
    have h1 := h.1 y hy
    have h2 := hb y (List.mem_cons_of_mem _ hy)
    omega
end Go.Proofs.Ytcefenlblnediaa.Pl

/- Written by this session's program (wip/gen): a plain function with the same answers as the Go function, and the proof that the Go code comes to them. Asked: that the plain function has an answer. -/
namespace Go.Proofs.Ytcefenlblnediaa.My
open Go.RowKit Go.Proofs.YtcefenlblnediaaW.PrintWords Go.Proofs.YtcefenlblnediaaW.PrintLast Go.Proofs.YtcefenlblnediaaW.PrintMore
attribute [local go_sem] max2_int min2_int max_two min_two max_three min_three max_four min_four
set_option linter.unusedVariables false
set_option linter.unusedSimpArgs false

/-! ### impl_PlaceOf: function 37 -/
mutual
def impl_PlaceOf.j0 : Nat → List (S111) → Int → Bool → Option (Int × Bool)
 | 0, _, _, _ => none
 | k + 1, x0, x2, x20 => if x20 = true then (some (0, false)) else (impl_PlaceOf.l0 k x2 x2 x0 (x0.length : Int) 0)
def impl_PlaceOf.l0 : Nat → Int → Int → List (S111) → Int → Int → Option (Int × Bool)
 | 0, _, _, _, _, _ => none
 | k + 1, x2, x8, x22, x23, x24 => if x24 < x23 then (if 0 ≤ x24 then (if x24 < (x22.length : Int) then (if (wrap64 (((rd_T111 x22 x24).f0) + ((rd_T111 x22 x24).f1))) ≤ x2 then (impl_PlaceOf.l0 k x2 (wrap64 (x8 + (wrap64 ((((rd_T111 x22 x24).f2).length : Int) - ((rd_T111 x22 x24).f1))))) x22 x23 (wrap64 (x24 + 1))) else (if ((rd_T111 x22 x24).f0) ≤ x2 then (some (0, false)) else (impl_PlaceOf.l0 k x2 x8 x22 x23 (wrap64 (x24 + 1))))) else (none)) else (none)) else (some (x8, true))
end
def impl_PlaceOf.f (k : Nat) (l0 : List (S111)) (a1 : Int) (a2 : Int) : Option (Int × Bool) := (impl_goodHunks.f k a1 l0).bind fun t796 => (if t796 = true then ((impl_in.f a2 0 a1).bind fun t797 => (impl_PlaceOf.j0 k l0 a2 (!t797))) else (impl_PlaceOf.j0 k l0 a2 true))
set_option maxHeartbeats 8000000 in
set_option maxRecDepth 100000 in
theorem impl_PlaceOf.calls (k : Nat) (A0 : Option Addr) (c0 : Nat) (l0 : List (S111)) (a1 : Int) (a2 : Int) (r1 : Int) (r2 : Bool) (w : World) (hr0 : Kd.C k111 w A0 l0.length l0) (hc0 : l0.length ≤ c0) (h : impl_PlaceOf.f k l0 a1 a2 = some (r1, r2)) :
  Calls Try.prog 37 #[.slice A0 l0.length c0, .int .i64 a1, .int .i64 a2] w fun e w' => e = .returned (.tuple #[.int .i64 r1, .bool r2]) ∧ Below w.heap.size w w' := by
 have hu111 := Try.underlying111
 have HR0 := Aside0.mk hr0
 have HC0 := Aside0.mk hc0
 clear hr0 hc0
 have HB := Aside0.mk (Below.refl w.heap.size w)
 have H : ((impl_goodHunks.f k a1 l0).bind fun t796 => (if t796 = true then ((impl_in.f a2 0 a1).bind fun t797 => (impl_PlaceOf.j0 k l0 a2 (!t797))) else (impl_PlaceOf.j0 k l0 a2 true))) = some (r1, r2) := h
 clear h
 have HC4 := Aside0.mk H
 clear H
 go_enter Try.func37, Try.ntmps37
 go_upto_region 1 with (fail)
 go_cut [20] (fun v20 wc => ∃ (kq : Nat) (x20_3 : Bool), v20 = .bool x20_3 ∧ Aside0 (impl_PlaceOf.j0 kq l0 a2 x20_3 = some (r1, r2)) ∧ Aside0 (kq ≤ k) ∧ Aside0 (Below w.heap.size w wc))
 case first =>
  have H := HC4.out
  clear HC4
  replace H := Option.bind_eq_some_iff.mp H
  obtain ⟨t796, A50, H⟩ := H
  replace H : (if t796 = true then ((impl_in.f a2 0 a1).bind fun t797 => (impl_PlaceOf.j0 k l0 a2 (!t797))) else (impl_PlaceOf.j0 k l0 a2 true)) = some (r1, r2) := H
  have A5 := Aside0.mk A50
  clear A50
  by_cases c6 : t796 = true
  ·subst c6
   have H1 : ((impl_in.f a2 0 a1).bind fun t797 => (impl_PlaceOf.j0 k l0 a2 (!t797))) = some (r1, r2) := by rw [if_pos rfl] at H; exact H
   clear H
   have H := H1
   clear H1
   replace H := Option.bind_eq_some_iff.mp H
   obtain ⟨t797, A70, H⟩ := H
   replace H : (impl_PlaceOf.j0 k l0 a2 (!t797)) = some (r1, r2) := H
   have A7 := Aside0.mk A70
   clear A70
   have H' := Aside0.mk H
   clear H
   go_wp2_with (first | ((with_reducible refine gateC (f := 96) rfl ?_); refine goesL_ (some 13) rfl rfl Try.func96 (by kernel_rfl) rfl #[.int .i64 a1, .slice A0 l0.length c0] rfl zm ?_; (with_reducible refine (impl_goodHunks.calls k a1 _ _ l0 true _ ?side1 ?side2 A5.out).mono ?_); (case side1 => exact zq (Kd.C_below HR0.out HB.out)); (case side2 => exact HC0.out); rintro e w8 ⟨rfl, hb⟩; refine ⟨_, rfl, ?_⟩; have n0_ := Aside0.mk (below_step zb hb); clear HB; have HB := n0_; clear n0_; (try clear hb); (try clear hb2); (try clear hk); (try clear hi)) | (go_at_call 102; (with_reducible refine (impl_in.calls a2 0 a1 t797 _ A7.out).mono ?_); rintro e w' ⟨rfl, ⟨nd, rfl⟩⟩))
   go_meet
   case rel => exact ⟨_, (!t797), zf, H', ⟨by first | omega | exact Nat.le_refl _⟩, ⟨by repeat (first | (with_reducible first | exact HB.out | apply below_alloc | apply pw_below_drewN | apply below_drew1) | exact HB.out)⟩⟩
  ·replace c6 := Bool.eq_false_iff.mpr c6
   subst c6
   have H1 : (impl_PlaceOf.j0 k l0 a2 true) = some (r1, r2) := by rw [if_neg (show ¬ (false = true) by decide)] at H; exact H
   clear H
   have H := H1
   clear H1
   have H' := Aside0.mk H
   clear H
   go_wp2_with (first | ((with_reducible refine gateC (f := 96) rfl ?_); refine goesL_ (some 13) rfl rfl Try.func96 (by kernel_rfl) rfl #[.int .i64 a1, .slice A0 l0.length c0] rfl zm ?_; (with_reducible refine (impl_goodHunks.calls k a1 _ _ l0 false _ ?side1 ?side2 A5.out).mono ?_); (case side1 => exact zq (Kd.C_below HR0.out HB.out)); (case side2 => exact HC0.out); rintro e w9 ⟨rfl, hb⟩; refine ⟨_, rfl, ?_⟩; have n0_ := Aside0.mk (below_step zb hb); clear HB; have HB := n0_; clear n0_; (try clear hb); (try clear hb2); (try clear hk); (try clear hi)))
   go_meet
   case rel => exact ⟨_, (true), zf, H', ⟨by first | omega | exact Nat.le_refl _⟩, ⟨by repeat (first | (with_reducible first | exact HB.out | apply below_alloc | apply pw_below_drewN | apply below_drew1) | exact HB.out)⟩⟩
 case rest =>
  clear HC4
  try clear p2
  try clear c3
  try clear c6
  try clear c9
  obtain ⟨kq, x20_3, rfl, HA, HJ3, HB⟩ := hcut
  cases kq with
  | zero => exact absurd HA.out (by simp [impl_PlaceOf.j0])
  | succ kj3 =>
   have H := HA.out
   clear HA
   simp only [impl_PlaceOf.j0] at H
   by_cases c10 : x20_3 = true
   ·subst c10
    have H1 : (some (0, false)) = some (r1, r2) := by rw [if_pos rfl] at H; exact H
    clear H
    have H := H1
    clear H1
    simp only [Option.some.injEq, Prod.mk.injEq] at H
    obtain ⟨rfl, rfl⟩ := H
    go_wp2
    go_ret2
    exact ⟨by first | rfl | (simp [errW_none, errW_some] <;> rfl) | (simp [*, errW_none, errW_some] <;> rfl), by repeat (first | (with_reducible first | exact HB.out | apply below_alloc | apply pw_below_drewN | apply below_drew1) | exact HB.out)⟩
   ·replace c10 := Bool.eq_false_iff.mpr c10
    subst c10
    have H1 : (impl_PlaceOf.l0 kj3 a2 a2 l0 (l0.length : Int) 0) = some (r1, r2) := by rw [if_neg (show ¬ (false = true) by decide)] at H; exact H
    clear H
    have H := H1
    clear H1
    have H' := Aside0.mk H
    clear H
    go_wp2
    go_loopg [8, 24] kj3 (fun kq v8 v24 w' => ∃ (x8_2 : Int) (x24_2 : Int), v8 = .int .i64 x8_2 ∧ v24 = .int .i64 x24_2 ∧ Aside0 (impl_PlaceOf.l0 kq a2 x8_2 l0 (l0.length : Int) x24_2 = some (r1, r2)) ∧ Aside0 (kq ≤ kj3) ∧ Aside0 (Below w.heap.size w w'))
    case atStart => exact ⟨(a2), (0), zf, zf, H', ⟨Nat.le_refl _⟩, ⟨by repeat (first | (with_reducible first | exact HB.out | apply below_alloc | apply pw_below_drewN | apply below_drew1) | exact HB.out)⟩⟩
    case round =>
     clear H'
     try clear c1
     try clear p2
     try clear c3
     try clear c6
     try clear c9
     try clear c10
     try clear p2
     obtain ⟨x8_2, x24_2, rfl, rfl, HA, HK2, HB⟩ := hrel
     cases gk with
     | zero => exact absurd HA.out (by simp [impl_PlaceOf.l0])
     | succ k2 =>
      have H := HA.out
      clear HA
      simp only [impl_PlaceOf.l0] at H
      by_cases c11 : x24_2 < (l0.length : Int)
      ·rw [if_pos c11] at H
       have c11b0 : decide (x24_2 < (l0.length : Int)) = true := decide_eq_true c11
       clear c11
       by_cases c12 : 0 ≤ x24_2
       ·rw [if_pos c12] at H
        have c12b0 : decide (0 ≤ x24_2) = true := decide_eq_true c12
        clear c12
        by_cases c13 : x24_2 < (l0.length : Int)
        ·rw [if_pos c13] at H
         have c13b0 : decide (x24_2 < (l0.length : Int)) = true := decide_eq_true c13
         clear c13
         by_cases c14 : (wrap64 (((rd_T111 l0 x24_2).f0) + ((rd_T111 l0 x24_2).f1))) ≤ a2
         ·rw [if_pos c14] at H
          have c14b0 : decide ((wrap64 (((rd_T111 l0 x24_2).f0) + ((rd_T111 l0 x24_2).f1))) ≤ a2) = true := decide_eq_true c14
          clear c14
          have H' := Aside0.mk H
          clear H
          have p798 : 0 ≤ (x24_2 : Int) := oa
          have q798 : x24_2 < (l0.length : Int) := oa
          obtain ⟨ad798, A798_2, c798_2, e798, hx798_0, hx798_1, hx798_2, hl798_2, hi798_2⟩ := at_T111 HR0.out x24_2 p798 q798
          cases e798
          replace hx798_0 := (HB.out.cell (World.block_lt_of_cell? w _ hx798_0)).trans hx798_0
          replace hx798_1 := (HB.out.cell (World.block_lt_of_cell? w _ hx798_1)).trans hx798_1
          replace hx798_2 := (HB.out.cell (World.block_lt_of_cell? w _ hx798_2)).trans hx798_2
          have HR798_2 := Aside0.mk hi798_2
          have HC798_2 := Aside0.mk hl798_2
          clear hi798_2 hl798_2
          replace p798 := eq_true p798
          replace q798 := eq_true q798
          go_wp2_with (first | ((with_reducible refine gate_dst (N := 10) rfl ?_); refine box_event ?hg (N := 10) ?hd (cs := #[.int .i64 0, .int .i64 0, .slice none 0 0]) (t := 111) ?hr ?_; (case hd => rfl); (case hg => rfl); (case hr => first | (go_simp; done) | (go_simp; rfl)); intro gb799 hg w15 hbox hb; have n0_ := Aside0.mk (below_step zb hb); have n1_ := Aside0.mk (hbox); have n2_ := Aside0.mk ((by rw [hg]; exact (below_size zb) : w.heap.size ≤ gb799)); have n3_ := Aside0.mk ((by rw [hg]; exact (below_size zb) : w.heap.size ≤ gb799)); clear HB; have HB := n0_; have BK799 := n1_; have GW799 := n2_; have GE799 := n3_; clear n0_ n1_ n2_ n3_; clear hb hbox hg; have hcz16_0 : w15.cell? ⟨gb799, 0, none⟩ = some (.int .i64 0) := (blk_cell BK799.out 0).trans rfl; have hcz16_1 : w15.cell? ⟨gb799, 1, none⟩ = some (.int .i64 0) := (blk_cell BK799.out 1).trans rfl; have hcz16_2 : w15.cell? ⟨gb799, 2, none⟩ = some (.slice none 0 0) := (blk_cell BK799.out 2).trans rfl; have hfz16_0 := blk_frozen BK799.out 0; have hfz16_1 := blk_frozen BK799.out 1; have hfz16_2 := blk_frozen BK799.out 2))
          go_roundg k2
          case measure => have := HJ3.out; have := HK2.out; omega
          case rel => exact ⟨(wrap64 (x8_2 + (wrap64 ((((rd_T111 l0 x24_2).f2).length : Int) - ((rd_T111 l0 x24_2).f1))))), (wrap64 (x24_2 + 1)), zf, zf, H', ⟨by have := HJ3.out; have := HK2.out; omega⟩, ⟨by repeat (first | (with_reducible first | exact HB.out | apply below_alloc | apply pw_below_drewN | apply below_drew1 | refine below_set ?_ GE799.out) | exact HB.out)⟩⟩
         ·rw [if_neg c14] at H
          have c14b0 : decide ((wrap64 (((rd_T111 l0 x24_2).f0) + ((rd_T111 l0 x24_2).f1))) ≤ a2) = false := decide_eq_false c14
          clear c14
          by_cases c17 : ((rd_T111 l0 x24_2).f0) ≤ a2
          ·rw [if_pos c17] at H
           have c17b0 : decide (((rd_T111 l0 x24_2).f0) ≤ a2) = true := decide_eq_true c17
           clear c17
           simp only [Option.some.injEq, Prod.mk.injEq] at H
           obtain ⟨rfl, rfl⟩ := H
           have p798 : 0 ≤ (x24_2 : Int) := oa
           have q798 : x24_2 < (l0.length : Int) := oa
           obtain ⟨ad798, A798_2, c798_2, e798, hx798_0, hx798_1, hx798_2, hl798_2, hi798_2⟩ := at_T111 HR0.out x24_2 p798 q798
           cases e798
           replace hx798_0 := (HB.out.cell (World.block_lt_of_cell? w _ hx798_0)).trans hx798_0
           replace hx798_1 := (HB.out.cell (World.block_lt_of_cell? w _ hx798_1)).trans hx798_1
           replace hx798_2 := (HB.out.cell (World.block_lt_of_cell? w _ hx798_2)).trans hx798_2
           have HR798_2 := Aside0.mk hi798_2
           have HC798_2 := Aside0.mk hl798_2
           clear hi798_2 hl798_2
           replace p798 := eq_true p798
           replace q798 := eq_true q798
           go_wp2_with (first | ((with_reducible refine gate_dst (N := 10) rfl ?_); refine box_event ?hg (N := 10) ?hd (cs := #[.int .i64 0, .int .i64 0, .slice none 0 0]) (t := 111) ?hr ?_; (case hd => rfl); (case hg => rfl); (case hr => first | (go_simp; done) | (go_simp; rfl)); intro gb799 hg w18 hbox hb; have n0_ := Aside0.mk (below_step zb hb); have n1_ := Aside0.mk (hbox); have n2_ := Aside0.mk ((by rw [hg]; exact (below_size zb) : w.heap.size ≤ gb799)); have n3_ := Aside0.mk ((by rw [hg]; exact (below_size zb) : w.heap.size ≤ gb799)); clear HB; have HB := n0_; have BK799 := n1_; have GW799 := n2_; have GE799 := n3_; clear n0_ n1_ n2_ n3_; clear hb hbox hg; have hcz19_0 : w18.cell? ⟨gb799, 0, none⟩ = some (.int .i64 0) := (blk_cell BK799.out 0).trans rfl; have hcz19_1 : w18.cell? ⟨gb799, 1, none⟩ = some (.int .i64 0) := (blk_cell BK799.out 1).trans rfl; have hcz19_2 : w18.cell? ⟨gb799, 2, none⟩ = some (.slice none 0 0) := (blk_cell BK799.out 2).trans rfl; have hfz19_0 := blk_frozen BK799.out 0; have hfz19_1 := blk_frozen BK799.out 1; have hfz19_2 := blk_frozen BK799.out 2))
           go_ret2
           exact ⟨by first | rfl | (simp [errW_none, errW_some] <;> rfl) | (simp [*, errW_none, errW_some] <;> rfl), by repeat (first | (with_reducible first | exact HB.out | apply below_alloc | apply pw_below_drewN | apply below_drew1 | refine below_set ?_ GE799.out) | exact HB.out)⟩
          ·rw [if_neg c17] at H
           have c17b0 : decide (((rd_T111 l0 x24_2).f0) ≤ a2) = false := decide_eq_false c17
           clear c17
           have H' := Aside0.mk H
           clear H
           have p798 : 0 ≤ (x24_2 : Int) := oa
           have q798 : x24_2 < (l0.length : Int) := oa
           obtain ⟨ad798, A798_2, c798_2, e798, hx798_0, hx798_1, hx798_2, hl798_2, hi798_2⟩ := at_T111 HR0.out x24_2 p798 q798
           cases e798
           replace hx798_0 := (HB.out.cell (World.block_lt_of_cell? w _ hx798_0)).trans hx798_0
           replace hx798_1 := (HB.out.cell (World.block_lt_of_cell? w _ hx798_1)).trans hx798_1
           replace hx798_2 := (HB.out.cell (World.block_lt_of_cell? w _ hx798_2)).trans hx798_2
           have HR798_2 := Aside0.mk hi798_2
           have HC798_2 := Aside0.mk hl798_2
           clear hi798_2 hl798_2
           replace p798 := eq_true p798
           replace q798 := eq_true q798
           go_wp2_with (first | ((with_reducible refine gate_dst (N := 10) rfl ?_); refine box_event ?hg (N := 10) ?hd (cs := #[.int .i64 0, .int .i64 0, .slice none 0 0]) (t := 111) ?hr ?_; (case hd => rfl); (case hg => rfl); (case hr => first | (go_simp; done) | (go_simp; rfl)); intro gb799 hg w20 hbox hb; have n0_ := Aside0.mk (below_step zb hb); have n1_ := Aside0.mk (hbox); have n2_ := Aside0.mk ((by rw [hg]; exact (below_size zb) : w.heap.size ≤ gb799)); have n3_ := Aside0.mk ((by rw [hg]; exact (below_size zb) : w.heap.size ≤ gb799)); clear HB; have HB := n0_; have BK799 := n1_; have GW799 := n2_; have GE799 := n3_; clear n0_ n1_ n2_ n3_; clear hb hbox hg; have hcz21_0 : w20.cell? ⟨gb799, 0, none⟩ = some (.int .i64 0) := (blk_cell BK799.out 0).trans rfl; have hcz21_1 : w20.cell? ⟨gb799, 1, none⟩ = some (.int .i64 0) := (blk_cell BK799.out 1).trans rfl; have hcz21_2 : w20.cell? ⟨gb799, 2, none⟩ = some (.slice none 0 0) := (blk_cell BK799.out 2).trans rfl; have hfz21_0 := blk_frozen BK799.out 0; have hfz21_1 := blk_frozen BK799.out 1; have hfz21_2 := blk_frozen BK799.out 2))
           go_roundg k2
           case measure => have := HJ3.out; have := HK2.out; omega
           case rel => exact ⟨(x8_2), (wrap64 (x24_2 + 1)), zf, zf, H', ⟨by have := HJ3.out; have := HK2.out; omega⟩, ⟨by repeat (first | (with_reducible first | exact HB.out | apply below_alloc | apply pw_below_drewN | apply below_drew1 | refine below_set ?_ GE799.out) | exact HB.out)⟩⟩
        ·rw [if_neg c13] at H
         exact absurd H (by simp)
       ·rw [if_neg c12] at H
        exact absurd H (by simp)
      ·rw [if_neg c11] at H
       have c11b0 : decide (x24_2 < (l0.length : Int)) = false := decide_eq_false c11
       clear c11
       simp only [Option.some.injEq, Prod.mk.injEq] at H
       obtain ⟨rfl, rfl⟩ := H
       go_wp2
       go_ret2
       exact ⟨by first | rfl | (simp [errW_none, errW_some] <;> rfl) | (simp [*, errW_none, errW_some] <;> rfl), by repeat (first | (with_reducible first | exact HB.out | apply below_alloc | apply pw_below_drewN | apply below_drew1) | exact HB.out)⟩

end Go.Proofs.Ytcefenlblnediaa.My

/- Written by this session's program (wip/gen): a plain function with the same answers as the Go function, and the proof that the Go code comes to them. Asked: that the plain function has an answer. -/
namespace Go.Proofs.Ytcefenlblnediaa.My
open Go.RowKit Go.Proofs.YtcefenlblnediaaW.PrintWords Go.Proofs.YtcefenlblnediaaW.PrintLast Go.Proofs.YtcefenlblnediaaW.PrintMore
attribute [local go_sem] max2_int min2_int max_two min_two max_three min_three max_four min_four
set_option linter.unusedVariables false
set_option linter.unusedSimpArgs false

/-! ### spec_PlaceOf: function 45 -/
def spec_PlaceOf.f (k : Nat) (l0 : List (S111)) (a1 : Int) (a2 : Int) : Option (Int × Bool) := (spec_l2Hunks.f k a1 l0).bind fun t912 => (if t912 = true then ((spec_l1In.f a2 0 a1).bind fun t913 => (if t913 = true then ((spec_l2Place.f k l0 a2).bind fun t914 => (if t914 < 0 then (some (0, false)) else ((spec_l2Place.f k l0 a2).bind fun t915 => (some (t915, true))))) else (some (0, false)))) else (some (0, false)))
set_option maxHeartbeats 8000000 in
set_option maxRecDepth 100000 in
theorem spec_PlaceOf.calls (k : Nat) (A0 : Option Addr) (c0 : Nat) (l0 : List (S111)) (a1 : Int) (a2 : Int) (r1 : Int) (r2 : Bool) (w : World) (hr0 : Kd.C k111 w A0 l0.length l0) (hc0 : l0.length ≤ c0) (h : spec_PlaceOf.f k l0 a1 a2 = some (r1, r2)) :
  Calls Try.prog 45 #[.slice A0 l0.length c0, .int .i64 a1, .int .i64 a2] w fun e w' => e = .returned (.tuple #[.int .i64 r1, .bool r2]) ∧ Below w.heap.size w w' := by
 have HR0 := Aside0.mk hr0
 have HC0 := Aside0.mk hc0
 clear hr0 hc0
 have HB := Aside0.mk (Below.refl w.heap.size w)
 have H : ((spec_l2Hunks.f k a1 l0).bind fun t912 => (if t912 = true then ((spec_l1In.f a2 0 a1).bind fun t913 => (if t913 = true then ((spec_l2Place.f k l0 a2).bind fun t914 => (if t914 < 0 then (some (0, false)) else ((spec_l2Place.f k l0 a2).bind fun t915 => (some (t915, true))))) else (some (0, false)))) else (some (0, false)))) = some (r1, r2) := h
 clear h
 replace H := Option.bind_eq_some_iff.mp H
 obtain ⟨t912, A40, H⟩ := H
 replace H : (if t912 = true then ((spec_l1In.f a2 0 a1).bind fun t913 => (if t913 = true then ((spec_l2Place.f k l0 a2).bind fun t914 => (if t914 < 0 then (some (0, false)) else ((spec_l2Place.f k l0 a2).bind fun t915 => (some (t915, true))))) else (some (0, false)))) else (some (0, false))) = some (r1, r2) := H
 have A4 := Aside0.mk A40
 clear A40
 by_cases c5 : t912 = true
 ·subst c5
  have H1 : ((spec_l1In.f a2 0 a1).bind fun t913 => (if t913 = true then ((spec_l2Place.f k l0 a2).bind fun t914 => (if t914 < 0 then (some (0, false)) else ((spec_l2Place.f k l0 a2).bind fun t915 => (some (t915, true))))) else (some (0, false)))) = some (r1, r2) := by rw [if_pos rfl] at H; exact H
  clear H
  have H := H1
  clear H1
  replace H := Option.bind_eq_some_iff.mp H
  obtain ⟨t913, A60, H⟩ := H
  replace H : (if t913 = true then ((spec_l2Place.f k l0 a2).bind fun t914 => (if t914 < 0 then (some (0, false)) else ((spec_l2Place.f k l0 a2).bind fun t915 => (some (t915, true))))) else (some (0, false))) = some (r1, r2) := H
  have A6 := Aside0.mk A60
  clear A60
  by_cases c7 : t913 = true
  ·subst c7
   have H1 : ((spec_l2Place.f k l0 a2).bind fun t914 => (if t914 < 0 then (some (0, false)) else ((spec_l2Place.f k l0 a2).bind fun t915 => (some (t915, true))))) = some (r1, r2) := by rw [if_pos rfl] at H; exact H
   clear H
   have H := H1
   clear H1
   replace H := Option.bind_eq_some_iff.mp H
   obtain ⟨t914, A80, H⟩ := H
   replace H : (if t914 < 0 then (some (0, false)) else ((spec_l2Place.f k l0 a2).bind fun t915 => (some (t915, true)))) = some (r1, r2) := H
   have A8 := Aside0.mk A80
   clear A80
   by_cases c9 : t914 < 0
   ·rw [if_pos c9] at H
    have c9b0 : decide (t914 < 0) = true := decide_eq_true c9
    clear c9
    simp only [Option.some.injEq, Prod.mk.injEq] at H
    obtain ⟨rfl, rfl⟩ := H
    go_enter Try.func45, Try.ntmps45
    go_wp2_with (first | ((with_reducible refine gateC (f := 92) rfl ?_); refine goesL_ (some 10) rfl rfl Try.func92 (by kernel_rfl) rfl #[.int .i64 a1, .slice A0 l0.length c0] rfl zm ?_; (with_reducible refine (spec_l2Hunks.calls k a1 _ _ l0 true _ ?side1 ?side2 A4.out).mono ?_); (case side1 => exact zq HR0.out); (case side2 => exact HC0.out); rintro e w10 ⟨rfl, hb⟩; refine ⟨_, rfl, ?_⟩; have n0_ := Aside0.mk (below_step zb hb); clear HB; have HB := n0_; clear n0_; (try clear hb); (try clear hb2); (try clear hk); (try clear hi)) | (go_at_call 114; (with_reducible refine (spec_l1In.calls a2 0 a1 true _ A6.out).mono ?_); rintro e w' ⟨rfl, ⟨nd, rfl⟩⟩) | (go_at_call 90; (with_reducible refine (spec_l2Place.calls k _ _ l0 a2 t914 _ ?side1 ?side2 A8.out).mono ?_); (case side1 => repeat (first | exact (Kd.C_below HR0.out zb) | (with_reducible refine Kd.C_alloc ?_ _) | (with_reducible refine Kd.C_drewN ?_ _) | (with_reducible refine Kd.C_drew ?_))); (case side2 => exact HC0.out); rintro e w11 ⟨rfl, hb⟩; have n0_ := Aside0.mk (below_step zb hb); clear HB; have HB := n0_; clear n0_; (try clear hb); (try clear hb2); (try clear hk); (try clear hi)))
    go_ret2
    exact ⟨by first | rfl | (simp [errW_none, errW_some] <;> rfl) | (simp [*, errW_none, errW_some] <;> rfl), by repeat (first | (with_reducible first | exact HB.out | apply below_alloc | apply pw_below_drewN | apply below_drew1) | exact HB.out)⟩
   ·rw [if_neg c9] at H
    have c9b0 : decide (t914 < 0) = false := decide_eq_false c9
    clear c9
    replace H := Option.bind_eq_some_iff.mp H
    obtain ⟨t915, A120, H⟩ := H
    replace H : (some (t915, true)) = some (r1, r2) := H
    have A12 := Aside0.mk A120
    clear A120
    simp only [Option.some.injEq, Prod.mk.injEq] at H
    obtain ⟨rfl, rfl⟩ := H
    go_enter Try.func45, Try.ntmps45
    go_wp2_with (first | ((with_reducible refine gateC (f := 92) rfl ?_); refine goesL_ (some 10) rfl rfl Try.func92 (by kernel_rfl) rfl #[.int .i64 a1, .slice A0 l0.length c0] rfl zm ?_; (with_reducible refine (spec_l2Hunks.calls k a1 _ _ l0 true _ ?side1 ?side2 A4.out).mono ?_); (case side1 => exact zq HR0.out); (case side2 => exact HC0.out); rintro e w13 ⟨rfl, hb⟩; refine ⟨_, rfl, ?_⟩; have n0_ := Aside0.mk (below_step zb hb); clear HB; have HB := n0_; clear n0_; (try clear hb); (try clear hb2); (try clear hk); (try clear hi)) | (go_at_call 114; (with_reducible refine (spec_l1In.calls a2 0 a1 true _ A6.out).mono ?_); rintro e w' ⟨rfl, ⟨nd, rfl⟩⟩) | (go_at_call 90; (with_reducible refine (spec_l2Place.calls k _ _ l0 a2 t914 _ ?side1 ?side2 A8.out).mono ?_); (case side1 => repeat (first | exact (Kd.C_below HR0.out zb) | (with_reducible refine Kd.C_alloc ?_ _) | (with_reducible refine Kd.C_drewN ?_ _) | (with_reducible refine Kd.C_drew ?_))); (case side2 => exact HC0.out); rintro e w14 ⟨rfl, hb⟩; have n0_ := Aside0.mk (below_step zb hb); clear HB; have HB := n0_; clear n0_; (try clear hb); (try clear hb2); (try clear hk); (try clear hi)) | ((with_reducible refine gateC (f := 90) rfl ?_); refine goesL_ (some 26) rfl rfl Try.func90 (by kernel_rfl) rfl #[.slice A0 l0.length c0, .int .i64 a2] rfl zm ?_; (with_reducible refine (spec_l2Place.calls k _ _ l0 a2 t915 _ ?side1 ?side2 A12.out).mono ?_); (case side1 => exact zq (Kd.C_below HR0.out HB.out)); (case side2 => exact HC0.out); rintro e w15 ⟨rfl, hb⟩; refine ⟨_, rfl, ?_⟩; have n0_ := Aside0.mk (below_step zb hb); clear HB; have HB := n0_; clear n0_; (try clear hb); (try clear hb2); (try clear hk); (try clear hi)))
    go_ret2
    exact ⟨by first | rfl | (simp [errW_none, errW_some] <;> rfl) | (simp [*, errW_none, errW_some] <;> rfl), by repeat (first | (with_reducible first | exact HB.out | apply below_alloc | apply pw_below_drewN | apply below_drew1) | exact HB.out)⟩
  ·replace c7 := Bool.eq_false_iff.mpr c7
   subst c7
   have H1 : (some (0, false)) = some (r1, r2) := by rw [if_neg (show ¬ (false = true) by decide)] at H; exact H
   clear H
   have H := H1
   clear H1
   simp only [Option.some.injEq, Prod.mk.injEq] at H
   obtain ⟨rfl, rfl⟩ := H
   go_enter Try.func45, Try.ntmps45
   go_wp2_with (first | ((with_reducible refine gateC (f := 92) rfl ?_); refine goesL_ (some 10) rfl rfl Try.func92 (by kernel_rfl) rfl #[.int .i64 a1, .slice A0 l0.length c0] rfl zm ?_; (with_reducible refine (spec_l2Hunks.calls k a1 _ _ l0 true _ ?side1 ?side2 A4.out).mono ?_); (case side1 => exact zq HR0.out); (case side2 => exact HC0.out); rintro e w16 ⟨rfl, hb⟩; refine ⟨_, rfl, ?_⟩; have n0_ := Aside0.mk (below_step zb hb); clear HB; have HB := n0_; clear n0_; (try clear hb); (try clear hb2); (try clear hk); (try clear hi)) | (go_at_call 114; (with_reducible refine (spec_l1In.calls a2 0 a1 false _ A6.out).mono ?_); rintro e w' ⟨rfl, ⟨nd, rfl⟩⟩))
   go_ret2
   exact ⟨by first | rfl | (simp [errW_none, errW_some] <;> rfl) | (simp [*, errW_none, errW_some] <;> rfl), by repeat (first | (with_reducible first | exact HB.out | apply below_alloc | apply pw_below_drewN | apply below_drew1) | exact HB.out)⟩
 ·replace c5 := Bool.eq_false_iff.mpr c5
  subst c5
  have H1 : (some (0, false)) = some (r1, r2) := by rw [if_neg (show ¬ (false = true) by decide)] at H; exact H
  clear H
  have H := H1
  clear H1
  simp only [Option.some.injEq, Prod.mk.injEq] at H
  obtain ⟨rfl, rfl⟩ := H
  go_enter Try.func45, Try.ntmps45
  go_wp2_with (first | ((with_reducible refine gateC (f := 92) rfl ?_); refine goesL_ (some 10) rfl rfl Try.func92 (by kernel_rfl) rfl #[.int .i64 a1, .slice A0 l0.length c0] rfl zm ?_; (with_reducible refine (spec_l2Hunks.calls k a1 _ _ l0 false _ ?side1 ?side2 A4.out).mono ?_); (case side1 => exact zq HR0.out); (case side2 => exact HC0.out); rintro e w17 ⟨rfl, hb⟩; refine ⟨_, rfl, ?_⟩; have n0_ := Aside0.mk (below_step zb hb); clear HB; have HB := n0_; clear n0_; (try clear hb); (try clear hb2); (try clear hk); (try clear hi)))
  go_ret2
  exact ⟨by first | rfl | (simp [errW_none, errW_some] <;> rfl) | (simp [*, errW_none, errW_some] <;> rfl), by repeat (first | (with_reducible first | exact HB.out | apply below_alloc | apply pw_below_drewN | apply below_drew1) | exact HB.out)⟩

end Go.Proofs.Ytcefenlblnediaa.My

/- Plain Lean: chapter 2: where a line comes to lie, for the program and the reference. Conditions: lengths and sizes below 2^63. -/
namespace Go.Proofs.Ytcefenlblnediaa.Pl
open Go.RowKit Go.Proofs.YtcefenlblnediaaW.PrintWords Go.Proofs.YtcefenlblnediaaW.PrintLast Go.Proofs.Ytcefenlblnediaa.My
set_option linter.unusedVariables false
set_option linter.unusedSimpArgs false

theorem place_l0 (n : Int) (h : List IH) (i : Int) (hn : near h) (hl : h.length ≤ 20) (h0 : 0 ≤ i) (h1 : i ≤ 40) : ∀ d r (a : Int), r + d = h.length → -40 * (r : Int) ≤ a - i → a - i ≤ 40 * (r : Int) →
    Ev (fun k => impl_PlaceOf.l0 k i a h (h.length : Int) (r : Int)) (match moved i (h.drop r) with | some m => (a + m, true) | none => (0, false)) := by
  intro d
  induction d with
  | zero =>
    intro r a hr ha hb
    refine Ev.step (fun k => impl_PlaceOf.l0.eq_2 ..) (ev_neg (by omega) (ev_some ?_))
    rw [List.drop_of_length_le (by omega)]
    simp [moved]
  | succ d ih =>
    intro r a hr ha hb
    have hlt : r < h.length := by omega
    obtain ⟨q0, q1, q2, q3, q4⟩ := hn _ (List.getElem_mem hlt)
    refine Ev.step (fun k => impl_PlaceOf.l0.eq_2 ..) ?_
    simp only [rdIH h r hlt]
    rw [List.drop_eq_getElem_cons hlt]
    simp only [moved]
    rw [wrap64_id (x := h[r].f0 + h[r].f1) (by omega) (by omega), wrap64_id (x := (h[r].f2.length : Int) - h[r].f1) (by omega) (by omega), wrap64_id (x := a + ((h[r].f2.length : Int) - h[r].f1)) (by omega) (by omega), wrap_succ r (by omega)]
    refine ev_pos (by omega) (ev_pos (by omega) (ev_pos (by omega) (ev_ite (fun c => ?_) (fun c => ev_ite (fun c' => ev_some ?_) (fun c' => ?_)))))
    · rw [if_pos c]
      refine ev_to (ih (r + 1) _ (by omega) (by omega) (by omega)) ?_
      cases moved i (h.drop (r + 1)) with
      | none => rfl
      | some m => simp only [Option.map_some, Prod.mk.injEq, and_true]; omega
    · rw [if_neg c, if_pos c']
    · rw [if_neg c, if_neg c']
      exact ih (r + 1) a (by omega) (by omega) (by omega)

theorem l2Place_l0 (h : List IH) (i : Int) (hn : near h) (hl : h.length ≤ 20) (h0 : 0 ≤ i) (h1 : i ≤ 40) : ∀ d r (a : Int), r + d = h.length → -40 * (r : Int) ≤ a → a ≤ 40 * (r : Int) →
    Ev (fun k => spec_l2Place.l0 k i a h (h.length : Int) (r : Int)) (match moved i (h.drop r) with | some m => i + (a + m) | none => -1) := by
  intro d
  induction d with
  | zero =>
    intro r a hr ha hb
    refine Ev.step (fun k => spec_l2Place.l0.eq_2 ..) (ev_neg (by omega) (ev_some ?_))
    rw [List.drop_of_length_le (by omega), wrap64_id (by omega) (by omega)]
    simp [moved]
  | succ d ih =>
    intro r a hr ha hb
    have hlt : r < h.length := by omega
    obtain ⟨q0, q1, q2, q3, q4⟩ := hn _ (List.getElem_mem hlt)
    refine Ev.step (fun k => spec_l2Place.l0.eq_2 ..) ?_
    simp only [rdIH h r hlt]
    rw [List.drop_eq_getElem_cons hlt]
    simp only [moved]
    rw [wrap64_id (x := h[r].f0 + h[r].f1) (by omega) (by omega), wrap64_id (x := (h[r].f2.length : Int) - h[r].f1) (by omega) (by omega), wrap64_id (x := a + ((h[r].f2.length : Int) - h[r].f1)) (by omega) (by omega), wrap_succ r (by omega)]
    refine ev_pos (by omega) (ev_pos (by omega) (ev_pos (by omega) (ev_ite (fun c => ?_) (fun c => ev_ite (fun c' => ev_some ?_) (fun c' => ?_)))))
    · rw [if_pos c]
      refine ev_to (ih (r + 1) _ (by omega) (by omega) (by omega)) ?_
      cases moved i (h.drop (r + 1)) with
      | none => rfl
      | some m => simp only [Option.map_some]; omega
    · rw [if_neg c, if_pos c']
    · rw [if_neg c, if_neg c']
      exact ih (r + 1) a (by omega) (by omega) (by omega)

theorem moved_zero (n i : Int) : ∀ (t : List IH) (p : Int), i < p → chain n p t = true → ∀ m, moved i t = some m → m = 0 := by
  intro t
  induction t with
  | nil => intro p _ _ m hm; simp only [moved, Option.some.injEq] at hm; omega
  | cons z t iht =>
    intro p hp hc m hm
    simp only [chain, Bool.and_eq_true, hOK, decide_eq_true_eq] at hc
    obtain ⟨⟨⟨r0, r1, r2, r3, r4, r5⟩, _⟩, hc'⟩ := hc
    simp only [moved] at hm
    rw [if_neg (by omega), if_neg (by omega)] at hm
    exact iht _ (by omega) hc' m hm
/-- A place is never below zero: what is gone ahead of line i lies ahead of it. -/
theorem moved_ge (n i : Int) : ∀ (h : List IH) (p : Int), chain n p h = true → p ≤ i → ∀ m, moved i h = some m → p ≤ i + m := by
  intro h
  induction h with
  | nil => intro p _ hp m hm; simp only [moved, Option.some.injEq] at hm; omega
  | cons y t ih =>
    intro p hc hp m hm
    simp only [chain, Bool.and_eq_true, hOK, decide_eq_true_eq] at hc
    obtain ⟨⟨⟨q0, q1, q2, q3, q4, q5⟩, _⟩, hc'⟩ := hc
    simp only [moved] at hm
    split at hm
    · obtain ⟨m', e1, e2⟩ := Option.map_eq_some_iff.1 hm
      have := ih _ hc' (by omega) m' e1
      omega
    · split at hm
      · simp at hm
      · rename_i c1 c2
        have := moved_zero n i t _ (by omega) hc' m hm
        omega

theorem moved_nonneg (n i : Int) (h : List IH) (hc : chain n (-1) h = true) (h0 : 0 ≤ i) (m : Int) (hm : moved i h = some m) : 0 ≤ i + m := by
  cases h with
  | nil => simp only [moved, Option.some.injEq] at hm; omega
  | cons y t =>
    simp only [chain, Bool.and_eq_true, hOK, decide_eq_true_eq] at hc
    obtain ⟨⟨⟨q0, q1, q2, q3, q4, q5⟩, _⟩, hc'⟩ := hc
    simp only [moved] at hm
    split at hm
    · obtain ⟨m', e1, e2⟩ := Option.map_eq_some_iff.1 hm
      have := moved_ge n i t _ hc' (by omega) m' e1
      omega
    · split at hm
      · simp at hm
      · have := moved_zero n i t _ (by omega) hc' m hm
        omega

def placed (h : List IH) (n i : Int) : Int × Bool := if goodH n h = true ∧ inB i 0 n = true then (match moved i h with | some m => (i + m, true) | none => (0, false)) else (0, false)

theorem impl_PlaceOf_ev (h : List IH) (n i : Int) (hf : FitI h) : Ev (fun k => impl_PlaceOf.f k h n i) (placed h n i) := by
  simp only [impl_PlaceOf.f, impl_in_eq, Option.bind_some]
  unfold placed
  refine ev_bind (goodHunks_ev n h hf) (ev_ite (fun g => Ev.step (fun k => impl_PlaceOf.j0.eq_2 ..) ?_) (fun g => Ev.step (fun k => impl_PlaceOf.j0.eq_2 ..) (ev_pos rfl (ev_some ?_))))
  · by_cases c : inB i 0 n = true
    · obtain ⟨g1, g2, g3, g4⟩ := near_of_good g
      have c' := (inB_iff _ _ _).1 c
      rw [if_pos ⟨g, c⟩, c]
      refine ev_neg (by simp) ?_
      exact place_l0 n h i g1 g2 c'.1 (by omega) h.length 0 i (by omega) (by omega) (by omega)
    · rw [if_neg (fun e => c e.2)]
      rw [Bool.not_eq_true] at c
      rw [c]
      exact ev_pos rfl (ev_some rfl)
  · rw [if_neg (fun e => g e.1)]

theorem spec_PlaceOf_ev (h : List IH) (n i : Int) (hf : FitI h) (hn0 : -9223372036854775808 ≤ n) (hn : n ≤ 9223372036854775807) : Ev (fun k => spec_PlaceOf.f k h n i) (placed h n i) := by
  simp only [spec_PlaceOf.f, spec_l1In_eq, Option.bind_some]
  unfold placed
  refine ev_bind (l2Hunks_ev n h hf hn0 hn) (ev_ite (fun g => ev_ite (fun c => ?_) (fun c => ev_some ?_)) (fun g => ev_some ?_))
  · obtain ⟨g1, g2, g3, g4⟩ := near_of_good g
    have c' := (inB_iff _ _ _).1 c
    rw [if_pos (show goodH n h = true ∧ inB i 0 n = true from ⟨g, c⟩)]
    have e : Ev (fun k => spec_l2Place.f k h i) (match moved i h with | some m => i + m | none => -1) := by
      simp only [spec_l2Place.f]
      refine ev_to (l2Place_l0 h i g1 g2 c'.1 (by omega) h.length 0 0 (by omega) (by omega) (by omega)) ?_
      rw [List.drop_zero]
      cases moved i h with
      | none => rfl
      | some m => simp
    have gc : chain n (-1) h = true := by
      unfold goodH at g
      rw [Bool.and_eq_true, Bool.and_eq_true] at g
      exact g.2.2
    cases hm : moved i h with
    | none =>
      rw [hm] at e
      exact ev_bind e (ev_pos (by simp) (ev_some rfl))
    | some m =>
      rw [hm] at e
      have : 0 ≤ i + m := moved_nonneg n i h gc c'.1 m hm
      exact ev_bind e (ev_neg (by simp only; omega) (ev_bind e (ev_some rfl)))
  · rw [if_neg (fun e => c e.2)]
  · rw [if_neg (fun e => g e.1)]
end Go.Proofs.Ytcefenlblnediaa.Pl

/- Plain Lean: copies of lists of strings. Condition: lengths below 2^43. -/
namespace Go.Proofs.Ytcefenlblnediaa.Pl
open Go.RowKit Go.Proofs.YtcefenlblnediaaW.PrintWords Go.Proofs.YtcefenlblnediaaW.PrintLast Go.Proofs.Ytcefenlblnediaa.My
set_option linter.unusedVariables false
set_option linter.unusedSimpArgs false

theorem cloneT_eq (l : List ByteArray) (h : l.length < 8796093022208) : slices_Clone_string_string.f l = some l := by
  unfold slices_Clone_string_string.f
  simp [h]
theorem ownT_eq (l : List ByteArray) (h : l.length < 8796093022208) : spec_l1OwnT.f l = some l := by
  unfold spec_l1OwnT.f
  simp [h]
end Go.Proofs.Ytcefenlblnediaa.Pl

/- Plain Lean: what both JoinHunks come to. Asked: lists that fit. -/
namespace Go.Proofs.Ytcefenlblnediaa.Pl
open Go.RowKit Go.Proofs.YtcefenlblnediaaW.PrintWords Go.Proofs.YtcefenlblnediaaW.PrintLast Go.Proofs.Ytcefenlblnediaa.My
set_option linter.unusedVariables false
set_option linter.unusedSimpArgs false

abbrev IP := S109
def toIP (z : Nat × Nat) : IP := ⟨(z.1 : Int), (z.2 : Int)⟩
def toLs (z : Nat × Nat) : List Int := [(z.1 : Int), (z.2 : Int)]
theorem rdJ (xs : List Int) (i : Nat) (h : i < xs.length) : rd xs (i : Int) = xs[i] := getD_lt xs 0 i h
theorem rdIP (ps : List (Nat × Nat)) (i : Nat) (h : i < ps.length) : rd_T109 (ps.map toIP) (i : Int) = toIP ps[i] := by
  rw [show rd_T109 (ps.map toIP) (i : Int) = (ps.map toIP)[i]'(by rw [List.length_map]; exact h) from getD_lt _ _ i (by rw [List.length_map]; exact h), List.getElem_map]
theorem rdLs (ps : List (Nat × Nat)) (i : Nat) (h : i < ps.length) : rd_L12 (ps.map toLs) (i : Int) = toLs ps[i] := by
  rw [show rd_L12 (ps.map toLs) (i : Int) = (ps.map toLs)[i]'(by rw [List.length_map]; exact h) from getD_lt _ _ i (by rw [List.length_map]; exact h), List.getElem_map]
theorem l2Place_ev (h : List IH) (i : Nat) (hn : near h) (hl : h.length ≤ 20) (h1 : i ≤ 40) : Ev (fun k => spec_l2Place.f k h (i : Int)) (match moved (i : Int) h with | some m => (i : Int) + m | none => -1) := by
  simp only [spec_l2Place.f]
  refine ev_to (l2Place_l0 h i hn hl (by omega) (by omega) h.length 0 0 (by omega) (by omega) (by omega)) ?_
  rw [List.drop_zero]
  cases moved (i : Int) h with
  | none => rfl
  | some m => simp

theorem l2Join_l0 (n : List ByteArray) (hN : n.length ≤ 2000) (ps : List (Nat × Nat)) (hp : ps.length ≤ 100) : ∀ d r (i j : Nat) (acc : List IH), r + d = ps.length → okP 40 n.length i j (ps.drop r) → acc.length ≤ r → i ≤ 41 → j ≤ n.length + 1 →
    Ev (fun k => spec_l2Join.l0 k n acc (i : Int) (j : Int) (ps.map toIP) (ps.length : Int) (r : Int)) (acc ++ betweenV n i j (ps.drop r)) := by
  intro d
  induction d with
  | zero =>
    intro r i j acc hr ho ha hi hj
    refine Ev.step (fun k => spec_l2Join.l0.eq_2 ..) (ev_neg (by omega) (ev_some ?_))
    rw [List.drop_eq_nil_of_le (by omega)]
    simp only [betweenV, List.append_nil]
  | succ d ih =>
    intro r i j acc hr ho ha hi hj
    have hlt : r < ps.length := by omega
    have e : ps.drop r = ps[r] :: ps.drop (r + 1) := List.drop_eq_getElem_cons hlt
    rw [e] at ho ⊢
    simp only [okP] at ho
    obtain ⟨⟨o1, o2, o3, o4⟩, o5⟩ := ho
    have hown : ((n.take ps[r].2).drop j).length < 8796093022208 := by rw [List.length_drop, List.length_take]; omega
    refine Ev.step (fun k => spec_l2Join.l0.eq_2 ..) ?_
    simp only [rdIP ps r hlt, toIP, Int.toNat_natCast, ownT_eq _ hown, Option.bind_some, List.length_map]
    rw [wrap_succ r (by omega), wrap_succ ps[r].1 (by omega), wrap_succ ps[r].2 (by omega), wrap64_id (x := (ps[r].1 : Int) - (i : Int)) (by omega) (by omega)]
    refine ev_pos (by omega) (ev_pos (by omega) (ev_pos (by omega) ?_))
    have go : ∀ acc' : List IH, acc'.length ≤ r + 1 → Ev (fun k => spec_l2Join.l0 k n acc' ((ps[r].1 + 1 : Nat) : Int) ((ps[r].2 + 1 : Nat) : Int) (ps.map toIP) (ps.length : Int) ((r + 1 : Nat) : Int)) (acc' ++ betweenV n (ps[r].1 + 1) (ps[r].2 + 1) (ps.drop (r + 1))) := fun acc' h' => ih (r + 1) _ _ acc' (by omega) o5 h' (by omega) (by omega)
    refine ev_ite (fun c => ev_pos (by omega) (ev_pos (by omega) (ev_pos (by omega) (ev_pos (by omega) ?_)))) (fun c => ev_ite (fun c2 => ev_pos (by omega) (ev_pos (by omega) (ev_pos (by omega) (ev_pos (by omega) ?_)))) (fun c2 => ?_))
    · refine ev_to (go _ (by rw [List.length_append, List.length_singleton]; omega)) ?_
      simp only [betweenV]
      rw [if_pos (by omega), List.append_assoc]
    · refine ev_to (go _ (by rw [List.length_append, List.length_singleton]; omega)) ?_
      simp only [betweenV]
      rw [if_pos (by omega), List.append_assoc]
    · refine ev_to (go _ (by omega)) ?_
      simp only [betweenV]
      rw [if_neg (by omega), List.nil_append]
theorem between_l0 (n : List ByteArray) (hN : n.length ≤ 2000) (ps : List (Nat × Nat)) (hp : ps.length ≤ 100) : ∀ d r (i j : Nat) (acc : List IH), r + d = ps.length → okP 40 n.length i j (ps.drop r) → acc.length ≤ r → i ≤ 41 → j ≤ n.length + 1 →
    Ev (fun k => impl_between.l0 k n acc (i : Int) (j : Int) (ps.map toLs) (ps.length : Int) (r : Int)) (acc ++ betweenV n i j (ps.drop r)) := by
  intro d
  induction d with
  | zero =>
    intro r i j acc hr ho ha hi hj
    refine Ev.step (fun k => impl_between.l0.eq_2 ..) (ev_neg (by omega) (ev_some ?_))
    rw [List.drop_eq_nil_of_le (by omega)]
    simp only [betweenV, List.append_nil]
  | succ d ih =>
    intro r i j acc hr ho ha hi hj
    have hlt : r < ps.length := by omega
    have e : ps.drop r = ps[r] :: ps.drop (r + 1) := List.drop_eq_getElem_cons hlt
    rw [e] at ho ⊢
    simp only [okP] at ho
    obtain ⟨⟨o1, o2, o3, o4⟩, o5⟩ := ho
    have hown : ((n.take ps[r].2).drop j).length < 8796093022208 := by rw [List.length_drop, List.length_take]; omega
    refine Ev.step (fun k => impl_between.l0.eq_2 ..) ?_
    simp only [rdLs ps r hlt, show rd (toLs ps[r]) 0 = (ps[r].1 : Int) from rfl, show rd (toLs ps[r]) 1 = (ps[r].2 : Int) from rfl, show (toLs ps[r]).length = 2 from rfl, Int.toNat_natCast, cloneT_eq _ hown, Option.bind_some, List.length_map]
    rw [wrap_succ r (by omega), wrap_succ ps[r].1 (by omega), wrap_succ ps[r].2 (by omega), wrap64_id (x := (ps[r].1 : Int) - (i : Int)) (by omega) (by omega)]
    refine ev_pos (by omega) (ev_pos (by omega) (ev_pos (by omega) (ev_pos (by omega) ?_)))
    have go : ∀ acc' : List IH, acc'.length ≤ r + 1 → Ev (fun k => impl_between.l0 k n acc' ((ps[r].1 + 1 : Nat) : Int) ((ps[r].2 + 1 : Nat) : Int) (ps.map toLs) (ps.length : Int) ((r + 1 : Nat) : Int)) (acc' ++ betweenV n (ps[r].1 + 1) (ps[r].2 + 1) (ps.drop (r + 1))) := fun acc' h' => ih (r + 1) _ _ acc' (by omega) o5 h' (by omega) (by omega)
    refine ev_ite (fun c => ev_pos (by omega) (ev_pos (by omega) (ev_pos (by omega) (ev_pos (by omega) (ev_pos (by omega) ?_))))) (fun c => ev_pos (by omega) (ev_ite (fun c2 => ev_pos (by omega) (ev_pos (by omega) (ev_pos (by omega) (ev_pos (by omega) ?_)))) (fun c2 => ?_)))
    · refine ev_to (go _ (by rw [List.length_append, List.length_singleton]; omega)) ?_
      simp only [betweenV]
      rw [if_pos (by omega), List.append_assoc]
    · refine ev_to (go _ (by rw [List.length_append, List.length_singleton]; omega)) ?_
      simp only [betweenV]
      rw [if_pos (by omega), List.append_assoc]
    · refine ev_to (go _ (by omega)) ?_
      simp only [betweenV]
      rw [if_neg (by omega), List.nil_append]

theorem l2Join_ev (l last : List ByteArray) (ps : List (Nat × Nat)) (hN : last.length ≤ 2000) (hp : ps.length ≤ 99) (ho : okP 40 last.length 0 0 (ps ++ [(l.length, last.length)])) : Ev (fun k => spec_l2Join.f k l last (ps.map toIP)) (betweenV last 0 0 (ps ++ [(l.length, last.length)])) := by
  simp only [spec_l2Join.f]
  refine ev_pos (by rw [List.length_map]; omega) ?_
  have e : ps.map toIP ++ [(⟨(l.length : Int), (last.length : Int)⟩ : IP)] = (ps ++ [(l.length, last.length)]).map toIP := by rw [List.map_append]; rfl
  rw [e]
  refine ev_bind (ev_some rfl) ?_
  rw [List.length_map]
  exact l2Join_l0 last hN (ps ++ [(l.length, last.length)]) (by rw [List.length_append, List.length_singleton]; omega) (ps ++ [(l.length, last.length)]).length 0 0 0 [] (by omega) ho (Nat.zero_le _) (by omega) (by omega)
theorem between_ev (l last : List ByteArray) (ps : List (Nat × Nat)) (hN : last.length ≤ 2000) (hp : ps.length ≤ 99) (ho : okP 40 last.length 0 0 (ps ++ [(l.length, last.length)])) : Ev (fun k => impl_between.f k l last (ps.map toLs)) (betweenV last 0 0 (ps ++ [(l.length, last.length)])) := by
  simp only [impl_between.f]
  refine ev_pos (by rw [List.length_map]; omega) ?_
  have e : ps.map toLs ++ [([(l.length : Int), (last.length : Int)] : List Int)] = (ps ++ [(l.length, last.length)]).map toLs := by rw [List.map_append]; rfl
  rw [e]
  refine ev_bind (ev_some rfl) ?_
  rw [List.length_map]
  exact between_l0 last hN (ps ++ [(l.length, last.length)]) (by rw [List.length_append, List.length_singleton]; omega) (ps ++ [(l.length, last.length)]).length 0 0 0 [] (by omega) ho (Nat.zero_le _) (by omega) (by omega)

theorem okP_up {L L' : Nat} (h : L ≤ L') (N : Nat) : ∀ (i j : Nat) (ps : List (Nat × Nat)), okP L N i j ps → okP L' N i j ps
  | _, _, [], _ => trivial
  | i, j, z :: t, ho => by
    simp only [okP] at ho ⊢
    exact ⟨by omega, okP_up h N _ _ t ho.2⟩
/-- What is handed back where all lines are told. -/
def finV (l last : List ByteArray) (ps : List (Nat × Nat)) : List IH × Bool := if goodH l.length (betweenV last 0 0 (ps ++ [(l.length, last.length)])) = true then (betweenV last 0 0 (ps ++ [(l.length, last.length)]), true) else ([], false)

theorem specJoin_l0 (l last : List ByteArray) (a b : List IH) (m : Nat) (hl : l.length ≤ 40) (hm : m ≤ 40) (hN : last.length ≤ 2000) (na : near a) (la : a.length ≤ 20) (nb : near b) (lb : b.length ≤ 20) (ca : chain' (l.length : Int) (-1) a) (em : (m : Int) = l.length + total a) (P : List (Nat × Nat)) (hp : P.length ≤ 99)
    (ho : okP 40 last.length 0 0 (P ++ [(l.length, last.length)])) (hf : FitI (betweenV last 0 0 (P ++ [(l.length, last.length)]))) : ∀ d i (acc : List (Nat × Nat)), i + d = l.length → acc.length ≤ i → acc ++ joinA (staysP b (List.range' 0 m)) (staysP a (List.range' i d)) = P →
    Ev (fun k => spec_JoinHunks.l0 k l a b last (acc.map toIP) (l.length : Int) (i : Int)) (finV l last P) := by
  intro d
  induction d with
  | zero =>
    intro i acc hi hacc hP
    have e : acc = P := by rw [← hP, show List.range' i 0 = [] from rfl]; simp only [staysP, joinA, List.append_nil]
    subst e
    refine Ev.step (fun k => spec_JoinHunks.l0.eq_2 ..) (ev_neg (by omega) (ev_bind (l2Join_ev l last acc hN hp ho) (ev_bind (l2Hunks_ev _ _ hf (by omega) (by omega)) (ev_ite (fun c => ev_some ?_) (fun c => ev_some ?_)))))
    · unfold finV; rw [if_pos c]
    · unfold finV; rw [if_neg c]
  | succ d ih =>
    intro i acc hi hacc hP
    rw [List.range'_succ, staysP] at hP
    refine Ev.step (fun k => spec_JoinHunks.l0.eq_2 ..) (ev_pos (by omega) (ev_bind (l2Place_ev a i na la (by omega)) ?_))
    rw [wrap_succ i (by omega)]
    cases hmv : moved (i : Int) a with
    | none =>
      rw [hmv] at hP
      exact ev_neg (by simp) (ih (i + 1) acc (by omega) (by omega) hP)
    | some mm =>
      rw [hmv] at hP
      simp only at hP ⊢
      by_cases c : 0 ≤ (i : Int) + mm
      · rw [if_pos c] at hP
        have hlow := moved_high (l.length : Int) (i : Int) (by omega) a (-1) ca mm hmv
        obtain ⟨p, hpp⟩ : ∃ p : Nat, (i : Int) + mm = (p : Int) := ⟨((i : Int) + mm).toNat, by omega⟩
        rw [hpp] at hlow hP ⊢
        have hfind := find_stays b p m 0 (by omega) (by omega)
        rw [Int.toNat_natCast] at hP
        simp only [joinA, hfind] at hP
        refine ev_pos (by omega) (ev_bind (l2Place_ev b p nb lb (by omega)) ?_)
        cases hm2 : moved (p : Int) b with
        | none =>
          rw [hm2] at hP
          exact ev_neg (by simp) (ih (i + 1) acc (by omega) (by omega) hP)
        | some q =>
          rw [hm2] at hP
          simp only at hP ⊢
          by_cases c2 : 0 ≤ (p : Int) + q
          · rw [if_pos c2] at hP
            refine ev_pos c2 (ev_pos (by rw [List.length_map]; omega) ?_)
            have e : acc.map toIP ++ [(⟨(i : Int), (p : Int) + q⟩ : IP)] = (acc ++ [(i, ((p : Int) + q).toNat)]).map toIP := by
              rw [List.map_append]
              simp only [List.map_cons, List.map_nil, toIP]
              rw [Int.toNat_of_nonneg c2]
            rw [e]
            exact ih (i + 1) _ (by omega) (by rw [List.length_append, List.length_singleton]; omega) (by rw [List.append_assoc]; exact hP)
          · rw [if_neg c2] at hP
            exact ev_neg c2 (ih (i + 1) acc (by omega) (by omega) hP)
      · rw [if_neg c] at hP
        exact ev_neg c (ih (i + 1) acc (by omega) (by omega) hP)

theorem implJoin_l0 (l last : List ByteArray) (f1 ks : List Int) (hl : l.length ≤ 40) (hN : last.length ≤ 2000) (hks : ks.length ≤ 5000) (hk : ∀ k ∈ ks, k < (f1.length : Int)) (P : List (Nat × Nat)) (hp : P.length ≤ 99)
    (ho : okP 40 last.length 0 0 (P ++ [(l.length, last.length)])) (hf : FitI (betweenV last 0 0 (P ++ [(l.length, last.length)]))) : ∀ d j (acc : List (Nat × Nat)), j + d = ks.length → acc.length ≤ j → acc ++ joinB (staysK 0 f1) (staysK j (ks.drop j)) = P →
    Ev (fun k => impl_JoinHunks.l0 k l last f1 (acc.map toLs) ks (ks.length : Int) (j : Int)) (finV l last P) := by
  intro d
  induction d with
  | zero =>
    intro j acc hj hacc hP
    have e : acc = P := by rw [← hP, List.drop_eq_nil_of_le (by omega)]; simp only [staysK, joinB, List.append_nil]
    subst e
    refine Ev.step (fun k => impl_JoinHunks.l0.eq_2 ..) (ev_neg (by omega) (ev_bind (between_ev l last acc hN hp ho) (ev_bind (goodHunks_ev _ _ hf) (ev_ite (fun c => ev_some ?_) (fun c => ev_some ?_)))))
    · unfold finV; rw [if_pos c]
    · unfold finV; rw [if_neg c]
  | succ d ih =>
    intro j acc hj hacc hP
    have hlt : j < ks.length := by omega
    have e0 : ks.drop j = ks[j] :: ks.drop (j + 1) := List.drop_eq_getElem_cons hlt
    rw [e0, staysK] at hP
    have hkj := hk ks[j] (List.getElem_mem _)
    refine Ev.step (fun k => impl_JoinHunks.l0.eq_2 ..) ?_
    simp only [rdJ ks j hlt]
    rw [wrap_succ j (by omega)]
    refine ev_pos (by omega) (ev_pos (by omega) (ev_pos (by omega) (ev_ite (fun c => ?_) (fun c => ?_))))
    · rw [if_pos c] at hP
      obtain ⟨k, hkk⟩ : ∃ k : Nat, ks[j] = (k : Int) := ⟨ks[j].toNat, by omega⟩
      rw [hkk] at hP hkj ⊢
      rw [Int.toNat_natCast] at hP
      have hk2 : k < f1.length := by omega
      have hfind := find_staysK k f1 0 (Nat.zero_le _) (by omega)
      simp only [joinB, hfind, Nat.sub_zero] at hP
      simp only [rdJ f1 k hk2]
      refine ev_pos (by omega) (ev_pos (by omega) (ev_ite (fun c2 => ev_pos (by rw [List.length_map]; omega) ?_) (fun c2 => ?_)))
      · rw [if_pos c2] at hP
        have e : acc.map toLs ++ [([f1[k], (j : Int)] : List Int)] = (acc ++ [(f1[k].toNat, j)]).map toLs := by
          rw [List.map_append]
          simp only [List.map_cons, List.map_nil, toLs]
          rw [Int.toNat_of_nonneg c2]
        rw [e]
        exact ih (j + 1) _ (by omega) (by rw [List.length_append, List.length_singleton]; omega) (by rw [List.append_assoc]; exact hP)
      · rw [if_neg c2] at hP
        exact ih (j + 1) acc (by omega) (by omega) hP
    · rw [if_neg c] at hP
      exact ih (j + 1) acc (by omega) (by omega) hP

theorem patchR_fit (a : List ByteArray) (h : List IH) (fa : FitS a) (fh : FitI h) : FitS (patchR a h).1 := by
  unfold patchR
  split
  · rename_i c
    obtain ⟨c1, c2, c3, c4⟩ := asked_of c.1
    exact patchFrom_fit fa fh c1 c3 c2 0
  · exact ⟨by simp, fun s hs => by simp at hs⟩
theorem patchR_val {a : List ByteArray} {h : List IH} (c : (patchR a h).2 = true) : (patchR a h).1 = patchFrom a 0 h := by
  unfold patchR at c ⊢
  split
  · rfl
  · rename_i e
    rw [if_neg e] at c
    cases c
theorem chain'_of {n : Int} : ∀ (h : List IH) (p : Int), chain n p h = true → chain' n p h := chain_chain'
theorem betweenV_mem (n : List ByteArray) : ∀ (ps : List (Nat × Nat)) (i j : Nat), i ≤ 41 → okP 40 n.length i j ps → ∀ x ∈ betweenV n i j ps, (0 ≤ x.f0 ∧ x.f0 ≤ 41) ∧ (-41 ≤ x.f1 ∧ x.f1 ≤ 41) ∧ x.f2.length ≤ n.length ∧ ∀ s ∈ x.f2, s ∈ n
  | [], i, j, _, _, x, hx => by simp [betweenV] at hx
  | z :: t, i, j, hi, ho, x, hx => by
    simp only [okP] at ho
    simp only [betweenV, List.mem_append] at hx
    rcases hx with hx | hx
    · split at hx
      · rw [List.mem_singleton] at hx
        subst hx
        exact ⟨by simp only; omega, by simp only; omega, by simp only [List.length_drop, List.length_take]; omega, fun s hs => List.mem_of_mem_take (List.mem_of_mem_drop hs)⟩
      · simp at hx
    · exact betweenV_mem n t _ _ (by omega) ho.2 x hx
theorem betweenV_len (n : List ByteArray) : ∀ (ps : List (Nat × Nat)) (i j : Nat), (betweenV n i j ps).length ≤ ps.length
  | [], i, j => by simp [betweenV]
  | z :: t, i, j => by
    have := betweenV_len n t (z.1 + 1) (z.2 + 1)
    simp only [betweenV, List.length_append, List.length_cons]
    split
    · simp only [List.length_singleton]; omega
    · simp only [List.length_nil]; omega
theorem joinA_len (B : List (Nat × Nat)) : ∀ A : List (Nat × Nat), (joinA B A).length ≤ A.length
  | [] => by simp [joinA]
  | z :: t => by
    have := joinA_len B t
    simp only [joinA, List.length_cons]
    split
    · simp only [List.length_cons]; omega
    · omega
theorem staysP_len (h : List IH) : ∀ l : List Nat, (staysP h l).length ≤ l.length
  | [] => by simp [staysP]
  | k :: t => by
    have := staysP_len h t
    simp only [staysP, List.length_cons]
    split
    · split
      · simp only [List.length_cons]; omega
      · omega
    · omega

/-- The pairs of places of the lines that stay through both. -/
def pairsV (l : List ByteArray) (a b : List IH) : List (Nat × Nat) := joinA (staysP b (List.range' 0 (patchR l a).1.length)) (staysP a (List.range' 0 l.length))
def joinR (l : List ByteArray) (a b : List IH) : List IH × Bool := if (patchR l a).2 = true ∧ (patchR (patchR l a).1 b).2 = true then finV l (patchR (patchR l a).1 b).1 (pairsV l a b) else ([], false)
/-- All that is asked of the two lists. -/
structure Both (l m last : List ByteArray) (a b : List IH) (P : List (Nat × Nat)) : Prop where
  hl : l.length ≤ 40
  hm : m.length ≤ 40
  hN : last.length ≤ 2000
  na : near a
  la : a.length ≤ 20
  nb : near b
  lb : b.length ≤ 20
  ga : goodH l.length a = true
  gb : goodH m.length b = true
  ca : chain' (l.length : Int) (-1) a
  cb : chain' (m.length : Int) (-1) b
  em : (m.length : Int) = l.length + total a
  hp : P.length ≤ 40
  ho : okP 40 last.length 0 0 (P ++ [(l.length, last.length)])
  hf : FitI (betweenV last 0 0 (P ++ [(l.length, last.length)]))
theorem both_of {l : List ByteArray} {a b : List IH} (fl : FitS l) (fa : FitI a) (fb : FitI b) (c1 : (patchR l a).2 = true) (c2 : (patchR (patchR l a).1 b).2 = true) : Both l (patchR l a).1 (patchR (patchR l a).1 b).1 a b (pairsV l a b) := by
  have g1 := patchR_asked c1
  have g2 := patchR_asked c2
  obtain ⟨a1, a2, a3, a4⟩ := asked_of g1
  obtain ⟨b1, b2, b3, b4⟩ := asked_of g2
  have ca := chain'_of a _ a4
  have cb := chain'_of b _ b4
  have em : (((patchR l a).1.length : Nat) : Int) = l.length + total a := by
    rw [patchR_val c1]
    have := patch_len l a 0 (-1) ca (fun x hx => by have := (a3 x hx).1; omega) (Nat.zero_le _)
    omega
  have eN : (((patchR (patchR l a).1 b).1.length : Nat) : Int) = (patchR l a).1.length + total b := by
    rw [patchR_val c2]
    have := patch_len (patchR l a).1 b 0 (-1) cb (fun x hx => by have := (b3 x hx).1; omega) (Nat.zero_le _)
    omega
  have hN : (patchR (patchR l a).1 b).1.length ≤ 2000 := by
    rw [patchR_val c2]
    have := patchFrom_len (patchR l a).1 b1 b 0 b3
    omega
  have sa := stays_eq l.length a 0 (-1) ca (by omega) (by omega) (fun x hx => by have := (a3 x hx).1; omega)
  have sb := stays_eq (patchR l a).1.length b 0 (-1) cb (by omega) (by omega) (fun x hx => by have := (b3 x hx).1; omega)
  rw [Nat.sub_zero] at sa sb
  have pa := staysP_fst a l.length 0
  have pb := staysP_fst b (patchR l a).1.length 0
  have ka := staysK_snd (keptFrom l.length 0 a) 0
  have kb := staysK_snd (keptFrom (patchR l a).1.length 0 b) 0
  rw [sa] at ka
  rw [sb] at kb
  have mA := mono_of pa.1 ka.1
  have mB := mono_of pb.1 kb.1
  have lb' := kept_len (patchR l a).1.length b 0 (-1) cb (fun x hx => by have := (b3 x hx).1; omega) (Nat.zero_le _)
  have ho : okP 40 (patchR (patchR l a).1 b).1.length 0 0 (pairsV l a b ++ [(l.length, (patchR (patchR l a).1 b).1.length)]) := by
    have h1 := okP_of l.length (patchR (patchR l a).1 b).1.length (pairsV l a b) 0 0 (joinA_mono mB mA) (fun z hz => by
      obtain ⟨u, hu, y, hy, rfl, e⟩ := joinA_mem _ _ z hz
      have h2 := pa.2 u hu
      have h3 := kb.2 y hy
      simp only
      omega) (Nat.zero_le _) (Nat.zero_le _)
    exact okP_up a1 _ _ _ _ h1
  have hp : (pairsV l a b).length ≤ 40 := by
    have h1 := joinA_len (staysP b (List.range' 0 (patchR l a).1.length)) (staysP a (List.range' 0 l.length))
    have h2 := staysP_len a (List.range' 0 l.length)
    rw [List.length_range'] at h2
    unfold pairsV
    omega
  have fm := patchR_fit l a fl fa
  have fn := patchR_fit (patchR l a).1 b fm fb
  refine ⟨a1, b1, hN, a3, a2, b3, b2, by unfold asked at g1; exact (Bool.and_eq_true _ _ ▸ g1).2, by unfold asked at g2; exact (Bool.and_eq_true _ _ ▸ g2).2, ca, cb, em, hp, ho, ?_⟩
  have h1 := betweenV_len (patchR (patchR l a).1 b).1 (pairsV l a b ++ [(l.length, (patchR (patchR l a).1 b).1.length)]) 0 0
  rw [List.length_append, List.length_singleton] at h1
  refine ⟨by omega, fun x hx => ?_⟩
  have h2 := betweenV_mem _ _ 0 0 (by omega) ho x hx
  exact ⟨by omega, by omega, by omega, fun s hs => fn.2 s (h2.2.2.2 s hs)⟩
theorem spec_JoinHunks_ev (l : List ByteArray) (a b : List IH) (fl : FitS l) (fa : FitI a) (fb : FitI b) : Ev (fun k => spec_JoinHunks.f k l a b) (joinR l a b) := by
  simp only [spec_JoinHunks.f]
  have fm := patchR_fit l a fl fa
  unfold joinR
  refine ev_bind (spec_Patch_ev l a fl fa) (ev_bind (spec_Patch_ev _ b fm fb) (ev_ite (fun c1 => ?_) (fun c1 => ?_)))
  · cases c2 : (patchR (patchR l a).1 b).2 with
    | false =>
      refine Ev.step (fun k => spec_JoinHunks.j0.eq_2 ..) (ev_pos rfl (ev_some ?_))
      rw [if_neg (fun e => by cases e.2)]
    | true =>
      refine Ev.step (fun k => spec_JoinHunks.j0.eq_2 ..) (ev_neg (by simp) ?_)
      rw [if_pos ⟨c1, rfl⟩]
      have h := both_of fl fa fb c1 c2
      exact specJoin_l0 l _ a b (patchR l a).1.length h.hl h.hm h.hN h.na h.la h.nb h.lb h.ca h.em (pairsV l a b) (by have := h.hp; omega) h.ho h.hf l.length 0 [] (by omega) (Nat.zero_le _) (by rw [List.nil_append]; rfl)
  · refine Ev.step (fun k => spec_JoinHunks.j0.eq_2 ..) (ev_pos rfl (ev_some ?_))
    rw [if_neg (fun e => c1 e.1)]
theorem impl_JoinHunks_ev (l : List ByteArray) (a b : List IH) (fl : FitS l) (fa : FitI a) (fb : FitI b) : Ev (fun k => impl_JoinHunks.f k l a b) (joinR l a b) := by
  simp only [impl_JoinHunks.f]
  have fm := patchR_fit l a fl fa
  unfold joinR
  refine ev_bind (impl_Patch_ev l a fl fa) (ev_bind (impl_Patch_ev _ b fm fb) (ev_ite (fun c1 => ?_) (fun c1 => ?_)))
  · cases c2 : (patchR (patchR l a).1 b).2 with
    | false =>
      refine Ev.step (fun k => impl_JoinHunks.j0.eq_2 ..) (ev_pos rfl (ev_some ?_))
      rw [if_neg (fun e => by cases e.2)]
    | true =>
      have h := both_of fl fa fb c1 c2
      have e1 : impl_kept.f (l.length : Int) a = some (keptFrom l.length 0 a) := by
        simp only [impl_kept.f]
        rw [if_pos ⟨Int.natCast_nonneg _, h.ga⟩, Int.toNat_natCast]
      have e2 : impl_kept.f ((patchR l a).1.length : Int) b = some (keptFrom (patchR l a).1.length 0 b) := by
        simp only [impl_kept.f]
        rw [if_pos ⟨Int.natCast_nonneg _, h.gb⟩, Int.toNat_natCast]
      refine Ev.step (fun k => impl_JoinHunks.j0.eq_2 ..) (ev_neg (by simp) (ev_bind (ev_const e1) (ev_bind (ev_const e2) ?_)))
      rw [if_pos ⟨c1, rfl⟩]
      have na := h.na
      have nb := h.nb
      have ka := kept_len l.length a 0 (-1) h.ca (fun x hx => by have := (na x hx).1; omega) (Nat.zero_le _)
      have kb := kept_len (patchR l a).1.length b 0 (-1) h.cb (fun x hx => by have := (nb x hx).1; omega) (Nat.zero_le _)
      have eN : (((patchR (patchR l a).1 b).1.length : Nat) : Int) = (patchR l a).1.length + total b := by
        rw [patchR_val c2]
        have := patch_len (patchR l a).1 b 0 (-1) h.cb (fun x hx => by have := (nb x hx).1; omega) (Nat.zero_le _)
        omega
      have sa := stays_eq l.length a 0 (-1) h.ca (by omega) (by omega) (fun x hx => by have := (na x hx).1; omega)
      have sb := stays_eq (patchR l a).1.length b 0 (-1) h.cb (by omega) (by omega) (fun x hx => by have := (nb x hx).1; omega)
      rw [Nat.sub_zero] at sa sb
      have pb := staysP_fst b (patchR l a).1.length 0
      have k2 := staysK_snd (keptFrom l.length 0 a) 0
      have em := h.em
      have hN := h.hN
      refine implJoin_l0 l _ (keptFrom l.length 0 a) (keptFrom (patchR l a).1.length 0 b) h.hl h.hN (by omega) (fun k hk => by have := (kept_low _ b 0 (-1) h.cb k hk).2; omega) (pairsV l a b) (by have := h.hp; omega) h.ho h.hf (keptFrom (patchR l a).1.length 0 b).length 0 [] (by omega) (Nat.zero_le _) ?_
      rw [List.nil_append, List.drop_zero, sb]
      rw [← join_eq _ _ _ rfl k2.1 pb.1, sa]
      rfl
  · refine Ev.step (fun k => impl_JoinHunks.j0.eq_2 ..) (ev_pos rfl (ev_some ?_))
    rw [if_neg (fun e => c1 e.1)]
end Go.Proofs.Ytcefenlblnediaa.Pl

/- Plain Lean: how far marks of hunks go, and that they are told again. Conditions: at most 2^40 marks. -/
namespace Go.Proofs.Ytcefenlblnediaa.Pl
open Go.RowKit Go.Proofs.YtcefenlblnediaaW.PrintWords Go.Proofs.YtcefenlblnediaaW.PrintLast Go.Proofs.Ytcefenlblnediaa.My
set_option linter.unusedVariables false
set_option linter.unusedSimpArgs false

theorem bnd2 {e m s c : Nat} (h : e ≤ m + 2 * s) (hm : m ≤ c) (hs : s ≤ 1048576) : e ≤ c + 2097152 := by omega
theorem bnd4 {e m s c : Nat} (h : e ≤ m + 4 * s) (hm : m ≤ c) (hs : s ≤ 1048576) : e ≤ c + 4194304 := by omega
theorem endH_szH : ∀ (h : List LH) (m : Nat), endH (h.map toH) m ≤ m + 2 * szH h
  | [], m => by simp [endH]
  | x :: t, m => by
    have := endH_szH t (m + 2 + x.f2.length)
    simp only [szH, szS, List.map_cons, List.sum_cons, List.length_cons, endH, toH] at this ⊢
    omega
theorem endH_le : ∀ (v : List IH) (B m : Nat), (∀ x ∈ v, x.f2.length ≤ B) → endH v m ≤ m + (2 + B) * v.length
  | [], B, m, _ => by simp [endH]
  | x :: t, B, m, h => by
    have h1 := endH_le t B (m + 2 + x.f2.length) (fun y hy => h y (List.mem_cons_of_mem _ hy))
    have h2 := h x (List.mem_cons_self ..)
    simp only [List.length_cons, endH, Nat.mul_add] at h1 ⊢
    omega
end Go.Proofs.Ytcefenlblnediaa.Pl

/- Plain Lean: whether hunks are the same, of which no number is asked. Conditions: lengths and sizes below 2^63. -/
namespace Go.Proofs.Ytcefenlblnediaa.Pl
open Go.RowKit Go.Proofs.YtcefenlblnediaaW.PrintWords Go.Proofs.YtcefenlblnediaaW.PrintLast Go.Proofs.Ytcefenlblnediaa.My
set_option linter.unusedVariables false
set_option linter.unusedSimpArgs false

theorem eqHunkS_l0' (a b : List IH) (hab : a.length = b.length) (hL : a.length ≤ 9223372036854775807) (hf : ∀ x ∈ a, FitS x.f2) : ∀ d i, i + d = a.length → Ev (fun k => laws_eqHunkS.l0 k a b (i : Int)) (decide (a.drop i = b.drop i)) := by
  intro d
  induction d with
  | zero =>
    intro i hi
    refine Ev.step (fun k => laws_eqHunkS.l0.eq_2 ..) (ev_neg (by omega) (ev_some ?_))
    rw [List.drop_of_length_le (by omega), List.drop_of_length_le (by omega)]
    simp
  | succ d ih =>
    intro i hi
    have h1 : i < a.length := by omega
    have h2 : i < b.length := by omega
    refine Ev.step (fun k => laws_eqHunkS.l0.eq_2 ..) (ev_pos (by omega) (ev_pos (by omega) (ev_pos (by omega) ?_)))
    simp only [rdIH _ _ h1, rdIH _ _ h2, drop_cons a i h1, drop_cons b i h2]
    refine ev_bind (eqHunk_ev _ _ (hf _ (List.getElem_mem h1))) (ev_ite (fun h => ?_) (fun h => ev_some ?_))
    · rw [wrap_succ i (by omega)]
      refine ev_to (ih (i + 1) (by omega)) ?_
      rw [of_decide_eq_true h]
      simp only [List.cons.injEq, true_and]
    · have : ¬ a[i] = b[i] := fun e => h (decide_eq_true e)
      simp only [List.cons.injEq, this, false_and, decide_false]

theorem eqHunkS_ev' (a b : List IH) (hL : a.length ≤ 9223372036854775807) (hf : ∀ x ∈ a, FitS x.f2) : Ev (fun k => laws_eqHunkS.f k a b) (decide (a = b)) := by
  simp only [laws_eqHunkS.f]
  refine ev_ite (fun h => ?_) (fun h => ev_some ?_)
  · exact eqHunkS_l0' a b (by omega) hL hf a.length 0 (by omega)
  · have : ¬ a = b := fun e => h (by rw [e])
    simp [this]
end Go.Proofs.Ytcefenlblnediaa.Pl

/- Plain Lean: marks of hunks are told again. Conditions: at most 2^40 marks. -/
namespace Go.Proofs.Ytcefenlblnediaa.Pl
open Go.RowKit Go.Proofs.YtcefenlblnediaaW.PrintWords Go.Proofs.YtcefenlblnediaaW.PrintLast Go.Proofs.Ytcefenlblnediaa.My
set_option linter.unusedVariables false
set_option linter.unusedSimpArgs false

theorem heldHunkS_l0 (L : List IH) (E : Nat) (hE : E ≤ 1099511627776) (hL : L.length ≤ 1099511627776) : ∀ (vs : List IH) (i mm : Nat), L.drop i = mkHs vs mm → i + vs.length = L.length → endH vs mm = E → Ev (fun k => laws_heldHunkS.l0 k L (mm : Int) (i : Int)) (E : Int) := by
  intro vs
  induction vs with
  | nil =>
    intro i mm _ hi he
    refine Ev.step (fun k => laws_heldHunkS.l0.eq_2 ..) (ev_neg (by simp only [List.length_nil] at hi; omega) (ev_some ?_))
    rw [← he]
    rfl
  | cons x t ih =>
    intro i mm hd hi he
    simp only [List.length_cons] at hi
    have hlt : i < L.length := by omega
    rw [List.drop_eq_getElem_cons hlt] at hd
    simp only [mkHs, List.cons.injEq] at hd
    simp only [endH] at he
    have hge := endH_ge t (mm + 2 + x.f2.length)
    rw [he] at hge
    have hrd : rd_T111 L (i : Int) = mkH x mm := (rdIH L i hlt).trans hd.1
    refine Ev.step (fun k => laws_heldHunkS.l0.eq_2 ..) ?_
    simp only [hrd, mkH]
    rw [wr2 mm x.f2.length E hge hE, wrap_succ i (by omega)]
    exact ev_pos (by omega) (ev_pos (by omega) (ev_pos trivial (ev_pos trivial (ev_bind (heldStringS_ev (mm + 2) x.f2.length (le_a _ _ _ hge hE) (le_b _ _ _ hge hE)) (ev_neg (by omega) (ih (i + 1) _ hd.2 (by omega) he))))))
theorem mkHs_length : ∀ (v : List IH) (m : Nat), (mkHs v m).length = v.length
  | [], _ => rfl
  | x :: t, m => by simp only [mkHs, List.length_cons, mkHs_length t]
theorem heldHunkS_ev (v : List IH) (m : Nat) (hE : endH v m ≤ 1099511627776) (hL : v.length ≤ 1099511627776) : Ev (fun k => laws_heldHunkS.f k (mkHs v m) (m : Int)) ((endH v m : Nat) : Int) := by
  simp only [laws_heldHunkS.f]
  exact heldHunkS_l0 (mkHs v m) _ hE (by rw [mkHs_length]; exact hL) v 0 m rfl (by rw [mkHs_length]; omega) rfl
end Go.Proofs.Ytcefenlblnediaa.Pl

/- Plain Lean: joined hunks are few and small. No condition. -/
namespace Go.Proofs.Ytcefenlblnediaa.Pl
open Go.RowKit Go.Proofs.YtcefenlblnediaaW.PrintWords Go.Proofs.YtcefenlblnediaaW.PrintLast Go.Proofs.Ytcefenlblnediaa.My
set_option linter.unusedVariables false

theorem joinR_small (l : List ByteArray) (a b : List IH) (fl : FitS l) (fa : FitI a) (fb : FitI b) : (joinR l a b).1.length ≤ 41 ∧ ∀ x ∈ (joinR l a b).1, x.f2.length ≤ 2000 := by
  unfold joinR
  split
  · rename_i c
    have h := both_of fl fa fb c.1 c.2
    unfold finV
    split
    · have h1 := betweenV_len (patchR (patchR l a).1 b).1 (pairsV l a b ++ [(l.length, (patchR (patchR l a).1 b).1.length)]) 0 0
      rw [List.length_append, List.length_singleton] at h1
      have hp := h.hp
      refine ⟨Nat.le_trans h1 (by omega), fun x hx => ?_⟩
      have h2 := (betweenV_mem _ _ 0 0 (by omega) h.ho x hx).2.2.1
      have := h.hN
      omega
    · exact ⟨by simp, fun x hx => by simp at hx⟩
  · exact ⟨by simp, fun x hx => by simp at hx⟩
theorem joinR_fit (l : List ByteArray) (a b : List IH) (fl : FitS l) (fa : FitI a) (fb : FitI b) : ∀ x ∈ (joinR l a b).1, FitS x.f2 := by
  unfold joinR
  split
  · rename_i c
    have h := both_of fl fa fb c.1 c.2
    unfold finV
    split
    · intro x hx
      exact (h.hf.2 x hx).2.2
    · exact fun x hx => by simp at hx
  · exact fun x hx => by simp at hx
theorem joinR_end (l : List ByteArray) (a b : List IH) (fl : FitS l) (fa : FitI a) (fb : FitI b) : endH (joinR l a b).1 1 ≤ 1099511627776 ∧ (joinR l a b).1.length ≤ 1099511627776 := by
  have hs := joinR_small l a b fl fa fb
  exact ⟨Nat.le_trans (endH_le _ 2000 1 (fun x hx => hs.2 x hx)) (Nat.le_trans (Nat.add_le_add_left (Nat.mul_le_mul_left _ hs.1) 1) (by decide)), Nat.le_trans hs.1 (by decide)⟩
end Go.Proofs.Ytcefenlblnediaa.Pl

/- JoinHunks's law: the walk and what its helpers come to, joined. No condition but the inputs' own. -/
namespace Go.Proofs.Ytcefenlblnediaa.Pure
open Go.RowKit Go.Proofs.Ytcefenlblnediaa.My Go.Proofs.Ytcefenlblnediaa.Pl Go.Proofs.YtcefenlblnediaaW.PrintWords Go.Proofs.YtcefenlblnediaaW.PrintLast
set_option linter.unusedVariables false
theorem FnExactJoinHunks (l0 : List ByteArray) (l1 : List LH) (l2 : List LH) (q0 : (WL Wstr) l0) (q1 : (WL W107) l1) (q2 : (WL W107) l2) (A0 : Option Addr) (c0 : Nat) (A1 : Option Addr) (c1 : Nat) (A2 : Option Addr) (c2 : Nat) (W : World) (hr0 : Kd.C Kd.string W A0 l0.length l0) (hc0 : l0.length ≤ c0) (hr1 : Kd.C k107 W A1 l1.length l1) (hc1 : l1.length ≤ c1) (hr2 : Kd.C k107 W A2 l2.length l2) (hc2 : l2.length ≤ c2) :
    Calls Try.prog 5 #[.slice A0 l0.length c0, .slice A1 l1.length c1, .slice A2 l2.length c2] W fun e w' => e = .returned (.bool true) ∧ Below W.heap.size W w' := by
  have f0 := fitS_of_wl q0
  have f1 := fitH_of_wl q1
  have f2 := fitH_of_wl q2
  obtain ⟨s0, hs0, hl0⟩ := szStringS_ev l0 f0 1048576 (by omega) (by omega)
  obtain ⟨ks0, es0⟩ := hs0
  by_cases h0 : s0 < 0
  · exact laws_FnExactJoinHunks_early0 (ks0) A0 c0 l0 A1 c1 l1 A2 c2 l2 W hr0 hc0 hr1 hc1 hr2 hc2 s0 (es0 _ (by omega)) h0
  have z0 : szS l0 ≤ 1048576 ∧ 0 ≤ s0 ∧ s0 ≤ 1048576 := by rcases hl0 with hl0 | hl0 <;> omega
  obtain ⟨s1, hs1, hl1⟩ := szHunkS_ev l1 f1 s0 (by omega) (by omega)
  obtain ⟨ks1, es1⟩ := hs1
  by_cases h1 : s1 < 0
  · exact laws_FnExactJoinHunks_early1 (ks0 + ks1) A0 c0 l0 A1 c1 l1 A2 c2 l2 W hr0 hc0 hr1 hc1 hr2 hc2 s0 (es0 _ (by omega)) h0 s1 (es1 _ (by omega)) h1
  have z1 : szH l1 ≤ 1048576 ∧ 0 ≤ s1 ∧ s1 ≤ 1048576 := by rcases hl1 with hl1 | hl1 <;> omega
  obtain ⟨s2, hs2, hl2⟩ := szHunkS_ev l2 f2 s1 (by omega) (by omega)
  obtain ⟨ks2, es2⟩ := hs2
  by_cases h2 : s2 < 0
  · exact laws_FnExactJoinHunks_early2 (ks0 + ks1 + ks2) A0 c0 l0 A1 c1 l1 A2 c2 l2 W hr0 hc0 hr1 hc1 hr2 hc2 s0 (es0 _ (by omega)) h0 s1 (es1 _ (by omega)) h1 s2 (es2 _ (by omega)) h2
  have z2 : szH l2 ≤ 1048576 ∧ 0 ≤ s2 ∧ s2 ≤ 1048576 := by rcases hl2 with hl2 | hl2 <;> omega
  obtain ⟨kt0, et0⟩ := toStringS_ev l0 (by have := z0.1; unfold szS at this; omega)
  have g0 := f0
  have len0 : l0.length ≤ 1048576 := by have := z0.1; unfold szS at this; omega
  obtain ⟨ke0, ee0⟩ := eqStringS_ev l0 l0 g0.1
  obtain ⟨kt1, et1⟩ := toHunkS_ev l1 (smallH z1.1)
  have g1 := fitI_of f1
  have len1 : (l1.map toH).length ≤ 1048576 := by have := z1.1; rw [List.length_map]; unfold szH at this; omega
  obtain ⟨ke1, ee1⟩ := eqHunkS_ev (l1.map toH) (l1.map toH) g1
  obtain ⟨kt2, et2⟩ := toHunkS_ev l2 (smallH z2.1)
  have g2 := fitI_of f2
  have len2 : (l2.map toH).length ≤ 1048576 := by have := z2.1; rw [List.length_map]; unfold szH at this; omega
  obtain ⟨ke2, ee2⟩ := eqHunkS_ev (l2.map toH) (l2.map toH) g2
  obtain ⟨kp, ep⟩ := spec_JoinHunks_ev l0 (l1.map toH) (l2.map toH) g0 g1 g2
  obtain ⟨ki, ei⟩ := impl_JoinHunks_ev l0 (l1.map toH) (l2.map toH) g0 g1 g2
  have hve := joinR_end l0 (l1.map toH) (l2.map toH) g0 g1 g2
  have hvf := joinR_fit l0 (l1.map toH) (l2.map toH) g0 g1 g2
  generalize hq0 : (joinR l0 (l1.map toH) (l2.map toH)).1 = v at *
  generalize hq1 : (joinR l0 (l1.map toH) (l2.map toH)).2 = r0 at *
  have hp : joinR l0 (l1.map toH) (l2.map toH) = (v, r0) := (Prod.ext hq0 hq1)
  rw [hp] at ep ei
  have hb_ : (1 : Nat) ≤ 1 := Nat.le_refl _
  have hb0 : (1 + l0.length) ≤ 1048577 := Nat.add_le_add hb_ len0
  obtain ⟨km0, em0⟩ := markStringS_ev l0 1 (Nat.le_trans len0 (by decide)) (Nat.le_trans hb_ (by decide))
  have hb1 : (endH (l1.map toH) (1 + l0.length)) ≤ 3145729 := bnd2 (endH_szH l1 (1 + l0.length)) hb0 z1.1
  have hb2 : (endH (l2.map toH) (endH (l1.map toH) (1 + l0.length))) ≤ 5242881 := bnd2 (endH_szH l2 (endH (l1.map toH) (1 + l0.length))) hb1 z2.1
  obtain ⟨kh, eh⟩ := heldHunkS_ev v 1 hve.1 hve.2
  obtain ⟨kv, ev⟩ := eqHunkS_ev' v v (Nat.le_trans hve.2 (by decide)) hvf
  obtain ⟨k, hk⟩ : ∃ k, ks0 + ks1 + ks2 + kt0 + ke0 + kt1 + ke1 + kt2 + ke2 + kp + ki + km0 + kh + kv ≤ k := ⟨_, Nat.le_refl _⟩
  exact laws_FnExactJoinHunks_true k A0 c0 l0 A1 c1 l1 A2 c2 l2 W hr0 hc0 hr1 hc1 hr2 hc2 s0 (es0 k (by omega)) h0 s1 (es1 k (by omega)) h1 s2 (es2 k (by omega)) h2 l0 (et0 k (by omega)) ((ee0 k (by omega)).trans (by simp)) (l1.map toH) (et1 k (by omega)) ((ee1 k (by omega)).trans (by simp)) (l2.map toH) (et2 k (by omega)) ((ee2 k (by omega)).trans (by simp)) v r0 (ep k (by omega)) (ei k (by omega)) ((ev k (by omega)).trans (by simp)) (em0 k (by omega)) (Nat.le_trans hb1 (by decide)) (Nat.le_trans len1 (by decide)) (Nat.le_trans hb2 (by decide)) (Nat.le_trans len2 (by decide)) hve.1 hve.2 (eh k (by omega))
end Go.Proofs.Ytcefenlblnediaa.Pure

/- The Go function loop.example/g00825/laws.FnExactJoinHunks returns true for every input, and each argument reads afterwards as it read before. No condition. -/
namespace Go.Proofs.Ytcefenlblnediaa.fnExactJoinHunks
open Go.ChangeShapes Go.WideShapes Go.ChangeAt Go.RowKit Go.Joins Go.Proofs.Ytcefenlblnediaa.Opens Go.Proofs.Ytcefenlblnediaa.My
open Go.ChangeMaps (open_string shut_string)
set_option linter.unusedVariables false
set_option linter.unusedSimpArgs false
theorem own : ownKnob Try.prog.godebug = none := by kernel_rfl
theorem laidOut : laidOutB Try.prog = true := by kernel_rfl
set_option maxRecDepth 100000 in
theorem lifted (os : Os) (started : os.Started) (H : Type) (enc : TypeId × Value → H) :
    ReturnsInHanded {} Try.checked os 5 .any (Rows.fnExactJoinHunksSpec.pre6 enc Try.prog Try.f5 Rows.fnExactJoinHunksRow.domain false) (Rows.fnExactJoinHunksSpec.post enc Try.prog Try.f5 false true false false) := by
  refine returnsInHanded_of_change_sized (C := Try.checked) own started (by kernel_rfl) Try.func5
    (ChangeSpec.witness6 (enc := enc) (C := Try.checked) false ⟨#[], #[.slice none 0 0, .slice none 0 0, .slice none 0 0], []⟩ 8 (by kernel_rfl) (by kernel_rfl) (by kernel_rfl) (by kernel_rfl)) ?_
  intro W base args ds gs before hval0 hW hcnd hsz0 _
  have hval : ∀ (j : Nat) t v, Try.f5.params[j]? = some t → args[j]? = some v → Value.okWide Try.prog W .any base t v := hval0
  have hW' := hW
  obtain ⟨p, q, hA0, hV, rfl, hfz, hnd⟩ := hW
  have hA : DataW.TrodAll enc Try.prog W 0 (fun _ => true) true Try.f5.params.toList args.toList ds p := hA0
  rw [Try.params5] at hA hval
  obtain ⟨v0, vs0, d0, ds0, p0, q0, hargs, rfl, rfl, h0, r0⟩ := trodAll_cons hA
  obtain ⟨v1, vs1, d1, ds1, p1, q1, rfl, rfl, rfl, h1, r1⟩ := trodAll_cons r0
  obtain ⟨v2, vs2, d2, ds2, p2, q2, rfl, rfl, rfl, h2, r2⟩ := trodAll_cons r1
  obtain ⟨rfl, rfl, rfl⟩ := trodAll_nil r2
  obtain rfl : args = #[v0, v1, v2] := by cases args; simp_all
  obtain ⟨rfl, rfl⟩ := trodVars_none hV
  obtain ⟨A0, n0, c0, rfl⟩ := okWide_slice Try.underlying22 (hval 0 22 v0 rfl rfl)
  have k0 := h0
  have lt0 : ∀ x ∈ p0, x.block < W.heap.size := by obtain ⟨m, hm⟩ := k0; exact DataW.trod_lt m _ _ _ hm
  obtain ⟨l0, rfl, hc0, hr0, q0_⟩ := Opens.row (opens_slice Try.underlying22 (by kernel_rfl) (opens_string Try.underlying9)) h0
  obtain ⟨A1, n1, c1, rfl⟩ := okWide_slice Try.underlying37 (hval 1 37 v1 rfl rfl)
  have k1 := h1
  have lt1 : ∀ x ∈ p1, x.block < W.heap.size := by obtain ⟨m, hm⟩ := k1; exact DataW.trod_lt m _ _ _ hm
  obtain ⟨l1, rfl, hc1, hr1, q1_⟩ := Opens.row (opens_slice Try.underlying37 (by kernel_rfl) opens107) h1
  obtain ⟨A2, n2, c2, rfl⟩ := okWide_slice Try.underlying37 (hval 2 37 v2 rfl rfl)
  have k2 := h2
  have lt2 : ∀ x ∈ p2, x.block < W.heap.size := by obtain ⟨m, hm⟩ := k2; exact DataW.trod_lt m _ _ _ hm
  obtain ⟨l2, rfl, hc2, hr2, q2_⟩ := Opens.row (opens_slice Try.underlying37 (by kernel_rfl) opens107) h2
  clear hA0 hval0 hsz0
  refine (Pure.FnExactJoinHunks l0 l1 l2 q0_ q1_ q2_ _ _ _ _ _ _ W hr0 hc0 hr1 hc1 hr2 hc2).mono fun e W' hh => ?_
  obtain ⟨rfl, hd⟩ := hh
  have bel : Below W.heap.size W W' := hd
  exact ⟨_, rfl, _, _, _, [], _, [], hW', trodAll_mk1 (shut_bool Try.underlying4 _), (trodAll_cons_mk (Below.trod laidOut (by kernel_rfl) (of_decide_eq_true (by kernel_rfl)) k0 bel lt0) (trodAll_cons_mk (Below.trod laidOut (by kernel_rfl) (of_decide_eq_true (by kernel_rfl)) k1 bel lt1) (trodAll_cons_mk (Below.trod laidOut (by kernel_rfl) (of_decide_eq_true (by kernel_rfl)) k2 bel lt2) trodAll_mk0))), rfl, bel.frame _, fun h => by cases h⟩
theorem over : Rows.fnExactJoinHunksRow.holds Try.pinned (OpenSpec.ofChange Rows.fnExactJoinHunksSpec) :=
  OpenClaim.holds_of_wide 5 Try.f5 rfl rfl rfl rfl rfl rfl rfl ⟨rfl, rfl, rfl, rfl, rfl⟩ rfl rfl rfl rfl rfl (by kernel_rfl) Try.func5 (by kernel_rfl)
    (of_decide_eq_true (by kernel_rfl)) (by unfold Func.isWrapper; first | (rw [if_pos (by decide +kernel)]; kernel_rfl) | (rw [if_neg (by decide +kernel)]; exact ⟨rfl, rfl⟩))
    (fun os started H enc _ => lifted os started H enc)
theorem proved : Rows.FnExactJoinHunksSaid := over
#print axioms proved
end Go.Proofs.Ytcefenlblnediaa.fnExactJoinHunks
namespace Go.Proofs.Ytcefenlblnediaa
/-- The row, under a short name, for the claim. -/
theorem fnExactJoinHunks_holds : Rows.FnExactJoinHunksSaid := fnExactJoinHunks.proved
end Go.Proofs.Ytcefenlblnediaa
