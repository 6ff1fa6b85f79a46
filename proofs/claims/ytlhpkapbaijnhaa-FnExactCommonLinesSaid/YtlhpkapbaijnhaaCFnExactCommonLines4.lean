/- Part 4 of 4 of a proof of this sentence: The Go function loop.example/g00825/laws.FnExactCommonLines returns true for every input, and each argument reads afterwards as it read before. No condition. -/
import Derived.Lib.Bytealg
import Derived.Test.YtlhpkapbaijnhaaRows
import Derived.WalkKit
import Derived.ProofKit
import Derived.OpenShut
import Derived.ShutString
import Derived.ChangeOld
import Derived.Below
import Derived.SizedLaws
import Derived.Lib.SmallJoins
import Derived.Test.YtlhpkapbaijnhaaCFnExactCommonLines3
/- Plain Lean: the marks of rows of whole numbers. Conditions: at most 2^40 marks. -/
namespace Go.Proofs.Ytlhpkapbaijnhaa.Pl
open Go.RowKit Go.Proofs.YtlhpkapbaijnhaaW.PrintWords Go.Proofs.YtlhpkapbaijnhaaW.PrintLast Go.Proofs.Ytlhpkapbaijnhaa.My
set_option linter.unusedVariables false
set_option linter.unusedSimpArgs false
def marksI (m n : Nat) : List Int := (List.range n).map fun i => ((m + i : Nat) : Int)
theorem marksI_length (m n : Nat) : (marksI m n).length = n := by simp [marksI]
theorem marksI_get (m n i : Nat) (h : i < n) : (marksI m n)[i]'(by rw [marksI_length]; exact h) = ((m + i : Nat) : Int) := by simp [marksI]
theorem rdI (xs : List Int) (i : Nat) (h : i < xs.length) : rd xs (i : Int) = xs[i] := getD_lt xs 0 i h
theorem markIntS_l0 (n m : Nat) (hn : n ≤ 1099511627776) (hm : m ≤ 1099511627776) : ∀ d i (o : List Int), i + d = n → o.length = n → o.take i = (marksI m n).take i →
    Ev (fun k => laws_markIntS.l0 k o ((m + i : Nat) : Int) (i : Int)) (((m + n : Nat) : Int), marksI m n) := by
  intro d
  induction d with
  | zero =>
    intro i o hi hl ht
    refine Ev.step (fun k => laws_markIntS.l0.eq_2 ..) (ev_neg (by omega) (ev_some ?_))
    rw [List.take_of_length_le (by omega), List.take_of_length_le (by rw [marksI_length]; omega)] at ht
    rw [ht, show i = n from by omega]
  | succ d ih =>
    intro i o hi hl ht
    refine Ev.step (fun k => laws_markIntS.l0.eq_2 ..) (ev_pos (by omega) (ev_pos (by omega) ?_))
    rw [wrap_succ i (by omega), wrap_succ (m + i) (by omega), Int.toNat_natCast]
    refine ih (i + 1) _ (by omega) (by rw [List.length_set]; exact hl) ?_
    rw [List.take_succ_eq_append_getElem (by rw [List.length_set]; omega), List.take_succ_eq_append_getElem (by rw [marksI_length]; omega), List.getElem_set_self, List.take_set_of_le (Nat.le_refl i), ht, marksI_get m n i (by omega)]
theorem markIntS_ev (l : List Int) (m : Nat) (hn : l.length ≤ 1099511627776) (hm : m ≤ 1099511627776) : Ev (fun k => laws_markIntS.f k l (m : Int)) (((m + l.length : Nat) : Int), marksI m l.length) := by
  simp only [laws_markIntS.f]
  exact markIntS_l0 l.length m hn hm l.length 0 l (by omega) rfl rfl
theorem heldIntS_l0 (n m : Nat) (hn : n ≤ 1099511627776) (hm : m ≤ 1099511627776) : ∀ d i, i + d = n → Ev (fun k => laws_heldIntS.l0 k (marksI m n) ((m + i : Nat) : Int) (i : Int)) ((m + n : Nat) : Int) := by
  intro d
  induction d with
  | zero =>
    intro i hi
    refine Ev.step (fun k => laws_heldIntS.l0.eq_2 ..) (ev_neg (by rw [marksI_length]; omega) (ev_some ?_))
    rw [show i = n from by omega]
  | succ d ih =>
    intro i hi
    have e : rd (marksI m n) (i : Int) = ((m + i : Nat) : Int) := by rw [rdI _ _ (by rw [marksI_length]; omega), marksI_get m n i (by omega)]
    refine Ev.step (fun k => laws_heldIntS.l0.eq_2 ..) (ev_pos (by rw [marksI_length]; omega) (ev_pos (by omega) (ev_pos e ?_)))
    rw [wrap_succ i (by omega), wrap_succ (m + i) (by omega)]
    exact ih (i + 1) (by omega)
theorem heldIntS_ev (m n : Nat) (hn : n ≤ 1099511627776) (hm : m ≤ 1099511627776) : Ev (fun k => laws_heldIntS.f k (marksI m n) (m : Int)) ((m + n : Nat) : Int) := by
  simp only [laws_heldIntS.f]
  exact heldIntS_l0 n m hn hm n 0 (by omega)
def mkJs : List (List Int) → Nat → List (List Int)
  | [], _ => []
  | x :: t, m => marksI m x.length :: mkJs t (m + x.length)
def endJ : List (List Int) → Nat → Nat
  | [], m => m
  | x :: t, m => endJ t (m + x.length)
theorem endJ_ge : ∀ (l : List (List Int)) (m : Nat), m ≤ endJ l m
  | [], _ => Nat.le_refl _
  | x :: t, m => by have := endJ_ge t (m + x.length); simp only [endJ]; omega
theorem mkJs_length : ∀ (l : List (List Int)) (m : Nat), (mkJs l m).length = l.length
  | [], _ => rfl
  | x :: t, m => by simp [mkJs, mkJs_length t]
theorem endJ_le : ∀ (l : List (List Int)) (n m : Nat), (∀ x ∈ l, x.length ≤ n) → endJ l m ≤ m + l.length * n
  | [], _, _, _ => by simp [endJ]
  | x :: t, n, m, h => by
    have h1 := h x (List.mem_cons_self ..)
    have h2 := endJ_le t n (m + x.length) (fun y hy => h y (List.mem_cons_of_mem _ hy))
    simp only [endJ, List.length_cons, Nat.succ_mul]
    omega
theorem rdLJ (t : List (List Int)) (i : Nat) (h : i < t.length) : rd_L2 t (i : Int) = t[i] := getD_lt t _ i h
theorem heldIntSS_l0 (L : List (List Int)) (E : Nat) (hE : E ≤ 1099511627776) (hL : L.length ≤ 1099511627776) : ∀ (vs : List (List Int)) (i mm : Nat), L.drop i = mkJs vs mm → i + vs.length = L.length → endJ vs mm = E →
    Ev (fun k => laws_heldIntSS.l0 k L (mm : Int) (i : Int)) ((E : Nat) : Int) := by
  intro vs
  induction vs with
  | nil =>
    intro i mm hd hl he
    simp only [List.length_nil] at hl
    refine Ev.step (fun k => laws_heldIntSS.l0.eq_2 ..) (ev_neg (by omega) (ev_some ?_))
    simp only [endJ] at he
    omega
  | cons x t ih =>
    intro i mm hd hl he
    simp only [List.length_cons] at hl
    have hlt : i < L.length := by omega
    have hge := endJ_ge t (mm + x.length)
    simp only [endJ] at he
    rw [List.drop_eq_getElem_cons hlt] at hd
    simp only [mkJs, List.cons.injEq] at hd
    refine Ev.step (fun k => laws_heldIntSS.l0.eq_2 ..) (ev_pos (by omega) (ev_pos (by omega) ?_))
    rw [rdLJ L i hlt, hd.1, wrap_succ i (by omega)]
    refine ev_bind (heldIntS_ev mm x.length (by omega) (by omega)) (ev_neg (by omega) ?_)
    exact ih (i + 1) (mm + x.length) hd.2 (by omega) he
theorem heldIntSS_ev (v : List (List Int)) (m : Nat) (hE : endJ v m ≤ 1099511627776) (hL : v.length ≤ 1099511627776) : Ev (fun k => laws_heldIntSS.f k (mkJs v m) (m : Int)) ((endJ v m : Nat) : Int) := by
  simp only [laws_heldIntSS.f]
  exact heldIntSS_l0 (mkJs v m) (endJ v m) hE (by rw [mkJs_length]; exact hL) v 0 m rfl (by rw [mkJs_length]; omega) rfl
theorem dec_cons {α : Type} [DecidableEq α] (x y : α) (s t : List α) : decide (x :: s = y :: t) = (decide (x = y) && decide (s = t)) := by
  by_cases h : x = y <;> by_cases h2 : s = t <;> simp [h, h2]
theorem eqIntS_l0 (a b : List Int) (hab : a.length = b.length) (ha : a.length ≤ 1099511627776) : ∀ d i, i + d = a.length → Ev (fun k => laws_eqIntS.l0 k a b (i : Int)) (decide (a.drop i = b.drop i)) := by
  intro d
  induction d with
  | zero =>
    intro i hi
    refine Ev.step (fun k => laws_eqIntS.l0.eq_2 ..) (ev_neg (by omega) (ev_some ?_))
    rw [List.drop_of_length_le (by omega), List.drop_of_length_le (by omega)]
    simp
  | succ d ih =>
    intro i hi
    have h1 : i < a.length := by omega
    have h2 : i < b.length := by omega
    refine Ev.step (fun k => laws_eqIntS.l0.eq_2 ..) (ev_pos (by omega) (ev_pos (by omega) (ev_pos (by omega) ?_)))
    rw [rdI a i h1, rdI b i h2, wrap_succ i (by omega), List.drop_eq_getElem_cons h1, List.drop_eq_getElem_cons h2]
    rw [dec_cons]
    refine ev_ite (fun c => ?_) (fun c => ?_)
    · first
      | exact ev_to (ih (i + 1) (by omega)) (by rw [decide_eq_true c, Bool.true_and])
      | exact ev_some (by rw [decide_eq_false c, Bool.false_and])
    · first
      | exact ev_some (by rw [decide_eq_false c, Bool.false_and])
      | exact ev_to (ih (i + 1) (by omega)) (by rw [decide_eq_true c, Bool.true_and])
theorem eqIntS_ev (a b : List Int) (ha : a.length ≤ 1099511627776) : Ev (fun k => laws_eqIntS.f k a b) (decide (a = b)) := by
  simp only [laws_eqIntS.f]
  refine ev_ite (fun h => ?_) (fun h => ?_)
  · first
    | exact ev_to (eqIntS_l0 a b (by omega) ha a.length 0 (by omega)) (by simp)
    | exact ev_some (by rw [eq_comm, decide_eq_false_iff_not]; intro e; subst e; exact h rfl)
  · first
    | exact ev_some (by rw [eq_comm, decide_eq_false_iff_not]; intro e; subst e; exact h rfl)
    | exact ev_to (eqIntS_l0 a b (by omega) ha a.length 0 (by omega)) (by simp)
theorem eqIntSS_l0 (a b : List (List Int)) (hab : a.length = b.length) (ha : a.length ≤ 1099511627776) (hs : ∀ x ∈ a, x.length ≤ 1099511627776) : ∀ d i, i + d = a.length → Ev (fun k => laws_eqIntSS.l0 k a b (i : Int)) (decide (a.drop i = b.drop i)) := by
  intro d
  induction d with
  | zero =>
    intro i hi
    refine Ev.step (fun k => laws_eqIntSS.l0.eq_2 ..) (ev_neg (by omega) (ev_some ?_))
    rw [List.drop_of_length_le (by omega), List.drop_of_length_le (by omega)]
    simp
  | succ d ih =>
    intro i hi
    have h1 : i < a.length := by omega
    have h2 : i < b.length := by omega
    refine Ev.step (fun k => laws_eqIntSS.l0.eq_2 ..) (ev_pos (by omega) (ev_pos (by omega) (ev_pos (by omega) ?_)))
    rw [rdLJ a i h1, rdLJ b i h2, wrap_succ i (by omega), List.drop_eq_getElem_cons h1, List.drop_eq_getElem_cons h2]
    rw [dec_cons]
    refine ev_bind (eqIntS_ev a[i] b[i] (hs _ (List.getElem_mem h1))) (ev_ite (fun c => ?_) (fun c => ?_))
    · exact ev_to (ih (i + 1) (by omega)) (by rw [c, Bool.true_and])
    · rw [Bool.not_eq_true] at c
      exact ev_some (by rw [c, Bool.false_and])
theorem eqIntSS_ev (a b : List (List Int)) (ha : a.length ≤ 1099511627776) (hs : ∀ x ∈ a, x.length ≤ 1099511627776) : Ev (fun k => laws_eqIntSS.f k a b) (decide (a = b)) := by
  simp only [laws_eqIntSS.f]
  refine ev_ite (fun h => ?_) (fun h => ?_)
  · first
    | exact ev_to (eqIntSS_l0 a b (by omega) ha hs a.length 0 (by omega)) (by simp)
    | exact ev_some (by rw [eq_comm, decide_eq_false_iff_not]; intro e; subst e; exact h rfl)
  · first
    | exact ev_some (by rw [eq_comm, decide_eq_false_iff_not]; intro e; subst e; exact h rfl)
    | exact ev_to (eqIntSS_l0 a b (by omega) ha hs a.length 0 (by omega)) (by simp)
end Go.Proofs.Ytlhpkapbaijnhaa.Pl

/- The marking of rows of whole numbers: what it writes, and that it writes nothing else. Asked: that they are made rows, few enough. -/
namespace Go.Proofs.Ytlhpkapbaijnhaa.My
open Go.RowKit Go.Proofs.YtlhpkapbaijnhaaW.PrintWords Go.Proofs.YtlhpkapbaijnhaaW.PrintLast Go.Proofs.YtlhpkapbaijnhaaW.PrintMore Go.Proofs.Ytlhpkapbaijnhaa.Pl
set_option linter.unusedVariables false
set_option linter.unusedSimpArgs false
abbrev KJ : Kd (List Int) := Kd.slice 3 (Kd.int .i64)
theorem mkJ_step {l xs : List (List Int)} {m mm i : Nat} (h : i < xs.length) (h1 : endJ (xs.drop i) mm = endJ l m) (h2 : xs.take i ++ mkJs (xs.drop i) mm = mkJs l m) :
    mm + xs[i].length ≤ endJ l m ∧ endJ ((xs.set i (marksI mm xs[i].length)).drop (i + 1)) (mm + xs[i].length) = endJ l m ∧ (xs.set i (marksI mm xs[i].length)).take (i + 1) ++ mkJs ((xs.set i (marksI mm xs[i].length)).drop (i + 1)) (mm + xs[i].length) = mkJs l m := by
  rw [List.drop_eq_getElem_cons h] at h1 h2
  simp only [endJ, mkJs] at h1 h2
  have := endJ_ge (xs.drop (i + 1)) (mm + xs[i].length)
  rw [List.drop_set_of_lt (by omega), List.take_succ_eq_append_getElem (by rw [List.length_set]; exact h), List.getElem_set_self, List.take_set_of_le (Nat.le_refl i), List.append_assoc]
  exact ⟨by omega, h1, h2⟩
/-- At a round's begin. -/
def MjInv (l : List (List Int)) (m : Nat) (xs : List (List Int)) (x5 : Int) (mm kq : Nat) : Prop := 0 ≤ x5 ∧ x5.toNat + kq = l.length ∧ xs.length = l.length ∧ endJ (xs.drop x5.toNat) mm = endJ l m ∧ xs.take x5.toNat ++ mkJs (xs.drop x5.toNat) mm = mkJs l m
theorem MjInv.start (l : List (List Int)) (m : Nat) : MjInv l m l 0 m l.length := ⟨by omega, by simp, rfl, rfl, rfl⟩
theorem leJ_a (a n E : Nat) (h : a + n ≤ E) (hE : E ≤ 1099511627776) : n ≤ 1099511627776 := by omega
theorem leJ_b (a n E : Nat) (h : a + n ≤ E) (hE : E ≤ 1099511627776) : a ≤ 1099511627776 := by omega
theorem MjInv.step {l xs : List (List Int)} {m mm kq : Nat} {x5 : Int} (h : MjInv l m xs x5 mm kq) (hm : endJ l m ≤ 1099511627776) (hL : l.length ≤ 1099511627776) (hi : x5 < (l.length : Int)) :
    ∃ k1, kq = k1 + 1 ∧ ∃ kk mm2, laws_markIntS.f kk (xs.getD x5.toNat []) (mm : Int) = some (((mm2 : Nat) : Int), marksI mm (xs.getD x5.toNat []).length) ∧ MjInv l m (xs.set x5.toNat (marksI mm (xs.getD x5.toNat []).length)) (wrap64 (x5 + 1)) mm2 k1 := by
  obtain ⟨h0, h1, h2, h3, h4⟩ := h
  have hxi : x5.toNat < xs.length := by omega
  have hgx : xs.getD x5.toNat [] = xs[x5.toNat] := by rw [List.getD_eq_getElem?_getD, List.getElem?_eq_getElem hxi]; rfl
  obtain ⟨q1, q2, q3⟩ := mkJ_step hxi h3 h4
  obtain ⟨kk, hkk⟩ := markIntS_ev xs[x5.toNat] mm (leJ_a _ _ _ q1 hm) (leJ_b _ _ _ q1 hm)
  rw [hgx]
  refine ⟨kq - 1, by omega, kk, _, hkk kk (Nat.le_refl _), ?_⟩
  have e5 : wrap64 (x5 + 1) = x5 + 1 := wrap64_id (by omega) (by omega)
  have e6 : (x5 + 1).toNat = x5.toNat + 1 := by omega
  rw [e5]
  refine ⟨by omega, by omega, by rw [List.length_set]; exact h2, ?_, ?_⟩
  · rw [e6]; exact q2
  · rw [e6]; exact q3
theorem MjInv.last {l xs : List (List Int)} {m mm kq : Nat} {x5 : Int} (h : MjInv l m xs x5 mm kq) (hi : ¬ x5 < (l.length : Int)) : mm = endJ l m ∧ xs = mkJs l m := by
  obtain ⟨h0, h1, h2, h3, h4⟩ := h
  rw [List.drop_of_length_le (by omega)] at h3 h4
  rw [List.take_of_length_le (by omega)] at h4
  simp only [mkJs, endJ, List.append_nil] at h3 h4
  exact ⟨h3, h4⟩
theorem MjInv.len {l xs : List (List Int)} {m mm kq : Nat} {x5 : Int} (h : MjInv l m xs x5 mm kq) : 0 ≤ x5 ∧ xs.length = l.length := ⟨h.1, h.2.2.1⟩
set_option maxHeartbeats 8000000 in
set_option maxRecDepth 100000 in
theorem laws_markIntSS_made (P : Nat → Prop) (u : Value) (l : List (List Int)) (m : Nat) (w0 w : World) (hm : endJ l m ≤ 1099511627776) (hL : l.length ≤ 1099511627776) (hB : Below w0.heap.size w0 w) (ho : Kd.S KJ 45 w w0.heap.size P u l) :
    Calls Try.prog 13 #[u, .int .i64 (m : Int)] w fun e w' => e = .returned (.int .i64 ((endJ l m : Nat) : Int)) ∧ Kd.S KJ 45 w' w0.heap.size P u (mkJs l m) ∧ Below w0.heap.size w0 w' ∧ Kept w w' P := by
  obtain ⟨A, c, rfl⟩ := Kd.S_slice ho
  have HM := Aside0.mk hm
  have HL := Aside0.mk hL
  have HO := Aside0.mk ho
  have HB := Aside0.mk hB
  clear hm hL ho hB
  go_enter Try.func13, Try.ntmps13
  go_wp2
  go_loopg [1, 5] l.length (fun kq v1 v5 w' => ∃ (xs : List (List Int)) (x5 : Int) (mm : Nat), v1 = .int .i64 (mm : Int) ∧ v5 = .int .i64 x5 ∧ Aside0 (MjInv l m xs x5 mm kq) ∧ Aside0 (Kd.S KJ 45 w' w0.heap.size P (.slice A l.length c) xs) ∧ Aside0 (Kept w w' P) ∧ Aside0 (Below w0.heap.size w0 w'))
  case atStart => exact ⟨l, 0, m, rfl, rfl, ⟨MjInv.start l m⟩, HO, ⟨Kept.refl _ _⟩, HB⟩
  case round =>
    clear HO HB
    obtain ⟨xs, x5, mm, rfl, rfl, HF, HO, HK, HB⟩ := hrel
    by_cases hi : x5 < (l.length : Int)
    · obtain ⟨k1, rfl, kk, mm2, hkk, hnext⟩ := HF.out.step HM.out HL.out hi
      have HN := Aside0.mk hnext
      have hlen := HF.out.len
      clear HF hnext
      have hc : decide (x5 < (l.length : Int)) = true := decide_eq_true hi
      have hp := hlen.1
      have hxp : 0 < xs.length := by omega
      obtain ⟨g, cap, eg, hgb, hgl, hgc⟩ := Kd.S_form HO.out hxp
      injection eg with ea en ec
      clear en
      subst ea
      subst ec
      obtain ⟨oki, ce, hcl, hM, hcc, hfr, hoki, hH⟩ := Kd.S_elem HO.out [] x5 hp hi
      obtain ⟨v2, rfl, ge2⟩ := hM
      have hx0 := hcc 0 _ rfl
      simp only [show (KJ).sz = 1 from rfl, Nat.mul_one, Nat.add_zero] at hx0
      have hPg : P g := (Kd.S_R HO.out).1 g (by simp [Value.ownBlock])
      have HR2 := Aside0.mk ge2
      have HH := Aside0.mk hH
      have HOK := Aside0.mk hoki
      have HKK := Aside0.mk hkk
      clear hcl hcc hfr hH ge2 hoki hkk hlen hgc hPg
      replace hp := eq_true hp
      replace hi := eq_true hi
      go_wp2_with fail
      refine (laws_markIntS.calls kk oki v2 (xs.getD x5.toNat []) _ _ _ w0 _ HB.out HR2.out HKK.out).mono ?_
      rintro e w4 ⟨rfl, hR4, hB4, hK4⟩
      have HS4 := Aside0.mk (show Kd.S KJ 45 w4 w0.heap.size P (.slice (some ⟨g, 0, none⟩) l.length c) (xs.set x5.toNat (marksI mm (xs.getD x5.toNat []).length)) from
        Kd.H_back (okp := oki) (Kd.H_step HH.out (fun k hk hn hlt => hK4.2 k hlt hn)) ⟨v2, rfl, Kd.R_flat (fun h => h) hR4 (fun k hk _ => HR2.out.1 k hk)⟩ (fun _ h => h))
      have HK4 := Aside0.mk (Kept.then_ HK.out hK4 (fun k hk => .inl (HOK.out k hk).1))
      have HB4 := Aside0.mk hB4
      clear hR4 hB4 hK4 HR2 HO HK HB HH hx0
      go_wp2
      go_roundg k1
      case measure => omega
      case rel => exact ⟨_, _, mm2, rfl, rfl, HN, HS4, HK4, HB4⟩
    · have hc : decide (x5 < (l.length : Int)) = false := decide_eq_false hi
      obtain ⟨rfl, rfl⟩ := HF.out.last hi
      go_wp2
      go_ret
      exact ⟨rfl, HO.out, HB.out, HK.out⟩
end Go.Proofs.Ytlhpkapbaijnhaa.My

/- Plain Lean: what the laws' own helpers on lists of strings come to. Conditions: lengths and sizes below 2^63. -/
namespace Go.Proofs.Ytlhpkapbaijnhaa.Pl
open Go.RowKit Go.Proofs.YtlhpkapbaijnhaaW.PrintWords Go.Proofs.YtlhpkapbaijnhaaW.PrintLast Go.Proofs.Ytlhpkapbaijnhaa.My
set_option linter.unusedVariables false
set_option linter.unusedSimpArgs false

/-- What came in fits. -/
def FitS (l : List ByteArray) : Prop := l.length ≤ 9223372036854775807 ∧ ∀ s ∈ l, s.size ≤ 9223372036854775807
def sumS (l : List ByteArray) : Nat := (l.map ByteArray.size).sum
def szS (l : List ByteArray) : Nat := l.length + sumS l

theorem sumS_drop (l : List ByteArray) (i : Nat) (h : i < l.length) : sumS (l.drop i) = l[i].size + sumS (l.drop (i + 1)) := by
  unfold sumS
  rw [List.drop_eq_getElem_cons h, List.map_cons, List.sum_cons]

theorem sumS_mem (l : List ByteArray) (s : ByteArray) (h : s ∈ l) : s.size ≤ sumS l := by
  unfold sumS
  induction l with
  | nil => simp at h
  | cons a l ih =>
    simp only [List.map_cons, List.sum_cons]
    rcases List.mem_cons.1 h with rfl | h
    · omega
    · have := ih h
      omega

theorem fitS_of_sz {l : List ByteArray} (h : szS l ≤ 9223372036854775807) : FitS l := by
  unfold szS at h
  exact ⟨by omega, fun s hs => by have := sumS_mem l s hs; omega⟩

theorem fitS_of_wl {l : List ByteArray} (h : WL Wstr l) : FitS l := by
  unfold WL Wstr maxLen at h
  exact h

/-- What is left of so many letters and values. -/
def leftOf (a : Int) (n : Nat) (r : Int) : Prop := r < 0 ∨ (0 ≤ r ∧ r + n = a)

theorem szStringS_l0 (l : List ByteArray) (hf : FitS l) : ∀ d i (a : Int), i + d = l.length → 0 ≤ a → a ≤ 1048576 → ∃ r, Ev (fun k => laws_szStringS.l0 k l a (i : Int)) r ∧ leftOf a (sumS (l.drop i)) r := by
  intro d
  have hL := hf.1
  induction d with
  | zero =>
    intro i a hi h0 h1
    refine ⟨a, Ev.step (fun k => laws_szStringS.l0.eq_2 ..) (ev_neg (by omega) (ev_some rfl)), .inr ⟨h0, ?_⟩⟩
    rw [List.drop_of_length_le (by omega)]
    simp [sumS]
  | succ d ih =>
    intro i a hi h0 h1
    have hlt : i < l.length := by omega
    have hs := hf.2 _ (List.getElem_mem hlt)
    rw [sumS_drop l i hlt]
    by_cases h : a - (l[i].size : Int) < 0
    · refine ⟨-1, Ev.step (fun k => laws_szStringS.l0.eq_2 ..) (ev_pos (by omega) (ev_pos (by omega) (ev_pos ?_ (ev_some rfl)))), .inl (by omega)⟩
      rw [rdOf_lt _ _ _ hlt, wrap64_id (by omega) (by omega)]
      exact h
    · obtain ⟨r, hr, hl⟩ := ih (i + 1) (a - (l[i].size : Int)) (by omega) (by omega) (by omega)
      refine ⟨r, Ev.step (fun k => laws_szStringS.l0.eq_2 ..) (ev_pos (by omega) (ev_pos (by omega) (ev_neg ?_ ?_))), ?_⟩
      · rw [rdOf_lt _ _ _ hlt, wrap64_id (by omega) (by omega)]
        exact h
      · rw [rdOf_lt _ _ _ hlt, wrap64_id (by omega) (by omega), wrap_succ i (by omega)]
        exact hr
      · rcases hl with hl | hl
        · exact .inl hl
        · exact .inr (by omega)

theorem szStringS_ev (l : List ByteArray) (hf : FitS l) (a : Int) (h0 : 0 ≤ a) (h1 : a ≤ 1048576) : ∃ r, Ev (fun k => laws_szStringS.f k l a) r ∧ leftOf a (szS l) r := by
  have hL := hf.1
  simp only [laws_szStringS.f]
  rw [wrap64_id (by omega) (by omega)]
  by_cases h : a - (l.length : Int) < 0
  · exact ⟨-1, ev_pos h (ev_some rfl), .inl (by omega)⟩
  · obtain ⟨r, hr, hl⟩ := szStringS_l0 l hf l.length 0 (a - (l.length : Int)) (by omega) (by omega) (by omega)
    refine ⟨r, ev_neg h hr, ?_⟩
    rcases hl with hl | hl
    · exact .inl hl
    · rw [List.drop_zero] at hl
      exact .inr (by unfold szS; omega)

theorem toStringS_l0 (l : List ByteArray) (hL : l.length ≤ 17592186044416) : ∀ d i (o : List ByteArray), i + d = l.length → o.length = l.length → o.take i = l.take i → Ev (fun k => laws_toStringS.l0 k l o (i : Int)) l := by
  intro d
  induction d with
  | zero =>
    intro i o hi hl ht
    refine Ev.step (fun k => laws_toStringS.l0.eq_2 ..) (ev_neg (by omega) (ev_some ?_))
    rw [List.take_of_length_le (by omega), List.take_of_length_le (by omega)] at ht
    exact ht
  | succ d ih =>
    intro i o hi hl ht
    have hlt : i < l.length := by omega
    refine Ev.step (fun k => laws_toStringS.l0.eq_2 ..) (ev_pos (by omega) (ev_pos (by omega) (ev_pos (by omega) ?_)))
    rw [wrap_succ i (by omega), Int.toNat_natCast, rdOf_lt _ _ _ hlt]
    refine ih (i + 1) _ (by omega) (by rw [List.length_set]; exact hl) ?_
    rw [List.take_succ_eq_append_getElem (by rw [List.length_set]; omega), List.take_succ_eq_append_getElem hlt, List.getElem_set_self, List.take_set_of_le (Nat.le_refl i), ht]

theorem toStringS_ev (l : List ByteArray) (hL : l.length ≤ 17592186044416) : Ev (fun k => laws_toStringS.f k l) l := by
  simp only [laws_toStringS.f]
  refine ev_pos (by omega) (ev_pos (by omega) ?_)
  exact toStringS_l0 l hL l.length 0 _ (by omega) (by simp) rfl

theorem eqStringS_l0 (a b : List ByteArray) (hab : a.length = b.length) (hL : a.length ≤ 9223372036854775807) : ∀ d i, i + d = a.length → Ev (fun k => laws_eqStringS.l0 k a b (i : Int)) (decide (a.drop i = b.drop i)) := by
  intro d
  induction d with
  | zero =>
    intro i hi
    refine Ev.step (fun k => laws_eqStringS.l0.eq_2 ..) (ev_neg (by omega) (ev_some ?_))
    rw [List.drop_of_length_le (by omega), List.drop_of_length_le (by omega)]
    simp
  | succ d ih =>
    intro i hi
    have h1 : i < a.length := by omega
    have h2 : i < b.length := by omega
    refine Ev.step (fun k => laws_eqStringS.l0.eq_2 ..) (ev_pos (by omega) (ev_pos (by omega) (ev_pos (by omega) ?_)))
    rw [rdOf_lt _ _ _ h1, rdOf_lt _ _ _ h2, drop_cons a i h1, drop_cons b i h2]
    refine ev_ite (fun h => ?_) (fun h => ev_some ?_)
    · rw [wrap_succ i (by omega)]
      refine ev_to (ih (i + 1) (by omega)) ?_
      rw [ba_ext h]
      simp only [List.cons.injEq, true_and]
    · have : ¬ a[i] = b[i] := fun e => h (by rw [e])
      simp only [List.cons.injEq, this, false_and, decide_false]

theorem eqStringS_ev (a b : List ByteArray) (hL : a.length ≤ 9223372036854775807) : Ev (fun k => laws_eqStringS.f k a b) (decide (a = b)) := by
  simp only [laws_eqStringS.f]
  refine ev_ite (fun h => ?_) (fun h => ev_some ?_)
  · exact eqStringS_l0 a b (by omega) hL a.length 0 (by omega)
  · have : ¬ a = b := fun e => h (by rw [e])
    simp [this]
end Go.Proofs.Ytlhpkapbaijnhaa.Pl

/- Plain Lean: the marks by which the laws see whether memory is shared. Conditions: lengths below 2^40. -/
namespace Go.Proofs.Ytlhpkapbaijnhaa.Pl
open Go.RowKit Go.Proofs.YtlhpkapbaijnhaaW.PrintWords Go.Proofs.YtlhpkapbaijnhaaW.PrintLast Go.Proofs.Ytlhpkapbaijnhaa.My
set_option linter.unusedVariables false
set_option linter.unusedSimpArgs false

theorem strOfNums_size (l : List Int) : (strOfNums l).size = l.length := by
  unfold strOfNums
  rw [← data_length]
  simp

theorem tdiv10 (n : Int) (h : 0 ≤ n) : Int.tdiv n 10 = n / 10 := by
  rw [Int.tdiv_eq_ediv_of_nonneg h]

theorem markText_l0 : ∀ (d : Nat) (n : Int) (t : ByteArray), 0 ≤ n → n.toNat ≤ d → n ≤ 4611686018427387904 → t.size + n.toNat ≤ 4611686018427387905 → ∃ r, Ev (fun k => laws_markText.l0 k n t) r := by
  intro d
  induction d with
  | zero =>
    intro n t h0 hd h1 h2
    exact ⟨_, Ev.step (fun k => laws_markText.l0.eq_2 ..) (ev_neg (by omega) (ev_pos (by omega) (ev_some rfl)))⟩
  | succ d ih =>
    intro n t h0 hd h1 h2
    by_cases h : 0 < n
    · have e : wrap64 (Int.tdiv n 10) = n / 10 := by rw [tdiv10 n h0, wrap64_id (by omega) (by omega)]
      obtain ⟨r, hr⟩ := ih (n / 10) (strOfNums [(wrap64 (48 + (Int.tmod n 10))) % 256] ++ t) (by omega) (by omega) (by omega) (by
        rw [ByteArray.size_append, strOfNums_size, List.length_singleton]
        omega)
      refine ⟨r, Ev.step (fun k => laws_markText.l0.eq_2 ..) (ev_pos h ?_)⟩
      simp only [Option.bind_some]
      refine ev_pos ?_ ?_
      · rw [strOfNums_size, List.length_singleton]
        omega
      · rw [e]
        exact hr
    · exact ⟨_, Ev.step (fun k => laws_markText.l0.eq_2 ..) (ev_neg (by omega) (ev_pos (by omega) (ev_some rfl)))⟩

theorem markText_some (n : Int) (h0 : 0 ≤ n) (h1 : n ≤ 4611686018427387904) : ∃ r, Ev (fun k => laws_markText.f k n) r := by
  simp only [laws_markText.f]
  by_cases h : n ≤ 0
  · exact ⟨_, ev_pos h (ev_some rfl)⟩
  · obtain ⟨r, hr⟩ := markText_l0 n.toNat n ⟨#[]⟩ h0 (Nat.le_refl _) h1 (by
      show (0 : Nat) + n.toNat ≤ _
      omega)
    exact ⟨r, ev_neg h hr⟩

/-- The mark of a number. -/
noncomputable def mark (n : Nat) : ByteArray := open Classical in if h : ∃ r, Ev (fun k => laws_markText.f k (n : Int)) r then h.choose else ⟨#[]⟩
theorem mark_ev (n : Nat) (h : n ≤ 4611686018427387904) : Ev (fun k => laws_markText.f k (n : Int)) (mark n) := by
  have hs := markText_some (n : Int) (by omega) (by omega)
  unfold mark
  rw [dif_pos hs]
  exact hs.choose_spec

/-- So many marks from one on. -/
noncomputable def marks (m n : Nat) : List ByteArray := (List.range n).map fun i => mark (m + i)
theorem marks_length (m n : Nat) : (marks m n).length = n := by simp [marks]
theorem marks_get (m n i : Nat) (h : i < n) : (marks m n)[i]'(by rw [marks_length]; exact h) = mark (m + i) := by simp [marks]

theorem markStringS_l0 (n m : Nat) (hn : n ≤ 1099511627776) (hm : m ≤ 1099511627776) : ∀ d i (o : List ByteArray), i + d = n → o.length = n → o.take i = (marks m n).take i →
    Ev (fun k => laws_markStringS.l0 k o ((m + i : Nat) : Int) (i : Int)) (((m + n : Nat) : Int), marks m n) := by
  intro d
  induction d with
  | zero =>
    intro i o hi hl ht
    refine Ev.step (fun k => laws_markStringS.l0.eq_2 ..) (ev_neg (by omega) (ev_some ?_))
    rw [List.take_of_length_le (by omega), List.take_of_length_le (by rw [marks_length]; omega)] at ht
    rw [ht, show i = n from by omega]
  | succ d ih =>
    intro i o hi hl ht
    refine Ev.step (fun k => laws_markStringS.l0.eq_2 ..) (ev_pos (by omega) (ev_bind (mark_ev (m + i) (by omega)) (ev_pos (by omega) ?_)))
    rw [wrap_succ i (by omega), wrap_succ (m + i) (by omega), Int.toNat_natCast]
    refine ih (i + 1) _ (by omega) (by rw [List.length_set]; exact hl) ?_
    rw [List.take_succ_eq_append_getElem (by rw [List.length_set]; omega), List.take_succ_eq_append_getElem (by rw [marks_length]; omega), List.getElem_set_self, List.take_set_of_le (Nat.le_refl i), ht, marks_get m n i (by omega)]

theorem markStringS_ev (l : List ByteArray) (m : Nat) (hn : l.length ≤ 1099511627776) (hm : m ≤ 1099511627776) : Ev (fun k => laws_markStringS.f k l (m : Int)) (((m + l.length : Nat) : Int), marks m l.length) := by
  simp only [laws_markStringS.f]
  exact markStringS_l0 l.length m hn hm l.length 0 l (by omega) rfl rfl

end Go.Proofs.Ytlhpkapbaijnhaa.Pl

/- The walk through FnExactCommonLines where the helpers answer as they should, and where a size is too large. Asked: their answers. -/
namespace Go.Proofs.Ytlhpkapbaijnhaa.My
open Go.RowKit Go.Proofs.YtlhpkapbaijnhaaW.PrintWords Go.Proofs.YtlhpkapbaijnhaaW.PrintLast Go.Proofs.YtlhpkapbaijnhaaW.PrintMore Go.Proofs.Ytlhpkapbaijnhaa.Pl
set_option linter.unusedVariables false
set_option linter.unusedSimpArgs false

set_option maxHeartbeats 4000000 in
set_option maxRecDepth 100000 in
theorem laws_FnExactCommonLines_early0 (k : Nat) (A0 : Option Addr) (c0 : Nat) (l0 : List ByteArray) (A1 : Option Addr) (c1 : Nat) (l1 : List ByteArray) (w : World) (hr0 : Kd.C Kd.string w A0 l0.length l0) (hc0 : l0.length ≤ c0) (hr1 : Kd.C Kd.string w A1 l1.length l1) (hc1 : l1.length ≤ c1)
    (s0 : Int) (es0 : laws_szStringS.f k l0 1048576 = some s0) (ns0 : s0 < 0) :
    Calls Try.prog 3 #[.slice A0 l0.length c0, .slice A1 l1.length c1] w fun e w' => e = .returned (.bool true) ∧ Below w.heap.size w w' := by
 have hr0_ := Aside0.mk hr0
 clear hr0
 have hr0 := hr0_
 clear hr0_
 have hc0_ := Aside0.mk hc0
 clear hc0
 have hc0 := hc0_
 clear hc0_
 have hr1_ := Aside0.mk hr1
 clear hr1
 have hr1 := hr1_
 clear hr1_
 have hc1_ := Aside0.mk hc1
 clear hc1
 have hc1 := hc1_
 clear hc1_
 have n0 : decide (s0 < 0) = true := decide_eq_true ns0
 clear ns0
 have es0_ := Aside0.mk es0
 clear es0
 have es0 := es0_
 clear es0_
 have HB := Aside0.mk (Below.refl w.heap.size w)
 go_enter Try.func3, Try.ntmps3
 go_wp2_with fail
 refine (laws_szStringS.calls k A0 c0 l0 1048576 s0 _ (Kd.C_below hr0.out HB.out) hc0.out es0.out).mono ?_
 rintro e w1 ⟨rfl, hb0⟩
 have hb : Below w.heap.size w w1 := by first | exact hb0 | (obtain ⟨nd_, e_⟩ := hb0; rw [e_]; exact pw_below_drewN (Below.refl _ _) nd_)
 clear hb0
 have HB_ := Aside0.mk (below_step HB.out hb)
 have Zw1 := Aside0.mk hb.size
 clear HB hb
 have HB := HB_
 clear HB_
 go_wp2
 go_ret
 exact ⟨rfl, HB.out⟩

set_option maxHeartbeats 4000000 in
set_option maxRecDepth 100000 in
theorem laws_FnExactCommonLines_early1 (k : Nat) (A0 : Option Addr) (c0 : Nat) (l0 : List ByteArray) (A1 : Option Addr) (c1 : Nat) (l1 : List ByteArray) (w : World) (hr0 : Kd.C Kd.string w A0 l0.length l0) (hc0 : l0.length ≤ c0) (hr1 : Kd.C Kd.string w A1 l1.length l1) (hc1 : l1.length ≤ c1)
    (s0 : Int) (es0 : laws_szStringS.f k l0 1048576 = some s0) (ns0 : ¬ s0 < 0)
    (s1 : Int) (es1 : laws_szStringS.f k l1 s0 = some s1) (ns1 : s1 < 0) :
    Calls Try.prog 3 #[.slice A0 l0.length c0, .slice A1 l1.length c1] w fun e w' => e = .returned (.bool true) ∧ Below w.heap.size w w' := by
 have hr0_ := Aside0.mk hr0
 clear hr0
 have hr0 := hr0_
 clear hr0_
 have hc0_ := Aside0.mk hc0
 clear hc0
 have hc0 := hc0_
 clear hc0_
 have hr1_ := Aside0.mk hr1
 clear hr1
 have hr1 := hr1_
 clear hr1_
 have hc1_ := Aside0.mk hc1
 clear hc1
 have hc1 := hc1_
 clear hc1_
 have n0 : decide (s0 < 0) = false := decide_eq_false ns0
 clear ns0
 have es0_ := Aside0.mk es0
 clear es0
 have es0 := es0_
 clear es0_
 have n1 : decide (s1 < 0) = true := decide_eq_true ns1
 clear ns1
 have es1_ := Aside0.mk es1
 clear es1
 have es1 := es1_
 clear es1_
 have HB := Aside0.mk (Below.refl w.heap.size w)
 go_enter Try.func3, Try.ntmps3
 go_wp2_with fail
 refine (laws_szStringS.calls k A0 c0 l0 1048576 s0 _ (Kd.C_below hr0.out HB.out) hc0.out es0.out).mono ?_
 rintro e w1 ⟨rfl, hb0⟩
 have hb : Below w.heap.size w w1 := by first | exact hb0 | (obtain ⟨nd_, e_⟩ := hb0; rw [e_]; exact pw_below_drewN (Below.refl _ _) nd_)
 clear hb0
 have HB_ := Aside0.mk (below_step HB.out hb)
 have Zw1 := Aside0.mk hb.size
 clear HB hb
 have HB := HB_
 clear HB_
 go_wp2_with fail
 refine (laws_szStringS.calls k A1 c1 l1 s0 s1 _ (Kd.C_below hr1.out HB.out) hc1.out es1.out).mono ?_
 rintro e w2 ⟨rfl, hb0⟩
 have hb : Below w1.heap.size w1 w2 := by first | exact hb0 | (obtain ⟨nd_, e_⟩ := hb0; rw [e_]; exact pw_below_drewN (Below.refl _ _) nd_)
 clear hb0
 have HB_ := Aside0.mk (below_step HB.out hb)
 have Zw2 := Aside0.mk hb.size
 clear HB hb
 have HB := HB_
 clear HB_
 go_wp2
 go_ret
 exact ⟨rfl, HB.out⟩

set_option maxHeartbeats 16000000 in
set_option maxRecDepth 100000 in
theorem laws_FnExactCommonLines_true (k : Nat) (A0 : Option Addr) (c0 : Nat) (l0 : List ByteArray) (A1 : Option Addr) (c1 : Nat) (l1 : List ByteArray) (w : World) (hr0 : Kd.C Kd.string w A0 l0.length l0) (hc0 : l0.length ≤ c0) (hr1 : Kd.C Kd.string w A1 l1.length l1) (hc1 : l1.length ≤ c1)
    (s0 : Int) (es0 : laws_szStringS.f k l0 1048576 = some s0) (ns0 : ¬ s0 < 0)
    (s1 : Int) (es1 : laws_szStringS.f k l1 s0 = some s1) (ns1 : ¬ s1 < 0)
    (x0 : List ByteArray) (et0 : laws_toStringS.f k l0 = some x0) (ee0 : laws_eqStringS.f k x0 x0 = some true)
    (x1 : List ByteArray) (et1 : laws_toStringS.f k l1 = some x1) (ee1 : laws_eqStringS.f k x1 x1 = some true)
    (v : List (List Int)) (r0 : Bool) (esp : spec_CommonLines.f k x0 x1 = some (v, r0)) (eim : impl_CommonLines.f k x0 x1 = some (v, r0)) (eev : laws_eqIntSS.f k v v = some true)
    (em0 : laws_markStringS.f k x0 ((1 : Nat) : Int) = some ((((1 + x0.length) : Nat) : Int), marks 1 x0.length))
    (em1 : laws_markStringS.f k x1 (((1 + x0.length) : Nat) : Int) = some (((((1 + x0.length) + x1.length) : Nat) : Int), marks (1 + x0.length) x1.length))
    (hmv : (endJ v 1) ≤ 1099511627776) (hLv : v.length ≤ 1099511627776) (ehv : laws_heldIntSS.f k (mkJs v 1) 1 = some (((endJ v 1) : Nat) : Int)) :
    Calls Try.prog 3 #[.slice A0 l0.length c0, .slice A1 l1.length c1] w fun e w' => e = .returned (.bool true) ∧ Below w.heap.size w w' := by
 have n0 : decide (s0 < 0) = false := decide_eq_false ns0
 clear ns0
 have hr0_ := Aside0.mk hr0
 clear hr0
 have hr0 := hr0_
 clear hr0_
 have hc0_ := Aside0.mk hc0
 clear hc0
 have hc0 := hc0_
 clear hc0_
 have es0_ := Aside0.mk es0
 clear es0
 have es0 := es0_
 clear es0_
 have et0_ := Aside0.mk et0
 clear et0
 have et0 := et0_
 clear et0_
 have ee0_ := Aside0.mk ee0
 clear ee0
 have ee0 := ee0_
 clear ee0_
 have em0_ := Aside0.mk em0
 clear em0
 have em0 := em0_
 clear em0_
 have n1 : decide (s1 < 0) = false := decide_eq_false ns1
 clear ns1
 have hr1_ := Aside0.mk hr1
 clear hr1
 have hr1 := hr1_
 clear hr1_
 have hc1_ := Aside0.mk hc1
 clear hc1
 have hc1 := hc1_
 clear hc1_
 have es1_ := Aside0.mk es1
 clear es1
 have es1 := es1_
 clear es1_
 have et1_ := Aside0.mk et1
 clear et1
 have et1 := et1_
 clear et1_
 have ee1_ := Aside0.mk ee1
 clear ee1
 have ee1 := ee1_
 clear ee1_
 have em1_ := Aside0.mk em1
 clear em1
 have em1 := em1_
 clear em1_
 have esp_ := Aside0.mk esp
 clear esp
 have esp := esp_
 clear esp_
 have eim_ := Aside0.mk eim
 clear eim
 have eim := eim_
 clear eim_
 have eev_ := Aside0.mk eev
 clear eev
 have eev := eev_
 clear eev_
 have ehv_ := Aside0.mk ehv
 clear ehv
 have ehv := ehv_
 clear ehv_
 have hmv_ := Aside0.mk hmv
 clear hmv
 have hmv := hmv_
 clear hmv_
 have hLv_ := Aside0.mk hLv
 clear hLv
 have hLv := hLv_
 clear hLv_
 have nm0 : decide (((((1 + x0.length) : Nat) : Int)) < 0) = false := decide_eq_false (Int.not_lt.2 (Int.natCast_nonneg _))
 have nm1 : decide ((((((1 + x0.length) + x1.length) : Nat) : Int)) < 0) = false := decide_eq_false (Int.not_lt.2 (Int.natCast_nonneg _))
 have nv : decide (((((endJ v 1) : Nat) : Int)) < 0) = false := decide_eq_false (Int.not_lt.2 (Int.natCast_nonneg _))
 have HB := Aside0.mk (Below.refl w.heap.size w)
 go_enter Try.func3, Try.ntmps3
 go_wp2_with fail
 refine (laws_szStringS.calls k A0 c0 l0 1048576 s0 _ (Kd.C_below hr0.out HB.out) hc0.out es0.out).mono ?_
 rintro e w1 ⟨rfl, hb0⟩
 have hb : Below w.heap.size w w1 := by first | exact hb0 | (obtain ⟨nd_, e_⟩ := hb0; rw [e_]; exact pw_below_drewN (Below.refl _ _) nd_)
 clear hb0
 have HB_ := Aside0.mk (below_step HB.out hb)
 have Zw1 := Aside0.mk hb.size
 clear HB hb
 have HB := HB_
 clear HB_
 go_wp2_with fail
 refine (laws_szStringS.calls k A1 c1 l1 s0 s1 _ (Kd.C_below hr1.out HB.out) hc1.out es1.out).mono ?_
 rintro e w2 ⟨rfl, hb0⟩
 have hb : Below w1.heap.size w1 w2 := by first | exact hb0 | (obtain ⟨nd_, e_⟩ := hb0; rw [e_]; exact pw_below_drewN (Below.refl _ _) nd_)
 clear hb0
 have HB_ := Aside0.mk (below_step HB.out hb)
 have Zw2 := Aside0.mk hb.size
 clear HB hb
 have HB := HB_
 clear HB_
 go_wp2_with fail
 refine (laws_toStringS.calls k A0 c0 l0 x0 _ (Kd.C_below hr0.out HB.out) hc0.out et0.out).mono ?_
 rintro e w3 ⟨vv, rfl, ho, hb⟩
 obtain ⟨AY0, cY0, rfl⟩ := Kd.R_slice ho
 have Y0 := Aside0.mk (Kd.R_mono (ok' := fun k_ => w2.heap.size ≤ k_ ∧ k_ < w3.heap.size) (Kd.R_lower (Kd.R_bound ho) HB.out.size) (fun k_ h_ => ⟨h_.2.1, h_.2.2.1⟩))
 clear ho
 have HB_ := Aside0.mk (below_step HB.out hb)
 have Zw3 := Aside0.mk hb.size
 clear HB hb
 have HB := HB_
 clear HB_
 go_wp2_with fail
 refine (laws_toStringS.calls k A1 c1 l1 x1 _ (Kd.C_below hr1.out HB.out) hc1.out et1.out).mono ?_
 rintro e w4 ⟨vv, rfl, ho, hb⟩
 obtain ⟨AY1, cY1, rfl⟩ := Kd.R_slice ho
 have Y0_ := Aside0.mk (Kd.R_below Y0.out hb)
 clear Y0
 have Y0 := Y0_
 clear Y0_
 have Y1 := Aside0.mk (Kd.R_mono (ok' := fun k_ => w3.heap.size ≤ k_ ∧ k_ < w4.heap.size) (Kd.R_lower (Kd.R_bound ho) HB.out.size) (fun k_ h_ => ⟨h_.2.1, h_.2.2.1⟩))
 clear ho
 have HB_ := Aside0.mk (below_step HB.out hb)
 have Zw4 := Aside0.mk hb.size
 clear HB hb
 have HB := HB_
 clear HB_
 go_wp2_with fail
 refine (spec_CommonLines.calls k AY0 cY0 x0 AY1 cY1 x1 v r0 _ (Kd.R_reads' Y0.out).2.2 (Kd.R_reads' Y0.out).2.1 (Kd.R_reads' Y1.out).2.2 (Kd.R_reads' Y1.out).2.1 esp.out).mono ?_
 rintro e w5 ⟨vv, rfl, ho, hb⟩
 obtain ⟨AVW, cVW, rfl⟩ := Kd.S_slice ho
 have Y0_ := Aside0.mk (Kd.R_below Y0.out hb)
 clear Y0
 have Y0 := Y0_
 clear Y0_
 have Y1_ := Aside0.mk (Kd.R_below Y1.out hb)
 clear Y1
 have Y1 := Y1_
 clear Y1_
 have VW := Aside0.mk (Kd.S_mono (ok' := fun k_ => w4.heap.size ≤ k_ ∧ k_ < w5.heap.size) (Kd.S_lower (Kd.S_bound ho) HB.out.size) (fun k_ h_ => ⟨h_.2.1, h_.2.2.1⟩))
 clear ho
 have HB_ := Aside0.mk (below_step HB.out hb)
 have Zw5 := Aside0.mk hb.size
 clear HB hb
 have HB := HB_
 clear HB_
 clear Y0
 clear Y1
 go_wp2_with fail
 refine (laws_toStringS.calls k A0 c0 l0 x0 _ (Kd.C_below hr0.out HB.out) hc0.out et0.out).mono ?_
 rintro e w6 ⟨vv, rfl, ho, hb⟩
 obtain ⟨AX0, cX0, rfl⟩ := Kd.R_slice ho
 have VW_ := Aside0.mk (Kd.S_below VW.out hb)
 clear VW
 have VW := VW_
 clear VW_
 have X0 := Aside0.mk (Kd.R_mono (ok' := fun k_ => w5.heap.size ≤ k_ ∧ k_ < w6.heap.size) (Kd.R_lower (Kd.R_bound ho) HB.out.size) (fun k_ h_ => ⟨h_.2.1, h_.2.2.1⟩))
 clear ho
 have HB_ := Aside0.mk (below_step HB.out hb)
 have Zw6 := Aside0.mk hb.size
 clear HB hb
 have HB := HB_
 clear HB_
 go_wp2_with fail
 refine (laws_toStringS.calls k A1 c1 l1 x1 _ (Kd.C_below hr1.out HB.out) hc1.out et1.out).mono ?_
 rintro e w7 ⟨vv, rfl, ho, hb⟩
 obtain ⟨AX1, cX1, rfl⟩ := Kd.R_slice ho
 have VW_ := Aside0.mk (Kd.S_below VW.out hb)
 clear VW
 have VW := VW_
 clear VW_
 have X0_ := Aside0.mk (Kd.R_below X0.out hb)
 clear X0
 have X0 := X0_
 clear X0_
 have X1 := Aside0.mk (Kd.R_mono (ok' := fun k_ => w6.heap.size ≤ k_ ∧ k_ < w7.heap.size) (Kd.R_lower (Kd.R_bound ho) HB.out.size) (fun k_ h_ => ⟨h_.2.1, h_.2.2.1⟩))
 clear ho
 have HB_ := Aside0.mk (below_step HB.out hb)
 have Zw7 := Aside0.mk hb.size
 clear HB hb
 have HB := HB_
 clear HB_
 go_wp2_with fail
 refine (impl_CommonLines.calls k AX0 cX0 x0 AX1 cX1 x1 v r0 _ (Kd.R_reads' X0.out).2.2 (Kd.R_reads' X0.out).2.1 (Kd.R_reads' X1.out).2.2 (Kd.R_reads' X1.out).2.1 eim.out).mono ?_
 rintro e w8 ⟨vv, rfl, ho, hb⟩
 obtain ⟨AVG, cVG, rfl⟩ := Kd.S_slice ho
 have VW_ := Aside0.mk (Kd.S_below VW.out hb)
 clear VW
 have VW := VW_
 clear VW_
 have X0_ := Aside0.mk (Kd.R_below X0.out hb)
 clear X0
 have X0 := X0_
 clear X0_
 have X1_ := Aside0.mk (Kd.R_below X1.out hb)
 clear X1
 have X1 := X1_
 clear X1_
 have VG := Aside0.mk (Kd.S_mono (ok' := fun k_ => w7.heap.size ≤ k_ ∧ k_ < w8.heap.size) (Kd.S_lower (Kd.S_bound ho) HB.out.size) (fun k_ h_ => ⟨h_.2.1, h_.2.2.1⟩))
 clear ho
 have HB_ := Aside0.mk (below_step HB.out hb)
 have Zw8 := Aside0.mk hb.size
 clear HB hb
 have HB := HB_
 clear HB_
 go_wp2_with fail
 refine (laws_eqIntSS.calls k AVG cVG v AVW cVW v true _ (Kd.S_reads' VG.out).2.2 (Kd.S_reads' VG.out).2.1 (Kd.S_reads' VW.out).2.2 (Kd.S_reads' VW.out).2.1 eev.out).mono ?_
 rintro e w9 ⟨rfl, hb0⟩
 have hb : Below w8.heap.size w8 w9 := by first | exact hb0 | (obtain ⟨nd_, e_⟩ := hb0; rw [e_]; exact pw_below_drewN (Below.refl _ _) nd_)
 clear hb0
 have VW_ := Aside0.mk (Kd.S_below VW.out hb)
 clear VW
 have VW := VW_
 clear VW_
 have X0_ := Aside0.mk (Kd.R_below X0.out hb)
 clear X0
 have X0 := X0_
 clear X0_
 have X1_ := Aside0.mk (Kd.R_below X1.out hb)
 clear X1
 have X1 := X1_
 clear X1_
 have VG_ := Aside0.mk (Kd.S_below VG.out hb)
 clear VG
 have VG := VG_
 clear VG_
 have HB_ := Aside0.mk (below_step HB.out hb)
 have Zw9 := Aside0.mk hb.size
 clear HB hb
 have HB := HB_
 clear HB_
 go_wp2_with fail
 refine (laws_toStringS.calls k A0 c0 l0 x0 _ (Kd.C_below hr0.out HB.out) hc0.out et0.out).mono ?_
 rintro e w10 ⟨vv, rfl, ho, hb⟩
 obtain ⟨AQ0, cQ0, rfl⟩ := Kd.R_slice ho
 have VW_ := Aside0.mk (Kd.S_below VW.out hb)
 clear VW
 have VW := VW_
 clear VW_
 have X0_ := Aside0.mk (Kd.R_below X0.out hb)
 clear X0
 have X0 := X0_
 clear X0_
 have X1_ := Aside0.mk (Kd.R_below X1.out hb)
 clear X1
 have X1 := X1_
 clear X1_
 have VG_ := Aside0.mk (Kd.S_below VG.out hb)
 clear VG
 have VG := VG_
 clear VG_
 have Q0 := Aside0.mk (Kd.R_mono (ok' := fun k_ => w9.heap.size ≤ k_ ∧ k_ < w10.heap.size) (Kd.R_lower (Kd.R_bound ho) HB.out.size) (fun k_ h_ => ⟨h_.2.1, h_.2.2.1⟩))
 clear ho
 have HB_ := Aside0.mk (below_step HB.out hb)
 have Zw10 := Aside0.mk hb.size
 clear HB hb
 have HB := HB_
 clear HB_
 go_wp2_with fail
 refine (laws_eqStringS.calls k AX0 cX0 x0 AQ0 cQ0 x0 true _ (Kd.R_reads' X0.out).2.2 (Kd.R_reads' X0.out).2.1 (Kd.R_reads' Q0.out).2.2 (Kd.R_reads' Q0.out).2.1 ee0.out).mono ?_
 rintro e w11 ⟨rfl, hb0⟩
 have hb : Below w10.heap.size w10 w11 := by first | exact hb0 | (obtain ⟨nd_, e_⟩ := hb0; rw [e_]; exact pw_below_drewN (Below.refl _ _) nd_)
 clear hb0
 have VW_ := Aside0.mk (Kd.S_below VW.out hb)
 clear VW
 have VW := VW_
 clear VW_
 have X0_ := Aside0.mk (Kd.R_below X0.out hb)
 clear X0
 have X0 := X0_
 clear X0_
 have X1_ := Aside0.mk (Kd.R_below X1.out hb)
 clear X1
 have X1 := X1_
 clear X1_
 have VG_ := Aside0.mk (Kd.S_below VG.out hb)
 clear VG
 have VG := VG_
 clear VG_
 have Q0_ := Aside0.mk (Kd.R_below Q0.out hb)
 clear Q0
 have Q0 := Q0_
 clear Q0_
 have HB_ := Aside0.mk (below_step HB.out hb)
 have Zw11 := Aside0.mk hb.size
 clear HB hb
 have HB := HB_
 clear HB_
 clear Q0
 go_wp2_with fail
 refine (laws_toStringS.calls k A1 c1 l1 x1 _ (Kd.C_below hr1.out HB.out) hc1.out et1.out).mono ?_
 rintro e w12 ⟨vv, rfl, ho, hb⟩
 obtain ⟨AQ1, cQ1, rfl⟩ := Kd.R_slice ho
 have VW_ := Aside0.mk (Kd.S_below VW.out hb)
 clear VW
 have VW := VW_
 clear VW_
 have X0_ := Aside0.mk (Kd.R_below X0.out hb)
 clear X0
 have X0 := X0_
 clear X0_
 have X1_ := Aside0.mk (Kd.R_below X1.out hb)
 clear X1
 have X1 := X1_
 clear X1_
 have VG_ := Aside0.mk (Kd.S_below VG.out hb)
 clear VG
 have VG := VG_
 clear VG_
 have Q1 := Aside0.mk (Kd.R_mono (ok' := fun k_ => w11.heap.size ≤ k_ ∧ k_ < w12.heap.size) (Kd.R_lower (Kd.R_bound ho) HB.out.size) (fun k_ h_ => ⟨h_.2.1, h_.2.2.1⟩))
 clear ho
 have HB_ := Aside0.mk (below_step HB.out hb)
 have Zw12 := Aside0.mk hb.size
 clear HB hb
 have HB := HB_
 clear HB_
 go_wp2_with fail
 refine (laws_eqStringS.calls k AX1 cX1 x1 AQ1 cQ1 x1 true _ (Kd.R_reads' X1.out).2.2 (Kd.R_reads' X1.out).2.1 (Kd.R_reads' Q1.out).2.2 (Kd.R_reads' Q1.out).2.1 ee1.out).mono ?_
 rintro e w13 ⟨rfl, hb0⟩
 have hb : Below w12.heap.size w12 w13 := by first | exact hb0 | (obtain ⟨nd_, e_⟩ := hb0; rw [e_]; exact pw_below_drewN (Below.refl _ _) nd_)
 clear hb0
 have VW_ := Aside0.mk (Kd.S_below VW.out hb)
 clear VW
 have VW := VW_
 clear VW_
 have X0_ := Aside0.mk (Kd.R_below X0.out hb)
 clear X0
 have X0 := X0_
 clear X0_
 have X1_ := Aside0.mk (Kd.R_below X1.out hb)
 clear X1
 have X1 := X1_
 clear X1_
 have VG_ := Aside0.mk (Kd.S_below VG.out hb)
 clear VG
 have VG := VG_
 clear VG_
 have Q1_ := Aside0.mk (Kd.R_below Q1.out hb)
 clear Q1
 have Q1 := Q1_
 clear Q1_
 have HB_ := Aside0.mk (below_step HB.out hb)
 have Zw13 := Aside0.mk hb.size
 clear HB hb
 have HB := HB_
 clear HB_
 clear Q1
 go_wp2_with fail
 refine (laws_markStringS.calls k (fun k_ => w5.heap.size ≤ k_ ∧ k_ < w6.heap.size) _ x0 _ _ _ w _ HB.out X0.out em0.out).mono ?_
 rintro e w14 ⟨rfl, hR, hb, hk⟩
 have VW_ := Aside0.mk (Kd.S_kept VW.out hk (fun k_ h1_ h2_ => Nat.lt_irrefl k_ (Nat.lt_of_lt_of_le h1_.2 (Nat.le_trans (Nat.le_refl _) h2_.1))))
 clear VW
 have VW := VW_
 clear VW_
 have X1_ := Aside0.mk (Kd.R_kept X1.out hk (fun k_ h1_ h2_ => Nat.lt_irrefl k_ (Nat.lt_of_lt_of_le h2_.2 (Nat.le_trans (Nat.le_refl _) h1_.1))))
 clear X1
 have X1 := X1_
 clear X1_
 have VG_ := Aside0.mk (Kd.S_kept VG.out hk (fun k_ h1_ h2_ => Nat.lt_irrefl k_ (Nat.lt_of_lt_of_le h2_.2 (Nat.le_trans (Nat.le_trans (Nat.le_refl _) Zw7.out) h1_.1))))
 clear VG
 have VG := VG_
 clear VG_
 clear X0 hR
 have Zw14 := Aside0.mk hk.1
 clear hk HB
 have HB := Aside0.mk hb
 clear hb
 go_wp2_with fail
 refine (laws_markStringS.calls k (fun k_ => w6.heap.size ≤ k_ ∧ k_ < w7.heap.size) _ x1 _ _ _ w _ HB.out X1.out em1.out).mono ?_
 rintro e w15 ⟨rfl, hR, hb, hk⟩
 have VW_ := Aside0.mk (Kd.S_kept VW.out hk (fun k_ h1_ h2_ => Nat.lt_irrefl k_ (Nat.lt_of_lt_of_le h1_.2 (Nat.le_trans (Nat.le_trans (Nat.le_refl _) Zw6.out) h2_.1))))
 clear VW
 have VW := VW_
 clear VW_
 have VG_ := Aside0.mk (Kd.S_kept VG.out hk (fun k_ h1_ h2_ => Nat.lt_irrefl k_ (Nat.lt_of_lt_of_le h2_.2 (Nat.le_trans (Nat.le_refl _) h1_.1))))
 clear VG
 have VG := VG_
 clear VG_
 clear X1 hR
 have Zw15 := Aside0.mk hk.1
 clear hk HB
 have HB := Aside0.mk hb
 clear hb
 go_wp2_with fail
 refine (laws_eqIntSS.calls k AVG cVG v AVW cVW v true _ (Kd.S_reads' VG.out).2.2 (Kd.S_reads' VG.out).2.1 (Kd.S_reads' VW.out).2.2 (Kd.S_reads' VW.out).2.1 eev.out).mono ?_
 rintro e w16 ⟨rfl, hb0⟩
 have hb : Below w15.heap.size w15 w16 := by first | exact hb0 | (obtain ⟨nd_, e_⟩ := hb0; rw [e_]; exact pw_below_drewN (Below.refl _ _) nd_)
 clear hb0
 have VW_ := Aside0.mk (Kd.S_below VW.out hb)
 clear VW
 have VW := VW_
 clear VW_
 have VG_ := Aside0.mk (Kd.S_below VG.out hb)
 clear VG
 have VG := VG_
 clear VG_
 have HB_ := Aside0.mk (below_step HB.out hb)
 have Zw16 := Aside0.mk hb.size
 clear HB hb
 have HB := HB_
 clear HB_
 go_wp2_with fail
 refine (laws_markIntSS_made (fun k_ => w7.heap.size ≤ k_ ∧ k_ < w8.heap.size) _ v 1 w _ hmv.out hLv.out HB.out VG.out).mono ?_
 rintro e w17 ⟨rfl, hR, hb, hk⟩
 have VW_ := Aside0.mk (Kd.S_kept VW.out hk (fun k_ h1_ h2_ => Nat.lt_irrefl k_ (Nat.lt_of_lt_of_le h1_.2 (Nat.le_trans (Nat.le_trans (Nat.le_trans (Nat.le_refl _) Zw6.out) Zw7.out) h2_.1))))
 clear VW
 have VW := VW_
 clear VW_
 have VG_ := Aside0.mk hR
 clear VG hR
 have VG := VG_
 clear VG_
 have Zw17 := Aside0.mk hk.1
 clear hk HB
 have HB := Aside0.mk hb
 clear hb
 go_wp2_with fail
 have eLen := (Kd.S_reads' VG.out).1
 refine calls_of_args (args' := #[.slice AVG ((mkJs v 1) : List (List Int)).length cVG, .int .i64 1]) (by rw [← eLen]) ?_
 refine (laws_heldIntSS.calls k AVG cVG (mkJs v 1) 1 _ _ (Kd.S_reads' VG.out).2.2 (by rw [← eLen]; exact (Kd.S_reads' VG.out).2.1) ehv.out).mono ?_
 rintro e w18 ⟨rfl, hb0⟩
 clear eLen
 have hb : Below w17.heap.size w17 w18 := by first | exact hb0 | (obtain ⟨nd_, e_⟩ := hb0; rw [e_]; exact pw_below_drewN (Below.refl _ _) nd_)
 clear hb0
 have VW_ := Aside0.mk (Kd.S_below VW.out hb)
 clear VW
 have VW := VW_
 clear VW_
 have VG_ := Aside0.mk (Kd.S_below VG.out hb)
 clear VG
 have VG := VG_
 clear VG_
 have HB_ := Aside0.mk (below_step HB.out hb)
 have Zw18 := Aside0.mk hb.size
 clear HB hb
 have HB := HB_
 clear HB_
 go_wp2_with fail
 refine (laws_toStringS.calls k A0 c0 l0 x0 _ (Kd.C_below hr0.out HB.out) hc0.out et0.out).mono ?_
 rintro e w19 ⟨vv, rfl, ho, hb⟩
 obtain ⟨AY0, cY0, rfl⟩ := Kd.R_slice ho
 have VW_ := Aside0.mk (Kd.S_below VW.out hb)
 clear VW
 have VW := VW_
 clear VW_
 have VG_ := Aside0.mk (Kd.S_below VG.out hb)
 clear VG
 have VG := VG_
 clear VG_
 have Y0 := Aside0.mk (Kd.R_mono (ok' := fun k_ => w18.heap.size ≤ k_ ∧ k_ < w19.heap.size) (Kd.R_lower (Kd.R_bound ho) HB.out.size) (fun k_ h_ => ⟨h_.2.1, h_.2.2.1⟩))
 clear ho
 have HB_ := Aside0.mk (below_step HB.out hb)
 have Zw19 := Aside0.mk hb.size
 clear HB hb
 have HB := HB_
 clear HB_
 go_wp2_with fail
 refine (laws_toStringS.calls k A1 c1 l1 x1 _ (Kd.C_below hr1.out HB.out) hc1.out et1.out).mono ?_
 rintro e w20 ⟨vv, rfl, ho, hb⟩
 obtain ⟨AY1, cY1, rfl⟩ := Kd.R_slice ho
 have VW_ := Aside0.mk (Kd.S_below VW.out hb)
 clear VW
 have VW := VW_
 clear VW_
 have VG_ := Aside0.mk (Kd.S_below VG.out hb)
 clear VG
 have VG := VG_
 clear VG_
 have Y0_ := Aside0.mk (Kd.R_below Y0.out hb)
 clear Y0
 have Y0 := Y0_
 clear Y0_
 have Y1 := Aside0.mk (Kd.R_mono (ok' := fun k_ => w19.heap.size ≤ k_ ∧ k_ < w20.heap.size) (Kd.R_lower (Kd.R_bound ho) HB.out.size) (fun k_ h_ => ⟨h_.2.1, h_.2.2.1⟩))
 clear ho
 have HB_ := Aside0.mk (below_step HB.out hb)
 have Zw20 := Aside0.mk hb.size
 clear HB hb
 have HB := HB_
 clear HB_
 go_wp2_with fail
 refine (impl_CommonLines.calls k AY0 cY0 x0 AY1 cY1 x1 v r0 _ (Kd.R_reads' Y0.out).2.2 (Kd.R_reads' Y0.out).2.1 (Kd.R_reads' Y1.out).2.2 (Kd.R_reads' Y1.out).2.1 eim.out).mono ?_
 rintro e w21 ⟨vv, rfl, ho, hb⟩
 obtain ⟨AVH, cVH, rfl⟩ := Kd.S_slice ho
 have VW_ := Aside0.mk (Kd.S_below VW.out hb)
 clear VW
 have VW := VW_
 clear VW_
 have VG_ := Aside0.mk (Kd.S_below VG.out hb)
 clear VG
 have VG := VG_
 clear VG_
 have Y0_ := Aside0.mk (Kd.R_below Y0.out hb)
 clear Y0
 have Y0 := Y0_
 clear Y0_
 have Y1_ := Aside0.mk (Kd.R_below Y1.out hb)
 clear Y1
 have Y1 := Y1_
 clear Y1_
 have VH := Aside0.mk (Kd.S_mono (ok' := fun k_ => w20.heap.size ≤ k_ ∧ k_ < w21.heap.size) (Kd.S_lower (Kd.S_bound ho) HB.out.size) (fun k_ h_ => ⟨h_.2.1, h_.2.2.1⟩))
 clear ho
 have HB_ := Aside0.mk (below_step HB.out hb)
 have Zw21 := Aside0.mk hb.size
 clear HB hb
 have HB := HB_
 clear HB_
 clear Y0
 clear Y1
 go_wp2_with fail
 refine (laws_eqIntSS.calls k AVH cVH v AVW cVW v true _ (Kd.S_reads' VH.out).2.2 (Kd.S_reads' VH.out).2.1 (Kd.S_reads' VW.out).2.2 (Kd.S_reads' VW.out).2.1 eev.out).mono ?_
 rintro e w22 ⟨rfl, hb0⟩
 have hb : Below w21.heap.size w21 w22 := by first | exact hb0 | (obtain ⟨nd_, e_⟩ := hb0; rw [e_]; exact pw_below_drewN (Below.refl _ _) nd_)
 clear hb0
 have VW_ := Aside0.mk (Kd.S_below VW.out hb)
 clear VW
 have VW := VW_
 clear VW_
 have VG_ := Aside0.mk (Kd.S_below VG.out hb)
 clear VG
 have VG := VG_
 clear VG_
 have VH_ := Aside0.mk (Kd.S_below VH.out hb)
 clear VH
 have VH := VH_
 clear VH_
 have HB_ := Aside0.mk (below_step HB.out hb)
 have Zw22 := Aside0.mk hb.size
 clear HB hb
 have HB := HB_
 clear HB_
 clear VH VW
 go_wp2_with fail
 have eLen := (Kd.S_reads' VG.out).1
 refine calls_of_args (args' := #[.slice AVG ((mkJs v 1) : List (List Int)).length cVG, .int .i64 1]) (by rw [← eLen]) ?_
 refine (laws_heldIntSS.calls k AVG cVG (mkJs v 1) 1 _ _ (Kd.S_reads' VG.out).2.2 (by rw [← eLen]; exact (Kd.S_reads' VG.out).2.1) ehv.out).mono ?_
 rintro e w23 ⟨rfl, hb0⟩
 clear eLen
 have hb : Below w22.heap.size w22 w23 := by first | exact hb0 | (obtain ⟨nd_, e_⟩ := hb0; rw [e_]; exact pw_below_drewN (Below.refl _ _) nd_)
 clear hb0
 have VG_ := Aside0.mk (Kd.S_below VG.out hb)
 clear VG
 have VG := VG_
 clear VG_
 have HB_ := Aside0.mk (below_step HB.out hb)
 have Zw23 := Aside0.mk hb.size
 clear HB hb
 have HB := HB_
 clear HB_
 go_wp2
 go_ret
 exact ⟨rfl, HB.out⟩
end Go.Proofs.Ytlhpkapbaijnhaa.My

/- Plain Lean: the length of a longest list that two lists share. No condition. -/
namespace Go.Proofs.Ytlhpkapbaijnhaa.Pl
open Go.RowKit Go.Proofs.YtlhpkapbaijnhaaW.PrintWords Go.Proofs.YtlhpkapbaijnhaaW.PrintLast
set_option linter.unusedVariables false
set_option linter.unusedSimpArgs false

/-- How many a longest list has that comes of both by leaving out. -/
def lcs : List ByteArray → List ByteArray → Nat
  | [], _ => 0
  | _ :: _, [] => 0
  | a :: s, b :: t => if a = b then lcs s t + 1 else max (lcs s (b :: t)) (lcs (a :: s) t)
termination_by s t => s.length + t.length

theorem lcs_nil_l (t : List ByteArray) : lcs [] t = 0 := by rw [lcs]
theorem lcs_nil_r (s : List ByteArray) : lcs s [] = 0 := by cases s <;> rw [lcs]
theorem lcs_cons (a b : ByteArray) (s t : List ByteArray) : lcs (a :: s) (b :: t) = if a = b then lcs s t + 1 else max (lcs s (b :: t)) (lcs (a :: s) t) := by rw [lcs]

theorem lcs_comm (s t : List ByteArray) : lcs s t = lcs t s := by
  generalize hn : s.length + t.length = n
  induction n using Nat.strongRecOn generalizing s t with
  | _ n ih =>
    cases s with
    | nil => rw [lcs_nil_l, lcs_nil_r]
    | cons a s =>
      cases t with
      | nil => rw [lcs_nil_l, lcs_nil_r]
      | cons b t =>
        simp only [List.length_cons] at hn
        rw [lcs_cons, lcs_cons, ih (s.length + t.length) (by omega) s t rfl, ih (s.length + (t.length + 1)) (by omega) s (b :: t) (by simp only [List.length_cons]), ih (s.length + 1 + t.length) (by omega) (a :: s) t (by simp only [List.length_cons])]
        by_cases h : a = b
        · rw [if_pos h, if_pos h.symm]
        · rw [if_neg h, if_neg (fun e => h e.symm), Nat.max_comm]

theorem lcs_steps (a : ByteArray) (s t : List ByteArray) : lcs s t ≤ lcs (a :: s) t ∧ lcs (a :: s) t ≤ lcs s t + 1 := by
  generalize hn : s.length + t.length = n
  induction n using Nat.strongRecOn generalizing a s t with
  | _ n ih =>
    cases t with
    | nil => rw [lcs_nil_r, lcs_nil_r]; omega
    | cons b t =>
      simp only [List.length_cons] at hn
      have h1 := ih (s.length + t.length) (by omega) a s t rfl
      have h2 : lcs s t ≤ lcs s (b :: t) ∧ lcs s (b :: t) ≤ lcs s t + 1 := by
        rw [lcs_comm s t, lcs_comm s (b :: t)]
        exact ih (t.length + s.length) (by omega) b t s rfl
      rw [lcs_cons]
      split <;> omega

theorem lcs_steps_r (b : ByteArray) (s t : List ByteArray) : lcs s t ≤ lcs s (b :: t) ∧ lcs s (b :: t) ≤ lcs s t + 1 := by
  rw [lcs_comm s t, lcs_comm s (b :: t)]
  exact lcs_steps b t s

/-- As the reference reckons it. -/
theorem lcs_spec (a b : ByteArray) (s t : List ByteArray) : lcs (a :: s) (b :: t) = if a = b then max (max (lcs s (b :: t)) (lcs (a :: s) t)) (lcs s t + 1) else max (lcs s (b :: t)) (lcs (a :: s) t) := by
  have h1 := lcs_steps a s t
  have h2 := lcs_steps_r b s t
  rw [lcs_cons]
  split <;> omega

theorem lcs_le (s t : List ByteArray) : lcs s t ≤ s.length ∧ lcs s t ≤ t.length := by
  constructor
  · induction s with
    | nil => rw [lcs_nil_l]; exact Nat.zero_le _
    | cons a s ih =>
      have := lcs_steps a s t
      simp only [List.length_cons]
      omega
  · induction t with
    | nil => rw [lcs_nil_r]; exact Nat.zero_le _
    | cons b t ih =>
      have := lcs_steps_r b s t
      simp only [List.length_cons]
      omega

/-- The table of all places. -/
def tblRow (a b : List ByteArray) (i : Nat) : List Int := (List.range (b.length + 1)).map fun j => ((lcs (a.drop i) (b.drop j) : Nat) : Int)
def tbl (a b : List ByteArray) : List (List Int) := (List.range (a.length + 1)).map (tblRow a b)
theorem tblRow_length (a b : List ByteArray) (i : Nat) : (tblRow a b i).length = b.length + 1 := by simp [tblRow]
theorem tbl_length (a b : List ByteArray) : (tbl a b).length = a.length + 1 := by simp [tbl]
theorem tblRow_get (a b : List ByteArray) (i j : Nat) (h : j ≤ b.length) : (tblRow a b i)[j]'(by rw [tblRow_length]; omega) = ((lcs (a.drop i) (b.drop j) : Nat) : Int) := by simp [tblRow]
theorem tbl_get (a b : List ByteArray) (i : Nat) (h : i ≤ a.length) : (tbl a b)[i]'(by rw [tbl_length]; omega) = tblRow a b i := by simp [tbl]
theorem lcs_drop (a b : List ByteArray) (i j : Nat) (h1 : i < a.length) (h2 : j < b.length) : lcs (a.drop i) (b.drop j) = if a[i] = b[j] then lcs (a.drop (i + 1)) (b.drop (j + 1)) + 1 else max (lcs (a.drop (i + 1)) (b.drop j)) (lcs (a.drop i) (b.drop (j + 1))) := by
  rw [drop_cons a i h1, drop_cons b j h2, lcs_cons, ← drop_cons a i h1, ← drop_cons b j h2]
theorem lcs_drop_spec (a b : List ByteArray) (i j : Nat) (h1 : i < a.length) (h2 : j < b.length) : lcs (a.drop i) (b.drop j) = if a[i] = b[j] then max (max (lcs (a.drop (i + 1)) (b.drop j)) (lcs (a.drop i) (b.drop (j + 1)))) (lcs (a.drop (i + 1)) (b.drop (j + 1)) + 1) else max (lcs (a.drop (i + 1)) (b.drop j)) (lcs (a.drop i) (b.drop (j + 1))) := by
  rw [drop_cons a i h1, drop_cons b j h2, lcs_spec, ← drop_cons a i h1, ← drop_cons b j h2]
theorem lcs_drop_end (a b : List ByteArray) (i j : Nat) (h : a.length ≤ i ∨ b.length ≤ j) : lcs (a.drop i) (b.drop j) = 0 := by
  have := lcs_le (a.drop i) (b.drop j)
  simp only [List.length_drop] at this
  omega
end Go.Proofs.Ytlhpkapbaijnhaa.Pl

/- Plain Lean: the tables of the program and of the reference are one: at each two places the length of a longest shared list. Conditions: at most 2^20 lines. -/
namespace Go.Proofs.Ytlhpkapbaijnhaa.Pl
open Go.RowKit Go.Proofs.YtlhpkapbaijnhaaW.PrintWords Go.Proofs.YtlhpkapbaijnhaaW.PrintLast Go.Proofs.YtlhpkapbaijnhaaW.PrintMore Go.Proofs.Ytlhpkapbaijnhaa.My
set_option linter.unusedVariables false
set_option linter.unusedSimpArgs false

theorem get_of_drop {α : Type} {t u : List α} {i : Nat} (h : t.drop i = u.drop i) (r : Nat) (hi : i ≤ r) (h1 : r < t.length) (h2 : r < u.length) : t[r] = u[r] := by
  have e : (t.drop i)[r - i]? = (u.drop i)[r - i]? := by rw [h]
  rw [List.getElem?_drop, List.getElem?_drop, show i + (r - i) = r from by omega, List.getElem?_eq_getElem h1, List.getElem?_eq_getElem h2] at e
  exact Option.some.inj e
theorem drop_set_one {α : Type} {t u : List α} {i : Nat} (v : α) (h : t.drop (i + 1) = u.drop (i + 1)) (h1 : i < t.length) (h2 : i < u.length) (e : v = u[i]) : (t.set i v).drop i = u.drop i := by
  rw [List.drop_eq_getElem_cons (by rw [List.length_set]; exact h1), List.drop_eq_getElem_cons h2, List.getElem_set_self, List.drop_set_of_lt (by omega), h, e]
theorem mx_nat (a b : Nat) : mx (a : Int) (b : Int) = ((max a b : Nat) : Int) := by
  unfold mx
  split <;> omega
theorem l1Most_eq (a b : Int) : spec_l1Most.f a b = some (max a b) := by
  unfold spec_l1Most.f
  split <;> simp <;> omega
theorem l1Most_nat (a b : Nat) : spec_l1Most.f (a : Int) (b : Int) = some ((max a b : Nat) : Int) := by
  rw [l1Most_eq]
  congr 1
  omega
theorem wrap_m1 (n : Nat) (h : n ≤ 4611686018427387904) : wrap64 ((n : Int) - 1) = (n : Int) - 1 := wrap64_id (by omega) (by omega)
theorem wrap_m2 (n : Nat) (h : n ≤ 4611686018427387904) : wrap64 (((n + 1 : Nat) : Int) - 1 - 1) = (n : Int) - 1 := by
  rw [wrap64_id (by omega) (by omega)]
  omega
theorem rdLL (t : List (List Int)) (i : Nat) (h : i < t.length) : rd_L2 t (i : Int) = t[i] := getD_lt t _ i h
theorem rd_lt (xs : List Int) (i : Nat) (h : i < xs.length) : rd xs (i : Int) = xs[i] := getD_lt xs 0 i h

def zeros (m : Nat) : List Int := List.replicate (m + 1) 0
theorem drop_last {α : Type} {xs : List α} {n : Nat} (h : xs.length = n + 1) : xs.drop n = [xs[n]] := by
  rw [List.drop_eq_getElem_cons (by omega), List.drop_of_length_le (by omega)]
theorem zeros_length (m : Nat) : (zeros m).length = m + 1 := by simp [zeros]
theorem zeros_drop (a b : List ByteArray) (i : Nat) : (zeros b.length).drop b.length = (tblRow a b i).drop b.length := by
  rw [drop_last (zeros_length b.length), drop_last (tblRow_length a b i), tblRow_get a b i b.length (Nat.le_refl _), lcs_drop_end a b i b.length (.inr (Nat.le_refl _))]
  simp [zeros]
theorem tblRow_end (a b : List ByteArray) : tblRow a b a.length = zeros b.length := by
  refine List.ext_getElem (by simp [tblRow, zeros]) (fun j h1 h2 => ?_)
  rw [tblRow_length] at h1
  rw [tblRow_get a b a.length j (by omega), lcs_drop_end a b a.length j (.inl (Nat.le_refl _))]
  simp [zeros]
theorem tbl_drop_end (a b : List ByteArray) : (tbl a b).drop a.length = [zeros b.length] := by
  rw [drop_last (tbl_length a b), tbl_get a b a.length (Nat.le_refl _), tblRow_end]
theorem drop_step {t : List (List Int)} {a b : List ByteArray} {i : Nat} (ht : t.length = a.length + 1) (hi : i < a.length) (hd : t.drop (i + 1) = (tbl a b).drop (i + 1)) (hr : ∀ h : i < t.length, t[i] = tblRow a b i) : t.drop i = (tbl a b).drop i := by
  have h1 : i < t.length := by omega
  have h2 : i < (tbl a b).length := by rw [tbl_length]; omega
  rw [List.drop_eq_getElem_cons h1, List.drop_eq_getElem_cons h2, hd, tbl_get a b i (by omega), hr h1]

theorem common_l1 (a b : List ByteArray) (ha : a.length ≤ 1048576) (hb : b.length ≤ 1048576) (i : Nat) (hi : i < a.length)
    (hnext : ∀ t : List (List Int), t.length = a.length + 1 → t.drop i = (tbl a b).drop i → Ev (fun k => impl_common.l0 k a b t ((i : Int) - 1)) (tbl a b)) :
    ∀ (j : Nat) (t : List (List Int)), j ≤ b.length → t.length = a.length + 1 → t.drop (i + 1) = (tbl a b).drop (i + 1) → (∀ h : i < t.length, t[i].length = b.length + 1 ∧ t[i].drop j = (tblRow a b i).drop j) →
      Ev (fun k => impl_common.l1 k a b t (i : Int) ((j : Int) - 1)) (tbl a b) := by
  intro j
  induction j with
  | zero =>
    intro t hj ht hd hr
    have hit : i < t.length := by omega
    refine Ev.step (fun k => impl_common.l1.eq_2 ..) (ev_neg (by omega) ?_)
    rw [wrap_m1 i (by omega)]
    exact hnext t ht (drop_step ht hi hd (fun h => (hr h).2))
  | succ j ih =>
    intro t hj ht hd hr
    have hit : i < t.length := by omega
    have hit1 : i + 1 < t.length := by omega
    obtain ⟨hrl, hrd⟩ := hr hit
    have hn1 : t[i + 1] = tblRow a b (i + 1) := by
      rw [get_of_drop hd (i + 1) (Nat.le_refl _) hit1 (by rw [tbl_length]; omega), tbl_get a b (i + 1) (by omega)]
    refine Ev.step (fun k => impl_common.l1.eq_2 ..) ?_
    rw [show (((j + 1 : Nat) : Int) - 1) = (j : Int) from by omega, wrap_succ i (by omega), wrap_succ j (by omega), wrap_m1 j (by omega), rdOf_lt _ _ _ hi, rdOf_lt _ _ _ (by omega : j < b.length), rdLL t i hit, rdLL t (i + 1) hit1, hn1]
    refine ev_pos (by omega) (ev_pos (by omega) (ev_pos (by omega) (ev_pos (by omega) (ev_pos (by omega) ?_))))
    have key : ∀ v : Int, v = ((lcs (a.drop i) (b.drop j) : Nat) : Int) → Ev (fun k => impl_common.l1 k a b (t.set i (t[i].set j v)) (i : Int) ((j : Int) - 1)) (tbl a b) := by
      intro v hv
      refine ih _ (by omega) (by rw [List.length_set]; exact ht) (by rw [List.drop_set_of_lt (by omega)]; exact hd) (fun h => ?_)
      rw [List.getElem_set_self]
      refine ⟨by rw [List.length_set]; exact hrl, ?_⟩
      exact drop_set_one v hrd (by omega) (by rw [tblRow_length]; omega) (by rw [hv, tblRow_get a b i j (by omega)])
    have hld := lcs_drop a b i j hi (by omega)
    have hle := lcs_le (a.drop (i + 1)) (b.drop (j + 1))
    simp only [List.length_drop] at hle
    refine ev_ite (fun h => ?_) (fun h => ?_)
    · refine ev_pos (by omega) (ev_pos (by omega) (ev_pos (by omega) (ev_pos (by omega) (ev_pos (by rw [tblRow_length]; omega) (ev_pos (by omega) ?_)))))
      refine key _ ?_
      rw [rd_lt _ _ (by rw [tblRow_length]; omega), tblRow_get a b (i + 1) (j + 1) (by omega), wrap_succ _ (by omega), hld, if_pos (ba_ext h)]
    · refine ev_pos (by omega) (ev_pos (by omega) (ev_pos (by omega) (ev_pos (by rw [tblRow_length]; omega) (ev_pos (by omega) (ev_pos (by omega) (ev_pos (by omega) ?_))))))
      refine key _ ?_
      have hc : t[i][j + 1]'(by omega) = ((lcs (a.drop i) (b.drop (j + 1)) : Nat) : Int) := by
        rw [get_of_drop hrd (j + 1) (Nat.le_refl _) (by omega) (by rw [tblRow_length]; omega), tblRow_get a b i (j + 1) (by omega)]
      rw [rd_lt _ _ (by rw [tblRow_length]; omega), tblRow_get a b (i + 1) j (by omega), rd_lt _ _ (by omega : j + 1 < t[i].length), hc, mx_nat, hld, if_neg (fun e => h (by rw [e]))]

theorem common_l0 (a b : List ByteArray) (ha : a.length ≤ 1048576) (hb : b.length ≤ 1048576) : ∀ (i : Nat) (t : List (List Int)), i ≤ a.length → t.length = a.length + 1 → t.drop i = (tbl a b).drop i →
    Ev (fun k => impl_common.l0 k a b t ((i : Int) - 1)) (tbl a b) := by
  intro i
  induction i with
  | zero =>
    intro t hi ht hd
    rw [List.drop_zero, List.drop_zero] at hd
    exact Ev.step (fun k => impl_common.l0.eq_2 ..) (ev_neg (by omega) (ev_some hd))
  | succ i ih =>
    intro t hi ht hd
    refine Ev.step (fun k => impl_common.l0.eq_2 ..) ?_
    rw [show (((i + 1 : Nat) : Int) - 1) = (i : Int) from by omega, wrap_succ b.length (by omega), wrap_m1 b.length (by omega), Int.toNat_natCast]
    refine ev_pos (by omega) (ev_pos (by omega) (ev_pos (by omega) (ev_pos (by omega) (ev_pos (by omega) ?_))))
    simp only [Int.toNat_natCast]
    refine common_l1 a b ha hb i (by omega) (fun t' h1 h2 => ih t' (by omega) h1 h2) b.length _ (Nat.le_refl _) (by rw [List.length_set]; exact ht) ?_ (fun h => ?_)
    · rw [List.drop_set_of_lt (by omega)]
      exact hd
    · rw [List.getElem_set_self]
      exact ⟨by simp, zeros_drop a b i⟩

theorem common_ev (a b : List ByteArray) (ha : a.length ≤ 1048576) (hb : b.length ≤ 1048576) : Ev (fun k => impl_common.f k a b) (tbl a b) := by
  simp only [impl_common.f]
  rw [wrap_succ a.length (by omega), wrap_succ b.length (by omega), Int.toNat_natCast, Int.toNat_natCast, Int.toNat_natCast, wrap_m1 a.length (by omega)]
  simp only [Option.bind_some]
  refine ev_pos (by omega) (ev_pos (by omega) (ev_pos (by omega) (ev_pos (by omega) (ev_pos (by omega) (ev_pos (by rw [List.length_replicate]; omega) ?_)))))
  refine common_l0 a b ha hb a.length _ (Nat.le_refl _) (by simp) ?_
  rw [tbl_drop_end, List.drop_eq_getElem_cons (by simp), List.getElem_set_self, List.drop_of_length_le (by simp)]
  rfl

theorem l3_l2 (a b : List ByteArray) (ha : a.length ≤ 1048576) (hb : b.length ≤ 1048576) (i : Nat) (hi : i < a.length)
    (hnext : ∀ t : List (List Int), t.length = a.length + 1 → t.drop i = (tbl a b).drop i → (∀ r (h : r < t.length), r < i → t[r] = zeros b.length) → Ev (fun k => spec_l3Table.l1 k a b t ((i : Int) - 1)) (tbl a b)) :
    ∀ (j : Nat) (t : List (List Int)), j ≤ b.length → t.length = a.length + 1 → t.drop (i + 1) = (tbl a b).drop (i + 1) → (∀ r (h : r < t.length), r < i → t[r] = zeros b.length) → (∀ h : i < t.length, t[i].length = b.length + 1 ∧ t[i].drop j = (tblRow a b i).drop j) →
      Ev (fun k => spec_l3Table.l2 k a b t (i : Int) ((j : Int) - 1)) (tbl a b) := by
  intro j
  induction j with
  | zero =>
    intro t hj ht hd hz hr
    have hit : i < t.length := by omega
    refine Ev.step (fun k => spec_l3Table.l2.eq_2 ..) (ev_neg (by omega) ?_)
    rw [wrap_m1 i (by omega)]
    exact hnext t ht (drop_step ht hi hd (fun h => (hr h).2)) hz
  | succ j ih =>
    intro t hj ht hd hz hr
    have hit : i < t.length := by omega
    have hit1 : i + 1 < t.length := by omega
    obtain ⟨hrl, hrd⟩ := hr hit
    have hn1 : t[i + 1] = tblRow a b (i + 1) := by
      rw [get_of_drop hd (i + 1) (Nat.le_refl _) hit1 (by rw [tbl_length]; omega), tbl_get a b (i + 1) (by omega)]
    have hc : t[i][j + 1]'(by omega) = ((lcs (a.drop i) (b.drop (j + 1)) : Nat) : Int) := by
      rw [get_of_drop hrd (j + 1) (Nat.le_refl _) (by omega) (by rw [tblRow_length]; omega), tblRow_get a b i (j + 1) (by omega)]
    have hld := lcs_drop_spec a b i j hi (by omega)
    have hle := lcs_le (a.drop (i + 1)) (b.drop (j + 1))
    simp only [List.length_drop] at hle
    have key : ∀ v : Int, v = ((lcs (a.drop i) (b.drop j) : Nat) : Int) → ∀ u : Int, Ev (fun k => spec_l3Table.l2 k a b ((t.set i (t[i].set j u)).set i ((t[i].set j u).set j v)) (i : Int) ((j : Int) - 1)) (tbl a b) := by
      intro v hv u
      rw [List.set_set, List.set_set]
      refine ih _ (by omega) (by rw [List.length_set]; exact ht) (by rw [List.drop_set_of_lt (by omega)]; exact hd) (fun r h hri => ?_) (fun h => ?_)
      · rw [List.getElem_set_ne (by omega)]
        exact hz r (by rw [List.length_set] at h; exact h) hri
      · rw [List.getElem_set_self]
        refine ⟨by rw [List.length_set]; exact hrl, ?_⟩
        exact drop_set_one v hrd (by omega) (by rw [tblRow_length]; omega) (by rw [hv, tblRow_get a b i j (by omega)])
    have key1 : ∀ v : Int, v = ((lcs (a.drop i) (b.drop j) : Nat) : Int) → Ev (fun k => spec_l3Table.l2 k a b (t.set i (t[i].set j v)) (i : Int) ((j : Int) - 1)) (tbl a b) := by
      intro v hv
      have := key v hv v
      rw [List.set_set, List.set_set] at this
      exact this
    refine Ev.step (fun k => spec_l3Table.l2.eq_2 ..) ?_
    rw [show (((j + 1 : Nat) : Int) - 1) = (j : Int) from by omega, wrap_succ i (by omega), wrap_succ j (by omega), wrap_m1 j (by omega), rdOf_lt _ _ _ hi, rdOf_lt _ _ _ (by omega : j < b.length), rdLL t i hit, rdLL t (i + 1) hit1, hn1]
    rw [rd_lt _ _ (by rw [tblRow_length]; omega : j < (tblRow a b (i + 1)).length), tblRow_get a b (i + 1) j (by omega), rd_lt _ _ (by omega : j + 1 < t[i].length), hc, l1Most_nat, Int.toNat_natCast, Int.toNat_natCast]
    simp only [Option.bind_some]
    refine ev_pos (by omega) (ev_pos (by omega) (ev_pos (by omega) (ev_pos (by omega) (ev_pos (by omega) (ev_pos (by omega) (ev_pos (by rw [tblRow_length]; omega) (ev_pos (by omega) (ev_pos (by omega) (ev_pos (by omega) (ev_pos (by omega) (ev_pos (by omega) ?_)))))))))))
    generalize hu : ((max (lcs (a.drop (i + 1)) (b.drop j)) (lcs (a.drop i) (b.drop (j + 1))) : Nat) : Int) = u at *
    refine ev_ite (fun h => ?_) (fun h => ?_)
    · have e1 : rd_L2 (t.set i (t[i].set j u)) (i : Int) = t[i].set j u := by rw [rdLL _ _ (by rw [List.length_set]; exact hit), List.getElem_set_self]
      have e2 : rd_L2 (t.set i (t[i].set j u)) ((i + 1 : Nat) : Int) = tblRow a b (i + 1) := by rw [rdLL _ _ (by rw [List.length_set]; exact hit1), List.getElem_set_ne (by omega), hn1]
      rw [e1, e2]
      refine ev_pos (by rw [List.length_set]; omega) (ev_pos (by rw [tblRow_length]; omega) ?_)
      rw [rd_lt _ _ (by rw [List.length_set]; omega), List.getElem_set_self, rd_lt _ _ (by rw [tblRow_length]; omega), tblRow_get a b (i + 1) (j + 1) (by omega), wrap_succ _ (by omega), ← hu, l1Most_nat, hu]
      simp only [Option.bind_some]
      refine key _ ?_ u
      rw [hld, if_pos (ba_ext h)]
    · refine key1 _ ?_
      rw [hld, if_neg (fun e => h (by rw [e])), hu]

theorem l3_l1 (a b : List ByteArray) (ha : a.length ≤ 1048576) (hb : b.length ≤ 1048576) : ∀ (i : Nat) (t : List (List Int)), i ≤ a.length → t.length = a.length + 1 → t.drop i = (tbl a b).drop i → (∀ r (h : r < t.length), r < i → t[r] = zeros b.length) →
    Ev (fun k => spec_l3Table.l1 k a b t ((i : Int) - 1)) (tbl a b) := by
  intro i
  induction i with
  | zero =>
    intro t hi ht hd hz
    rw [List.drop_zero, List.drop_zero] at hd
    exact Ev.step (fun k => spec_l3Table.l1.eq_2 ..) (ev_neg (by omega) (ev_some hd))
  | succ i ih =>
    intro t hi ht hd hz
    refine Ev.step (fun k => spec_l3Table.l1.eq_2 ..) ?_
    rw [show (((i + 1 : Nat) : Int) - 1) = (i : Int) from by omega, wrap_m1 b.length (by omega)]
    refine ev_pos (by omega) ?_
    refine l3_l2 a b ha hb i (by omega) (fun t' h1 h2 h3 => ih t' (by omega) h1 h2 h3) b.length t (Nat.le_refl _) ht hd (fun r h hr => hz r h (by omega)) (fun h => ?_)
    rw [hz i h (by omega)]
    exact ⟨by simp [zeros], zeros_drop a b i⟩

theorem l3_l0 (a b : List ByteArray) (ha : a.length ≤ 1048576) (hb : b.length ≤ 1048576) : ∀ d (i : Nat) (t : List (List Int)), i + d = a.length + 1 → t.length = a.length + 1 → (∀ r (h : r < t.length), r < i → t[r] = zeros b.length) →
    Ev (fun k => spec_l3Table.l0 k a b t ((a.length + 1 : Nat) : Int) (i : Int)) (tbl a b) := by
  intro d
  induction d with
  | zero =>
    intro i t hi ht hz
    refine Ev.step (fun k => spec_l3Table.l0.eq_2 ..) (ev_neg (by omega) ?_)
    rw [wrap_m1 a.length (by omega)]
    refine l3_l1 a b ha hb a.length t (Nat.le_refl _) ht ?_ (fun r h hr => hz r h (by omega))
    rw [tbl_drop_end, List.drop_eq_getElem_cons (by omega), hz a.length (by omega) (by omega), List.drop_of_length_le (by omega)]
  | succ d ih =>
    intro i t hi ht hz
    refine Ev.step (fun k => spec_l3Table.l0.eq_2 ..) ?_
    rw [wrap_succ b.length (by omega), wrap_succ i (by omega), Int.toNat_natCast, Int.toNat_natCast]
    refine ev_pos (by omega) (ev_pos (by omega) (ev_pos (by omega) (ev_pos (by omega) (ev_pos (by omega) ?_))))
    refine ih (i + 1) _ (by omega) (by rw [List.length_set]; exact ht) (fun r h hr => ?_)
    by_cases e : r = i
    · subst e
      rw [List.getElem_set_self]
      rfl
    · rw [List.getElem_set_ne (by omega)]
      exact hz r (by rw [List.length_set] at h; exact h) (by omega)

theorem l3Table_ev (a b : List ByteArray) (ha : a.length ≤ 1048576) (hb : b.length ≤ 1048576) : Ev (fun k => spec_l3Table.f k a b) (tbl a b) := by
  simp only [spec_l3Table.f]
  rw [wrap_succ a.length (by omega), Int.toNat_natCast]
  simp only [Option.bind_some, List.length_replicate]
  refine ev_pos (by omega) (ev_pos (by omega) ?_)
  exact l3_l0 a b ha hb (a.length + 1) 0 _ (by omega) (by simp) (fun r h hr => absurd hr (by omega))

theorem tbl_len0 (a b : List ByteArray) : (0 : Int) < ((tbl a b).length : Int) := by rw [tbl_length]; omega
theorem tbl_row0 (a b : List ByteArray) : rd_L2 (tbl a b) 0 = tblRow a b 0 := by
  have := rdLL (tbl a b) 0 (by rw [tbl_length]; omega)
  rw [tbl_get a b 0 (by omega)] at this
  exact this
theorem tbl_00 (a b : List ByteArray) : rd (rd_L2 (tbl a b) 0) 0 = ((lcs a b : Nat) : Int) := by
  rw [tbl_row0]
  have := rd_lt (tblRow a b 0) 0 (by rw [tblRow_length]; omega)
  rw [tblRow_get a b 0 0 (by omega), List.drop_zero, List.drop_zero] at this
  exact this
theorem tbl_row0_len (a b : List ByteArray) : (0 : Int) < ((rd_L2 (tbl a b) 0).length : Int) := by rw [tbl_row0, tblRow_length]; omega
end Go.Proofs.Ytlhpkapbaijnhaa.Pl

/- Plain Lean: whether a number lies between two. No condition. -/
namespace Go.Proofs.Ytlhpkapbaijnhaa.Pl
open Go.RowKit Go.Proofs.YtlhpkapbaijnhaaW.PrintWords Go.Proofs.YtlhpkapbaijnhaaW.PrintLast Go.Proofs.Ytlhpkapbaijnhaa.My
set_option linter.unusedVariables false
set_option linter.unusedSimpArgs false

def inB (n lo hi : Int) : Bool := decide (lo ≤ n) && decide (n ≤ hi)
theorem inB_iff (a b c : Int) : inB a b c = true ↔ b ≤ a ∧ a ≤ c := by
  unfold inB
  rw [Bool.and_eq_true, decide_eq_true_eq, decide_eq_true_eq]
theorem impl_in_eq (a b c : Int) : impl_in.f a b c = some (inB a b c) := by
  unfold impl_in.f inB
  by_cases h : b ≤ a
  · rw [if_pos h]; simp [h]
  · rw [if_neg (by omega)]; simp [h]
theorem spec_l1In_eq (a b c : Int) : spec_l1In.f a b c = some (inB a b c) := by
  unfold spec_l1In.f inB
  by_cases h : b ≤ a
  · rw [if_pos h]; simp [h]
  · rw [if_neg (by omega)]; simp [h]
end Go.Proofs.Ytlhpkapbaijnhaa.Pl

/- Plain Lean: chapter 1: what a line and good lines are, for the program and the reference. Conditions: lengths and sizes below 2^63. -/
namespace Go.Proofs.Ytlhpkapbaijnhaa.Pl
open Go.RowKit Go.Proofs.YtlhpkapbaijnhaaW.PrintWords Go.Proofs.YtlhpkapbaijnhaaW.PrintLast Go.Proofs.Ytlhpkapbaijnhaa.My
set_option linter.unusedVariables false
set_option linter.unusedSimpArgs false

/-- A line. -/
def isLn (s : ByteArray) : Bool := !(s.data.toList.dropLast.contains 10) && inB s.size 1 30
/-- Its last byte is 10. -/
def ends (s : ByteArray) : Bool := s.data.toList.getLast? == some 10
def good (l : List ByteArray) : Bool := decide (l.length ≤ 40) && (l.all isLn && l.dropLast.all ends)

theorem toList_one (c : UInt8) : (⟨#[c]⟩ : ByteArray).toList = [c] := by rw [Lib.toList_data]
theorem size_one (c : UInt8) : (⟨#[c]⟩ : ByteArray).size = 1 := rfl
theorem bt_one (c : UInt8) : bt ⟨#[c]⟩ 0 = (c.toNat : Int) := rfl

theorem index_ev (s : ByteArray) (c : UInt8) : Ev (fun k => strings_Index.f k s ⟨#[c]⟩) (Lib.indexByte s.data.toList c) := by
  have hj : ∀ b : Bool, (b = true → Lib.indexByte s.data.toList c = 0) → Ev (fun k => stringslite_Index.j0 k s ⟨#[c]⟩ 1 b) (Lib.indexByte s.data.toList c) := by
    intro b hb
    refine Ev.step (fun k => stringslite_Index.j0.eq_2 ..) ?_
    refine ev_ite (fun h => ev_some (hb h).symm) (fun _ => ?_)
    refine ev_pos rfl (ev_pos (by rw [size_one]; decide) ?_)
    refine ev_const ?_
    rw [bt_one]
    simp [stringslite_IndexByte.f]
  have h2 : Ev (fun k => stringslite_Index.f k s ⟨#[c]⟩) (Lib.indexByte s.data.toList c) := by
    simp only [stringslite_Index.f]
    refine ev_neg (by rw [size_one]; decide) ?_
    refine hj _ (fun h => ?_)
    have e : s.data.toList = [c] := by
      have := beq_iff_eq.1 h
      rw [toList_one, Lib.toList_data] at this
      exact this.symm
    rw [e]
    simp [Lib.indexByte]
  simp only [strings_Index.f]
  exact ev_bind h2 (ev_some rfl)

theorem indexByte_nonneg (l : List UInt8) (c : UInt8) : decide (Lib.indexByte l c ≥ 0) = l.contains c := by
  induction l with
  | nil => simp [Lib.indexByte]
  | cons b l ih =>
    have hge := Lib.indexByte_ge l c
    unfold Lib.indexByte
    by_cases h : (b == c) = true
    · have : b = c := beq_iff_eq.1 h
      simp [this]
    · have hb : (b == c) = false := by simpa using h
      have hne : ¬ c = b := fun e => h (by simp [e])
      rw [List.contains_cons, ← ih]
      simp only [hb]
      by_cases h2 : Lib.indexByte l c = -1
      · simp [h2, hne]
      · have h3 : (Lib.indexByte l c == -1) = false := by simpa using h2
        simp only [h3]
        have : Lib.indexByte l c ≥ 0 := by omega
        simp [hne, this]
        omega

theorem contains_ev (s : ByteArray) (c : UInt8) : Ev (fun k => strings_Contains.f k s ⟨#[c]⟩) (s.data.toList.contains c) := by
  simp only [strings_Contains.f]
  exact ev_bind (index_ev s c) (ev_some (indexByte_nonneg _ _))

theorem extract_data (s : ByteArray) (a b : Nat) : (s.extract a b).data.toList = (s.data.toList.take b).drop a := by
  rw [ByteArray.data_extract, Array.toList_extract, List.extract_eq_take_drop, ← List.drop_take]

theorem isLine_ev (s : ByteArray) (hs : s.size ≤ 9223372036854775807) : Ev (fun k => impl_isLine.f k s) (isLn s) := by
  simp only [impl_isLine.f, impl_in_eq, Option.bind_some]
  refine ev_ite (fun h => ?_) (fun h => ev_some (by unfold isLn; simp at h; simp [h]))
  have h1 : 1 ≤ s.size ∧ s.size ≤ 30 := by
    simp [inB] at h
    omega
  rw [wrap_pred s.size (by omega) hs]
  refine ev_pos (by omega) (ev_pos (by omega) ?_)
  refine ev_bind (contains_ev _ 10) (ev_some ?_)
  rw [Int.toNat_natCast, extract_data, List.drop_zero, ← data_length, ← List.dropLast_eq_take]
  unfold isLn
  rw [h]
  simp

theorem l1Line_l0 (s : ByteArray) (hs : s.size ≤ 9223372036854775807) : ∀ d i, i + d = s.size - 1 → Ev (fun k => spec_l1Line.l0 k s (i : Int)) (!((s.data.toList.dropLast.drop i).contains 10) && inB s.size 1 30) := by
  intro d
  have hl : s.data.toList.length = s.size := data_length s
  induction d with
  | zero =>
    intro i hi
    refine Ev.step (fun k => spec_l1Line.l0.eq_2 ..) ?_
    refine ev_neg (by rw [wrap64_id (by omega) (by omega)]; omega) ?_
    refine ev_const ?_
    rw [spec_l1In_eq, List.drop_of_length_le (by rw [List.length_dropLast]; omega)]
    rfl
  | succ d ih =>
    intro i hi
    refine Ev.step (fun k => spec_l1Line.l0.eq_2 ..) ?_
    refine ev_pos (by rw [wrap64_id (by omega) (by omega)]; omega) (ev_pos (by omega) (ev_pos (by omega) ?_))
    have hd : s.data.toList.dropLast.drop i = s.data.toList[i] :: s.data.toList.dropLast.drop (i + 1) := by
      rw [List.drop_eq_getElem_cons (by rw [List.length_dropLast]; omega), List.getElem_dropLast]
    rw [hd, List.contains_cons, bt_nat s i (by omega)]
    refine ev_ite (fun h => ev_some ?_) (fun h => ?_)
    · have : s.data.toList[i] = 10 := u8_eq h
      rw [this]
      simp
    · rw [wrap_succ i (by omega)]
      refine ev_to (ih (i + 1) (by omega)) ?_
      have : ((10 : UInt8) == s.data.toList[i]) = false := by
        rw [beq_eq_false_iff_ne]
        exact u8_ne h
      rw [this, Bool.false_or]

theorem l1Line_ev (s : ByteArray) (hs : s.size ≤ 9223372036854775807) : Ev (fun k => spec_l1Line.f k s) (isLn s) := by
  simp only [spec_l1Line.f]
  exact l1Line_l0 s hs (s.size - 1) 0 (by omega)

theorem isLn_size {s : ByteArray} (h : isLn s = true) : 1 ≤ s.size ∧ s.size ≤ 30 := by
  simp [isLn, inB] at h
  omega

theorem ends_last {s : ByteArray} (h : 1 ≤ s.size) : ends s = (bt s ((s.size - 1 : Nat) : Int) == 10) := by
  have hl : s.data.toList.length = s.size := data_length s
  have hq : s.data.toList.getLast? = some (s.data.toList[s.size - 1]'(by omega)) := by
    rw [List.getLast?_eq_getElem?, List.getElem?_eq_getElem (by omega)]
    simp only [hl]
  unfold ends
  rw [bt_nat s _ (by omega), hq]
  rw [Bool.eq_iff_iff]
  simp only [beq_iff_eq, Option.some.injEq]
  constructor
  · intro e; rw [e]; rfl
  · intro e; exact u8_eq e

theorem l1Ends_eq (s : ByteArray) (h : 1 ≤ s.size) (hs : s.size ≤ 9223372036854775807) : spec_l1Ends.f s = some (ends s) := by
  unfold spec_l1Ends.f
  rw [wrap_pred s.size (by omega) hs, if_pos (by omega), if_pos (by omega), ends_last h]

theorem hasSuffix_eq (s : ByteArray) (c : UInt8) (hs : s.size ≤ 9223372036854775807) : strings_HasSuffix.f s ⟨#[c]⟩ = some (s.data.toList.getLast? == some c) := by
  have hl : s.data.toList.length = s.size := data_length s
  unfold strings_HasSuffix.f stringslite_HasSuffix.f
  rw [size_one]
  by_cases h : 1 ≤ s.size
  · rw [if_pos (by omega), show ((1 : Nat) : Int) = 1 from rfl, wrap_pred s.size (by omega) hs, if_pos (by omega), if_pos (by omega), Option.bind_some, toList_one, Lib.toList_data, Int.toNat_natCast, extract_data, ← hl, List.take_length]
    have e : s.data.toList.drop (s.data.toList.length - 1) = [s.data.toList[s.data.toList.length - 1]'(by omega)] := by
      rw [List.drop_eq_getElem_cons (by omega), List.drop_of_length_le (by omega)]
    rw [e, List.getLast?_eq_getElem?, List.getElem?_eq_getElem (by omega)]
    congr 1
    rw [Bool.eq_iff_iff]
    simp
  · rw [if_neg (by omega), Option.bind_some]
    have : s.data.toList = [] := List.eq_nil_of_length_eq_zero (by omega)
    simp [this]

theorem isEnded_eq (s : ByteArray) (hs : s.size ≤ 9223372036854775807) : impl_isEnded.f s = some (ends s) := by
  unfold impl_isEnded.f
  rw [hasSuffix_eq s 10 hs]
  rfl

theorem areLines_l0 (l : List ByteArray) (hf : FitS l) : ∀ d i, i + d = l.length → ∃ j : Int, Ev (fun k => slices_IndexFunc_string_string__impl_areLines_1.l0 k l (l.length : Int) (i : Int)) j ∧ decide (j ≥ 0) = !((l.drop i).all isLn) := by
  intro d
  induction d with
  | zero =>
    intro i hi
    refine ⟨-1, Ev.step (fun k => slices_IndexFunc_string_string__impl_areLines_1.l0.eq_2 ..) (ev_neg (by omega) (ev_some rfl)), ?_⟩
    rw [List.drop_of_length_le (by omega)]
    rfl
  | succ d ih =>
    intro i hi
    have hlt : i < l.length := by omega
    have hev : Ev (fun k => impl_areLines_1.f k (rdOf ByteArray.empty l (i : Int))) (!isLn l[i]) := by
      rw [rdOf_lt _ _ _ hlt]
      simp only [impl_areLines_1.f]
      exact ev_bind (isLine_ev _ (hf.2 _ (List.getElem_mem _))) (ev_some rfl)
    obtain ⟨j, hj, hjj⟩ := ih (i + 1) (by omega)
    rw [drop_cons l i hlt, List.all_cons]
    by_cases h : isLn l[i] = true
    · refine ⟨j, Ev.step (fun k => slices_IndexFunc_string_string__impl_areLines_1.l0.eq_2 ..) (ev_pos (by omega) (ev_pos (by omega) (ev_pos (by omega) (ev_bind hev (ev_neg (by simp [h]) ?_))))), by rw [hjj, h]; simp⟩
      rw [wrap_succ i (by have := hf.1; omega)]
      exact hj
    · refine ⟨(i : Int), Ev.step (fun k => slices_IndexFunc_string_string__impl_areLines_1.l0.eq_2 ..) (ev_pos (by omega) (ev_pos (by omega) (ev_pos (by omega) (ev_bind hev (ev_pos (by simp [h]) (ev_some rfl)))))), ?_⟩
      simp [h]

theorem areLines_ev (l : List ByteArray) (hf : FitS l) : Ev (fun k => impl_areLines.f k l) (decide (l.length ≤ 40) && l.all isLn) := by
  simp only [impl_areLines.f]
  refine ev_ite (fun h => ?_) (fun h => ev_some ?_)
  · obtain ⟨j, hj, hjj⟩ := areLines_l0 l hf l.length 0 (by omega)
    simp only [slices_ContainsFunc_string_string__impl_areLines_1.f, slices_IndexFunc_string_string__impl_areLines_1.f]
    refine ev_bind (ev_bind hj (ev_some rfl)) (ev_some ?_)
    have : l.length ≤ 40 := by omega
    rw [hjj]
    simp [this]
  · have : ¬ l.length ≤ 40 := by omega
    simp [this]

theorem goodLines_l0 (l : List ByteArray) (hf : FitS l) : ∀ d i, i + d = l.length → Ev (fun k => impl_goodLines.l0 k l l (l.length : Int) (i : Int)) ((l.dropLast.drop i).all ends) := by
  intro d
  have hL := hf.1
  induction d with
  | zero =>
    intro i hi
    refine Ev.step (fun k => impl_goodLines.l0.eq_2 ..) (ev_neg (by omega) (ev_some ?_))
    rw [List.drop_of_length_le (by rw [List.length_dropLast]; omega)]
    rfl
  | succ d ih =>
    intro i hi
    have hlt : i < l.length := by omega
    refine Ev.step (fun k => impl_goodLines.l0.eq_2 ..) (ev_pos (by omega) (ev_pos (by omega) (ev_pos (by omega) ?_)))
    rw [wrap_pred l.length (by omega) hL, rdOf_lt _ _ _ hlt, isEnded_eq _ (hf.2 _ (List.getElem_mem _)), wrap_succ i (by omega)]
    simp only [Option.bind_some]
    refine ev_ite (fun h => ?_) (fun h => ?_)
    · have hd : l.dropLast.drop i = l[i] :: l.dropLast.drop (i + 1) := by
        rw [List.drop_eq_getElem_cons (by rw [List.length_dropLast]; omega), List.getElem_dropLast]
      rw [hd, List.all_cons]
      refine ev_ite (fun h => ?_) (fun h => ev_some (by simp [h]))
      rw [h, Bool.true_and]
      exact ih (i + 1) (by omega)
    · have e1 : l.dropLast.drop i = [] := List.drop_of_length_le (by rw [List.length_dropLast]; omega)
      have e2 : l.dropLast.drop (i + 1) = [] := List.drop_of_length_le (by rw [List.length_dropLast]; omega)
      have := ih (i + 1) (by omega)
      rw [e2] at this
      rw [e1]
      exact this

theorem goodLines_ev (l : List ByteArray) (hf : FitS l) : Ev (fun k => impl_goodLines.f k l) (good l) := by
  simp only [impl_goodLines.f]
  refine ev_bind (areLines_ev l hf) (ev_ite (fun h => ?_) (fun h => ev_some ?_))
  · refine ev_to (goodLines_l0 l hf l.length 0 (by omega)) ?_
    rw [List.drop_zero]
    unfold good
    rw [← Bool.and_assoc, h, Bool.true_and]
  · unfold good
    rw [← Bool.and_assoc]
    simp at h
    simp
    intro h1 h2
    exact absurd (h h1) (by simpa using h2)

theorem l1Good_l0 (l : List ByteArray) (hf : FitS l) : ∀ d i, i + d = l.length → Ev (fun k => spec_l1Good.l0 k l l (l.length : Int) (i : Int)) ((l.drop i).all isLn && (l.dropLast.drop i).all ends && decide (l.length ≤ 40)) := by
  intro d
  have hL := hf.1
  induction d with
  | zero =>
    intro i hi
    refine Ev.step (fun k => spec_l1Good.l0.eq_2 ..) (ev_neg (by omega) (ev_some ?_))
    rw [List.drop_of_length_le (by omega), List.drop_of_length_le (by rw [List.length_dropLast]; omega)]
    simp
    omega
  | succ d ih =>
    intro i hi
    have hlt : i < l.length := by omega
    refine Ev.step (fun k => spec_l1Good.l0.eq_2 ..) (ev_pos (by omega) (ev_pos (by omega) (ev_pos (by omega) ?_)))
    simp only [rdOf_lt _ _ _ hlt]
    rw [wrap_pred l.length (by omega) hL, wrap_succ i (by omega), drop_cons l i hlt, List.all_cons]
    refine ev_bind (l1Line_ev _ (hf.2 _ (List.getElem_mem _))) (ev_ite (fun h => ?_) (fun h => ev_some (by simp [h])))
    rw [h, Bool.true_and, l1Ends_eq _ (isLn_size h).1 (hf.2 _ (List.getElem_mem _))]
    simp only [Option.bind_some]
    refine ev_ite (fun h => ?_) (fun h => ?_)
    · have hd : l.dropLast.drop i = l[i] :: l.dropLast.drop (i + 1) := by
        rw [List.drop_eq_getElem_cons (by rw [List.length_dropLast]; omega), List.getElem_dropLast]
      rw [hd, List.all_cons]
      refine ev_ite (fun h => ?_) (fun h => ev_some (by simp [h]))
      rw [h, Bool.true_and]
      exact ih (i + 1) (by omega)
    · have e1 : l.dropLast.drop i = [] := List.drop_of_length_le (by rw [List.length_dropLast]; omega)
      have e2 : l.dropLast.drop (i + 1) = [] := List.drop_of_length_le (by rw [List.length_dropLast]; omega)
      have := ih (i + 1) (by omega)
      rw [e2] at this
      rw [e1]
      exact this

theorem l1Good_ev (l : List ByteArray) (hf : FitS l) : Ev (fun k => spec_l1Good.f k l) (good l) := by
  simp only [spec_l1Good.f]
  refine ev_to (l1Good_l0 l hf l.length 0 (by omega)) ?_
  rw [List.drop_zero, List.drop_zero]
  unfold good
  rw [Bool.and_comm]
end Go.Proofs.Ytlhpkapbaijnhaa.Pl

/- Plain Lean: answers where both are good lines. No condition. -/
namespace Go.Proofs.Ytlhpkapbaijnhaa.Pl
open Go.RowKit Go.Proofs.YtlhpkapbaijnhaaW.PrintWords Go.Proofs.YtlhpkapbaijnhaaW.PrintLast Go.Proofs.Ytlhpkapbaijnhaa.My
set_option linter.unusedVariables false
set_option linter.unusedSimpArgs false

/-- Where both are good lines. -/
def both {α : Type} (a b : List ByteArray) (z v : α) : α × Bool := if good a = true then (if good b = true then (v, true) else (z, false)) else (z, false)

theorem good_len {l : List ByteArray} (h : good l = true) : l.length ≤ 40 := by
  unfold good at h
  rw [Bool.and_eq_true] at h
  exact of_decide_eq_true h.1

theorem both_ev {α : Type} {G : Nat → List ByteArray → Option Bool} {F : Nat → Option α} {a b : List ByteArray} {z v : α} (hg : ∀ l, FitS l → Ev (fun k => G k l) (good l)) (fa : FitS a) (fb : FitS b) (hF : good a = true → good b = true → Ev F v) :
    Ev (fun k => (G k a).bind fun t => (if t = true then ((G k b).bind fun t' => (if t' = true then ((F k).bind fun x => (some (x, true))) else (some (z, false)))) else (some (z, false)))) (both a b z v) := by
  unfold both
  refine ev_bind (hg a fa) (ev_ite (fun h => ?_) (fun h => ev_some (by rw [if_neg h])))
  rw [if_pos h]
  refine ev_bind (hg b fb) (ev_ite (fun h' => ?_) (fun h' => ev_some (by rw [if_neg h'])))
  rw [if_pos h']
  exact ev_bind (hF h h') (ev_some rfl)
end Go.Proofs.Ytlhpkapbaijnhaa.Pl

/- Plain Lean: the least pairs of places of a longest list that two texts share. Asked: texts of at most 2^20 lines. -/
namespace Go.Proofs.Ytlhpkapbaijnhaa.Pl
open Go.RowKit Go.Proofs.YtlhpkapbaijnhaaW.PrintWords Go.Proofs.YtlhpkapbaijnhaaW.PrintLast Go.Proofs.Ytlhpkapbaijnhaa.My
set_option linter.unusedVariables false
set_option linter.unusedSimpArgs false
abbrev IQ := S49
def toIQ (z : Nat × Nat) : IQ := ⟨(z.1 : Int), (z.2 : Int)⟩
def toLi (z : Nat × Nat) : List Int := [(z.1 : Int), (z.2 : Int)]
section
variable (a b : List ByteArray)
/-- What both share from two places on. -/
def Lc (i j : Nat) : Nat := lcs (a.drop i) (b.drop j)
def hit (p n k : Nat) : Bool := decide (a[p]? = b[k]?) && decide (Lc a b (p + 1) (k + 1) = n)
/-- The first place from k on, of e that are left. -/
def firstQ (p n : Nat) : Nat → Nat → Option Nat
  | _, 0 => none
  | k, e + 1 => if hit a b p n k = true then some k else firstQ p n (k + 1) e
def pairs : Nat → Nat → Nat → Nat → List (Nat × Nat)
  | 0, _, _, _ => []
  | d + 1, p, j, n => if n = 0 then [] else match firstQ a b p (n - 1) j (b.length - j) with
    | some k => (p, k) :: pairs d (p + 1) (k + 1) (n - 1)
    | none => pairs d (p + 1) j n
/-- The first pair from p on. -/
def best (n j : Nat) : Nat → Nat → Nat × Nat
  | _, 0 => (a.length, b.length)
  | p, d + 1 => match firstQ a b p n j (b.length - j) with
    | some k => (p, k)
    | none => best n j (p + 1) d
theorem firstQ_some : ∀ (e p n k r : Nat), firstQ a b p n k e = some r → k ≤ r ∧ r < k + e ∧ hit a b p n r = true
  | 0, _, _, _, _, h => by cases h
  | e + 1, p, n, k, r, h => by
    simp only [firstQ] at h
    split at h
    · rename_i c
      injection h with h
      subst h
      exact ⟨Nat.le_refl _, by omega, c⟩
    · have := firstQ_some e p n (k + 1) r h
      exact ⟨by omega, by omega, this.2.2⟩
theorem firstQ_hit : ∀ (e p n k q : Nat), k ≤ q → q < k + e → hit a b p n q = true → ∃ r, firstQ a b p n k e = some r
  | 0, _, _, _, _, h1, h2, _ => by omega
  | e + 1, p, n, k, q, h1, h2, hq => by
    simp only [firstQ]
    by_cases c : hit a b p n k = true
    · exact ⟨k, if_pos c⟩
    · rw [if_neg c]
      have : k ≠ q := fun e => c (e ▸ hq)
      exact firstQ_hit e p n (k + 1) q (by omega) (by omega) hq
theorem pairs_best : ∀ (d p j n : Nat), (∃ q, q < d ∧ ∃ k, j ≤ k ∧ k < b.length ∧ hit a b (p + q) n k = true) → p + d = a.length →
    let z := best a b n j p d
    p ≤ z.1 ∧ z.1 < a.length ∧ j ≤ z.2 ∧ z.2 < b.length ∧ hit a b z.1 n z.2 = true ∧ pairs a b d p j (n + 1) = z :: pairs a b (a.length - (z.1 + 1)) (z.1 + 1) (z.2 + 1) n
  | 0, _, _, _, h, _ => by obtain ⟨q, h1, _⟩ := h; omega
  | d + 1, p, j, n, h, hp => by
    simp only [best, pairs]
    rw [if_neg (by omega), Nat.add_sub_cancel]
    cases hf : firstQ a b p n j (b.length - j) with
    | some k =>
      have h3 := firstQ_some a b _ _ _ _ _ hf
      dsimp only
      refine ⟨Nat.le_refl _, by omega, h3.1, by omega, h3.2.2, ?_⟩
      rw [show a.length - (p + 1) = d from by omega]
    | none =>
      obtain ⟨q, hq, k, hk1, hk2, hk3⟩ := h
      have hq0 : q ≠ 0 := by
        rintro rfl
        obtain ⟨r, hr⟩ := firstQ_hit a b (b.length - j) p n j k hk1 (by omega) (by simpa using hk3)
        rw [hf] at hr
        cases hr
      have ih := pairs_best d (p + 1) j n ⟨q - 1, by omega, k, hk1, hk2, by rw [show p + 1 + (q - 1) = p + q from by omega]; exact hk3⟩ (by omega)
      dsimp only at ih ⊢
      refine ⟨by have := ih.1; omega, ih.2⟩
theorem hit_exists : ∀ (s t : List ByteArray) (n : Nat), lcs s t = n + 1 → ∃ (p k : Nat) (x : ByteArray), s[p]? = some x ∧ t[k]? = some x ∧ lcs (s.drop (p + 1)) (t.drop (k + 1)) = n
  | [], t, n, h => by rw [lcs_nil_l] at h; cases h
  | x :: s, [], n, h => by rw [lcs_nil_r] at h; cases h
  | x :: s, y :: t, n, h => by
    rw [lcs_cons] at h
    split at h
    · rename_i e
      subst e
      exact ⟨0, 0, x, rfl, rfl, by simpa using h⟩
    · rcases Nat.le_total (lcs s (y :: t)) (lcs (x :: s) t) with hm | hm
      · rw [Nat.max_eq_right hm] at h
        obtain ⟨p, k, z, h1, h2, h3⟩ := hit_exists (x :: s) t n h
        exact ⟨p, k + 1, z, h1, by simpa using h2, by simpa using h3⟩
      · rw [Nat.max_eq_left hm] at h
        obtain ⟨p, k, z, h1, h2, h3⟩ := hit_exists s (y :: t) n h
        exact ⟨p + 1, k, z, by simpa using h1, h2, by simpa using h3⟩
theorem hit_from (i j n : Nat) (hi : i ≤ a.length) (h : Lc a b i j = n + 1) : ∃ q, q < a.length - i ∧ ∃ k, j ≤ k ∧ k < b.length ∧ hit a b (i + q) n k = true := by
  obtain ⟨p, k, x, h1, h2, h3⟩ := hit_exists (a.drop i) (b.drop j) n h
  rw [List.getElem?_drop] at h1 h2
  rw [List.drop_drop, List.drop_drop] at h3
  have p1 := (List.getElem?_eq_some_iff.1 h1).1
  have p2 := (List.getElem?_eq_some_iff.1 h2).1
  refine ⟨p, by omega, j + k, by omega, by omega, ?_⟩
  unfold hit Lc
  rw [h1, h2, decide_eq_true rfl, Bool.true_and, decide_eq_true_eq]
  rw [← h3]
  congr 2 <;> omega
theorem pairs_zero : ∀ (d p j : Nat), pairs a b d p j 0 = []
  | 0, _, _ => rfl
  | d + 1, _, _ => by simp [pairs]
theorem pairs_in : ∀ (d p j n : Nat), p + d = a.length → ∀ z ∈ pairs a b d p j n, p ≤ z.1 ∧ z.1 < a.length ∧ j ≤ z.2 ∧ z.2 < b.length ∧ a[z.1]? = b[z.2]?
  | 0, _, _, _, _, z, hz => by cases hz
  | d + 1, p, j, n, hp, z, hz => by
    simp only [pairs] at hz
    split at hz
    · cases hz
    · cases hf : firstQ a b p (n - 1) j (b.length - j) with
      | some k =>
        rw [hf] at hz
        have h3 := firstQ_some a b _ _ _ _ _ hf
        rcases List.mem_cons.1 hz with rfl | hz
        · have h4 := h3.2.2
          unfold hit at h4
          rw [Bool.and_eq_true, decide_eq_true_eq] at h4
          exact ⟨Nat.le_refl _, by simp only; omega, h3.1, by simp only; omega, h4.1⟩
        · have := pairs_in d (p + 1) (k + 1) (n - 1) (by omega) z hz
          exact ⟨by omega, this.2.1, by omega, this.2.2.2⟩
      | none =>
        rw [hf] at hz
        have := pairs_in d (p + 1) j n (by omega) z hz
        exact ⟨by omega, this.2⟩
theorem pairs_len : ∀ (d p j n : Nat), (pairs a b d p j n).length ≤ d
  | 0, _, _, _ => Nat.le_refl _
  | d + 1, p, j, n => by
    simp only [pairs]
    split
    · exact Nat.zero_le _
    · cases hf : firstQ a b p (n - 1) j (b.length - j) with
      | some k =>
        simp only [List.length_cons]
        exact Nat.succ_le_succ (pairs_len d (p + 1) (k + 1) (n - 1))
      | none => exact Nat.le_succ_of_le (pairs_len d (p + 1) j n)
end
theorem tbl_at (a b : List ByteArray) (i j : Nat) (hi : i ≤ a.length) (hj : j ≤ b.length) : rd (rd_L2 (tbl a b) (i : Int)) (j : Int) = ((Lc a b i j : Nat) : Int) := by
  rw [rdLL _ i (by rw [tbl_length]; omega), tbl_get a b i hi, rd_lt _ j (by rw [tblRow_length]; omega), tblRow_get a b i j hj]
  rfl
theorem tbl_len (a b : List ByteArray) : ((tbl a b).length : Int) = (a.length : Int) + 1 := by rw [tbl_length]; omega
theorem tbl_row_len (a b : List ByteArray) (i : Nat) (hi : i ≤ a.length) : ((rd_L2 (tbl a b) (i : Int)).length : Int) = (b.length : Int) + 1 := by
  rw [rdLL _ i (by rw [tbl_length]; omega), tbl_get a b i hi, tblRow_length]
  omega
theorem line_eq (a b : List ByteArray) (p k : Nat) (hp : p < a.length) (hk : k < b.length) : ((rdOf ByteArray.empty a (p : Int)).toList = (rdOf ByteArray.empty b (k : Int)).toList) ↔ a[p]? = b[k]? := by
  rw [rdOf_lt _ a p hp, rdOf_lt _ b k hk, ba_iff, List.getElem?_eq_getElem hp, List.getElem?_eq_getElem hk, Option.some.injEq]
/-! ### The program's -/
section
variable (a b : List ByteArray) (ha : a.length ≤ 1048576) (hb : b.length ≤ 1048576)
include ha hb
theorem commonLines_l1 (p n : Nat) (hp : p < a.length) (hn : n ≤ 1048576) (acc : List (List Int)) (hacc : acc.length ≤ p) (R : List (List Int)) (j : Nat)
    (hsome : ∀ k, j ≤ k → k < b.length → Ev (fun f => impl_commonLines.l0 f a b (tbl a b) (acc ++ [[(p : Int), (k : Int)]]) ((k + 1 : Nat) : Int) (n : Int) (a.length : Int) ((p + 1 : Nat) : Int)) R → True) : ∀ e k, k + e = b.length → j ≤ k →
    Ev (fun f => match firstQ a b p n k e with
      | some r => impl_commonLines.l0 f a b (tbl a b) (acc ++ [[(p : Int), (r : Int)]]) ((r + 1 : Nat) : Int) (n : Int) (a.length : Int) ((p + 1 : Nat) : Int)
      | none => impl_commonLines.l0 f a b (tbl a b) acc (j : Int) ((n + 1 : Nat) : Int) (a.length : Int) ((p + 1 : Nat) : Int)) R →
    Ev (fun f => impl_commonLines.l1 f a b (tbl a b) acc (j : Int) ((n + 1 : Nat) : Int) (p : Int) (k : Int) (a.length : Int) (p : Int)) R := by
  intro e
  induction e with
  | zero =>
    intro k hk hj hR
    refine Ev.step (fun f => impl_commonLines.l1.eq_2 ..) (ev_neg (by omega) (Ev.step (fun f => impl_commonLines.j2.eq_2 ..) (ev_neg (by simp) ?_)))
    rw [wrap_succ p (by omega)]
    exact hR
  | succ e ih =>
    intro k hk hj hR
    have hkb : k < b.length := by omega
    have hd : decide (((n + 1 : Nat) : Int) > 0) = true := decide_eq_true (by omega)
    refine Ev.step (fun f => impl_commonLines.l1.eq_2 ..) (ev_pos (by omega) ?_)
    rw [hd]
    refine Ev.step (fun f => impl_commonLines.j2.eq_2 ..) (ev_pos rfl (ev_pos (by omega) (ev_pos (by omega) (ev_pos (by omega) (ev_pos (by omega) ?_)))))
    rw [wrap_succ p (by omega), wrap_succ k (by omega), tbl_len, tbl_row_len a b (p + 1) (by omega), tbl_at a b (p + 1) (k + 1) (by omega) (by omega)]
    have e1 : wrap64 (((n + 1 : Nat) : Int) - 1) = (n : Int) := by rw [wrap64_id (by omega) (by omega)]; omega
    rw [e1]
    have miss : hit a b p n k = false → Ev (fun f => impl_commonLines.l1 f a b (tbl a b) acc (j : Int) ((n + 1 : Nat) : Int) (p : Int) ((k + 1 : Nat) : Int) (a.length : Int) (p : Int)) R := by
      intro hm
      refine ih (k + 1) (by omega) (by omega) ?_
      refine Ev.congr (fun f => ?_) hR
      simp only [firstQ]
      rw [if_neg (by rw [hm]; simp)]
    by_cases c : a[p]? = b[k]?
    · refine ev_pos ((line_eq a b p k hp hkb).2 c) (ev_pos (by omega) (ev_pos (by omega) (ev_pos (by omega) (ev_pos (by omega) ?_))))
      by_cases c2 : Lc a b (p + 1) (k + 1) = n
      · refine ev_pos (by rw [c2]) (ev_pos (by omega) ?_)
        refine Ev.congr (fun f => ?_) hR
        simp only [firstQ]
        rw [if_pos (by unfold hit; rw [decide_eq_true c, decide_eq_true c2]; rfl)]
      · exact ev_neg (by omega) (miss (by unfold hit; rw [decide_eq_false c2, Bool.and_false]))
    · exact ev_neg (fun e => c ((line_eq a b p k hp hkb).1 e)) (miss (by unfold hit; rw [decide_eq_false c, Bool.false_and]))
theorem commonLines_l0 : ∀ (d p j n : Nat) (acc : List (List Int)), p + d = a.length → j ≤ b.length → n ≤ 1048576 → acc.length ≤ p →
    Ev (fun f => impl_commonLines.l0 f a b (tbl a b) acc (j : Int) (n : Int) (a.length : Int) (p : Int)) (acc ++ (pairs a b d p j n).map toLi) := by
  intro d
  induction d with
  | zero =>
    intro p j n acc hp hj hn hacc
    refine Ev.step (fun f => impl_commonLines.l0.eq_2 ..) (ev_neg (by omega) (ev_some ?_))
    simp [pairs]
  | succ d ih =>
    intro p j n acc hp hj hn hacc
    refine Ev.step (fun f => impl_commonLines.l0.eq_2 ..) (ev_pos (by omega) ?_)
    cases n with
    | zero =>
      have nx := ih (p + 1) j 0 acc (by omega) hj (by omega) (by omega)
      rw [pairs_zero] at nx ⊢
      rw [← wrap_succ p (by omega)] at nx
      by_cases c : (j : Int) < (b.length : Int)
      · refine Ev.step (fun f => impl_commonLines.l1.eq_2 ..) (ev_pos c ?_)
        rw [decide_eq_false (by omega)]
        exact Ev.step (fun f => impl_commonLines.j2.eq_2 ..) (ev_neg (by simp) nx)
      · exact Ev.step (fun f => impl_commonLines.l1.eq_2 ..) (ev_neg c (Ev.step (fun f => impl_commonLines.j2.eq_2 ..) (ev_neg (by simp) nx)))
    | succ n =>
      refine commonLines_l1 a b ha hb p n (by omega) (by omega) acc hacc _ j (fun _ _ _ _ => trivial) (b.length - j) j (by omega) (Nat.le_refl _) ?_
      simp only [pairs]
      rw [if_neg (by omega), Nat.add_sub_cancel]
      cases hf : firstQ a b p n j (b.length - j) with
      | some k =>
        have h3 := firstQ_some a b _ _ _ _ _ hf
        simp only
        refine ev_to (ih (p + 1) (k + 1) n _ (by omega) (by omega) (by omega) (by rw [List.length_append, List.length_singleton]; omega)) ?_
        rw [List.append_assoc]
        rfl
      | none =>
        simp only
        exact ih (p + 1) j (n + 1) acc (by omega) hj hn (by omega)
theorem commonLines_ev : Ev (fun f => impl_commonLines.f f a b) ((pairs a b a.length 0 0 (Lc a b 0 0)).map toLi) := by
  simp only [impl_commonLines.f]
  have h1 := (lcs_le (a.drop 0) (b.drop 0)).1
  rw [List.length_drop] at h1
  refine ev_bind (common_ev a b ha hb) (ev_pos (tbl_len0 a b) (ev_pos (tbl_row0_len a b) ?_))
  have e := tbl_at a b 0 0 (Nat.zero_le _) (Nat.zero_le _)
  rw [show ((0 : Nat) : Int) = 0 from rfl] at e
  rw [e]
  exact ev_to (commonLines_l0 a b ha hb a.length 0 0 (Lc a b 0 0) [] (by omega) (Nat.zero_le _) (by unfold Lc; omega) (Nat.zero_le _)) (by simp)
/-! ### The reference's -/
theorem l3_l2p (i j n : Nat) (hi : i ≤ a.length) (hj : j ≤ b.length) (hL : Lc a b i j = n + 1) (hn : n ≤ 1048576) (p : Nat) (hp : p < a.length) (acc : List IQ) (x y : Nat) (R : List IQ) : ∀ e, j + e ≤ b.length → ∀ (x' y' : Nat),
    (x', y') = (match firstQ a b p n (j + e) (b.length - (j + e)) with | some k => (p, k) | none => (x, y)) →
    Ev (fun f => match firstQ a b p n j (b.length - j) with
      | some k => spec_l3Pairs.l1 f a b (tbl a b) acc (i : Int) (j : Int) (p : Int) (k : Int) ((p : Int) - 1)
      | none => spec_l3Pairs.l1 f a b (tbl a b) acc (i : Int) (j : Int) (x : Int) (y : Int) ((p : Int) - 1)) R →
    Ev (fun f => spec_l3Pairs.l2 f a b (tbl a b) acc (i : Int) (j : Int) (x' : Int) (y' : Int) (p : Int) (((j + e : Nat) : Int) - 1)) R := by
  intro e
  induction e with
  | zero =>
    intro he x' y' hxy hR
    refine Ev.step (fun f => spec_l3Pairs.l2.eq_2 ..) (ev_neg (by omega) ?_)
    rw [wrap64_id (x := (p : Int) - 1) (by omega) (by omega)]
    refine Ev.congr (fun f => ?_) hR
    rw [Nat.add_zero] at hxy
    cases hf : firstQ a b p n j (b.length - j) with
    | some k =>
      rw [hf] at hxy
      simp only [Prod.mk.injEq] at hxy
      obtain ⟨rfl, rfl⟩ := hxy
      rfl
    | none =>
      rw [hf] at hxy
      simp only [Prod.mk.injEq] at hxy
      obtain ⟨rfl, rfl⟩ := hxy
      rfl
  | succ e ih =>
    intro he x' y' hxy hR
    have hq : j + e < b.length := by omega
    have ex : ((j + (e + 1) : Nat) : Int) - 1 = ((j + e : Nat) : Int) := by omega
    rw [ex]
    refine Ev.step (fun f => spec_l3Pairs.l2.eq_2 ..) (ev_pos (by omega) (ev_pos (by omega) (ev_pos (by omega) (ev_pos (by omega) (ev_pos (by omega) ?_)))))
    rw [wrap_succ p (by omega), wrap_succ (j + e) (by omega), wrap64_id (x := ((j + e : Nat) : Int) - 1) (by omega) (by omega), tbl_len, tbl_row_len a b (p + 1) (by omega), tbl_row_len a b i hi, tbl_at a b (p + 1) (j + e + 1) (by omega) (by omega), tbl_at a b i j hi hj, hL]
    have hle := (lcs_le (a.drop (p + 1)) (b.drop (j + e + 1))).1
    rw [List.length_drop] at hle
    have hLe : Lc a b (p + 1) (j + e + 1) ≤ 1048576 := by unfold Lc; omega
    rw [wrap_succ (Lc a b (p + 1) (j + e + 1)) (by omega)]
    have step : ∀ (x2 y2 : Nat), (x2, y2) = (if hit a b p n (j + e) = true then (p, j + e) else (x', y')) → Ev (fun f => spec_l3Pairs.l2 f a b (tbl a b) acc (i : Int) (j : Int) (x2 : Int) (y2 : Int) (p : Int) (((j + e : Nat) : Int) - 1)) R := by
      intro x2 y2 h2
      refine ih (by omega) x2 y2 ?_ hR
      have hs : b.length - (j + e) = (b.length - (j + (e + 1))) + 1 := by omega
      rw [hs]
      simp only [firstQ]
      by_cases c : hit a b p n (j + e) = true
      · rw [if_pos c] at h2 ⊢
        exact h2
      · rw [if_neg c] at h2 ⊢
        rw [show j + e + 1 = j + (e + 1) from by omega, ← hxy]
        exact h2
    by_cases c : a[p]? = b[j + e]?
    · refine ev_pos ((line_eq a b p (j + e) hp hq).2 c) (ev_pos (by omega) (ev_pos (by omega) (ev_pos (by omega) (ev_pos (by omega) (ev_pos (by omega) (ev_pos (by omega) (ev_pos (by omega) (ev_pos (by omega) ?_))))))))
      by_cases c2 : Lc a b (p + 1) (j + e + 1) = n
      · exact ev_pos (by rw [c2]) (step p (j + e) (by rw [if_pos (by unfold hit; rw [decide_eq_true c, decide_eq_true c2]; rfl)]))
      · exact ev_neg (by omega) (step x' y' (by rw [if_neg (by unfold hit; rw [decide_eq_false c2, Bool.and_false]; simp)]))
    · exact ev_neg (fun q_ => c ((line_eq a b p (j + e) hp hq).1 q_)) (step x' y' (by rw [if_neg (by unfold hit; rw [decide_eq_false c, Bool.false_and]; simp)]))
theorem l3_l1p (i j n : Nat) (hi : i ≤ a.length) (hj : j ≤ b.length) (hL : Lc a b i j = n + 1) (hn : n ≤ 1048576) (acc : List IQ) (hacc : acc.length ≤ 1048576) (R : List IQ)
    (hR : Ev (fun f => spec_l3Pairs.l0 f a b (tbl a b) (acc ++ [toIQ (best a b n j i (a.length - i))]) (((best a b n j i (a.length - i)).1 + 1 : Nat) : Int) (((best a b n j i (a.length - i)).2 + 1 : Nat) : Int)) R) (hz : (best a b n j i (a.length - i)).1 < a.length ∧ (best a b n j i (a.length - i)).2 < b.length) : ∀ d, i + d ≤ a.length →
    Ev (fun f => spec_l3Pairs.l1 f a b (tbl a b) acc (i : Int) (j : Int) ((best a b n j (i + d) (a.length - (i + d))).1 : Int) ((best a b n j (i + d) (a.length - (i + d))).2 : Int) (((i + d : Nat) : Int) - 1)) R := by
  intro d
  induction d with
  | zero =>
    intro hd
    refine Ev.step (fun f => spec_l3Pairs.l1.eq_2 ..) (ev_neg (by omega) (ev_pos (by omega) ?_))
    rw [Nat.add_zero, wrap_succ _ (by omega), wrap_succ _ (by omega)]
    exact hR
  | succ d ih =>
    intro hd
    have ex : ((i + (d + 1) : Nat) : Int) - 1 = ((i + d : Nat) : Int) := by omega
    rw [ex]
    refine Ev.step (fun f => spec_l3Pairs.l1.eq_2 ..) (ev_pos (by omega) ?_)
    rw [wrap64_id (x := (b.length : Int) - 1) (by omega) (by omega)]
    have hl2 := l3_l2p a b ha hb i j n hi hj hL hn (i + d) (by omega) acc (best a b n j (i + (d + 1)) (a.length - (i + (d + 1)))).1 (best a b n j (i + (d + 1)) (a.length - (i + (d + 1)))).2 R (b.length - j) (by omega) (best a b n j (i + (d + 1)) (a.length - (i + (d + 1)))).1 (best a b n j (i + (d + 1)) (a.length - (i + (d + 1)))).2 (by
      rw [show b.length - (j + (b.length - j)) = 0 from by omega]
      rfl)
    rw [show j + (b.length - j) = b.length from by omega] at hl2
    refine hl2 ?_
    have nx := ih (by omega)
    have hs : a.length - (i + d) = (a.length - (i + (d + 1))) + 1 := by omega
    rw [hs] at nx
    simp only [best] at nx
    refine Ev.congr (fun f => ?_) nx
    cases hf : firstQ a b (i + d) n j (b.length - j) with
    | some k => rfl
    | none => rfl
theorem l3Pairs_l0 : ∀ (n i j : Nat) (acc : List IQ), i ≤ a.length → j ≤ b.length → Lc a b i j = n → acc.length ≤ i →
    Ev (fun f => spec_l3Pairs.l0 f a b (tbl a b) acc (i : Int) (j : Int)) (acc ++ (pairs a b (a.length - i) i j n).map toIQ) := by
  intro n
  induction n with
  | zero =>
    intro i j acc hi hj hL hacc
    refine Ev.step (fun f => spec_l3Pairs.l0.eq_2 ..) (ev_pos (by omega) (ev_pos (by rw [tbl_len]; omega) (ev_pos (by omega) (ev_pos (by rw [tbl_row_len a b i hi]; omega) ?_))))
    rw [tbl_at a b i j hi hj, hL]
    refine ev_neg (by omega) (ev_some ?_)
    rw [pairs_zero]
    simp
  | succ n ih =>
    intro i j acc hi hj hL hacc
    have hle := (lcs_le (a.drop i) (b.drop j)).1
    rw [List.length_drop] at hle
    have hLn : n ≤ 1048576 := by unfold Lc at hL; omega
    obtain ⟨z1, z2, z3, z4, z5, z6⟩ := pairs_best a b (a.length - i) i j n (hit_from a b i j n hi hL) (by omega)
    refine Ev.step (fun f => spec_l3Pairs.l0.eq_2 ..) (ev_pos (by omega) (ev_pos (by rw [tbl_len]; omega) (ev_pos (by omega) (ev_pos (by rw [tbl_row_len a b i hi]; omega) ?_))))
    rw [tbl_at a b i j hi hj, hL, wrap64_id (x := (a.length : Int) - 1) (by omega) (by omega)]
    refine ev_pos (by omega) ?_
    have hl1 := l3_l1p a b ha hb i j n hi hj hL hLn acc (by omega) (acc ++ (pairs a b (a.length - i) i j (n + 1)).map toIQ) ?_ ⟨z2, z4⟩ (a.length - i) (by omega)
    · rw [show i + (a.length - i) = a.length from by omega, Nat.sub_self] at hl1
      exact hl1
    · rw [z6, List.map_cons]
      have hh : Lc a b ((best a b n j i (a.length - i)).1 + 1) ((best a b n j i (a.length - i)).2 + 1) = n := by
        have h5 := z5
        unfold hit at h5
        rw [Bool.and_eq_true, decide_eq_true_eq, decide_eq_true_eq] at h5
        exact h5.2
      refine ev_to (ih _ _ _ (by omega) (by omega) hh (by rw [List.length_append, List.length_singleton]; omega)) ?_
      rw [List.append_assoc]
      rfl
theorem l3Pairs_ev : Ev (fun f => spec_l3Pairs.f f a b) ((pairs a b a.length 0 0 (Lc a b 0 0)).map toIQ) := by
  simp only [spec_l3Pairs.f]
  exact ev_bind (l3Table_ev a b ha hb) (ev_to (l3Pairs_l0 a b ha hb (Lc a b 0 0) 0 0 [] (Nat.zero_le _) (Nat.zero_le _) rfl (Nat.zero_le _)) (by simp))
end
def pairsV (a b : List ByteArray) : List (Nat × Nat) := pairs a b a.length 0 0 (Lc a b 0 0)
def linesR (a b : List ByteArray) : List (List Int) × Bool := if good a = true ∧ good b = true then ((pairsV a b).map toLi, true) else ([], false)
theorem impl_CommonLines_ev (a b : List ByteArray) (fa : FitS a) (fb : FitS b) : Ev (fun f => impl_CommonLines.f f a b) (linesR a b) := by
  simp only [impl_CommonLines.f]
  unfold linesR
  refine ev_bind (goodLines_ev a fa) (ev_ite (fun c => ev_bind (goodLines_ev b fb) (ev_ite (fun c2 => ?_) (fun c2 => ev_some ?_))) (fun c => ev_some ?_))
  · rw [if_pos ⟨c, c2⟩]
    have h1 := good_len c
    have h2 := good_len c2
    exact ev_bind (commonLines_ev a b (by omega) (by omega)) (ev_some rfl)
  · rw [if_neg (fun e => c2 e.2)]
  · rw [if_neg (fun e => c e.1)]
theorem rdIQ (ps : List (Nat × Nat)) (i : Nat) (h : i < ps.length) : rd_T49 (ps.map toIQ) (i : Int) = toIQ ps[i] := by
  rw [show rd_T49 (ps.map toIQ) (i : Int) = (ps.map toIQ)[i]'(by rw [List.length_map]; exact h) from getD_lt _ _ i (by rw [List.length_map]; exact h), List.getElem_map]
theorem specLines_l0 (ps : List (Nat × Nat)) (hp : ps.length ≤ 1048576) : ∀ d i (acc : List (List Int)), i + d = ps.length → acc.length ≤ i →
    Ev (fun f => spec_CommonLines.l0 f acc (ps.map toIQ) (ps.length : Int) (i : Int)) (acc ++ (ps.drop i).map toLi, true) := by
  intro d
  induction d with
  | zero =>
    intro i acc hi ha
    refine Ev.step (fun f => spec_CommonLines.l0.eq_2 ..) (ev_neg (by omega) (ev_some ?_))
    rw [List.drop_of_length_le (by omega)]
    simp
  | succ d ih =>
    intro i acc hi ha
    have hlt : i < ps.length := by omega
    refine Ev.step (fun f => spec_CommonLines.l0.eq_2 ..) (ev_pos (by omega) (ev_pos (by omega) (ev_pos (by rw [List.length_map]; omega) (ev_pos (by omega) ?_))))
    rw [rdIQ ps i hlt, wrap_succ i (by omega)]
    refine ev_to (ih (i + 1) _ (by omega) (by rw [List.length_append, List.length_singleton]; omega)) ?_
    rw [List.drop_eq_getElem_cons hlt, List.map_cons, List.append_assoc]
    rfl
theorem spec_CommonLines_ev (a b : List ByteArray) (fa : FitS a) (fb : FitS b) : Ev (fun f => spec_CommonLines.f f a b) (linesR a b) := by
  simp only [spec_CommonLines.f]
  unfold linesR
  have bad : Ev (fun f => spec_CommonLines.j0 f a b true) (([] : List (List Int)), false) := Ev.step (fun f => spec_CommonLines.j0.eq_2 ..) (ev_pos rfl (ev_some rfl))
  refine ev_bind (l1Good_ev a fa) (ev_ite (fun c => ev_bind (l1Good_ev b fb) ?_) (fun c => ?_))
  · cases c2 : good b with
    | true =>
      rw [if_pos ⟨c, rfl⟩]
      have h1 := good_len c
      have h2 := good_len c2
      have hl := pairs_len a b a.length 0 0 (Lc a b 0 0)
      refine Ev.step (fun f => spec_CommonLines.j0.eq_2 ..) (ev_neg (by simp) (ev_bind (l3Pairs_ev a b (by omega) (by omega)) ?_))
      rw [List.length_map]
      exact ev_to (specLines_l0 (pairs a b a.length 0 0 (Lc a b 0 0)) (by omega) (pairs a b a.length 0 0 (Lc a b 0 0)).length 0 [] (by omega) (Nat.zero_le _)) (by simp [pairsV])
    | false =>
      rw [if_neg (fun e => by cases e.2)]
      exact bad
  · rw [if_neg (fun e => c e.1)]
    exact bad
theorem linesR_small (a b : List ByteArray) : (linesR a b).1.length ≤ 40 ∧ ∀ x ∈ (linesR a b).1, x.length = 2 := by
  unfold linesR
  split
  · rename_i c
    have h1 := good_len c.1
    have hl := pairs_len a b a.length 0 0 (Lc a b 0 0)
    refine ⟨by simp only [List.length_map, pairsV]; omega, fun x hx => ?_⟩
    obtain ⟨z, _, rfl⟩ := List.mem_map.1 hx
    rfl
  · exact ⟨Nat.zero_le _, fun x hx => by cases hx⟩
end Go.Proofs.Ytlhpkapbaijnhaa.Pl

/- Plain Lean: the pairs are few. No condition. -/
namespace Go.Proofs.Ytlhpkapbaijnhaa.Pl
open Go.RowKit Go.Proofs.YtlhpkapbaijnhaaW.PrintWords Go.Proofs.YtlhpkapbaijnhaaW.PrintLast Go.Proofs.Ytlhpkapbaijnhaa.My
set_option linter.unusedVariables false
theorem linesR_end (a b : List ByteArray) (fa : FitS a) (fb : FitS b) : endJ (linesR a b).1 1 ≤ 1099511627776 ∧ (linesR a b).1.length ≤ 1099511627776 := by
  have hs := linesR_small a b
  exact ⟨Nat.le_trans (endJ_le _ 2 1 (fun x hx => Nat.le_of_eq (hs.2 x hx))) (Nat.le_trans (Nat.add_le_add_left (Nat.mul_le_mul_right _ hs.1) 1) (by decide)), Nat.le_trans hs.1 (by decide)⟩
theorem linesR_fit (a b : List ByteArray) (fa : FitS a) (fb : FitS b) : (linesR a b).1.length ≤ 1099511627776 ∧ ∀ x ∈ (linesR a b).1, x.length ≤ 1099511627776 := by
  have hs := linesR_small a b
  exact ⟨Nat.le_trans hs.1 (by decide), fun x hx => Nat.le_trans (Nat.le_of_eq (hs.2 x hx)) (by decide)⟩
end Go.Proofs.Ytlhpkapbaijnhaa.Pl

/- CommonLines's law: the walk and what its helpers come to, joined. No condition but the inputs' own. -/
namespace Go.Proofs.Ytlhpkapbaijnhaa.Pure
open Go.RowKit Go.Proofs.Ytlhpkapbaijnhaa.My Go.Proofs.Ytlhpkapbaijnhaa.Pl Go.Proofs.YtlhpkapbaijnhaaW.PrintWords Go.Proofs.YtlhpkapbaijnhaaW.PrintLast
set_option linter.unusedVariables false
theorem FnExactCommonLines (l0 : List ByteArray) (l1 : List ByteArray) (q0 : (WL Wstr) l0) (q1 : (WL Wstr) l1) (A0 : Option Addr) (c0 : Nat) (A1 : Option Addr) (c1 : Nat) (W : World) (hr0 : Kd.C Kd.string W A0 l0.length l0) (hc0 : l0.length ≤ c0) (hr1 : Kd.C Kd.string W A1 l1.length l1) (hc1 : l1.length ≤ c1) :
    Calls Try.prog 3 #[.slice A0 l0.length c0, .slice A1 l1.length c1] W fun e w' => e = .returned (.bool true) ∧ Below W.heap.size W w' := by
  have f0 := fitS_of_wl q0
  have f1 := fitS_of_wl q1
  obtain ⟨s0, hs0, hl0⟩ := szStringS_ev l0 f0 1048576 (by omega) (by omega)
  obtain ⟨ks0, es0⟩ := hs0
  by_cases h0 : s0 < 0
  · exact laws_FnExactCommonLines_early0 (ks0) A0 c0 l0 A1 c1 l1 W hr0 hc0 hr1 hc1 s0 (es0 _ (by omega)) h0
  have z0 : szS l0 ≤ 1048576 ∧ 0 ≤ s0 ∧ s0 ≤ 1048576 := by rcases hl0 with hl0 | hl0 <;> omega
  obtain ⟨s1, hs1, hl1⟩ := szStringS_ev l1 f1 s0 (by omega) (by omega)
  obtain ⟨ks1, es1⟩ := hs1
  by_cases h1 : s1 < 0
  · exact laws_FnExactCommonLines_early1 (ks0 + ks1) A0 c0 l0 A1 c1 l1 W hr0 hc0 hr1 hc1 s0 (es0 _ (by omega)) h0 s1 (es1 _ (by omega)) h1
  have z1 : szS l1 ≤ 1048576 ∧ 0 ≤ s1 ∧ s1 ≤ 1048576 := by rcases hl1 with hl1 | hl1 <;> omega
  obtain ⟨kt0, et0⟩ := toStringS_ev l0 (by have := z0.1; unfold szS at this; omega)
  have g0 := f0
  have len0 : l0.length ≤ 1048576 := by have := z0.1; unfold szS at this; omega
  obtain ⟨ke0, ee0⟩ := eqStringS_ev l0 l0 g0.1
  obtain ⟨kt1, et1⟩ := toStringS_ev l1 (by have := z1.1; unfold szS at this; omega)
  have g1 := f1
  have len1 : l1.length ≤ 1048576 := by have := z1.1; unfold szS at this; omega
  obtain ⟨ke1, ee1⟩ := eqStringS_ev l1 l1 g1.1
  obtain ⟨kp, ep⟩ := spec_CommonLines_ev l0 l1 g0 g1
  obtain ⟨ki, ei⟩ := impl_CommonLines_ev l0 l1 g0 g1
  have hve := linesR_end l0 l1 g0 g1
  have hvf := linesR_fit l0 l1 g0 g1
  generalize hq0 : (linesR l0 l1).1 = v at *
  generalize hq1 : (linesR l0 l1).2 = r0 at *
  have hp : linesR l0 l1 = (v, r0) := (Prod.ext hq0 hq1)
  rw [hp] at ep ei
  have hb_ : (1 : Nat) ≤ 1 := Nat.le_refl _
  have hb0 : (1 + l0.length) ≤ 1048577 := Nat.add_le_add hb_ len0
  obtain ⟨km0, em0⟩ := markStringS_ev l0 1 (Nat.le_trans len0 (by decide)) (Nat.le_trans hb_ (by decide))
  have hb1 : ((1 + l0.length) + l1.length) ≤ 2097153 := Nat.add_le_add hb0 len1
  obtain ⟨km1, em1⟩ := markStringS_ev l1 (1 + l0.length) (Nat.le_trans len1 (by decide)) (Nat.le_trans hb0 (by decide))
  obtain ⟨kh, eh⟩ := heldIntSS_ev v 1 hve.1 hve.2
  obtain ⟨kv, ev⟩ := eqIntSS_ev v v hvf.1 hvf.2
  obtain ⟨k, hk⟩ : ∃ k, ks0 + ks1 + kt0 + ke0 + kt1 + ke1 + kp + ki + km0 + km1 + kh + kv ≤ k := ⟨_, Nat.le_refl _⟩
  exact laws_FnExactCommonLines_true k A0 c0 l0 A1 c1 l1 W hr0 hc0 hr1 hc1 s0 (es0 k (by omega)) h0 s1 (es1 k (by omega)) h1 l0 (et0 k (by omega)) ((ee0 k (by omega)).trans (by simp)) l1 (et1 k (by omega)) ((ee1 k (by omega)).trans (by simp)) v r0 (ep k (by omega)) (ei k (by omega)) ((ev k (by omega)).trans (by simp)) (em0 k (by omega)) (em1 k (by omega)) hve.1 hve.2 (eh k (by omega))
end Go.Proofs.Ytlhpkapbaijnhaa.Pure

/- The Go function loop.example/g00825/laws.FnExactCommonLines returns true for every input, and each argument reads afterwards as it read before. No condition. -/
namespace Go.Proofs.Ytlhpkapbaijnhaa.fnExactCommonLines
open Go.ChangeShapes Go.WideShapes Go.ChangeAt Go.RowKit Go.Joins Go.Proofs.Ytlhpkapbaijnhaa.Opens Go.Proofs.Ytlhpkapbaijnhaa.My
open Go.ChangeMaps (open_string shut_string)
set_option linter.unusedVariables false
set_option linter.unusedSimpArgs false
theorem own : ownKnob Try.prog.godebug = none := by kernel_rfl
theorem laidOut : laidOutB Try.prog = true := by kernel_rfl
set_option maxRecDepth 100000 in
theorem lifted (os : Os) (started : os.Started) (H : Type) (enc : TypeId × Value → H) :
    ReturnsInHanded {} Try.checked os 3 .any (Rows.fnExactCommonLinesSpec.pre6 enc Try.prog Try.f3 Rows.fnExactCommonLinesRow.domain false) (Rows.fnExactCommonLinesSpec.post enc Try.prog Try.f3 false true false false) := by
  refine returnsInHanded_of_change_sized (C := Try.checked) own started (by kernel_rfl) Try.func3
    (ChangeSpec.witness6 (enc := enc) (C := Try.checked) false ⟨#[], #[.slice none 0 0, .slice none 0 0], []⟩ 8 (by kernel_rfl) (by kernel_rfl) (by kernel_rfl) (by kernel_rfl)) ?_
  intro W base args ds gs before hval0 hW hcnd hsz0 _
  have hval : ∀ (j : Nat) t v, Try.f3.params[j]? = some t → args[j]? = some v → Value.okWide Try.prog W .any base t v := hval0
  have hW' := hW
  obtain ⟨p, q, hA0, hV, rfl, hfz, hnd⟩ := hW
  have hA : DataW.TrodAll enc Try.prog W 0 (fun _ => true) true Try.f3.params.toList args.toList ds p := hA0
  rw [Try.params3] at hA hval
  obtain ⟨v0, vs0, d0, ds0, p0, q0, hargs, rfl, rfl, h0, r0⟩ := trodAll_cons hA
  obtain ⟨v1, vs1, d1, ds1, p1, q1, rfl, rfl, rfl, h1, r1⟩ := trodAll_cons r0
  obtain ⟨rfl, rfl, rfl⟩ := trodAll_nil r1
  obtain rfl : args = #[v0, v1] := by cases args; simp_all
  obtain ⟨rfl, rfl⟩ := trodVars_none hV
  obtain ⟨A0, n0, c0, rfl⟩ := okWide_slice Try.underlying22 (hval 0 22 v0 rfl rfl)
  have k0 := h0
  have lt0 : ∀ x ∈ p0, x.block < W.heap.size := by obtain ⟨m, hm⟩ := k0; exact DataW.trod_lt m _ _ _ hm
  obtain ⟨l0, rfl, hc0, hr0, q0_⟩ := Opens.row (opens_slice Try.underlying22 (by kernel_rfl) (opens_string Try.underlying9)) h0
  obtain ⟨A1, n1, c1, rfl⟩ := okWide_slice Try.underlying22 (hval 1 22 v1 rfl rfl)
  have k1 := h1
  have lt1 : ∀ x ∈ p1, x.block < W.heap.size := by obtain ⟨m, hm⟩ := k1; exact DataW.trod_lt m _ _ _ hm
  obtain ⟨l1, rfl, hc1, hr1, q1_⟩ := Opens.row (opens_slice Try.underlying22 (by kernel_rfl) (opens_string Try.underlying9)) h1
  clear hA0 hval0 hsz0
  refine (Pure.FnExactCommonLines l0 l1 q0_ q1_ _ _ _ _ W hr0 hc0 hr1 hc1).mono fun e W' hh => ?_
  obtain ⟨rfl, hd⟩ := hh
  have bel : Below W.heap.size W W' := hd
  exact ⟨_, rfl, _, _, _, [], _, [], hW', trodAll_mk1 (shut_bool Try.underlying4 _), (trodAll_cons_mk (Below.trod laidOut (by kernel_rfl) (of_decide_eq_true (by kernel_rfl)) k0 bel lt0) (trodAll_cons_mk (Below.trod laidOut (by kernel_rfl) (of_decide_eq_true (by kernel_rfl)) k1 bel lt1) trodAll_mk0)), rfl, bel.frame _, fun h => by cases h⟩
theorem over : Rows.fnExactCommonLinesRow.holds Try.pinned (OpenSpec.ofChange Rows.fnExactCommonLinesSpec) :=
  OpenClaim.holds_of_wide 3 Try.f3 rfl rfl rfl rfl rfl rfl rfl ⟨rfl, rfl, rfl, rfl, rfl⟩ rfl rfl rfl rfl rfl (by kernel_rfl) Try.func3 (by kernel_rfl)
    (of_decide_eq_true (by kernel_rfl)) (by unfold Func.isWrapper; first | (rw [if_pos (by decide +kernel)]; kernel_rfl) | (rw [if_neg (by decide +kernel)]; exact ⟨rfl, rfl⟩))
    (fun os started H enc _ => lifted os started H enc)
theorem proved : Rows.FnExactCommonLinesSaid := over
#print axioms proved
end Go.Proofs.Ytlhpkapbaijnhaa.fnExactCommonLines
namespace Go.Proofs.Ytlhpkapbaijnhaa
/-- The row, under a short name, for the claim. -/
theorem fnExactCommonLines_holds : Rows.FnExactCommonLinesSaid := fnExactCommonLines.proved
end Go.Proofs.Ytlhpkapbaijnhaa
